/- Contracts and lemmas for the proofs of this seat: Dice. -/
import Derived.Test.YtgkfnggnhphboaaLawKit
import Derived.Test.YtgkfnggnhphboaaDraw
import Derived.Test.YtgkfnggnhphboaaBase
import Derived.Test.YtgkfnggnhphboaaNum
import Derived.Test.YtgkfnggnhphboaaList
import Derived.Lib.Hide
import Derived.BigQuiet
import Derived.Deep.QuietTactic
import Derived.Deep.OwnRows
import Derived.Deep.LoopGhost
import Derived.OneCell
import Derived.Lib.SmallJoins
import Derived.StillTailTactics
import Derived.RangeFuncBox
import Derived.Lib.VarintBits
namespace Go.Proofs.Ytgkfnggnhphboaa
open Go.RowKit Go.Deep
set_option maxHeartbeats 2000000
set_option linter.unusedVariables false
set_option linter.unusedSimpArgs false

theorem Lw.only {w W W' : World} {ks : List (Nat × List Int)} {d : Nat} (h : Lw w W ks) (hO : Only d W W') (hd : w.heap.size ≤ d) (hne : ∀ q ∈ ks, q.1 ≠ d) : Lw w W' ks :=
  ⟨hO.below h.own.below hd, fun q hq => by
    have hB := h.blk q hq
    have hk := hO.box (hne q hq) hB.lt
    exact ⟨Nat.lt_of_lt_of_le hB.lt hO.size, fun i x hi => (hk.1 i).trans (hB.cell i x hi), fun i hi => (hk.2 i).trans (hB.free i hi)⟩⟩

structure Dice (b : Nat) (p : Option Addr) (n cap : Nat) (w : World) : Prop where
  blk : ∃ (k : Nat) (h : Int), w.heap[b]? = some (.cells #[.slice p n cap, .int .i64 k, .int .u64 h] 102 (0, 0)) ∧ k ≤ n
  bytes : Bytes w p n
  ne : ∀ pb off, p = some ⟨pb, off, none⟩ → 0 < n → pb ≠ b
theorem Dice.lt {b : Nat} {p : Option Addr} {n cap : Nat} {w : World} (h : Dice b p n cap w) : b < w.heap.size := by
  obtain ⟨⟨k, sd, hb, _⟩, _, _⟩ := h
  exact (Array.getElem?_eq_some_iff.1 hb).1
theorem Dice.keep {b : Nat} {p : Option Addr} {n cap : Nat} {w w' : World} (h : Dice b p n cap w) (hb : Below w.heap.size w w') : Dice b p n cap w' := by
  have hl := h.lt
  obtain ⟨⟨k, sd, h1, h2⟩, h3, h4⟩ := h
  exact ⟨⟨k, sd, (hb.block b hl).trans h1, h2⟩, h3.keep hb, h4⟩
def Rolled (p : Option Addr) (n cap : Nat) (w : World) (e : Ending) (w' : World) : Prop :=
  e = .returned (.pointer (some ⟨w.heap.size, 0, none⟩)) ∧ Dice w.heap.size p n cap w' ∧ Below w.heap.size w w'
theorem dice_of {w w' : World} {p : Option Addr} {n cap : Nat} {h : Int} (hb : w'.heap[w.heap.size]? = some (.cells #[.slice p n cap, .int .i64 0, .int .u64 h] 102 (0, 0))) (hin : Bytes w p n) (ho : Below w.heap.size w w') : Dice w.heap.size p n cap w' := by
  refine ⟨⟨0, h, hb, Nat.zero_le _⟩, hin.keep ho, fun pb off e hn => ?_⟩
  obtain ⟨pb', off', e', hc⟩ := hin.2 hn
  rw [e] at e'
  simp only [Option.some.injEq, Addr.mk.injEq, and_true] at e'
  obtain ⟨rfl, rfl⟩ := e'
  obtain ⟨z, hz, hcz⟩ := hc 0 hn
  have := World.block_lt_of_cell? w _ hcz
  simp at this
  omega

set_option maxRecDepth 100000 in
theorem l_roll (p : Option Addr) (n cap : Nat) (sd : Int) (w : World) (hin : Bytes w p n) :
    Calls Try.prog 27 #[.slice p n cap, .int .u64 sd] w (Rolled p n cap w) := by
  have hn := hin.1
  unfold maxLen at hn
  go_enter Try.func27, Try.ntmps27
  go_wp2
  go_loopw [6] (fun i wr => ∃ k : Nat, k ≤ n ∧ i = .int .i64 k ∧ Own w wr ∧ ∃ h : Int, wr.heap[w.heap.size]? = some (.cells #[.slice p n cap, .int .i64 0, .int .u64 h] 102 (0, 0))) (fun i _ => n - (intOf i).toNat)
  case atStart => exact ⟨0, Nat.zero_le _, rfl, (Own.start w).alloc _, _, block_new _ _⟩
  case round =>
    obtain ⟨k, hk, rfl, hown, h, hb⟩ := hrel
    have HO := Lib.hid hown
    have HB := Lib.hid hb
    have HIN := Lib.hid hin
    by_cases hlt : k < n
    · obtain ⟨b, off, rfl, hc⟩ := (hin.keep hown.below).2 (by omega)
      obtain ⟨z, hz, hcz⟩ := hc k hlt
      have c2 : wr.cell? ⟨w.heap.size, 2, none⟩ = some (.int .u64 h) := by simp [World.cell?, hb]
      have f2 : wr.frozen? ⟨w.heap.size, 2, none⟩ = false := by simp [World.frozen?, hb]
      have hlen : (k : Int) < n := by omega
      have hzz : (z : Int) < 256 := by omega
      have E2 := fun v : Int => Go.Joins.block_setCell hb (i := 2) (.int .u64 v)
      have HE := Lib.hid E2
      clear hc hin hown hb E2
      go_wp2
      go_still_tail 15, (by kernel_rfl)
      change wpList _ _ _ _ _ wr.drew
      go_wp2
      go_roundw
      case rel => exact ⟨k + 1, by omega, by go_num, (HO.out.setCell (p := ⟨w.heap.size, 2, none⟩) (Nat.le_refl _) _).drewN 1, _, HE.out _⟩
      case measure => simp [intOf]; omega
    · obtain rfl : k = n := by omega
      clear hin hown hb
      go_wp2
      go_ret
      exact ⟨rfl, dice_of HB.out HIN.out HO.out.below, HO.out.below⟩

theorem below_bits (y : Int) : 0 ≤ wrap64 (bits BinOp.and IntKind.u64 (IntKind.u64.wrap y / 8589934592) 16777215) ∧ wrap64 (bits BinOp.and IntKind.u64 (IntKind.u64.wrap y / 8589934592) 16777215) < 16777216 := by
  have h1 : 0 ≤ IntKind.u64.wrap y ∧ IntKind.u64.wrap y < 18446744073709551616 := by
    rw [IntKind.wrap_u64]; omega
  generalize IntKind.u64.wrap y = z at *
  have e := bits_mask .u64 64 (by decide) wraps_u64 24 (by decide) (z / 8589934592) (by omega) (by omega)
  have e2 : bits BinOp.and IntKind.u64 (z / 8589934592) 16777215 = z / 8589934592 % 16777216 := e
  rw [e2]
  unfold wrap64
  omega
theorem dice_set {b : Nat} {p : Option Addr} {n cap k k' : Nat} {h h' : Int} {w u : World} (hb : w.heap[b]? = some (.cells #[.slice p n cap, .int .i64 k, .int .u64 h] 102 (0, 0))) (hk : k' ≤ n) (hin : Bytes w p n) (hne : ∀ pb off, p = some ⟨pb, off, none⟩ → 0 < n → pb ≠ b)
    (u1 : u.heap[b]? = some (.cells #[.slice p n cap, .int .i64 k', .int .u64 h'] 102 (0, 0))) (ho : Only b w u) : Dice b p n cap u := by
  refine ⟨⟨k', h', u1, hk⟩, ⟨hin.1, fun hn => ?_⟩, hne⟩
  obtain ⟨pb, off, e, hc⟩ := hin.2 hn
  refine ⟨pb, off, e, fun i hi => ?_⟩
  obtain ⟨z, hz, hcz⟩ := hc i hi
  exact ⟨z, hz, ho.cell (hne pb off e hn) hcz⟩
theorem dice_set1 {b : Nat} {p : Option Addr} {n cap k : Nat} {h v : Int} {w u : World} (hb : w.heap[b]? = some (.cells #[.slice p n cap, .int .i64 k, .int .u64 h] 102 (0, 0))) (hk : k ≤ n) (hin : Bytes w p n) (hne : ∀ pb off, p = some ⟨pb, off, none⟩ → 0 < n → pb ≠ b)
    (u1 : u.heap = (w.setCell ⟨b, 2, none⟩ (.int .u64 v)).heap) (u2 : u.os = w.os) (u3 : u.tape = w.tape) (u4 : u.output = w.output) : Dice b p n cap u ∧ Only b w u := by
  have e1 := Go.Joins.block_setCell hb (i := 2) (.int .u64 v)
  have ho : Only b w u := ((Only.refl b w).setCell (.inl rfl) _).like u1 u2 u3 u4
  exact ⟨dice_set hb hk hin hne (by rw [u1]; simpa using e1) ho, ho⟩
theorem dice_set2 {b : Nat} {p : Option Addr} {n cap k : Nat} {h v : Int} {w u : World} (hb : w.heap[b]? = some (.cells #[.slice p n cap, .int .i64 k, .int .u64 h] 102 (0, 0))) (hk : k + 1 ≤ n) (hin : Bytes w p n) (hne : ∀ pb off, p = some ⟨pb, off, none⟩ → 0 < n → pb ≠ b)
    (u1 : u.heap = ((w.setCell ⟨b, 2, none⟩ (.int .u64 v)).setCell ⟨b, 1, none⟩ (.int .i64 ((k : Int) + 1))).heap) (u2 : u.os = w.os) (u3 : u.tape = w.tape) (u4 : u.output = w.output) : Dice b p n cap u ∧ Only b w u := by
  have e1 := Go.Joins.block_setCell hb (i := 2) (.int .u64 v)
  have e2 := Go.Joins.block_setCell e1 (i := 1) (.int .i64 ((k : Int) + 1))
  have ho : Only b w u := (((Only.refl b w).setCell (.inl rfl) _).setCell (.inl rfl) _).like u1 u2 u3 u4
  exact ⟨dice_set (k' := k + 1) hb hk hin hne (by rw [u1]; simpa using e2) ho, ho⟩

set_option maxRecDepth 100000 in
theorem l_below (b : Nat) (m : Int) (p : Option Addr) (n cap : Nat) (w : World) (hs : Dice b p n cap w) (hm : 0 < m) :
    Calls Try.prog 28 #[.pointer (some ⟨b, 0, none⟩), .int .i64 m] w fun e w' => ∃ x : Int, e = .returned (.int .i64 x) ∧ 0 ≤ x ∧ x < m ∧ Dice b p n cap w' ∧ Only b w w' := by
  have hs0 := hs
  obtain ⟨⟨k, h, hb, hk⟩, hbytes, hne⟩ := hs
  have hn := hbytes.1
  have c0 : w.cell? ⟨b, 0, none⟩ = some (.slice p n cap) := by simp [World.cell?, hb]
  have c1 : w.cell? ⟨b, 1, none⟩ = some (.int .i64 k) := by simp [World.cell?, hb]
  have c2 : w.cell? ⟨b, 2, none⟩ = some (.int .u64 h) := by simp [World.cell?, hb]
  have f1 : w.frozen? ⟨b, 1, none⟩ = false := by simp [World.frozen?, hb]
  have f2 : w.frozen? ⟨b, 2, none⟩ = false := by simp [World.frozen?, hb]
  unfold maxLen at hn
  have HB := Lib.hid hb
  have HC := Lib.hid hbytes
  have HS := Lib.hid hs0
  have HN := Lib.hid hne
  clear hb hbytes hs0 hne
  go_enter Try.func28, Try.ntmps28
  go_upto_region 3 with fail
  have hx := below_bits (IntKind.u64.wrap (h * 6364136223846793005) + 1442695040888963407)
  generalize wrap64 (bits BinOp.and IntKind.u64 (IntKind.u64.wrap (IntKind.u64.wrap (h * 6364136223846793005) + 1442695040888963407) / 8589934592) 16777215) = x at *
  obtain ⟨hx0, hx1⟩ := hx
  generalize hv : IntKind.u64.wrap (IntKind.u64.wrap (h * 6364136223846793005) + 1442695040888963407) = v
  clear hv
  by_cases hlt : k < n
  · obtain ⟨pb, off, rfl, hcell⟩ := HC.out.2 (by omega)
    obtain ⟨z, hz, hcz⟩ := hcell k hlt
    have hpb : ¬ pb = b := HN.out pb off rfl (by omega)
    have hzz : (z : Int) < 256 := by omega
    have hlen : (k : Int) < n := by omega
    have r0 := Int.emod_nonneg (x + (z : Int)) (show m ≠ 0 by omega)
    have r1 := Int.emod_lt_of_pos (x + (z : Int)) hm
    have R := Lib.hid (And.intro r0 r1)
    clear hcell r0 r1
    go_quiet (fail)
    go_wp2
    go_quiet (fail)
    go_wp2
    go_ret
    exact ⟨_, rfl, R.out.1, R.out.2, dice_set2 (v := v) HB.out (by omega) HC.out HN.out rfl rfl rfl rfl⟩
  · obtain rfl : k = n := by omega
    have r0 := Int.emod_nonneg x (show m ≠ 0 by omega)
    have r1 := Int.emod_lt_of_pos x hm
    have R := Lib.hid (And.intro r0 r1)
    clear r0 r1
    go_quiet (fail)
    go_wp2
    go_ret
    exact ⟨_, rfl, R.out.1, R.out.2, dice_set1 (v := v) HB.out (Nat.le_refl _) HC.out HN.out rfl rfl rfl rfl⟩

theorem l_roll' (p : Option Addr) (n cap : Nat) (sd : Int) (w : World) (hin : Bytes w p n) :
    Calls Try.prog 27 #[.slice p n cap, .int .u64 sd] w fun e w' => ∃ d : Nat, e = .returned (.pointer (some ⟨d, 0, none⟩)) ∧ w.heap.size ≤ d ∧ Dice d p n cap w' ∧ Below w.heap.size w w' :=
  (l_roll p n cap sd w hin).mono fun _ _ ⟨he, hd, hb⟩ => ⟨_, he, Nat.le_refl _, hd, hb⟩

end Go.Proofs.Ytgkfnggnhphboaa
