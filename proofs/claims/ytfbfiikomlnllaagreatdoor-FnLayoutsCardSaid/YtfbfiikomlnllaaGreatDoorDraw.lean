/- Contracts and lemmas for the proofs of this seat: Draw. -/
import Derived.Test.YtfbfiikomlnllaaGreatDoorBase
import Derived.Test.YtfbfiikomlnllaaGreatDoorNum
import Derived.Test.YtfbfiikomlnllaaGreatDoorIv
import Derived.Test.YtfbfiikomlnllaaGreatDoorList
import Derived.Lib.Hide
import Derived.BigQuiet
import Derived.Deep.QuietTactic
import Derived.Deep.OwnRows
import Derived.Deep.LoopGhost
import Derived.OneCell
import Derived.Lib.SmallJoins
import Derived.StillTailTactics
import Derived.RangeFuncBox
namespace Go.Proofs.YtfbfiikomlnllaaGreatDoor
open Go.RowKit Go.Deep
set_option maxHeartbeats 2000000
set_option linter.unusedVariables false
set_option linter.unusedSimpArgs false

structure Only (b : Nat) (w w' : World) : Prop where
  os : w'.os = w.os
  tape : w'.tape = w.tape
  output : w'.output = w.output
  size : w.heap.size ≤ w'.heap.size
  block : ∀ k, k < w.heap.size → k ≠ b → w'.heap[k]? = w.heap[k]?
theorem Only.refl (b : Nat) (w : World) : Only b w w := ⟨rfl, rfl, rfl, Nat.le_refl _, fun _ _ _ => rfl⟩
theorem Only.trans {b : Nat} {u v w : World} (h : Only b u v) (k : Only b v w) : Only b u w :=
  ⟨k.os.trans h.os, k.tape.trans h.tape, k.output.trans h.output, Nat.le_trans h.size k.size, fun i hi hne => (k.block i (Nat.lt_of_lt_of_le hi h.size) hne).trans (h.block i hi hne)⟩
theorem Only.drewN {b : Nat} {u v : World} (h : Only b u v) (n : Nat) : Only b u (v.drewN n) := ⟨h.os, h.tape, h.output, h.size, h.block⟩
theorem Only.drew {b : Nat} {u v : World} (h : Only b u v) : Only b u v.drew := ⟨h.os, h.tape, h.output, h.size, h.block⟩
theorem Only.of_below {b : Nat} {u v : World} (h : Below u.heap.size u v) : Only b u v := ⟨h.os, h.tape, h.output, h.size, fun k hk _ => h.block k hk⟩
theorem Only.alloc {b : Nat} {u v : World} (h : Only b u v) (o : Obj) : Only b u (v.alloc o) :=
  h.trans (Only.of_below ((Below.refl _ _).alloc (Nat.le_refl _) o))
theorem Only.setCell {b : Nat} {u v : World} (h : Only b u v) {p : Addr} (hp : p.block = b ∨ u.heap.size ≤ p.block) (x : Value) : Only b u (v.setCell p x) :=
  ⟨h.os, h.tape, h.output, by simpa [World.setCell] using h.size, fun k hk hne => (Below.heap_setCell v p x k (by
    rintro rfl
    rcases hp with hp | hp
    · exact hne hp
    · omega)).trans (h.block k hk hne)⟩
theorem Only.below {b : Nat} {u v w : World} (h : Only b v w) (hb : Below u.heap.size u v) (hn : u.heap.size ≤ b) : Below u.heap.size u w :=
  ⟨h.os.trans hb.os, h.tape.trans hb.tape, h.output.trans hb.output, Nat.le_trans hb.size h.size, fun k hk => (h.block k (Nat.lt_of_lt_of_le hk hb.size) (by omega)).trans (hb.block k hk)⟩
/-- the rules that the walk uses behind a call that may change block b: the call's own blocks, from B on, are as they were -/
theorem Only.kept {b B : Nat} {u v : World} (h : Only b u v) (hb : b < B) : (∀ k o, B ≤ k → k < u.heap.size → v.cell? ⟨k, o, none⟩ = u.cell? ⟨k, o, none⟩) ∧ (∀ k o, B ≤ k → k < u.heap.size → v.frozen? ⟨k, o, none⟩ = u.frozen? ⟨k, o, none⟩) ∧
    (∀ k, k < u.heap.size → k < v.heap.size) ∧ (∀ k, k < u.heap.size → k < v.heap.size + 1) ∧ (∀ k, k < u.heap.size → k < v.heap.size + 1 + 1) ∧ (∀ k, k < u.heap.size → ¬ v.heap.size = k) :=
  ⟨fun k o h1 h2 => World.cell?_of_block (w := u) (a := ⟨k, o, none⟩) (h.block k h2 (by omega)), fun k o h1 h2 => World.frozen?_of_block (w := u) (a := ⟨k, o, none⟩) (h.block k h2 (by omega)),
    fun k hk => Nat.lt_of_lt_of_le hk h.size, fun k hk => by have := h.size; omega, fun k hk => by have := h.size; omega, fun k hk => by have := h.size; omega⟩

def Src (b : Nat) (p : Option Addr) (n cap : Nat) (w : World) : Prop :=
  ∃ (k : Nat) (sd : Int), w.heap[b]? = some (.cells #[.slice p n cap, .int .i64 k, .int .i64 sd] 76 (0, 0)) ∧ k ≤ n ∧ n ≤ maxLen ∧ 0 ≤ sd ∧ sd < 2147483647 ∧
    (0 < n → ∃ pb off, p = some ⟨pb, off, none⟩ ∧ pb ≠ b ∧ ∀ i, i < n → ∃ z : Nat, z < 256 ∧ w.cell? ⟨pb, off + i, none⟩ = some (.int .u8 z))
theorem Src.lt {b : Nat} {p : Option Addr} {n cap : Nat} {w : World} (h : Src b p n cap w) : b < w.heap.size := by
  obtain ⟨k, sd, hb, _⟩ := h
  exact (Array.getElem?_eq_some_iff.1 hb).1
/-- the source stays under whatever leaves its block alone -/
theorem Src.keep {b : Nat} {p : Option Addr} {n cap : Nat} {w w' : World} (h : Src b p n cap w) (hb : Below w.heap.size w w') : Src b p n cap w' := by
  have hl := h.lt
  obtain ⟨k, sd, h1, h2, h3, h4, h5, h6⟩ := h
  refine ⟨k, sd, (hb.block b hl).trans h1, h2, h3, h4, h5, fun hn => ?_⟩
  obtain ⟨pb, off, e, hne, hc⟩ := h6 hn
  refine ⟨pb, off, e, hne, fun i hi => ?_⟩
  obtain ⟨z, hz, hcz⟩ := hc i hi
  exact ⟨z, hz, (hb.cell (p := ⟨pb, off + i, none⟩) (World.block_lt_of_cell? w _ hcz)).trans hcz⟩
def Next (b : Nat) (m : Int) (p : Option Addr) (n cap : Nat) (w : World) (e : Ending) (w' : World) : Prop :=
  ∃ x : Int, e = .returned (.int .i64 x) ∧ 0 ≤ x ∧ (1 < m → x < m) ∧ (m ≤ 1 → x = 0) ∧ Src b p n cap w' ∧ Only b w w'
theorem Only.like {b : Nat} {u v w : World} (h : Only b u v) (e1 : w.heap = v.heap) (e2 : w.os = v.os) (e3 : w.tape = v.tape) (e4 : w.output = v.output) : Only b u w :=
  ⟨e2.trans h.os, e3.trans h.tape, e4.trans h.output, by rw [e1]; exact h.size, fun k hk hne => by rw [e1]; exact h.block k hk hne⟩
theorem src_of {b : Nat} {p : Option Addr} {n cap : Nat} {w w' : World} (k : Nat) (v : Int) (hb : w'.heap[b]? = some (.cells #[.slice p n cap, .int .i64 k, .int .i64 v] 76 (0, 0))) (ho : Only b w w') (hk : k ≤ n) (hn : n ≤ maxLen) (h0 : 0 ≤ v) (h1 : v < 2147483647)
    (hc : 0 < n → ∃ pb off, p = some ⟨pb, off, none⟩ ∧ pb ≠ b ∧ ∀ i, i < n → ∃ z : Nat, z < 256 ∧ w.cell? ⟨pb, off + i, none⟩ = some (.int .u8 z)) : Src b p n cap w' := by
  refine ⟨k, v, hb, hk, hn, h0, h1, fun hp => ?_⟩
  obtain ⟨pb, off, e, hne, hcell⟩ := hc hp
  refine ⟨pb, off, e, hne, fun i hi => ?_⟩
  obtain ⟨z, hz, hcz⟩ := hcell i hi
  exact ⟨z, hz, (World.cell?_of_block (w := w) (a := ⟨pb, off + i, none⟩) (ho.block pb (World.block_lt_of_cell? w _ hcz) hne)).trans hcz⟩
theorem src_set1 {b : Nat} {p : Option Addr} {n cap : Nat} {w : World} {k : Nat} {sd v : Int} (hb : w.heap[b]? = some (.cells #[.slice p n cap, .int .i64 k, .int .i64 sd] 76 (0, 0))) (hk : k ≤ n) (hn : n ≤ maxLen) (h0 : 0 ≤ v) (h1 : v < 2147483647)
    (hc : 0 < n → ∃ pb off, p = some ⟨pb, off, none⟩ ∧ pb ≠ b ∧ ∀ i, i < n → ∃ z : Nat, z < 256 ∧ w.cell? ⟨pb, off + i, none⟩ = some (.int .u8 z)) {u : World} (u1 : u.heap = (w.setCell ⟨b, 2, none⟩ (.int .i64 v)).heap) (u2 : u.os = w.os) (u3 : u.tape = w.tape) (u4 : u.output = w.output) :
    Src b p n cap u ∧ Only b w u := by
  have e1 := Go.Joins.block_setCell hb (i := 2) (.int .i64 v)
  have ho : Only b w u := ((Only.refl b w).setCell (.inl rfl) _).like u1 u2 u3 u4
  exact ⟨src_of k v (by rw [u1]; simpa using e1) ho hk hn h0 h1 hc, ho⟩
theorem src_set2 {b : Nat} {p : Option Addr} {n cap : Nat} {w : World} {k : Nat} {sd v : Int} (hb : w.heap[b]? = some (.cells #[.slice p n cap, .int .i64 k, .int .i64 sd] 76 (0, 0))) (hk : k + 1 ≤ n) (hn : n ≤ maxLen) (h0 : 0 ≤ v) (h1 : v < 2147483647)
    (hc : 0 < n → ∃ pb off, p = some ⟨pb, off, none⟩ ∧ pb ≠ b ∧ ∀ i, i < n → ∃ z : Nat, z < 256 ∧ w.cell? ⟨pb, off + i, none⟩ = some (.int .u8 z)) {u : World} (u1 : u.heap = ((w.setCell ⟨b, 2, none⟩ (.int .i64 v)).setCell ⟨b, 1, none⟩ (.int .i64 ((k : Int) + 1))).heap) (u2 : u.os = w.os) (u3 : u.tape = w.tape) (u4 : u.output = w.output) :
    Src b p n cap u ∧ Only b w u := by
  have e1 := Go.Joins.block_setCell hb (i := 2) (.int .i64 v)
  have e2 := Go.Joins.block_setCell e1 (i := 1) (.int .i64 ((k : Int) + 1))
  have ho : Only b w u := (((Only.refl b w).setCell (.inl rfl) _).setCell (.inl rfl) _).like u1 u2 u3 u4
  exact ⟨src_of (k + 1) v (by rw [u1]; simpa using e2) ho hk hn h0 h1 hc, ho⟩

set_option maxRecDepth 100000 in
set_option maxHeartbeats 4000000 in
theorem s_l01Next (b : Nat) (m : Int) (p : Option Addr) (n cap : Nat) (w : World) (hs : Src b p n cap w) :
    Calls Tryz.prog 31 #[.pointer (some ⟨b, 0, none⟩), .int .i64 m] w (Next b m p n cap w) := by
  rcases ilt 1 m with hm | hm
  · have hs0 := hs
    obtain ⟨k, sd, hb, hk, hn, hsd0, hsd1, hcode⟩ := hs
    have c0 : w.cell? ⟨b, 0, none⟩ = some (.slice p n cap) := by simp [World.cell?, hb]
    have c1 : w.cell? ⟨b, 1, none⟩ = some (.int .i64 k) := by simp [World.cell?, hb]
    have c2 : w.cell? ⟨b, 2, none⟩ = some (.int .i64 sd) := by simp [World.cell?, hb]
    have f1 : w.frozen? ⟨b, 1, none⟩ = false := by simp [World.frozen?, hb]
    have f2 : w.frozen? ⟨b, 2, none⟩ = false := by simp [World.frozen?, hb]
    unfold maxLen at hn
    have HB := Lib.hid hb
    have HC := Lib.hid hcode
    have HS := Lib.hid hs0
    clear hb hcode hs0
    have hv0 : 0 ≤ (sd * 48271 + 29) % 2147483647 := Int.emod_nonneg _ (by omega)
    have hv1 : (sd * 48271 + 29) % 2147483647 < 2147483647 := Int.emod_lt_of_pos _ (by omega)
    by_cases hlt : k < n
    · have hset := fun (u : World) => src_set2 (u := u) (v := (sd * 48271 + 29) % 2147483647) HB.out (by omega) (by unfold maxLen; omega) hv0 hv1 HC.out
      have HSET := Lib.hid hset
      obtain ⟨pb, off, rfl, hne, hcell⟩ := HC.out (by omega)
      obtain ⟨z, hz, hcz⟩ := hcell k hlt
      have d1 : decide (k < n) = true := by simpa using hlt
      have hlen : (k : Int) < n := by omega
      have hzz : (z : Int) < 256 := by omega
      have x0 : 0 ≤ ((sd * 48271 + 29) % 2147483647 / 31 + (z : Int)) := by omega
      have r0 := Int.emod_nonneg ((sd * 48271 + 29) % 2147483647 / 31 + (z : Int)) (show m ≠ 0 by omega)
      have r1 := Int.emod_lt_of_pos ((sd * 48271 + 29) % 2147483647 / 31 + (z : Int)) (show 0 < m by omega)
      have q0 := Int.emod_nonneg (z : Int) (show m ≠ 0 by omega)
      have q1 := Int.emod_lt_of_pos (z : Int) (show 0 < m by omega)
      have R := Lib.hid (And.intro (And.intro r0 r1) (And.intro q0 q1))
      have hw1 : IntKind.i64.wrap ((k : Int) + 1 - 1) = (k : Int) := by rw [Int.add_sub_cancel]; exact IntWalk.i64_in _ (by omega)
      clear hcell HC HB hset r0 r1 q0 q1
      by_cases hm2 : m ≤ 256
      · by_cases hpar : ((k : Int) + 1) % 2 = 0
        · have hp2 : (((k : Int) + 1) % 2 == 0) = true := by simpa using hpar
          clear hpar
          go_enter Tryz.func31, Tryz.ntmps31
          go_wp2
          go_quiet (fail)
          go_wp2
          go_quiet (fail)
          go_wp2
          go_quiet (fail)
          go_wp2
          go_ret
          refine ⟨_, rfl, R.out.2.1, fun _ => R.out.2.2, by omega, ?_⟩; apply HSET.out <;> rfl
        · have hp2 : (((k : Int) + 1) % 2 == 0) = false := by simpa using hpar
          clear hpar
          go_enter Tryz.func31, Tryz.ntmps31
          go_wp2
          go_quiet (fail)
          go_wp2
          go_quiet (fail)
          go_wp2
          go_ret
          refine ⟨_, rfl, R.out.1.1, fun _ => R.out.1.2, by omega, ?_⟩; apply HSET.out <;> rfl
      · go_enter Tryz.func31, Tryz.ntmps31
        go_wp2
        go_quiet (fail)
        go_wp2
        go_quiet (fail)
        go_wp2
        go_ret
        refine ⟨_, rfl, R.out.1.1, fun _ => R.out.1.2, by omega, ?_⟩; apply HSET.out <;> rfl
    · obtain rfl : k = n := by omega
      have hset := fun (u : World) => src_set1 (u := u) (v := (sd * 48271 + 29) % 2147483647) HB.out (Nat.le_refl _) (by unfold maxLen; omega) hv0 hv1 HC.out
      have HSET := Lib.hid hset
      have x0 : 0 ≤ (sd * 48271 + 29) % 2147483647 / 31 := by omega
      have r0 := Int.emod_nonneg ((sd * 48271 + 29) % 2147483647 / 31) (show m ≠ 0 by omega)
      have r1 := Int.emod_lt_of_pos ((sd * 48271 + 29) % 2147483647 / 31) (show 0 < m by omega)
      have R := Lib.hid (And.intro r0 r1)
      clear HC HB hset r0 r1
      go_enter Tryz.func31, Tryz.ntmps31
      go_wp2
      go_quiet (fail)
      go_wp2
      go_ret
      refine ⟨_, rfl, R.out.1, fun _ => R.out.2, by omega, ?_⟩; apply HSET.out <;> rfl
  · go_enter Tryz.func31, Tryz.ntmps31
    go_wp2
    go_ret
    exact ⟨0, rfl, Int.le_refl _, by omega, fun _ => rfl, hs, Only.refl _ _⟩

def Bytes (w : World) (p : Option Addr) (n : Nat) : Prop :=
  n ≤ maxLen ∧ (0 < n → ∃ pb off, p = some ⟨pb, off, none⟩ ∧ ∀ i, i < n → ∃ z : Nat, z < 256 ∧ w.cell? ⟨pb, off + i, none⟩ = some (.int .u8 z))
theorem wf_u8 {z : Int} (h : (Lit.int .u8 z).wf = true) : 0 ≤ z ∧ z < 256 := by
  simp only [Lit.wf, Bool.and_eq_true, decide_eq_true_eq] at h
  have e1 : IntKind.u8.min = 0 := rfl
  have e2 : IntKind.u8.max = 255 := rfl
  omega
theorem IsRow.bytes8 {w : World} {p : Option Addr} {len cap : Nat} {zs : List Int} (h : IsRow .u8 w p len cap zs) : Bytes w p len := by
  have hi := h.ints
  refine ⟨hi.2.1, fun hp => ?_⟩
  obtain ⟨b, off, e, hc⟩ := hi.2.2 hp
  have hw : ∀ x ∈ zs, (Lit.int .u8 x).wf = true := by
    rcases h with ⟨_, _, _, rfl⟩ | ⟨_, _, _, _, _, _, hw⟩
    · simp
    · exact hw
  refine ⟨b, off, e, fun i hlt => ?_⟩
  have hz : i < zs.length := by rw [hi.1]; exact hlt
  have hm : zs.getD i 0 ∈ zs := by
    rw [List.getD_eq_getElem?_getD, List.getElem?_eq_getElem hz]
    simp
  have := wf_u8 (hw _ hm)
  exact ⟨(zs.getD i 0).toNat, by omega, by rw [hc i hlt, Int.toNat_of_nonneg this.1]⟩
theorem Bytes.keep {w w' : World} {p : Option Addr} {n : Nat} (h : Bytes w p n) (hb : Below w.heap.size w w') : Bytes w' p n := by
  refine ⟨h.1, fun hn => ?_⟩
  obtain ⟨pb, off, e, hc⟩ := h.2 hn
  refine ⟨pb, off, e, fun i hi => ?_⟩
  obtain ⟨z, hz, hcz⟩ := hc i hi
  exact ⟨z, hz, (hb.cell (p := ⟨pb, off + i, none⟩) (World.block_lt_of_cell? w _ hcz)).trans hcz⟩
/-- the source that l01From makes -/
def From (p : Option Addr) (n cap : Nat) (w : World) (e : Ending) (w' : World) : Prop :=
  e = .returned (.pointer (some ⟨w.heap.size, 0, none⟩)) ∧ Src w.heap.size p n cap w' ∧ Below w.heap.size w w'
theorem from_src {w w' : World} {p : Option Addr} {n cap : Nat} {sd : Int} (hb : w'.heap[w.heap.size]? = some (.cells #[.slice p n cap, .int .i64 0, .int .i64 sd] 76 (0, 0))) (hin : Bytes w p n) (h0 : 0 ≤ sd) (h1 : sd < 2147483647) (ho : Below w.heap.size w w') : Src w.heap.size p n cap w' := by
  refine ⟨0, sd, hb, Nat.zero_le _, hin.1, h0, h1, fun hn => ?_⟩
  obtain ⟨pb, off, e, hc⟩ := hin.2 hn
  refine ⟨pb, off, e, ?_, fun i hi => ?_⟩
  · obtain ⟨z, hz, hcz⟩ := hc 0 hn
    have := World.block_lt_of_cell? w _ hcz
    simp at this
    omega
  · obtain ⟨z, hz, hcz⟩ := hc i hi
    exact ⟨z, hz, (ho.cell (p := ⟨pb, off + i, none⟩) (World.block_lt_of_cell? w _ hcz)).trans hcz⟩
theorem block_new (w : World) (o : Obj) : (w.alloc o).heap[w.heap.size]? = some o := World.alloc_heap_new w o

set_option maxRecDepth 100000 in
theorem s_l01From (p : Option Addr) (n cap : Nat) (w : World) (hin : Bytes w p n) :
    Calls Tryz.prog 30 #[.slice p n cap] w (From p n cap w) := by
  have hn := hin.1
  unfold maxLen at hn
  have hown0 : Own w (w.alloc (Obj.cells #[.slice p n cap, .int .i64 0, .int .i64 52021] 76)) := (Own.start w).alloc _
  go_enter Tryz.func30, Tryz.ntmps30
  go_wp2
  go_loopw [4] (fun i wr => ∃ k : Nat, k ≤ n ∧ k ≤ 64 ∧ i = .int .i64 k ∧ Own w wr ∧ ∃ sd : Int, 0 ≤ sd ∧ sd < 2147483647 ∧ wr.heap[w.heap.size]? = some (.cells #[.slice p n cap, .int .i64 0, .int .i64 sd] 76 (0, 0))) (fun i _ => n - (intOf i).toNat)
  case atStart => exact ⟨0, Nat.zero_le _, by omega, rfl, hown0, 52021, by omega, by omega, block_new _ _⟩
  case round =>
    obtain ⟨k, hk, hk64, rfl, hown, sd, hs0, hs1, hb⟩ := hrel
    have HO := Lib.hid hown
    have HB := Lib.hid hb
    have HIN := Lib.hid hin
    by_cases hlt : k < n ∧ k < 64
    · obtain ⟨hkn, hk6⟩ := hlt
      obtain ⟨b, off, rfl, hc⟩ := (hin.keep hown.below).2 (by omega)
      obtain ⟨z, hz, hcz⟩ := hc k hkn
      have c2 : wr.cell? ⟨w.heap.size, 2, none⟩ = some (.int .i64 sd) := by simp [World.cell?, hb]
      have f2 : wr.frozen? ⟨w.heap.size, 2, none⟩ = false := by simp [World.frozen?, hb]
      have hlen : (k : Int) < n := by omega
      have hlen6 : (k : Int) < 64 := by omega
      have hzz : (z : Int) < 256 := by omega
      have hv0 : 0 ≤ (sd * 59 + (z : Int)) % 2147483647 := Int.emod_nonneg _ (by omega)
      have hv1 : (sd * 59 + (z : Int)) % 2147483647 < 2147483647 := Int.emod_lt_of_pos _ (by omega)
      have e2 : (wr.setCell ⟨w.heap.size, 2, none⟩ (.int .i64 ((sd * 59 + (z : Int)) % 2147483647))).heap[w.heap.size]? = some (.cells #[.slice (some ⟨b, off, none⟩) n cap, .int .i64 0, .int .i64 ((sd * 59 + (z : Int)) % 2147483647)] 76 (0, 0)) := by simpa using Go.Joins.block_setCell hb (i := 2) (.int .i64 ((sd * 59 + (z : Int)) % 2147483647))
      have E2 := Lib.hid e2
      clear hc hin hown hb hown0 e2
      go_wp2
      go_still_tail 15, (by kernel_rfl)
      change wpList _ _ _ _ _ wr.drew
      go_wp2
      go_roundw
      case rel => exact ⟨k + 1, by omega, by omega, by go_num, (HO.out.setCell (p := ⟨w.heap.size, 2, none⟩) (Nat.le_refl _) _).drewN 1, _, hv0, hv1, E2.out⟩
      case measure => simp [intOf]; omega
    · by_cases hkn : k < n
      · obtain rfl : k = 64 := by omega
        have hlen : (64 : Int) < n := by omega
        clear hin hown hb hown0
        go_wp2
        go_ret
        exact ⟨rfl, from_src HB.out HIN.out hs0 hs1 HO.out.below, HO.out.below⟩
      · obtain rfl : k = n := by omega
        clear hin hown hb hown0
        go_wp2
        go_ret
        exact ⟨rfl, from_src HB.out HIN.out hs0 hs1 HO.out.below, HO.out.below⟩

theorem Src.alloc {b : Nat} {p : Option Addr} {n cap : Nat} {w : World} (h : Src b p n cap w) (o : Obj) : Src b p n cap (w.alloc o) := h.keep ((Below.refl _ _).alloc (Nat.le_refl _) o)
theorem Src.drewN {b : Nat} {p : Option Addr} {n cap : Nat} {w : World} (h : Src b p n cap w) (k : Nat) : Src b p n cap (w.drewN k) := h
theorem Src.drew {b : Nat} {p : Option Addr} {n cap : Nat} {w : World} (h : Src b p n cap w) : Src b p n cap w.drew := h
theorem Only.cell {b : Nat} {u v : World} (h : Only b u v) {k o : Nat} {x : Value} (hne : k ≠ b) (hc : u.cell? ⟨k, o, none⟩ = some x) : v.cell? ⟨k, o, none⟩ = some x :=
  (World.cell?_of_block (w := u) (a := ⟨k, o, none⟩) (h.block k (World.block_lt_of_cell? u _ hc) hne)).trans hc
theorem nat_of {x m : Int} (h0 : 0 ≤ x) (hm : 0 < m) (h1 : 1 < m → x < m) (h2 : m ≤ 1 → x = 0) : ∃ k : Nat, x = k ∧ (k : Int) < m := by
  obtain ⟨k, rfl⟩ := Int.eq_ofNat_of_zero_le h0
  exact ⟨k, rfl, by rcases ilt 1 m with h | h; exact h1 h; have := h2 h; omega⟩
/-- a drawn value of a list -/
def Picked (b : Nat) (m : Nat) (zs : List Int) (p : Option Addr) (n cap : Nat) (w : World) (e : Ending) (w' : World) : Prop :=
  ∃ k : Nat, e = .returned (.int .i64 (zs.getD k 0)) ∧ k < m ∧ Src b p n cap w' ∧ Only b w w'
/-- some value -/
def Drawn (b : Nat) (p : Option Addr) (n cap : Nat) (w : World) (e : Ending) (w' : World) : Prop :=
  ∃ x : Int, e = .returned (.int .i64 x) ∧ Src b p n cap w' ∧ Only b w w'
theorem s_l01Pick (b : Nat) (qb qoff m c : Nat) (zs : List Int) (p : Option Addr) (n cap : Nat) (w : World) (hs : Src b p n cap w) (hq : Ints .i64 w (some ⟨qb, qoff, none⟩) m zs) (hm : 0 < m) (hne : qb ≠ b) :
    Calls Tryz.prog 47 #[.pointer (some ⟨b, 0, none⟩), .slice (some ⟨qb, qoff, none⟩) m c] w (Picked b m zs p n cap w) := by
  obtain ⟨_, hm0, hc⟩ := hq
  obtain ⟨qb', qoff', he, hc⟩ := hc hm
  simp only [Option.some.injEq, Addr.mk.injEq, and_true] at he
  obtain ⟨rfl, rfl⟩ := he
  unfold maxLen at hm0
  have hm1 : (0 : Int) < m := by omega
  go_enter Tryz.func47, Tryz.ntmps47
  go_wp2_with (go_at_call 31; refine (s_l01Next b _ p n cap _ hs).mono ?_; rintro e w' ⟨x, rfl, h0, h1, h2, hS, hO⟩; obtain ⟨k, rfl, hk⟩ := nat_of h0 hm1 h1 h2; have hkm : k < m := (by omega); have hck := hO.cell hne (hc k hkm); clear hc; obtain ⟨v, hv⟩ : ∃ v, v = zs.getD k 0 := ⟨_, rfl⟩; rw [← hv] at hck; have HV := Lib.hid hv; clear hv)
  go_ret
  exact ⟨k, by rw [← HV.out]; rfl, hkm, hS, hO⟩
theorem ints_alloc (w : World) (l : List Int) (t : TypeId) (h : l.length ≤ maxLen) : Ints .i64 (w.alloc (.cells (l.map (Value.int .i64)).toArray t)) (some ⟨w.heap.size, 0, none⟩) l.length l := by
  refine ⟨rfl, h, fun _ => ⟨w.heap.size, 0, rfl, fun i hi => ?_⟩⟩
  have hb := World.alloc_heap_new w (.cells (l.map (Value.int .i64)).toArray t)
  simp only [World.cell?, hb]
  simp [hi]
theorem ints_of_vals (Q : Int → Prop) : ∀ vs : List Value, (∀ v ∈ vs, ∃ x, v = .int .i64 x ∧ Q x) → ∃ l : List Int, vs = l.map (Value.int .i64) ∧ ∀ x ∈ l, Q x
  | [], _ => ⟨[], rfl, by simp⟩
  | v :: vs, h => by
    obtain ⟨x, rfl, hx⟩ := h v (by simp)
    obtain ⟨l, rfl, hl⟩ := ints_of_vals Q vs (fun u hu => h u (by simp [hu]))
    exact ⟨x :: l, rfl, by simpa [hx] using hl⟩
/-- a value in a range is drawn -/
def Ranged (b : Nat) (lo hi : Int) (p : Option Addr) (n cap : Nat) (w : World) (e : Ending) (w' : World) : Prop :=
  ∃ x : Int, e = .returned (.int .i64 x) ∧ lo ≤ x ∧ x ≤ hi ∧ Src b p n cap w' ∧ Only b w w'
theorem s_pick (b qb m : Nat) (lo hi : Int) (p : Option Addr) (n cap : Nat) (w : World) (hs : Src b p n cap w)
    (hv : ∃ (u : World) (cs : Array Value) (t : TypeId), w = u.alloc (.cells cs t) ∧ qb = u.heap.size ∧ b < u.heap.size ∧ cs.size = m ∧ ∀ v ∈ cs.toList, ∃ x, v = .int .i64 x ∧ lo ≤ x ∧ x ≤ hi) (h0 : 0 < m ∧ m ≤ maxLen) :
    Calls Tryz.prog 47 #[.pointer (some ⟨b, 0, none⟩), .slice (some ⟨qb, 0, none⟩) m m] w (Ranged b lo hi p n cap w) := by
  obtain ⟨u, cs, t, rfl, rfl, hbu, hm, hcs⟩ := hv
  obtain ⟨l, hl, hlx⟩ := ints_of_vals _ _ hcs
  have hcl : cs = (l.map (Value.int .i64)).toArray := by rw [← hl]
  subst hcl
  simp only [List.size_toArray, List.length_map] at hm
  subst hm
  refine (s_l01Pick b u.heap.size 0 l.length l.length l p n cap _ hs (ints_alloc u l t h0.2) h0.1 (Nat.ne_of_gt hbu)).mono ?_
  rintro e w' ⟨k, rfl, hk, hS, hO⟩
  have hm : l.getD k 0 ∈ l := by
    rw [List.getD_eq_getElem?_getD, List.getElem?_eq_getElem hk]
    simp
  exact ⟨_, rfl, (hlx _ hm).1, (hlx _ hm).2, hS, hO⟩

theorem Only.end {b : Nat} {u v : World} (h : Only b u v) (e : b = u.heap.size) : Below u.heap.size u v := Only.below h (Below.refl _ _) (Nat.le_of_eq e.symm)

theorem l_big (p : Option Addr) (n cap : Nat) (w : World) (hn : n ≤ maxLen) : Calls Tryz.prog 10 #[.slice p n cap] w fun en w' => en = .returned (.bool (decide (4096 < n))) ∧ w = w' := by
  unfold maxLen at hn
  rcases Bool.eq_false_or_eq_true (decide (4096 < n)) with h | h
  · have hlen : (4096 : Int) < n := by have := of_decide_eq_true h; omega
    go_enter Tryz.func10, Tryz.ntmps10
    go_wp2
    go_ret
    exact ⟨ret_bool (by simp [h]), rfl⟩
  · have hlen : ¬ (4096 : Int) < n := by have := of_decide_eq_false h; omega
    go_enter Tryz.func10, Tryz.ntmps10
    go_wp2
    go_ret
    exact ⟨ret_bool (by simp), rfl⟩

theorem Only.box {b k : Nat} {u v : World} (h : Only b u v) (hne : k ≠ b) (hk : k < u.heap.size) : (∀ o, v.cell? ⟨k, o, none⟩ = u.cell? ⟨k, o, none⟩) ∧ (∀ o, v.frozen? ⟨k, o, none⟩ = u.frozen? ⟨k, o, none⟩) :=
  ⟨fun o => World.cell?_of_block (w := u) (a := ⟨k, o, none⟩) (h.block k hk hne), fun o => World.frozen?_of_block (w := u) (a := ⟨k, o, none⟩) (h.block k hk hne)⟩
theorem Src.setBox {b : Nat} {p : Option Addr} {n cap : Nat} {w u : World} (h0 : Src b p n cap w) (h : Src b p n cap u) {q : Addr} (hq : w.heap.size ≤ q.block) (x : Value) : Src b p n cap (u.setCell q x) := by
  have hl := h0.lt
  obtain ⟨_, _, _, _, _, _, _, h06⟩ := h0
  obtain ⟨k, sd, h1, h2, h3, h4, h5, h6⟩ := h
  refine ⟨k, sd, (Below.heap_setCell u q x b (by omega)).trans h1, h2, h3, h4, h5, fun hn => ?_⟩
  obtain ⟨pb, off, e, hne, hc⟩ := h6 hn
  obtain ⟨pb', off', e', _, hc'⟩ := h06 hn
  rw [e] at e'
  simp only [Option.some.injEq, Addr.mk.injEq, and_true] at e'
  obtain ⟨rfl, rfl⟩ := e'
  obtain ⟨_, _, hz'⟩ := hc' 0 hn
  have hlt := World.block_lt_of_cell? w _ hz'
  simp only at hlt
  refine ⟨pb, off, e, hne, fun i hi => ?_⟩
  obtain ⟨z, hz, hcz⟩ := hc i hi
  exact ⟨z, hz, (World.cell?_of_block (w := u) (a := ⟨pb, off + i, none⟩) (Below.heap_setCell u q x pb (by omega))).trans hcz⟩
theorem ret_ivD {P : Program} {fn : Func} {R : Ending → World → Prop} {a : Act} {w : World} (h : ∃ x y : Int, (results fn a.tmps).run P w = .ok (ivV x y) w ∧ R (.returned (ivV x y)) w) (hd : a.defers = []) : bodyPost P fn R .ret a w := by
  obtain ⟨x, y, hr, hR⟩ := h
  exact ⟨hd, _, hr, hR⟩
theorem Only.setBox {b : Nat} {u v : World} (h : Only b u v) {q : Addr} (hq : u.heap.size ≤ q.block) (x : Value) : Only b u (v.setCell q x) := h.setCell (.inr hq) x
/-- an interval is drawn -/
def DrawnIv (b : Nat) (p : Option Addr) (n cap : Nat) (w : World) (e : Ending) (w' : World) : Prop :=
  ∃ x y : Int, e = .returned (ivV x y) ∧ Src b p n cap w' ∧ Only b w w'

theorem Bytes.alloc {w : World} {p : Option Addr} {n : Nat} (h : Bytes w p n) (o : Obj) : Bytes (w.alloc o) p n := h.keep ((Below.refl _ _).alloc (Nat.le_refl _) o)
theorem Only.endN {b k : Nat} {u v : World} (h : Only b u v) (e : b = u.heap.size + k) : Below u.heap.size u v := Only.below h (Below.refl _ _) (by omega)

theorem ret_iviD {P : Program} {fn : Func} {R : Ending → World → Prop} {a : Act} {w : World} (h : ∃ x y k : Int, (results fn a.tmps).run P w = .ok (.tuple #[ivV x y, .int .i64 k]) w ∧ R (.returned (.tuple #[ivV x y, .int .i64 k])) w) (hd : a.defers = []) : bodyPost P fn R .ret a w := by
  obtain ⟨x, y, k, hr, hR⟩ := h
  exact ⟨hd, _, hr, hR⟩

end Go.Proofs.YtfbfiikomlnllaaGreatDoor
