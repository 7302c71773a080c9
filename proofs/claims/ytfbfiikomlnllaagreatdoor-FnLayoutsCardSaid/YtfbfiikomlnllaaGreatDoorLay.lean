/- Contracts and lemmas for the proofs of this seat: Lay. -/
import Derived.Test.YtfbfiikomlnllaaGreatDoorBase
import Derived.Test.YtfbfiikomlnllaaGreatDoorNum
import Derived.Test.YtfbfiikomlnllaaGreatDoorIv
import Derived.Test.YtfbfiikomlnllaaGreatDoorIv2
import Derived.Test.YtfbfiikomlnllaaGreatDoorDiv
import Derived.Test.YtfbfiikomlnllaaGreatDoorRoot
import Derived.Test.YtfbfiikomlnllaaGreatDoorEn
import Derived.Test.YtfbfiikomlnllaaGreatDoorSeg
import Derived.Test.YtfbfiikomlnllaaGreatDoorList
import Derived.Lib.Hide
import Derived.BigQuiet
import Derived.Deep.QuietTactic
import Derived.Deep.OwnRows
import Derived.Deep.LoopGhost
import Derived.Deep.RegionHeld3
import Derived.Deep.DeepCutAuto
import Derived.StillTailTactics
import Derived.ProofKit
import Derived.OpenShut
import Derived.Lib.SmallJoins
import Derived.Deep.Slices
namespace Go.Proofs.YtfbfiikomlnllaaGreatDoor
open Go.RowKit Go.Deep
set_option maxHeartbeats 2000000
set_option linter.unusedVariables false
set_option linter.unusedSimpArgs false

attribute [local go_sem] lt_2 lt_3 lt_4 lt_5 lt_6
structure Seg where
  k : Int
  n : Int
  r : Int
  c : Int
  d : Int
  e : Int
  f : Int
instance : Inhabited Seg := ⟨⟨0, 0, 0, 0, 0, 0, 0⟩⟩
def sg (zs : List Seg) (i : Nat) : Seg := zs.getD i default
def Seg.ok (s : Seg) : Bool := segOk s.k s.n s.r s.c s.d s.e s.f
abbrev Seg.val (s : Seg) : Value := segV s.k s.n s.r s.c s.d s.e s.f
def SegAt (w : World) (b o : Nat) (s : Seg) : Prop := w.cell? ⟨b, o, none⟩ = some (.int .i64 s.k) ∧ w.cell? ⟨b, o + 1, none⟩ = some (.int .i64 s.n) ∧ w.cell? ⟨b, o + 2, none⟩ = some (.int .i64 s.r) ∧ w.cell? ⟨b, o + 3, none⟩ = some (.int .i64 s.c) ∧ w.cell? ⟨b, o + 4, none⟩ = some (.int .i64 s.d) ∧ w.cell? ⟨b, o + 5, none⟩ = some (.int .i64 s.e) ∧ w.cell? ⟨b, o + 6, none⟩ = some (.int .i64 s.f)
/-- a slice of segments -/
def Segs (w : World) (p : Option Addr) (n : Nat) (zs : List Seg) : Prop :=
  zs.length = n ∧ n ≤ maxLen ∧ (0 < n → ∃ b off, p = some ⟨b, off, none⟩ ∧ b < w.heap.size ∧ ∀ i, i < n → SegAt w b (off + i * 7) (sg zs i))
theorem SegAt.keep {w w' : World} {b o : Nat} {s : Seg} (h : SegAt w b o s) (hb : w'.heap[b]? = w.heap[b]?) : SegAt w' b o s := by
  obtain ⟨c0, c1, c2, c3, c4, c5, c6⟩ := h
  have k : ∀ o, w'.cell? ⟨b, o, none⟩ = w.cell? ⟨b, o, none⟩ := fun o => World.cell?_of_block (w := w) (a := ⟨b, o, none⟩) hb
  exact ⟨(k _).trans c0, (k _).trans c1, (k _).trans c2, (k _).trans c3, (k _).trans c4, (k _).trans c5, (k _).trans c6⟩
theorem Segs.keep {w w' : World} {p : Option Addr} {n : Nat} {zs : List Seg} (h : Segs w p n zs) (hb : Below w.heap.size w w') : Segs w' p n zs := by
  refine ⟨h.1, h.2.1, fun hp => ?_⟩
  obtain ⟨b, off, e, hl, hc⟩ := h.2.2 hp
  exact ⟨b, off, e, Nat.lt_of_lt_of_le hl hb.size, fun i hi => (hc i hi).keep (hb.block b hl)⟩
theorem Segs.own {w w' : World} {p : Option Addr} {n : Nat} {zs : List Seg} (h : Segs w p n zs) (hb : Own w w') : Segs w' p n zs := h.keep hb
def AllOk (zs : List Seg) (k : Nat) : Prop := ∀ i, i < k → (sg zs i).ok = true
def preN (zs : List Seg) : Nat → Int
  | 0 => 0
  | k + 1 => preN zs k + (sg zs k).n
def preR (zs : List Seg) : Nat → Int
  | 0 => 0
  | k + 1 => preR zs k + (sg zs k).r
def totN (zs : List Seg) : Int := preN zs zs.length
def LayOk (zs : List Seg) : Prop := 3 ≤ zs.length ∧ zs.length ≤ 24 ∧ (∀ i, i < zs.length → (sg zs i).ok = true) ∧ preR zs zs.length = 0 ∧ (sg zs (zs.length - 1)).k = 4
def layOk (zs : List Seg) : Bool := decide (3 ≤ zs.length ∧ zs.length ≤ 24 ∧ (∀ i, i < zs.length → (sg zs i).ok = true) ∧ preR zs zs.length = 0 ∧ (sg zs (zs.length - 1)).k = 4)
theorem layOk_iff {zs : List Seg} : layOk zs = true ↔ LayOk zs := by unfold layOk LayOk; exact decide_eq_true_iff
theorem layOk_false {zs : List Seg} (h : ¬ LayOk zs) : layOk zs = false := by
  cases e : layOk zs
  · rfl
  · exact absurd (layOk_iff.1 e) h
theorem AllOk.zero (zs : List Seg) : AllOk zs 0 := fun i hi => by omega
theorem AllOk.step {zs : List Seg} {k : Nat} (h : AllOk zs k) (h1 : (sg zs k).ok = true) : AllOk zs (k + 1) := fun i hi => by
  by_cases e : i = k
  · subst e; exact h1
  · exact h i (by omega)
theorem ok_bd {s : Seg} (h : s.ok = true) : (0 ≤ s.k ∧ s.k ≤ 4) ∧ (1 ≤ s.n ∧ s.n ≤ 200000) ∧ (-100000 ≤ s.r ∧ s.r ≤ 100000) ∧ (-s.n ≤ s.r ∧ s.r ≤ s.n) ∧ (0 ≤ s.c ∧ s.c ≤ s.d ∧ s.d ≤ 20000) ∧ (0 ≤ s.e ∧ s.e ≤ s.f ∧ s.f ≤ 20000) := segOk_bd h
theorem preN_bd {zs : List Seg} : ∀ {k : Nat}, AllOk zs k → (k : Int) ≤ preN zs k ∧ preN zs k ≤ 200000 * k := by
  intro k
  induction k with
  | zero => intro _; simp [preN]
  | succ k ih =>
    intro h
    have h1 := ih (fun i hi => h i (by omega))
    have h2 := ok_bd (h k (by omega))
    simp only [preN]
    omega
theorem preR_bd {zs : List Seg} : ∀ {k : Nat}, AllOk zs k → -(100000 * (k : Int)) ≤ preR zs k ∧ preR zs k ≤ 100000 * k := by
  intro k
  induction k with
  | zero => intro _; simp [preR]
  | succ k ih =>
    intro h
    have h1 := ih (fun i hi => h i (by omega))
    have h2 := ok_bd (h k (by omega))
    simp only [preR]
    omega
theorem preN_lt {zs : List Seg} {i j : Nat} (h : AllOk zs j) (hi : i < j) : preN zs i < preN zs j := by
  induction j with
  | zero => omega
  | succ j ih =>
    have h2 := ok_bd (h j (by omega))
    simp only [preN]
    by_cases e : i = j
    · subst e; omega
    · have := ih (fun i hi => h i (by omega)) (by omega)
      omega
theorem lay_bd {zs : List Seg} (h : LayOk zs) : AllOk zs zs.length ∧ 3 ≤ totN zs ∧ totN zs ≤ 4800000 := by
  obtain ⟨h1, h2, h3, _, _⟩ := h
  have h4 : AllOk zs zs.length := h3
  have h5 := preN_bd h4
  refine ⟨h4, ?_, ?_⟩ <;> unfold totN <;> omega
/-- a row of segments of the call's own -/
def cellOf (s : Seg) : Nat → Int
  | 0 => s.k
  | 1 => s.n
  | 2 => s.r
  | 3 => s.c
  | 4 => s.d
  | 5 => s.e
  | _ => s.f
def segRow (zs : List Seg) (k : Nat) (j : Nat) : Value := .int .i64 (if j / 7 < k then cellOf (sg zs (j / 7)) (j % 7) else 0)
theorem segs_of_row {w : World} {g : Nat} {t : TypeId} {n : Nat} {zs : List Seg} (h : w.rowIs g t (n * 7) (segRow zs n)) (hz : zs.length = n) (hn : n ≤ maxLen) : Segs w (some ⟨g, 0, none⟩) n zs := by
  refine ⟨hz, hn, fun _ => ⟨g, 0, rfl, h.lt, fun i hi => ?_⟩⟩
  have key : ∀ j, j < 7 → w.cell? ⟨g, 0 + i * 7 + j, none⟩ = some (.int .i64 (cellOf (sg zs i) j)) := fun j hj => by
    have hc := h.cell (i := i * 7 + j) (by omega)
    have e1 : (i * 7 + j) / 7 = i := by omega
    have e2 : (i * 7 + j) % 7 = j := by omega
    rw [Nat.zero_add, hc]
    simp only [segRow, e1, e2, if_pos hi]
  exact ⟨key 0 (by omega), key 1 (by omega), key 2 (by omega), key 3 (by omega), key 4 (by omega), key 5 (by omega), key 6 (by omega)⟩
theorem seg_step {w : World} {g : Nat} {t : TypeId} {n k : Nat} {zs : List Seg} (h : w.rowIs g t (n * 7) (segRow zs k)) :
    (((((((w.setCell ⟨g, k * 7, none⟩ (.int .i64 (sg zs k).k)).setCell ⟨g, k * 7 + 1, none⟩ (.int .i64 (sg zs k).n)).setCell ⟨g, k * 7 + 2, none⟩ (.int .i64 (sg zs k).r)).setCell ⟨g, k * 7 + 3, none⟩ (.int .i64 (sg zs k).c)).setCell ⟨g, k * 7 + 4, none⟩ (.int .i64 (sg zs k).d)).setCell ⟨g, k * 7 + 5, none⟩ (.int .i64 (sg zs k).e)).setCell ⟨g, k * 7 + 6, none⟩ (.int .i64 (sg zs k).f)).rowIs g t (n * 7) (segRow zs (k + 1)) := by
  refine (((((((h.set (k * 7) _).set (k * 7 + 1) _).set (k * 7 + 2) _).set (k * 7 + 3) _).set (k * 7 + 4) _).set (k * 7 + 5) _).set (k * 7 + 6) _).congr fun j hj => ?_
  by_cases e : j / 7 = k
  · have hj' : j % 7 < 7 := Nat.mod_lt _ (by omega)
    have hd : j = k * 7 + j % 7 := by omega
    generalize j % 7 = m at hd hj'
    subst hd
    have e1 : (k * 7 + m) / 7 = k := by omega
    have e2 : (k * 7 + m) % 7 = m := by omega
    simp only [segRow, e1, e2]
    match m, hj' with
    | 0, _ => simp [cellOf]
    | 1, _ => simp [cellOf]
    | 2, _ => simp [cellOf]
    | 3, _ => simp [cellOf]
    | 4, _ => simp [cellOf]
    | 5, _ => simp [cellOf]
    | 6, _ => simp [cellOf]
  · rw [if_neg (by omega), if_neg (by omega), if_neg (by omega), if_neg (by omega), if_neg (by omega), if_neg (by omega), if_neg (by omega)]
    simp only [segRow]
    by_cases c : j / 7 < k
    · rw [if_pos c, if_pos (by omega)]
    · rw [if_neg c, if_neg (by omega)]
theorem madeCells7 (n : Nat) : ∀ i, i < n * 7 → (madeCells #[Value.int IntKind.i64 0, Value.int IntKind.i64 0, Value.int IntKind.i64 0, Value.int IntKind.i64 0, Value.int IntKind.i64 0, Value.int IntKind.i64 0, Value.int IntKind.i64 0] (n * 7))[i]? = some (.int .i64 0) := by
  intro i hi
  have hm : i % 7 < 7 := Nat.mod_lt _ (by omega)
  simp only [madeCells, Array.getElem?_map, Array.getElem?_range, hi, if_true, Option.map_some]
  congr 1
  have : (#[Value.int IntKind.i64 0, Value.int IntKind.i64 0, Value.int IntKind.i64 0, Value.int IntKind.i64 0, Value.int IntKind.i64 0, Value.int IntKind.i64 0, Value.int IntKind.i64 0] : Array Value).size = 7 := rfl
  rw [this]
  generalize i % 7 = m at hm
  match m, hm with
  | 0, _ => rfl
  | 1, _ => rfl
  | 2, _ => rfl
  | 3, _ => rfl
  | 4, _ => rfl
  | 5, _ => rfl
  | 6, _ => rfl

theorem l_eqInterval_x (al ah : Int) (w : World) : Calls Tryz.prog 63 #[ivV al ah, ivV al ah] w fun en w' => en = .returned (.bool true) ∧ ((w.alloc (Obj.cells #[Value.int IntKind.i64 al, Value.int IntKind.i64 ah] 39)).alloc (Obj.cells #[Value.int IntKind.i64 al, Value.int IntKind.i64 ah] 39)) = w' := by
  go_enter Tryz.func63, Tryz.ntmps63
  go_wp2
  go_ret
  exact ⟨rfl, rfl⟩
theorem l_eqSegment (s : Seg) (w : World) : Calls Tryz.prog 45 #[segV s.k s.n s.r s.c s.d s.e s.f, segV s.k s.n s.r s.c s.d s.e s.f] w fun en w' => en = .returned (.bool true) ∧ Below w.heap.size w w' := by
  obtain ⟨k, n, r, c, d, e, f⟩ := s
  go_enter Tryz.func45, Tryz.ntmps45
  go_wp2_with (go_at_call 63; refine (l_eqInterval_x _ _ _).mono ?_; rintro e w' ⟨rfl, rfl⟩)
  go_ret
  exact ⟨rfl, by repeat (first | exact Below.refl _ _ | refine balloc ?_ _ | refine Below.drew ?_ | refine bdrewN ?_ _ | refine bto ?_ (Own.below (by assumption)) | refine bset ?_ (by first | (simp; done) | (simp; omega) | exact Own.le_w (by assumption) (by first | (simp; done) | (simp; omega))) _)⟩

set_option maxRecDepth 100000 in
theorem l_eqSegmentS (p q : Option Addr) (n c1 c2 : Nat) (zs : List Seg) (w : World) (hp : Segs w p n zs) (hq : Segs w q n zs) :
    Calls Tryz.prog 26 #[.slice p n c1, .slice q n c2] w fun en w' => en = .returned (.bool true) ∧ Below w.heap.size w w' := by
  have hn := hp.2.1
  unfold maxLen at hn
  go_enter Tryz.func26, Tryz.ntmps26
  go_wp2
  go_loopw [5] (fun i wr => ∃ k : Nat, k ≤ n ∧ i = .int .i64 k ∧ Own w wr) (fun i _ => n - (intOf i).toNat)
  case atStart => exact ⟨0, Nat.zero_le _, rfl, Own.start _⟩
  case round =>
    obtain ⟨k, hk, rfl, hown⟩ := hrel
    by_cases hlt : k < n
    · obtain ⟨b, off, rfl, hlb, hc⟩ := (hp.own hown).2.2 (by omega)
      obtain ⟨b2, off2, rfl, hlb2, hc2⟩ := (hq.own hown).2.2 (by omega)
      obtain ⟨c0, c1, c2, c3, c4, c5, c6⟩ := hc k hlt
      obtain ⟨d0, d1, d2, d3, d4, d5, d6⟩ := hc2 k hlt
      have hlen : (k : Int) < n := by omega
      obtain ⟨wA, rfl⟩ : ∃ wA : World, wA = wr := ⟨_, rfl⟩
      have HO := Lib.hid hown
      have Hp := Lib.hid hp
      have Hq := Lib.hid hq
      obtain ⟨s, hs⟩ : ∃ s, s = sg zs k := ⟨_, rfl⟩
      rw [← hs] at c0 c1 c2 c3 c4 c5 c6 d0 d1 d2 d3 d4 d5 d6
      clear hc hc2 hp hq hown hs
      go_wp2
      go_still_tail 8, (by kernel_rfl)
      change wpList _ _ _ _ _ wA.drew
      go_wp2_with fail
      refine (l_eqSegment s _).mono ?_
      rintro e w1 ⟨rfl, hb⟩
      have HB := Lib.hid hb
      clear hb
      go_wp2
      go_roundw
      case rel => exact ⟨k + 1, by omega, by go_num, HO.out.drew.join HB.out⟩
      case measure => simp [intOf]; omega
    · obtain rfl : k = n := by omega
      clear hp hq
      go_wp2
      go_ret
      exact ⟨rfl, hown.below⟩

theorem l_eqLayout (p q : Option Addr) (n c1 c2 : Nat) (zs : List Seg) (w : World) (hp : Segs w p n zs) (hq : Segs w q n zs) :
    Calls Tryz.prog 7 #[.agg #[.slice p n c1], .agg #[.slice q n c2]] w fun en w' => en = .returned (.bool true) ∧ Below w.heap.size w w' := by
  have hp' := Lib.hid (hp.keep (((Below.refl _ _).alloc (Nat.le_refl _) (Obj.cells #[.slice p n c1] 24)).alloc (by simp) (Obj.cells #[.slice q n c2] 24)))
  have hq' := Lib.hid (hq.keep (((Below.refl _ _).alloc (Nat.le_refl _) (Obj.cells #[.slice p n c1] 24)).alloc (by simp) (Obj.cells #[.slice q n c2] 24)))
  clear hp hq
  go_enter Tryz.func7, Tryz.ntmps7
  go_wp2_with fail
  refine (l_eqSegmentS p q n c1 c2 zs _ hp'.out hq'.out).mono ?_
  rintro e w1 ⟨rfl, hb⟩
  go_wp2
  go_ret
  exact ⟨rfl, bto (balloc (balloc (Below.refl _ _) _) _) hb⟩

section
open Go.ChangeShapes Go.WideShapes Go.ChangeAt Go.Joins Go.Deep
variable {H : Type} {enc : TypeId × Value → H} {P : Program} {w : World} {base : Nat} {spare : Nat → Bool} {held : Bool}
theorem addr_add (a : Addr) (i : Nat) : (a.add i).block = a.block := by unfold Addr.add; split <;> rfl
theorem open_segs {tl ts ti tv : TypeId} {f0 f1 f2 f3 f4 v0 v1 : Field} {fuel : Nat} {cs : List Value} {x : DataW H × List MemPlace} (hl : P.underlying tl = some (.slice ts))
    (hs : P.underlying ts = some (.struct #[f0, f1, f2, f3, f4])) (hty : (f0.type, f1.type, f2.type, f3.type, f4.type) = (ti, ti, ti, tv, tv)) (hof : (f0.offset, f1.offset, f2.offset, f3.offset, f4.offset) = (0, 1, 2, 3, 5))
    (hC : P.cellsOf ts = 7) (hi1 : P.cellsOf ti = 1) (hv2 : P.cellsOf tv = 2) (hsv : P.underlying tv = some (.struct #[v0, v1])) (hone : oneCellFields P #[v0, v1] = true)
    (hv0 : v0.type = ti) (hv1 : v1.type = ti) (hti : P.underlying ti = some (.int .i64)) (h : DataW.trod enc P w base spare held fuel tl cs = some x) :
    ∃ (p : Option Addr) (n cap : Nat) (zs : List Seg), cs = [.slice p n cap] ∧ Segs w p n zs := by
  rcases open_slice hl h with ⟨hcs, _⟩ | ⟨a, len, cap, m, n, D, Pl, hcs, _, hlc, hcm, hm, _, hi⟩
  · exact ⟨none, 0, 0, [], hcs, rfl, by unfold maxLen; omega, fun h => by omega⟩
  · have hlm : len ≤ m := by rw [hm]; split <;> omega
    have key : ∀ i, i < len → ∃ s : Seg, ∀ j, j < 7 → w.cell? ((a.add (i * 7)).add j) = some (.int .i64 (cellOf s j)) := fun i hil => by
      obtain ⟨cs', hc, ht⟩ := hi i (by omega)
      rw [hC] at hc
      obtain ⟨_, _, hat⟩ := World.cells?_some hc
      obtain ⟨k, n', r, c, d, e, f, rfl, _⟩ := trod_seg hs hty hof hC hi1 hv2 hsv hone hv0 hv1 hti ht
      refine ⟨⟨k, n', r, c, d, e, f⟩, fun j hj => ?_⟩
      rw [hat j hj]
      match j, hj with
      | 0, _ => rfl
      | 1, _ => rfl
      | 2, _ => rfl
      | 3, _ => rfl
      | 4, _ => rfl
      | 5, _ => rfl
      | 6, _ => rfl
    have hz : ∃ zs : List Seg, zs.length = len ∧ ∀ i, i < len → ∀ j, j < 7 → w.cell? ((a.add (i * 7)).add j) = some (.int .i64 (cellOf (sg zs i) j)) := by
      refine ⟨(List.range len).map fun i => if h : i < len then Classical.choose (key i h) else default, by simp, fun i hi => ?_⟩
      have h := Classical.choose_spec (key i hi)
      simpa [sg, List.getD_eq_getElem?_getD, hi] using h
    obtain ⟨zs, hzl, hc⟩ := hz
    refine ⟨some a, len, cap, zs, hcs, hzl, by omega, fun hp => ?_⟩
    obtain ⟨b, off, spot⟩ := a
    have h0 := hc 0 hp 0 (by omega)
    have hspot : spot = none := by simpa [Addr.add] using World.cell?_spot h0
    subst hspot
    have hadd : ∀ i j, ((⟨b, off, none⟩ : Addr).add (i * 7)).add j = ⟨b, off + i * 7 + j, none⟩ := fun i j => by
      rw [Go.Deep.add_add]
      unfold Addr.add
      split
      · first | (simp; done) | (simp; omega)
      · first | (simp; done) | (simp; omega)
    simp only [hadd] at hc h0
    refine ⟨b, off, rfl, World.block_lt_of_cell? w _ h0, fun i hi => ?_⟩
    have h := hc i hi
    exact ⟨h 0 (by omega), h 1 (by omega), h 2 (by omega), h 3 (by omega), h 4 (by omega), h 5 (by omega), h 6 (by omega)⟩
theorem open_lay {r : Reach} {b0 : Nat} {t tl ts ti tv : TypeId} {g0 f0 f1 f2 f3 f4 v0 v1 : Field} {v : Value} {d : DataW H} {p : List MemPlace} (hg : P.underlying t = some (.struct #[g0])) (hgt : g0.type = tl) (hgo : g0.offset = 0) (hgC : P.cellsOf t = 1) (hlC : P.cellsOf tl = 1)
    (hl : P.underlying tl = some (.slice ts))
    (hs : P.underlying ts = some (.struct #[f0, f1, f2, f3, f4])) (hty : (f0.type, f1.type, f2.type, f3.type, f4.type) = (ti, ti, ti, tv, tv)) (hof : (f0.offset, f1.offset, f2.offset, f3.offset, f4.offset) = (0, 1, 2, 3, 5))
    (hC : P.cellsOf ts = 7) (hi1 : P.cellsOf ti = 1) (hv2 : P.cellsOf tv = 2) (hsv : P.underlying tv = some (.struct #[v0, v1])) (hone : oneCellFields P #[v0, v1] = true)
    (hv0 : v0.type = ti) (hv1 : v1.type = ti) (hti : P.underlying ti = some (.int .i64)) (hv : Value.okWide P w r b0 t v) (h : DataW.Trod enc P w base spare held t v d p) :
    ∃ (q : Option Addr) (n cap : Nat) (zs : List Seg), v = .agg #[.slice q n cap] ∧ Segs w q n zs := by
  obtain ⟨⟨l⟩, rfl, hsz⟩ := okWide_struct hg hv
  obtain ⟨fuel, hf⟩ := h
  obtain ⟨y0, n, _, hlen, k0⟩ := trod_struct1 hg hf
  rw [hgC] at hlen
  match l, hlen with
  | [c], _ =>
    rw [hgo, hgt, hlC] at k0
    obtain ⟨q, m, cap, zs, hcs, hsg⟩ := open_segs hl hs hty hof hC hi1 hv2 hsv hone hv0 hv1 hti k0
    simp [Value.cells] at hcs
    exact ⟨q, m, cap, zs, by rw [hcs], hsg⟩
end

end Go.Proofs.YtfbfiikomlnllaaGreatDoor
