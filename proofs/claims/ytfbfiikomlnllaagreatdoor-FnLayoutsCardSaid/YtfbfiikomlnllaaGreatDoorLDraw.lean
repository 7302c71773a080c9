/- Contracts and lemmas for the proofs of this seat: LDraw. -/
import Derived.Test.YtfbfiikomlnllaaGreatDoorDRow
import Derived.Test.YtfbfiikomlnllaaGreatDoorDraw3
import Derived.Test.YtfbfiikomlnllaaGreatDoorDraw2
import Derived.Test.YtfbfiikomlnllaaGreatDoorDraw
import Derived.Test.YtfbfiikomlnllaaGreatDoorBase
import Derived.Test.YtfbfiikomlnllaaGreatDoorNum
import Derived.Test.YtfbfiikomlnllaaGreatDoorIv
import Derived.Test.YtfbfiikomlnllaaGreatDoorIv2
import Derived.Test.YtfbfiikomlnllaaGreatDoorRoot
import Derived.Test.YtfbfiikomlnllaaGreatDoorEn
import Derived.Test.YtfbfiikomlnllaaGreatDoorSeg
import Derived.Test.YtfbfiikomlnllaaGreatDoorList
import Derived.Test.YtfbfiikomlnllaaGreatDoorLay
import Derived.Test.YtfbfiikomlnllaaGreatDoorLay2
import Derived.Test.YtfbfiikomlnllaaGreatDoorLay3
import Derived.Lib.Hide
import Derived.BigQuiet
import Derived.Deep.QuietTactic
import Derived.Deep.OwnRows
import Derived.Deep.LoopGhost
import Derived.OneCell
import Derived.Lib.SmallJoins
import Derived.StillTailTactics
import Derived.RangeFuncBox
import Derived.Deep.RegionHeld3
import Derived.Deep.DeepCutAuto
namespace Go.Proofs.YtfbfiikomlnllaaGreatDoor
open Go.RowKit Go.Deep
set_option maxHeartbeats 2000000
set_option linter.unusedVariables false
set_option linter.unusedSimpArgs false

theorem list_news (w : World) (l : List Value) (t : TypeId) : ∀ j u, l[j]? = some u → (w.alloc (.cells l.toArray t)).cell? ((⟨w.heap.size, 0, none⟩ : Addr).add j) = some u := by
  intro j u hj
  have e : (⟨w.heap.size, 0, none⟩ : Addr).add j = ⟨w.heap.size, j, none⟩ := by unfold Addr.add; split <;> simp_all
  rw [e, World.cell?_alloc_new]
  simpa using hj
section
variable {W W' : World} {B m sz : Nat} {t : TypeId} {v : Value}
theorem Row.grownL (zs xs : List Int) {g c k : Nat} (h : W.ownsRow B t sz (.slice (some ⟨g, 0, none⟩) (m + k) c) (m + k) (zs.map (Value.int .i64) ++ xs.map (Value.int .i64))) : Row W B t sz (.slice (some ⟨g, 0, none⟩) (m + k) c) (m + k) :=
  ⟨zs ++ xs, by simpa using h⟩
theorem Row.mono {B' : Nat} (h : Row W B t sz v m) (hB : B' ≤ B) : Row W B' t sz v m := by
  obtain ⟨zs, h1, h2⟩ := h
  refine ⟨zs, h1, ?_⟩
  rcases h2 with h2 | ⟨g, cap, cur, e, hg, r⟩
  · exact .inl h2
  · exact .inr ⟨g, cap, cur, e, Nat.le_trans hB hg, r⟩
/-- a store of an integer keeps every row -/
theorem Row.set (h : Row W B t sz v m) (qb qo : Nat) (x : Int) : Row (W.setCell ⟨qb, qo, none⟩ (.int .i64 x)) B t sz v m := by
  obtain ⟨zs, h1, h2⟩ := h
  rcases h2 with h2 | ⟨g, cap, cur, e, hB, hg, h3, h4, h5, h6⟩
  · exact ⟨zs, h1, .inl h2⟩
  · by_cases hq : qb = g
    · subst hq
      refine ⟨zs.set qo x, by simpa using h1, .inr ⟨qb, cap, cur.setIfInBounds qo (.int .i64 x), e, hB, ?_, h3, h4, by simpa using h5, ?_⟩⟩
      · simpa using Go.Joins.block_setCell hg (i := qo) (.int .i64 x)
      · rw [Array.toList_setIfInBounds, List.take_set, h6, List.map_set]
    · exact ⟨zs, h1, .inr ⟨g, cap, cur, e, hB, (Below.heap_setCell W _ _ g (by simpa using Ne.symm hq)).trans hg, h3, h4, h5, h6⟩⟩
theorem Row.capm {g c : Nat} (h : Row W B t sz (.slice (some ⟨g, 0, none⟩) m c) m) : m ≤ c ∧ c ≤ maxLen := by
  obtain ⟨zs, h1, h2⟩ := h
  rcases h2 with ⟨h2, _⟩ | ⟨g', cap, cur, e, hB, hg, h3, h4, h5, h6⟩
  · cases h2
  · simp only [Value.slice.injEq, Option.some.injEq, Addr.mk.injEq, and_true, true_and] at e
    obtain ⟨rfl, rfl⟩ := e
    exact ⟨h3, h4⟩
theorem Row.base {g c : Nat} (h : Row W B t sz (.slice (some ⟨g, 0, none⟩) m c) m) : B ≤ g := by
  obtain ⟨zs, h1, h2⟩ := h
  rcases h2 with ⟨h2, _⟩ | ⟨g', cap, cur, e, hB, hg, h3, h4, h5, h6⟩
  · cases h2
  · simp only [Value.slice.injEq, Option.some.injEq, Addr.mk.injEq, and_true, true_and] at e
    obtain ⟨rfl, rfl⟩ := e
    exact hB
theorem Row.made (W : World) (B : Nat) (t : TypeId) (n : Nat) (hn : n ≤ maxLen) (hB : B ≤ W.heap.size) : Row (W.alloc (.cells (madeCells #[Value.int IntKind.i64 0, Value.int IntKind.i64 0, Value.int IntKind.i64 0, Value.int IntKind.i64 0, Value.int IntKind.i64 0, Value.int IntKind.i64 0, Value.int IntKind.i64 0] (n * 7)) t)) B t 7 (.slice (some ⟨W.heap.size, 0, none⟩) n n) n := by
  refine ⟨List.replicate (n * 7) 0, by simp, .inr ⟨W.heap.size, n, _, rfl, hB, World.alloc_heap_new W _, Nat.le_refl _, hn, by rw [size_madeCells], ?_⟩⟩
  apply List.ext_getElem?
  intro i
  rw [List.getElem?_take]
  by_cases hi : i < n * 7
  · rw [if_pos hi]
    have h := madeCells7 n i hi
    simp [hi, h]
  · rw [if_neg hi]
    simp [hi]
theorem Row.take {g c k : Nat} (h : Row W B t sz (.slice (some ⟨g, 0, none⟩) m c) m) (hk : k ≤ m) : Row W B t sz (.slice (some ⟨g, 0, none⟩) k c) k := by
  obtain ⟨zs, h1, h2⟩ := h
  simp only [List.length_map] at h1
  have hkm := Nat.mul_le_mul_right sz hk
  rcases h2 with ⟨h2, _⟩ | ⟨g', cap, cur, e, hB, hg, h3, h4, h5, h6⟩
  · cases h2
  · simp only [Value.slice.injEq, Option.some.injEq, Addr.mk.injEq, and_true, true_and] at e
    obtain ⟨rfl, rfl⟩ := e
    refine ⟨zs.take (k * sz), by simp; omega, .inr ⟨g, c, cur, rfl, hB, hg, by omega, h4, h5, ?_⟩⟩
    rw [List.map_take, ← h6, List.take_take]
    congr 1
    omega
theorem Row.cell7 {g c : Nat} (h : Row W B t 7 (.slice (some ⟨g, 0, none⟩) m c) m) {i : Nat} (hi : i < m * 7) : (∃ x : Int, W.cell? ⟨g, i, none⟩ = some (.int .i64 x)) ∧ W.frozen? ⟨g, i, none⟩ = false := by
  obtain ⟨zs, h1, h2⟩ := h
  simp only [List.length_map] at h1
  rcases h2 with ⟨h2, _⟩ | ⟨g', cap, cur, e, hB, hg, h3, h4, h5, h6⟩
  · cases h2
  · simp only [Value.slice.injEq, Option.some.injEq, Addr.mk.injEq, and_true, true_and] at e
    obtain ⟨rfl, rfl⟩ := e
    have e : cur.toList[i]? = (zs.map (Value.int .i64))[i]? := by rw [← h6, List.getElem?_take, if_pos hi]
    rw [List.getElem?_map, List.getElem?_eq_getElem (show i < zs.length by omega)] at e
    exact ⟨⟨_, by simp only [World.cell?, hg]; simpa using e⟩, by simp [World.frozen?, hg]⟩
theorem Row.segs (h : Row W B t 7 v m) (hm : m ≤ maxLen) : ∃ p c zs, v = .slice p m c ∧ m ≤ c ∧ Segs W p m zs ∧ ∀ g o, p = some ⟨g, o, none⟩ → B ≤ g := by
  obtain ⟨zs, h1, h2⟩ := h
  simp only [List.length_map] at h1
  rcases h2 with ⟨rfl, rfl⟩ | ⟨g, cap, cur, rfl, hB, hg, h3, h4, h5, h6⟩
  · exact ⟨none, 0, [], rfl, Nat.le_refl _, ⟨rfl, by omega, fun h => absurd h (by omega)⟩, fun g o h => by simp at h⟩
  · have hc : ∀ i, i < m * 7 → W.cell? ⟨g, i, none⟩ = some (.int .i64 (zs.getD i 0)) := by
      intro i hi
      have e : cur.toList[i]? = (zs.map (Value.int .i64))[i]? := by rw [← h6, List.getElem?_take, if_pos hi]
      rw [List.getElem?_map, List.getElem?_eq_getElem (show i < zs.length by omega)] at e
      simp only [World.cell?, hg]
      simp [List.getD_eq_getElem?_getD, List.getElem?_eq_getElem (show i < zs.length by omega)]
      simpa using e
    refine ⟨_, cap, (List.range m).map fun i => ⟨zs.getD (i * 7) 0, zs.getD (i * 7 + 1) 0, zs.getD (i * 7 + 2) 0, zs.getD (i * 7 + 3) 0, zs.getD (i * 7 + 4) 0, zs.getD (i * 7 + 5) 0, zs.getD (i * 7 + 6) 0⟩, rfl, h3, ⟨by simp, hm, fun _ => ⟨g, 0, rfl, (Array.getElem?_eq_some_iff.1 hg).1, fun i hi => ?_⟩⟩, fun g' o h => by simp at h; omega⟩
    have es : sg ((List.range m).map fun i => (⟨zs.getD (i * 7) 0, zs.getD (i * 7 + 1) 0, zs.getD (i * 7 + 2) 0, zs.getD (i * 7 + 3) 0, zs.getD (i * 7 + 4) 0, zs.getD (i * 7 + 5) 0, zs.getD (i * 7 + 6) 0⟩ : Seg)) i = ⟨zs.getD (i * 7) 0, zs.getD (i * 7 + 1) 0, zs.getD (i * 7 + 2) 0, zs.getD (i * 7 + 3) 0, zs.getD (i * 7 + 4) 0, zs.getD (i * 7 + 5) 0, zs.getD (i * 7 + 6) 0⟩ := by
      unfold sg
      rw [List.getD_eq_getElem?_getD]
      simp [hi]
    rw [es]
    simp only [Nat.zero_add]
    exact ⟨hc _ (by omega), hc _ (by omega), hc _ (by omega), hc _ (by omega), hc _ (by omega), hc _ (by omega), hc _ (by omega)⟩
end
/-- the box of a result: one cell, whatever it holds -/
def One (W : World) (k : Nat) (t : TypeId) : Prop := ∃ v, W.heap[k]? = some (.cells #[v] t (0, 0))
theorem One.lt {W : World} {k : Nat} {t : TypeId} (h : One W k t) : k < W.heap.size := by
  obtain ⟨v, h⟩ := h
  exact (Array.getElem?_eq_some_iff.1 h).1
theorem One.block {W W' : World} {k : Nat} {t : TypeId} (h : One W k t) (hb : W'.heap[k]? = W.heap[k]?) : One W' k t := by
  obtain ⟨v, h⟩ := h
  exact ⟨v, hb.trans h⟩
theorem One.alloc {W : World} {k : Nat} {t : TypeId} (h : One W k t) (o : Obj) : One (W.alloc o) k t := h.block (((Below.refl _ _).alloc (Nat.le_refl _) o).block k h.lt)
theorem One.drew {W : World} {k : Nat} {t : TypeId} (h : One W k t) : One W.drew k t := h
theorem One.drewN {W : World} {k : Nat} {t : TypeId} (h : One W k t) (n : Nat) : One (W.drewN n) k t := h
theorem One.set {W : World} {k : Nat} {t : TypeId} (h : One W k t) {q : Addr} (hq : q.block ≠ k) (x : Value) : One (W.setCell q x) k t := h.block (Below.heap_setCell W q x k (Ne.symm hq))
theorem One.only {W W' : World} {k b : Nat} {t : TypeId} (h : One W k t) (hO : Only b W W') (hne : k ≠ b) : One W' k t := h.block (hO.block k h.lt hne)
theorem One.row {W W' : World} {k B : Nat} {t : TypeId} (h : One W k t) (hB : Below B W W') (hk : k < B) : One W' k t := h.block (hB.block k hk)
theorem One.cell {W : World} {k : Nat} {t : TypeId} (h : One W k t) : (∃ v, W.cell? ⟨k, 0, none⟩ = some v) ∧ W.frozen? ⟨k, 0, none⟩ = false := by
  obtain ⟨v, h⟩ := h
  exact ⟨⟨v, by simp [World.cell?, h]⟩, by simp [World.frozen?, h]⟩

structure Ls (b : Nat) (p : Option Addr) (n cap : Nat) (w W : World) (ks : List (Nat × Nat)) (v : Value) (m : Nat) : Prop where
  dw : Dw b p n cap w W ks
  row : Row W (w.heap.size + 1) 41 7 v m
  one : One W w.heap.size 24
section
variable {b : Nat} {p : Option Addr} {n cap : Nat} {w W : World} {ks : List (Nat × Nat)} {v : Value} {m : Nat}
theorem Ls.alloc (h : Ls b p n cap w W ks v m) (o : Obj) : Ls b p n cap w (W.alloc o) ks v m := ⟨h.dw.alloc o, h.row.alloc o, h.one.alloc o⟩
theorem Ls.drew (h : Ls b p n cap w W ks v m) : Ls b p n cap w W.drew ks v m := ⟨h.dw.drew, h.row, h.one⟩
theorem Ls.drewN (h : Ls b p n cap w W ks v m) (k : Nat) : Ls b p n cap w (W.drewN k) ks v m := ⟨h.dw.drewN k, h.row, h.one⟩
theorem Ls.set (h : Ls b p n cap w W ks v m) {k i : Nat} (hq : w.heap.size < k) (hne : k ≠ b) (x : Int) : Ls b p n cap w (W.setCell ⟨k, i, none⟩ (.int .i64 x)) ks v m :=
  ⟨h.dw.set (q := ⟨k, i, none⟩) (Nat.le_of_lt hq) hne x, h.row.set k i x, h.one.set (q := ⟨k, i, none⟩) (by simp only; omega) _⟩
theorem Ls.bb (h : Ls b p n cap w W ks v m) (hb : b < w.heap.size) : b < w.heap.size := hb
theorem Ls.next' {W' : World} (h : Ls b p n cap w W ks v m) (hS : Src b p n cap W') (hO : Only b W W') (hb : b < w.heap.size) : Ls b p n cap w W' ks v m :=
  ⟨h.dw.next hS hO, h.row.only hO (by omega), h.one.only hO (by omega)⟩
theorem Ls.src (h : Ls b p n cap w W ks v m) : Src b p n cap W := h.dw.src
theorem Ls.size (h : Ls b p n cap w W ks v m) : w.heap.size ≤ W.heap.size := h.dw.size
theorem Ls.ltb (h : Ls b p n cap w W ks v m) : b < W.heap.size := h.dw.ltb
theorem Ls.b1 (h : Ls b p n cap w W ks v m) {k j : Nat} (hk : (k, j) ∈ ks) : Box W k j := h.dw.b1 hk
theorem Ls.new' {k j : Nat} {l : List Value} {t : TypeId} (h : Ls b p n cap w W ks v m) (hl : intsV l) (hm : l.length = j) (hk : k = W.heap.size) : Ls b p n cap w (W.alloc (.cells l.toArray t)) ((k, j) :: ks) v m :=
  ⟨h.dw.new' hl hm hk, h.row.alloc _, h.one.alloc _⟩
theorem Ls.drop (h : Ls b p n cap w W ks v m) : Ls b p n cap w W [] v m := ⟨⟨h.dw.base, h.dw.src, h.dw.only, by simp⟩, h.row, h.one⟩
theorem Ls.grown {g c k : Nat} {zs xs : List Int} {W' : World} (h : Ls b p n cap w W [] v m) (hb : b < w.heap.size) (hB : Below (w.heap.size + 1) W W') (hr : W'.ownsRow (w.heap.size + 1) 41 7 (.slice (some ⟨g, 0, none⟩) (m + k) c) (m + k) (zs.map (Value.int .i64) ++ xs.map (Value.int .i64))) : Ls b p n cap w W' [] (.slice (some ⟨g, 0, none⟩) (m + k) c) (m + k) :=
  ⟨h.dw.row hB (by omega) (by omega) (by simp), Row.grownL zs xs hr, h.one.row hB (by omega)⟩
end

def SomeI (w : World) (e : Ending) (w' : World) : Prop := ∃ y : Int, e = .returned (.int .i64 y) ∧ w = w'
theorem s_l01Abs_any (a : Int) (w : World) : Calls Tryz.prog 48 #[.int .i64 a] w (SomeI w) := by
  go_enter Tryz.func48, Tryz.ntmps48
  go_wp2
  all_goals go_ret
  all_goals exact ⟨_, rfl, rfl⟩

def DrawnLay (b : Nat) (p : Option Addr) (n cap : Nat) (w : World) (e : Ending) (w' : World) : Prop :=
  ∃ (q : Option Addr) (m c : Nat) (zs : List Seg), e = .returned (.agg #[.slice q m c]) ∧ (m ≤ 1000 ∧ m ≤ c) ∧ Segs w' q m zs ∧ (∀ g o, q = some ⟨g, o, none⟩ → w.heap.size ≤ g) ∧ Src b p n cap w' ∧ Only b w w'
theorem Ls.fin {b : Nat} {p : Option Addr} {n cap : Nat} {w W : World} {ks : List (Nat × Nat)} {v : Value} {m : Nat} (h : Ls b p n cap w W ks v m) (hb : b < w.heap.size) (hm : m ≤ 1000) :
    DrawnLay b p n cap w (.returned (.agg #[v])) (W.setCell ⟨w.heap.size, 0, none⟩ v) := by
  have hr : Row (W.setCell ⟨w.heap.size, 0, none⟩ v) (w.heap.size + 1) 41 7 v m := h.row.blockwise fun g hg _ => Below.heap_setCell W _ _ g (by simp only; omega)
  obtain ⟨q, c, zs, rfl, hmc, hS, hq⟩ := hr.segs (by unfold maxLen; omega)
  exact ⟨q, m, c, zs, rfl, ⟨hm, hmc⟩, hS, fun g o e => by have := hq g o e; omega, Src.setFar h.dw.base h.dw.src (Nat.le_refl _) (by simp only; omega) _, h.dw.only.setBox (Nat.le_refl _) _⟩

-- (29)
theorem lmake_rowN {P : Program} (t e : TypeId) (i : TypeInfo) (z : Value) (ht : P.underlying t = some (.slice e)) (hi : P.info? e = some i) (hz : i.zero = some z)
    (kl kc : IntKind) (n c : Nat) (hnc : n ≤ c) (hbytes : i.bytes * c ≤ 281474976710656) (h63 : c ≤ 9223372036854775807) (w : World) :
    (Instr.makeSlice t (.int kl (n : Int)) (.int kc (c : Int))).run P w = .ok (.slice (some ⟨w.heap.size, 0, none⟩) n c) (w.alloc (.cells (madeCells z.cells (c * i.size)) e)) := by
  have hb : (i.bytes : Int) * (c : Int) ≤ 281474976710656 := by
    have h : ((i.bytes * c : Nat) : Int) ≤ 281474976710656 := by omega
    rwa [Int.natCast_mul] at h
  have hr := run_make (P := P) w t e i z ht hi hz kl kc n c (by omega) (by omega) hb (by omega)
  simp only [Int.toNat_natCast] at hr
  exact hr
theorem lmake_segs {P : Program} (t e : TypeId) (ht : P.underlying t = some (.slice e)) (hinfo : (P.info? e).map (fun i => (i.zero, i.size, i.bytes)) = some (some (segV 0 0 0 0 0 0 0), 7, 56)) (n : Nat) (hn : n ≤ 1048576) (w : World) :
    (Instr.makeSlice t (.int .i64 (n : Int)) (.int .i64 (n : Int))).run P w = .ok (.slice (some ⟨w.heap.size, 0, none⟩) n n) (w.alloc (.cells (madeCells #[Value.int IntKind.i64 0, Value.int IntKind.i64 0, Value.int IntKind.i64 0, Value.int IntKind.i64 0, Value.int IntKind.i64 0, Value.int IntKind.i64 0, Value.int IntKind.i64 0] (n * 7)) e)) := by
  obtain ⟨i, hi, hz, hs, hb⟩ := info_parts hinfo
  have h := lmake_rowN (P := P) t e i _ ht hi hz .i64 .i64 n n (Nat.le_refl _) (by rw [hb]; omega) (by omega) w
  rw [hs] at h
  exact h

set_option maxRecDepth 100000 in
set_option maxHeartbeats 8000000 in
theorem s_l03Draw (b : Nat) (p : Option Addr) (n cap : Nat) (w : World) (hs : Src b p n cap w) :
    Calls Tryz.prog 29 #[.pointer (some ⟨b, 0, none⟩)] w (DrawnLay b p n cap w) := by
  obtain ⟨i0, hi, hz0, hz1, hz2⟩ := info_parts (P := Tryz.prog) (e := 41) (z := segV 0 0 0 0 0 0 0) (size := 7) (bytes := 56) (by kernel_rfl)
  have hD := Dw.start hs
  have hb := hs.lt
  go_enter Tryz.func29, Tryz.ntmps29
  have hL : Ls b p n cap w ((w.alloc (Obj.cells #[Value.slice none 0 0] 24)).alloc (Obj.cells #[] 41)) [] (.slice (some ⟨w.heap.size + 1, 0, none⟩) 0 0) 0 := by
    have hr := Row.empty (w.alloc (Obj.cells #[Value.slice none 0 0] 24)) (w.heap.size + 1) 41 7 (by simp)
    rw [World.size_alloc] at hr
    exact ⟨(hD.alloc _).alloc _, hr, One.alloc ⟨_, World.alloc_heap_new w _⟩ _⟩
  clear hD
  go_upto_region 4 with (go_at_call 31; refine (s_l01Next b _ p n cap _ (Ls.src (w := w) (ks := []) (v := (.slice (some ⟨w.heap.size + 1, 0, none⟩) 0 0)) (m := 0) (by (repeat (first | with_reducible assumption | focus ((with_reducible refine Ls.new' ?_ ?_ ?_ ?_); rotate_left; (focus exact trivial); (focus rfl); (focus first | rfl | (simp; done))) | with_reducible refine Ls.alloc ?_ _ | with_reducible refine Ls.drew ?_ | with_reducible refine Ls.drewN ?_ _ | focus ((with_reducible refine Ls.set ?_ ?_ ?_ _); rotate_left; (focus (first | omega | (simp; done) | (simp; omega) | (have := Ls.size (by assumption); simp; omega))); (focus (first | omega | (simp; omega))))))))).mono ?_; rintro e w' ⟨x, rfl, h0, h1, h2, hS, hO1⟩; (try simp only [Int.reduceLT, Int.reduceLE, forall_const, false_implies] at h1 h2); replace hL : Ls b p n cap w w' [] ((.slice (some ⟨w.heap.size + 1, 0, none⟩) 0 0)) (0) := Ls.next' (hb := hb) (by (repeat (first | with_reducible assumption | focus ((with_reducible refine Ls.new' ?_ ?_ ?_ ?_); rotate_left; (focus exact trivial); (focus rfl); (focus first | rfl | (simp; done))) | with_reducible refine Ls.alloc ?_ _ | with_reducible refine Ls.drew ?_ | with_reducible refine Ls.drewN ?_ _ | focus ((with_reducible refine Ls.set ?_ ?_ ?_ _); rotate_left; (focus (first | omega | (simp; done) | (simp; omega) | (have := Ls.size (by assumption); simp; omega))); (focus (first | omega | (simp; omega))))))) hS hO1; clear hS hO1)
  obtain ⟨k, rfl⟩ := Int.eq_ofNat_of_zero_le h0
  go_loopw [3, 4, 5] (fun v r i wr => ∃ (k m g c : Nat) (z : Int), v = (.slice (some ⟨g, 0, none⟩) m c) ∧ m + k ≤ 8 ∧ r = .int .i64 z ∧ i = .int .i64 k ∧ Ls b p n cap w wr [] (.slice (some ⟨g, 0, none⟩) m c) m) (fun _ _ i _ => (intOf i).toNat)
  case atStart => exact ⟨k + 1, 0, _, _, _, rfl, by omega, rfl, by rw [show (1 : Int) + k = ((k + 1 : Nat) : Int) from by omega], hL⟩
  case round =>
    clear hL h0 h1 h2
    obtain ⟨k, m, g, c, z, rfl, hm, rfl, rfl, hL⟩ := hrel
    by_cases hk : 0 < k
    · have hk1 : (0 : Int) < k := by omega
      go_wp2_with first | (go_at_call 47; refine (s_pickA b _ _ p n cap _ (Ls.src (w := w) (ks := []) (v := (.slice (some ⟨g, 0, none⟩) m c)) (m := m) (by (repeat (first | with_reducible assumption | focus ((with_reducible refine Ls.new' ?_ ?_ ?_ ?_); rotate_left; (focus exact trivial); (focus rfl); (focus first | rfl | (simp; done))) | with_reducible refine Ls.alloc ?_ _ | with_reducible refine Ls.drew ?_ | with_reducible refine Ls.drewN ?_ _ | focus ((with_reducible refine Ls.set ?_ ?_ ?_ _); rotate_left; (focus (first | omega | (simp; done) | (simp; omega) | (have := Ls.size (by assumption); simp; omega))); (focus (first | omega | (simp; omega)))))))) ?_ ?_).mono ?_; (refine ⟨_, _, _, rfl, rfl, Ls.ltb (w := w) (ks := []) (v := (.slice (some ⟨g, 0, none⟩) m c)) (m := m) (by (repeat (first | with_reducible assumption | focus ((with_reducible refine Ls.new' ?_ ?_ ?_ ?_); rotate_left; (focus exact trivial); (focus rfl); (focus first | rfl | (simp; done))) | with_reducible refine Ls.alloc ?_ _ | with_reducible refine Ls.drew ?_ | with_reducible refine Ls.drewN ?_ _ | focus ((with_reducible refine Ls.set ?_ ?_ ?_ _); rotate_left; (focus (first | omega | (simp; done) | (simp; omega) | (have := Ls.size (by assumption); simp; omega))); (focus (first | omega | (simp; omega))))))), rfl, ?_⟩; (focus simp)); (focus (unfold maxLen; omega)); rintro e w' ⟨x, rfl, hS, hO1⟩; replace hL : Ls b p n cap w w' [] ((.slice (some ⟨g, 0, none⟩) m c)) (m) := Ls.next' (hb := hb) (by (repeat (first | with_reducible assumption | focus ((with_reducible refine Ls.new' ?_ ?_ ?_ ?_); rotate_left; (focus exact trivial); (focus rfl); (focus first | rfl | (simp; done))) | with_reducible refine Ls.alloc ?_ _ | with_reducible refine Ls.drew ?_ | with_reducible refine Ls.drewN ?_ _ | focus ((with_reducible refine Ls.set ?_ ?_ ?_ _); rotate_left; (focus (first | omega | (simp; done) | (simp; omega) | (have := Ls.size (by assumption); simp; omega))); (focus (first | omega | (simp; omega))))))) hS hO1; clear hS hO1) | (go_at_call 46; refine (s_l03DrawSegment b _ p n cap _ (Ls.src (w := w) (ks := []) (v := (.slice (some ⟨g, 0, none⟩) m c)) (m := m) (by (repeat (first | with_reducible assumption | focus ((with_reducible refine Ls.new' ?_ ?_ ?_ ?_); rotate_left; (focus exact trivial); (focus rfl); (focus first | rfl | (simp; done))) | with_reducible refine Ls.alloc ?_ _ | with_reducible refine Ls.drew ?_ | with_reducible refine Ls.drewN ?_ _ | focus ((with_reducible refine Ls.set ?_ ?_ ?_ _); rotate_left; (focus (first | omega | (simp; done) | (simp; omega) | (have := Ls.size (by assumption); simp; omega))); (focus (first | omega | (simp; omega))))))))).mono ?_; rintro e w' ⟨x0, x1, x2, x3, x4, x5, x6, rfl, hS, hO1⟩; replace hL : Ls b p n cap w w' [] ((.slice (some ⟨g, 0, none⟩) m c)) (m) := Ls.next' (hb := hb) (by (repeat (first | with_reducible assumption | focus ((with_reducible refine Ls.new' ?_ ?_ ?_ ?_); rotate_left; (focus exact trivial); (focus rfl); (focus first | rfl | (simp; done))) | with_reducible refine Ls.alloc ?_ _ | with_reducible refine Ls.drew ?_ | with_reducible refine Ls.drewN ?_ _ | focus ((with_reducible refine Ls.set ?_ ?_ ?_ _); rotate_left; (focus (first | omega | (simp; done) | (simp; omega) | (have := Ls.size (by assumption); simp; omega))); (focus (first | omega | (simp; omega))))))) hS hO1; clear hS hO1) | (at_builtin; obtain ⟨zs, hZ⟩ := hL.row; refine wpList_append_k _ rfl _ _ 22 rfl (w.heap.size + 1) 41 i0 (segV 0 0 0 0 0 0 0) 7 56 Tryz.underlying22 hi hz0 hz1 hz2 rfl (by decide) _ m _ rfl (how_keepA (how_keepA hZ _) _) ⟨w'.heap.size + 1, 0, none⟩ 1 1 [.int .i64 x0, .int .i64 x1, .int .i64 x2, .int .i64 x3, .int .i64 x4, .int .i64 x5, .int .i64 x6] rfl rfl (fun j u hj => by have := list_news (w'.alloc (Obj.cells #[.int .i64 x0, .int .i64 x1, .int .i64 x2, .int .i64 x3, .int .i64 x4, .int .i64 x5, .int .i64 x6] 41)) [.int .i64 x0, .int .i64 x1, .int .i64 x2, .int .i64 x3, .int .i64 x4, .int .i64 x5, .int .i64 x6] 41 j u hj; rwa [World.size_alloc] at this) (by simp [Value.oneCell']) (by decide) (by unfold maxLen; omega) (by omega) (by have := hL.one.lt; simp; omega) ?_; intro g2 c2 w1 hown1 hbel hkp hfar hsz1; replace hL := Ls.grown (xs := [x0, x1, x2, x3, x4, x5, x6]) ((hL.alloc _).alloc _) hb hbel hown1; clear hown1 hbel hkp hfar hsz1 hZ)
      refine ⟨⟨k - 1, m + 1, _, _, _, rfl, by omega, rfl, ?_, hL⟩, by simp [intOf]; omega⟩
      rw [Int.ofNat_sub (by omega)]
      rfl
    · obtain rfl : k = 0 := by omega
      go_upto_region 9 with fail
      go_cut [7] (fun s7 wx => ∃ j, s7 = .pointer (some ⟨j, 0, none⟩) ∧ w.heap.size < j ∧ Ls b p n cap w wx [(j, 7)] (.slice (some ⟨g, 0, none⟩) m c) m)
      case first =>
        go_wp2_with (go_at_call 48; refine (s_l01Abs_any _ _).mono ?_; rintro e w' ⟨y, rfl, rfl⟩)
        all_goals go_meet
        all_goals exact ⟨_, rfl, by have := hL.one.lt; omega, by (repeat (first | with_reducible assumption | focus ((with_reducible refine Ls.new' ?_ ?_ ?_ ?_); rotate_left; (focus exact trivial); (focus rfl); (focus first | rfl | (simp; done))) | with_reducible refine Ls.alloc ?_ _ | with_reducible refine Ls.drew ?_ | with_reducible refine Ls.drewN ?_ _ | focus ((with_reducible refine Ls.set ?_ ?_ ?_ _); rotate_left; (focus (first | omega | (simp; done) | (simp; omega) | (have := Ls.size (by assumption); simp; omega))); (focus (first | omega | (simp; omega))))))⟩
      case rest =>
      obtain ⟨j, rfl, hj, hL⟩ := hcut
      go_upto_region 10 with fail
      go_cut [8] (fun s8 wx => ∃ i, s8 = .pointer (some ⟨i, 0, none⟩) ∧ j < i ∧ Ls b p n cap w wx [(i, 7), (j, 7)] (.slice (some ⟨g, 0, none⟩) m c) m)
      case first =>
        go_wp2_with (go_at_call 46; refine (s_l03DrawSegment b _ p n cap _ (Ls.src (w := w) (ks := [(j, 7)]) (v := (.slice (some ⟨g, 0, none⟩) m c)) (m := m) (by (repeat (first | with_reducible assumption | focus ((with_reducible refine Ls.new' ?_ ?_ ?_ ?_); rotate_left; (focus exact trivial); (focus rfl); (focus first | rfl | (simp; done))) | with_reducible refine Ls.alloc ?_ _ | with_reducible refine Ls.drew ?_ | with_reducible refine Ls.drewN ?_ _ | focus ((with_reducible refine Ls.set ?_ ?_ ?_ _); rotate_left; (focus (first | omega | (simp; done) | (simp; omega) | (have := Ls.size (by assumption); simp; omega))); (focus (first | omega | (simp; omega))))))))).mono ?_; rintro e w' ⟨x0, x1, x2, x3, x4, x5, x6, rfl, hS, hO1⟩; replace hL : Ls b p n cap w w' [(j, 7)] ((.slice (some ⟨g, 0, none⟩) m c)) (m) := Ls.next' (hb := hb) (by (repeat (first | with_reducible assumption | focus ((with_reducible refine Ls.new' ?_ ?_ ?_ ?_); rotate_left; (focus exact trivial); (focus rfl); (focus first | rfl | (simp; done))) | with_reducible refine Ls.alloc ?_ _ | with_reducible refine Ls.drew ?_ | with_reducible refine Ls.drewN ?_ _ | focus ((with_reducible refine Ls.set ?_ ?_ ?_ _); rotate_left; (focus (first | omega | (simp; done) | (simp; omega) | (have := Ls.size (by assumption); simp; omega))); (focus (first | omega | (simp; omega))))))) hS hO1; clear hS hO1)
        all_goals go_meet
        all_goals exact ⟨_, rfl, (hL.b1 (k := j) (j := 7) (by simp)).lt, by (repeat (first | with_reducible assumption | focus ((with_reducible refine Ls.new' ?_ ?_ ?_ ?_); rotate_left; (focus exact trivial); (focus rfl); (focus first | rfl | (simp; done))) | with_reducible refine Ls.alloc ?_ _ | with_reducible refine Ls.drew ?_ | with_reducible refine Ls.drewN ?_ _ | focus ((with_reducible refine Ls.set ?_ ?_ ?_ _); rotate_left; (focus (first | omega | (simp; done) | (simp; omega) | (have := Ls.size (by assumption); simp; omega))); (focus (first | omega | (simp; omega))))))⟩
      case rest =>
      obtain ⟨i, rfl, hji, hL⟩ := hcut
      have n1 : ¬ i = j := by omega
      have n2 : ¬ j = i := by omega
      (try clear l_7); (try clear c_7_0 f_7_0); (try clear c_7_1 f_7_1); (try clear c_7_2 f_7_2); (try clear c_7_3 f_7_3); (try clear c_7_4 f_7_4); (try clear c_7_5 f_7_5); (try clear c_7_6 f_7_6); have hBx := hL.dw.b1 (k := j) (m := 7) (by simp); obtain ⟨v_7_0, c_7_0⟩ := hBx.cell 0 (by decide); have f_7_0 := hBx.free 0 (by decide); obtain ⟨v_7_1, c_7_1⟩ := hBx.cell 1 (by decide); have f_7_1 := hBx.free 1 (by decide); obtain ⟨v_7_2, c_7_2⟩ := hBx.cell 2 (by decide); have f_7_2 := hBx.free 2 (by decide); obtain ⟨v_7_3, c_7_3⟩ := hBx.cell 3 (by decide); have f_7_3 := hBx.free 3 (by decide); obtain ⟨v_7_4, c_7_4⟩ := hBx.cell 4 (by decide); have f_7_4 := hBx.free 4 (by decide); obtain ⟨v_7_5, c_7_5⟩ := hBx.cell 5 (by decide); have f_7_5 := hBx.free 5 (by decide); obtain ⟨v_7_6, c_7_6⟩ := hBx.cell 6 (by decide); have f_7_6 := hBx.free 6 (by decide); have l_7 := hBx.lt; clear hBx; (try clear l_8); (try clear c_8_0 f_8_0); (try clear c_8_1 f_8_1); (try clear c_8_2 f_8_2); (try clear c_8_3 f_8_3); (try clear c_8_4 f_8_4); (try clear c_8_5 f_8_5); (try clear c_8_6 f_8_6); have hBx := hL.dw.b1 (k := i) (m := 7) (by simp); obtain ⟨v_8_0, c_8_0⟩ := hBx.cell 0 (by decide); have f_8_0 := hBx.free 0 (by decide); obtain ⟨v_8_1, c_8_1⟩ := hBx.cell 1 (by decide); have f_8_1 := hBx.free 1 (by decide); obtain ⟨v_8_2, c_8_2⟩ := hBx.cell 2 (by decide); have f_8_2 := hBx.free 2 (by decide); obtain ⟨v_8_3, c_8_3⟩ := hBx.cell 3 (by decide); have f_8_3 := hBx.free 3 (by decide); obtain ⟨v_8_4, c_8_4⟩ := hBx.cell 4 (by decide); have f_8_4 := hBx.free 4 (by decide); obtain ⟨v_8_5, c_8_5⟩ := hBx.cell 5 (by decide); have f_8_5 := hBx.free 5 (by decide); obtain ⟨v_8_6, c_8_6⟩ := hBx.cell 6 (by decide); have f_8_6 := hBx.free 6 (by decide); have l_8 := hBx.lt; clear hBx
      go_upto_region 13 with (at_builtin; replace hL := hL.set (k := i) (i := 2) (by omega) (by omega) 0; obtain ⟨zs, hZ⟩ := hL.row; refine wpList_append_k _ rfl _ _ 22 rfl (w.heap.size + 1) 41 i0 (segV 0 0 0 0 0 0 0) 7 56 Tryz.underlying22 hi hz0 hz1 hz2 rfl (by decide) _ m _ rfl (how_keepA hZ _) ⟨wc.heap.size, 0, none⟩ 2 2 [.int .i64 v_7_0, .int .i64 v_7_1, .int .i64 v_7_2, .int .i64 v_7_3, .int .i64 v_7_4, .int .i64 v_7_5, .int .i64 v_7_6, .int .i64 v_8_0, .int .i64 v_8_1, .int .i64 0, .int .i64 v_8_3, .int .i64 v_8_4, .int .i64 v_8_5, .int .i64 v_8_6] rfl rfl (fun q u hq => by have := list_news (wc.setCell ⟨i, 2, none⟩ (.int .i64 0)) [.int .i64 v_7_0, .int .i64 v_7_1, .int .i64 v_7_2, .int .i64 v_7_3, .int .i64 v_7_4, .int .i64 v_7_5, .int .i64 v_7_6, .int .i64 v_8_0, .int .i64 v_8_1, .int .i64 0, .int .i64 v_8_3, .int .i64 v_8_4, .int .i64 v_8_5, .int .i64 v_8_6] 41 q u hq; rwa [World.size_setCell] at this) (by simp [Value.oneCell']) (by decide) (by unfold maxLen; omega) (by omega) (by have := hL.one.lt; simp; simp at this; omega) ?_; intro g2 c2 w1 hown1 hbel hkp hfar hsz1; replace hL := Ls.grown (xs := [v_7_0, v_7_1, v_7_2, v_7_3, v_7_4, v_7_5, v_7_6, v_8_0, v_8_1, 0, v_8_3, v_8_4, v_8_5, v_8_6]) (hL.drop.alloc _) hb hbel hown1; clear hown1 hbel hkp hfar hsz1 hZ)
      go_cut [49] (fun s49 wx => ∃ y : Int, s49 = .int .i64 y ∧ Ls b p n cap w wx [] (.slice (some ⟨g2, 0, none⟩) (m + 2) c2) (m + 2))
      case first =>
        go_wp2_with (go_at_call 31; refine (s_l01Next b _ p n cap _ (Ls.src (w := w) (ks := []) (v := (.slice (some ⟨g2, 0, none⟩) (m + 2) c2)) (m := (m + 2)) (by (repeat (first | with_reducible assumption | focus ((with_reducible refine Ls.new' ?_ ?_ ?_ ?_); rotate_left; (focus exact trivial); (focus rfl); (focus first | rfl | (simp; done))) | with_reducible refine Ls.alloc ?_ _ | with_reducible refine Ls.drew ?_ | with_reducible refine Ls.drewN ?_ _ | focus ((with_reducible refine Ls.set ?_ ?_ ?_ _); rotate_left; (focus (first | omega | (simp; done) | (simp; omega) | (have := Ls.size (by assumption); simp; omega))); (focus (first | omega | (simp; omega))))))))).mono ?_; rintro e w' ⟨x, rfl, h0, h1, h2, hS, hO1⟩; (try simp only [Int.reduceLT, Int.reduceLE, forall_const, false_implies] at h1 h2); replace hL : Ls b p n cap w w' [] ((.slice (some ⟨g2, 0, none⟩) (m + 2) c2)) ((m + 2)) := Ls.next' (hb := hb) (by (repeat (first | with_reducible assumption | focus ((with_reducible refine Ls.new' ?_ ?_ ?_ ?_); rotate_left; (focus exact trivial); (focus rfl); (focus first | rfl | (simp; done))) | with_reducible refine Ls.alloc ?_ _ | with_reducible refine Ls.drew ?_ | with_reducible refine Ls.drewN ?_ _ | focus ((with_reducible refine Ls.set ?_ ?_ ?_ _); rotate_left; (focus (first | omega | (simp; done) | (simp; omega) | (have := Ls.size (by assumption); simp; omega))); (focus (first | omega | (simp; omega))))))) hS hO1; clear hS hO1)
        go_meet
        exact ⟨_, rfl, hL⟩
      case rest =>
      clear hL c_7_0 c_7_1 c_7_2 c_7_3 c_7_4 c_7_5 c_7_6 f_7_0 f_7_1 f_7_2 f_7_3 f_7_4 f_7_5 f_7_6 l_7 c_8_0 c_8_1 c_8_2 c_8_3 c_8_4 c_8_5 c_8_6 f_8_0 f_8_1 f_8_2 f_8_3 f_8_4 f_8_5 f_8_6 l_8
      obtain ⟨y, rfl, hL⟩ := hcut
      obtain ⟨⟨vv, c1⟩, f1⟩ := hL.one.cell
      by_cases h0 : y = 0
      · subst h0
        clear c1 f1
        have hm1 : (1 : Int) < ((m + 2 : Nat) : Int) := by omega
        go_upto_region 26 with first | ((go_at_call 31; refine (s_l01Next b _ p n cap _ (Ls.src (w := w) (ks := []) (v := (.slice (some ⟨g2, 0, none⟩) (m + 2) c2)) (m := (m + 2)) (by (repeat (first | with_reducible assumption | focus ((with_reducible refine Ls.new' ?_ ?_ ?_ ?_); rotate_left; (focus exact trivial); (focus rfl); (focus first | rfl | (simp; done))) | with_reducible refine Ls.alloc ?_ _ | with_reducible refine Ls.drew ?_ | with_reducible refine Ls.drewN ?_ _ | focus ((with_reducible refine Ls.set ?_ ?_ ?_ _); rotate_left; (focus (first | omega | (simp; done) | (simp; omega) | (have := Ls.size (by assumption); simp; omega))); (focus (first | omega | (simp; omega))))))))).mono ?_; rintro e w' ⟨x, rfl, h0, h1, h2, hS, hO1⟩; (try simp only [Int.reduceLT, Int.reduceLE, forall_const, false_implies] at h1 h2); replace hL : Ls b p n cap w w' [] ((.slice (some ⟨g2, 0, none⟩) (m + 2) c2)) ((m + 2)) := Ls.next' (hb := hb) (by (repeat (first | with_reducible assumption | focus ((with_reducible refine Ls.new' ?_ ?_ ?_ ?_); rotate_left; (focus exact trivial); (focus rfl); (focus first | rfl | (simp; done))) | with_reducible refine Ls.alloc ?_ _ | with_reducible refine Ls.drew ?_ | with_reducible refine Ls.drewN ?_ _ | focus ((with_reducible refine Ls.set ?_ ?_ ?_ _); rotate_left; (focus (first | omega | (simp; done) | (simp; omega) | (have := Ls.size (by assumption); simp; omega))); (focus (first | omega | (simp; omega))))))) hS hO1; clear hS hO1); have hx1 := h1 (by omega); obtain ⟨ix, rfl⟩ := Int.eq_ofNat_of_zero_le h0; have hix : ix < m + 2 := (by omega); clear h0 h1 h2 hx1) | ((go_at_call 49; refine (s_l03DrawAny b  p n cap _ (Ls.src (w := w) (ks := []) (v := (.slice (some ⟨g2, 0, none⟩) (m + 2) c2)) (m := (m + 2)) (by (repeat (first | with_reducible assumption | focus ((with_reducible refine Ls.new' ?_ ?_ ?_ ?_); rotate_left; (focus exact trivial); (focus rfl); (focus first | rfl | (simp; done))) | with_reducible refine Ls.alloc ?_ _ | with_reducible refine Ls.drew ?_ | with_reducible refine Ls.drewN ?_ _ | focus ((with_reducible refine Ls.set ?_ ?_ ?_ _); rotate_left; (focus (first | omega | (simp; done) | (simp; omega) | (have := Ls.size (by assumption); simp; omega))); (focus (first | omega | (simp; omega))))))))).mono ?_; rintro e w' ⟨x0, x1, x2, x3, x4, x5, x6, rfl, hS, hO1⟩; replace hL : Ls b p n cap w w' [] ((.slice (some ⟨g2, 0, none⟩) (m + 2) c2)) ((m + 2)) := Ls.next' (hb := hb) (by (repeat (first | with_reducible assumption | focus ((with_reducible refine Ls.new' ?_ ?_ ?_ ?_); rotate_left; (focus exact trivial); (focus rfl); (focus first | rfl | (simp; done))) | with_reducible refine Ls.alloc ?_ _ | with_reducible refine Ls.drew ?_ | with_reducible refine Ls.drewN ?_ _ | focus ((with_reducible refine Ls.set ?_ ?_ ?_ _); rotate_left; (focus (first | omega | (simp; done) | (simp; omega) | (have := Ls.size (by assumption); simp; omega))); (focus (first | omega | (simp; omega))))))) hS hO1; clear hS hO1); obtain ⟨⟨u_0, cc_0⟩, ff_0⟩ := hL.row.cell7 (i := ix * 7 + 0) (by omega); obtain ⟨⟨u_1, cc_1⟩, ff_1⟩ := hL.row.cell7 (i := ix * 7 + 1) (by omega); obtain ⟨⟨u_2, cc_2⟩, ff_2⟩ := hL.row.cell7 (i := ix * 7 + 2) (by omega); obtain ⟨⟨u_3, cc_3⟩, ff_3⟩ := hL.row.cell7 (i := ix * 7 + 3) (by omega); obtain ⟨⟨u_4, cc_4⟩, ff_4⟩ := hL.row.cell7 (i := ix * 7 + 4) (by omega); obtain ⟨⟨u_5, cc_5⟩, ff_5⟩ := hL.row.cell7 (i := ix * 7 + 5) (by omega); obtain ⟨⟨u_6, cc_6⟩, ff_6⟩ := hL.row.cell7 (i := ix * 7 + 6) (by omega); rw [Nat.add_zero] at cc_0 ff_0)
        have hg := hL.row.base
        have hL0 : Ls b p n cap w (((((((w'.setCell ⟨g2, ix * 7, none⟩ (.int .i64 x0)).setCell ⟨g2, ix * 7 + 1, none⟩ (.int .i64 x1)).setCell ⟨g2, ix * 7 + 2, none⟩ (.int .i64 x2)).setCell ⟨g2, ix * 7 + 3, none⟩ (.int .i64 x3)).setCell ⟨g2, ix * 7 + 4, none⟩ (.int .i64 x4)).setCell ⟨g2, ix * 7 + 5, none⟩ (.int .i64 x5)).setCell ⟨g2, ix * 7 + 6, none⟩ (.int .i64 x6)) [] (.slice (some ⟨g2, 0, none⟩) (m + 2) c2) (m + 2) := by (repeat (first | with_reducible assumption | focus ((with_reducible refine Ls.new' ?_ ?_ ?_ ?_); rotate_left; (focus exact trivial); (focus rfl); (focus first | rfl | (simp; done))) | with_reducible refine Ls.alloc ?_ _ | with_reducible refine Ls.drew ?_ | with_reducible refine Ls.drewN ?_ _ | focus ((with_reducible refine Ls.set ?_ ?_ ?_ _); rotate_left; (focus (first | omega | (simp; done) | (simp; omega) | (have := Ls.size (by assumption); simp; omega))); (focus (first | omega | (simp; omega))))))
        clear hL cc_0 cc_1 cc_2 cc_3 cc_4 cc_5 cc_6 ff_0 ff_1 ff_2 ff_3 ff_4 ff_5 ff_6
        obtain ⟨W, hW⟩ : ∃ W, W = (((((((w'.setCell ⟨g2, ix * 7, none⟩ (.int .i64 x0)).setCell ⟨g2, ix * 7 + 1, none⟩ (.int .i64 x1)).setCell ⟨g2, ix * 7 + 2, none⟩ (.int .i64 x2)).setCell ⟨g2, ix * 7 + 3, none⟩ (.int .i64 x3)).setCell ⟨g2, ix * 7 + 4, none⟩ (.int .i64 x4)).setCell ⟨g2, ix * 7 + 5, none⟩ (.int .i64 x5)).setCell ⟨g2, ix * 7 + 6, none⟩ (.int .i64 x6)) := ⟨_, rfl⟩
        rw [← hW] at hL0 ⊢
        clear hW
        obtain ⟨⟨vv', c1⟩, f1⟩ := hL0.one.cell
        go_wp2
        refine bodyPost_ret (v := .agg #[(.slice (some ⟨g2, 0, none⟩) (m + 2) c2)]) (by simp [results, Tryz.results29, go_sem, *]) rfl (hL0.fin hb (by omega))
      by_cases h1 : y = 1
      · subst h1
        have hL1 : Ls b p n cap w wc [] (.slice (some ⟨g2, 0, none⟩) (m + 1) c2) (m + 1) := ⟨hL.dw, hL.row.take (by omega), hL.one⟩
        have hc2 := hL.row.capm
        have hc3 : ((m : Int) + 2 - 1) = ((m + 1 : Nat) : Int) := by omega
        go_wp2
        refine bodyPost_ret (v := .agg #[.slice (some ⟨g2, 0, none⟩) (m + 1) c2]) (by simp [results, Tryz.results29, go_sem, *]) rfl (hL1.fin hb (by omega))
      by_cases h2 : y = 2
      · subst h2
        clear c1 f1
        go_upto_region 19 with fail
        go_cut [3] (fun s3 wx => ∃ N gN : Nat, 1 ≤ N ∧ N ≤ 25 ∧ s3 = (.slice (some ⟨gN, 0, none⟩) N N) ∧ Ls b p n cap w wx [] (.slice (some ⟨gN, 0, none⟩) N N) N)
        case first =>
          have hm24 := lmake_segs (P := Tryz.prog) 22 41 Tryz.underlying22 (by kernel_rfl) 24 (by omega)
          have hm25 := lmake_segs (P := Tryz.prog) 22 41 Tryz.underlying22 (by kernel_rfl) 25 (by omega)
          rw [show ((24 : Nat) : Int) = 24 from rfl] at hm24
          rw [show ((25 : Nat) : Int) = 25 from rfl] at hm25
          go_wp2_with ((go_at_call 31; refine (s_l01Next b _ p n cap _ (Ls.src (w := w) (ks := []) (v := (.slice (some ⟨g2, 0, none⟩) (m + 2) c2)) (m := (m + 2)) (by (repeat (first | with_reducible assumption | focus ((with_reducible refine Ls.new' ?_ ?_ ?_ ?_); rotate_left; (focus exact trivial); (focus rfl); (focus first | rfl | (simp; done))) | with_reducible refine Ls.alloc ?_ _ | with_reducible refine Ls.drew ?_ | with_reducible refine Ls.drewN ?_ _ | focus ((with_reducible refine Ls.set ?_ ?_ ?_ _); rotate_left; (focus (first | omega | (simp; done) | (simp; omega) | (have := Ls.size (by assumption); simp; omega))); (focus (first | omega | (simp; omega))))))))).mono ?_; rintro e w' ⟨x, rfl, h0, h1, h2, hS, hO1⟩; (try simp only [Int.reduceLT, Int.reduceLE, forall_const, false_implies] at h1 h2); replace hL : Ls b p n cap w w' [] ((.slice (some ⟨g2, 0, none⟩) (m + 2) c2)) ((m + 2)) := Ls.next' (hb := hb) (by (repeat (first | with_reducible assumption | focus ((with_reducible refine Ls.new' ?_ ?_ ?_ ?_); rotate_left; (focus exact trivial); (focus rfl); (focus first | rfl | (simp; done))) | with_reducible refine Ls.alloc ?_ _ | with_reducible refine Ls.drew ?_ | with_reducible refine Ls.drewN ?_ _ | focus ((with_reducible refine Ls.set ?_ ?_ ?_ _); rotate_left; (focus (first | omega | (simp; done) | (simp; omega) | (have := Ls.size (by assumption); simp; omega))); (focus (first | omega | (simp; omega))))))) hS hO1; clear hS hO1); (try (have hx : x = 0 ∨ x = 1 := by omega)); (try rcases hx with rfl | rfl))
          all_goals go_meet
          · exact ⟨24, _, by omega, by omega, rfl, ⟨hL.dw.alloc _, Row.made w' (w.heap.size + 1) 41 24 (by unfold maxLen; omega) hL.one.lt, hL.one.alloc _⟩⟩
          · exact ⟨25, _, by omega, by omega, rfl, ⟨hL.dw.alloc _, Row.made w' (w.heap.size + 1) 41 25 (by unfold maxLen; omega) hL.one.lt, hL.one.alloc _⟩⟩
        case rest =>
        obtain ⟨N, gN, hN1, hN2, rfl, hL⟩ := hcut
        have hg := hL.row.base
        go_upto_region 21 with fail
        go_loopw [9] (fun i wr => ∃ k : Nat, k ≤ N ∧ i = .int .i64 k ∧ Ls b p n cap w wr [] (.slice (some ⟨gN, 0, none⟩) N N) N) (fun i _ => N - (intOf i).toNat)
        case atStart => exact ⟨0, Nat.zero_le _, rfl, hL⟩
        case round =>
          clear hL
          obtain ⟨k, hk, rfl, hL⟩ := hrel
          by_cases hlt : k < N
          · have hlen : (k : Int) < N := by omega
            obtain ⟨⟨u_0, cc_0⟩, ff_0⟩ := hL.row.cell7 (i := k * 7 + 0) (by omega)
            obtain ⟨⟨u_1, cc_1⟩, ff_1⟩ := hL.row.cell7 (i := k * 7 + 1) (by omega)
            obtain ⟨⟨u_2, cc_2⟩, ff_2⟩ := hL.row.cell7 (i := k * 7 + 2) (by omega)
            obtain ⟨⟨u_3, cc_3⟩, ff_3⟩ := hL.row.cell7 (i := k * 7 + 3) (by omega)
            obtain ⟨⟨u_4, cc_4⟩, ff_4⟩ := hL.row.cell7 (i := k * 7 + 4) (by omega)
            obtain ⟨⟨u_5, cc_5⟩, ff_5⟩ := hL.row.cell7 (i := k * 7 + 5) (by omega)
            obtain ⟨⟨u_6, cc_6⟩, ff_6⟩ := hL.row.cell7 (i := k * 7 + 6) (by omega)
            rw [Nat.add_zero] at cc_0 ff_0
            go_wp2
            refine ⟨⟨k + 1, by omega, by go_num, by (repeat (first | with_reducible assumption | focus ((with_reducible refine Ls.new' ?_ ?_ ?_ ?_); rotate_left; (focus exact trivial); (focus rfl); (focus first | rfl | (simp; done))) | with_reducible refine Ls.alloc ?_ _ | with_reducible refine Ls.drew ?_ | with_reducible refine Ls.drewN ?_ _ | focus ((with_reducible refine Ls.set ?_ ?_ ?_ _); rotate_left; (focus (first | omega | (simp; done) | (simp; omega) | (have := Ls.size (by assumption); simp; omega))); (focus (first | omega | (simp; omega))))))⟩, by simp [intOf]; omega⟩
          · obtain rfl : k = N := by omega
            obtain ⟨⟨vv', c1⟩, f1⟩ := hL.one.cell
            go_wp2
            refine bodyPost_ret (v := .agg #[.slice (some ⟨gN, 0, none⟩) k k]) (by simp [results, Tryz.results29, go_sem, *]) rfl (hL.fin hb (by omega))
      by_cases h3 : y = 3
      · subst h3
        have hL3 : Ls b p n cap w wc [] (.slice none 0 0) 0 := ⟨hL.dw, ⟨[], by simp, .inl ⟨rfl, rfl⟩⟩, hL.one⟩
        go_wp2
        refine bodyPost_ret (v := .agg #[.slice none 0 0]) (by simp [results, Tryz.results29, go_sem, *]) rfl (hL3.fin hb (by omega))
      go_wp2
      refine bodyPost_ret (v := .agg #[(.slice (some ⟨g2, 0, none⟩) (m + 2) c2)]) (by simp [results, Tryz.results29, go_sem, *]) rfl (hL.fin hb (by omega))

end Go.Proofs.YtfbfiikomlnllaaGreatDoor
