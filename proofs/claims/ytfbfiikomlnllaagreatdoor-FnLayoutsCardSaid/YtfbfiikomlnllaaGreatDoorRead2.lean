/- Contracts and lemmas for the proofs of this seat: Read2. -/
import Derived.Test.YtfbfiikomlnllaaGreatDoorBase
import Derived.Test.YtfbfiikomlnllaaGreatDoorNum
import Derived.Test.YtfbfiikomlnllaaGreatDoorSeg
import Derived.Test.YtfbfiikomlnllaaGreatDoorLay
import Derived.Test.YtfbfiikomlnllaaGreatDoorLay2
import Derived.Test.YtfbfiikomlnllaaGreatDoorLay3
import Derived.Test.YtfbfiikomlnllaaGreatDoorLay15
import Derived.Test.YtfbfiikomlnllaaGreatDoorShelf
import Derived.Test.YtfbfiikomlnllaaGreatDoorText1
import Derived.Test.YtfbfiikomlnllaaGreatDoorTextLaw
import Derived.Test.YtfbfiikomlnllaaGreatDoorText2
import Derived.Test.YtfbfiikomlnllaaGreatDoorLayText
import Derived.Test.YtfbfiikomlnllaaGreatDoorRangeB
import Derived.Test.YtfbfiikomlnllaaGreatDoorLines
import Derived.Test.YtfbfiikomlnllaaGreatDoorRead1
import Derived.Lib.Hide
import Derived.Lib.SplitLaws
import Derived.RangeFuncWrites
import Derived.RangeFuncCalls
import Derived.RangeFuncBound
import Derived.RangeFuncLeaves
import Derived.Shelf.RegionOpen
import Derived.OwnWalkIn
import Derived.TacticsInMore
import Derived.LoopNIn
import Derived.LoopIn
import Derived.StillTailTactics
import Derived.WalkKit
import Derived.Deep.Draws
import Derived.Deep.RegionHeld
import Derived.OrdersHeld
namespace Go.Proofs.YtfbfiikomlnllaaGreatDoor
open Go.RowKit Go.Lib
set_option maxHeartbeats 2000000
set_option linter.unusedVariables false
set_option linter.unusedSimpArgs false

-- (6)
def wordsOf (z : List UInt8) : List (List UInt8) := split z [32]
def kidx (z : List UInt8) : Int := idxOfS ([kw 0, kw 1, kw 2, kw 3, kw 4].map fun x => (⟨x.toArray⟩ : ByteArray)) ⟨z.toArray⟩
def rdLine (x : List UInt8) : Option Seg := match wordsOf (trimSuffix x [10]) with
  | k :: r => match rdsI r with
    | some [a, b, c, d, e, f] => some ⟨kidx k, a, b, c, d, e, f⟩
    | _ => none
  | [] => none
def rdLs : List (List UInt8) → Option (List Seg)
  | [] => some []
  | x :: r => match rdLine x, rdLs r with
    | some s, some zs => some (s :: zs)
    | _, _ => none
theorem rdLs_snoc : ∀ (ws : List (List UInt8)) (z : List UInt8), rdLs (ws ++ [z]) = match rdLs ws, rdLine z with
    | some ys, some x => some (ys ++ [x])
    | _, _ => none
  | [], z => by
    simp only [List.nil_append, rdLs]
    cases rdLine z <;> rfl
  | a :: r, z => by
    simp only [List.cons_append, rdLs, rdLs_snoc r z]
    cases rdLine a <;> cases rdLs r <;> cases rdLine z <;> rfl
theorem rdLs_bad : ∀ (pre : List (List UInt8)) (z : List UInt8) (rest : List (List UInt8)), rdLine z = none → rdLs (pre ++ z :: rest) = none
  | [], z, rest, h => by simp only [List.nil_append, rdLs, h]
  | a :: r, z, rest, h => by
    simp only [List.cons_append, rdLs, rdLs_bad r z rest h]
    cases rdLine a <;> rfl
theorem rdLs_len : ∀ {ws : List (List UInt8)} {zs : List Seg}, rdLs ws = some zs → zs.length = ws.length
  | [], zs, h => by simp only [rdLs, Option.some.injEq] at h; subst h; rfl
  | z :: r, zs, h => by
    simp only [rdLs] at h
    split at h
    · rename_i x ys' h1 h2
      cases h
      simp [rdLs_len h2]
    · cases h
theorem words_len (z : List UInt8) : (wordsOf z).length = countB ⟨z.toArray⟩ ⟨#[32]⟩ + 1 ∧ wordsOf z = (splitB ⟨#[32]⟩ 0 (countB ⟨z.toArray⟩ ⟨#[32]⟩) ⟨z.toArray⟩).map (·.data.toList) := by
  have h1 := splitB_data ⟨#[32]⟩ 0 (countB ⟨z.toArray⟩ ⟨#[32]⟩) ⟨z.toArray⟩
  have h2 : wordsOf z = (splitB ⟨#[32]⟩ 0 (countB ⟨z.toArray⟩ ⟨#[32]⟩) ⟨z.toArray⟩).map (·.data.toList) := by rw [h1]; rfl
  refine ⟨?_, h2⟩
  rw [h2, List.length_map]
  exact splitB_all ⟨#[32]⟩ (by decide) 0 _ _ rfl

theorem lib_split (z : List UInt8) (hz : z.length ≤ 1048576) (w : World) (hr : Rd Tryz.prog w) :
    Calls Tryz.prog 21 #[strV z, .string ⟨#[32]⟩] w fun e w' => ∃ g, w.heap.size ≤ g ∧ e = .returned (.slice (some ⟨g, 0, none⟩) (wordsOf z).length (wordsOf z).length) ∧ Strs w' (some ⟨g, 0, none⟩) (wordsOf z).length (wordsOf z) ∧ Below w.heap.size w w' := by
  obtain ⟨m, hm⟩ := hr.2.1
  obtain ⟨hl, hw⟩ := words_len z
  refine (Tryz.strings_Split ⟨z.toArray⟩ ⟨#[32]⟩ m w (by show z.length < _; omega) hm (by decide)).mono ?_
  rintro e w' ⟨rfl, rfl⟩
  refine ⟨w.heap.size, Nat.le_refl _, by rw [hl], ⟨rfl, fun _ => ⟨w.heap.size, 0, rfl, by simp, fun i hi => ?_⟩⟩, balloc (Below.refl _ _) _⟩
  have hi2 : i < (splitB ⟨#[32]⟩ 0 (countB ⟨z.toArray⟩ ⟨#[32]⟩) ⟨z.toArray⟩).length := by rw [hw, List.length_map] at hi; exact hi
  rw [List.getD_eq_getElem?_getD, hw, List.getElem?_map, List.getElem?_eq_getElem hi2, Nat.zero_add]
  have hb := World.alloc_heap_new w (.cells ((splitB ⟨#[32]⟩ 0 (countB ⟨z.toArray⟩ ⟨#[32]⟩) ⟨z.toArray⟩).map Value.string).toArray 9)
  show World.cell? _ _ = _
  simp only [World.cell?, hb]
  simp [hi2, strV]

-- (6)
theorem linesF_len : ∀ (f : Nat) (s : List UInt8), (linesF f s).length ≤ f
  | 0, _ => by simp [linesF]
  | f + 1, s => by
    simp only [linesF]
    split
    · simp
    · have := linesF_len f (s.drop (lineN s))
      simp only [List.length_cons]
      omega
theorem linesOf_len (s : List UInt8) : (linesOf s).length ≤ s.length := linesF_len _ _
theorem linesF_mem : ∀ (f : Nat) (s x : List UInt8), x ∈ linesF f s → x.length ≤ s.length
  | 0, _, _, h => by simp [linesF] at h
  | f + 1, s, x, h => by
    simp only [linesF] at h
    split at h
    · simp at h
    · rw [List.mem_cons] at h
      rcases h with rfl | h
      · rw [List.length_take]; omega
      · have := linesF_mem f _ x h
        rw [List.length_drop] at this
        omega
theorem trim_len (x : List UInt8) (p : List UInt8) : (trimSuffix x p).length ≤ x.length := by
  unfold trimSuffix
  split
  · rw [List.length_take]; omega
  · exact Nat.le_refl _
theorem splitK_mem (sep : List UInt8) : ∀ (k : Nat) (s x : List UInt8), x ∈ splitK sep 0 k s → x.length ≤ s.length
  | 0, s, x, h => by simp only [splitK, List.mem_singleton] at h; subst h; exact Nat.le_refl _
  | k + 1, s, x, h => by
    unfold splitK at h
    split at h
    · simp only [List.mem_singleton] at h; subst h; exact Nat.le_refl _
    · rw [List.mem_cons] at h
      rcases h with rfl | h
      · rw [List.length_take]; omega
      · have := splitK_mem sep k _ x h
        rw [List.length_drop] at this
        omega
theorem words_mem {z x : List UInt8} (h : x ∈ wordsOf z) : x.length ≤ z.length := splitK_mem [32] _ _ _ h
theorem words_count (z : List UInt8) : (wordsOf z).length ≤ z.length + 1 := by
  rw [(words_len z).1]
  have := countB_le ⟨#[32]⟩ (by decide) z.length ⟨z.toArray⟩ (Nat.le_refl _)
  have h2 : (⟨z.toArray⟩ : ByteArray).size = z.length := rfl
  omega
/-- the cells of a row of segments -/
def segF (zs : List Seg) (j : Nat) : Int := cellOf (sg zs (j / 7)) (j % 7)
theorem segF_snoc (zs : List Seg) (s : Seg) : rowV (segF zs) (zs.length * 7) ++ [.int .i64 s.k, .int .i64 s.n, .int .i64 s.r, .int .i64 s.c, .int .i64 s.d, .int .i64 s.e, .int .i64 s.f] = rowV (segF (zs ++ [s])) ((zs.length + 1) * 7) := by
  unfold rowV
  rw [show (zs.length + 1) * 7 = zs.length * 7 + 7 by omega, List.range_add, List.map_append, List.map_map]
  congr 1
  · refine List.map_congr_left fun i hi => ?_
    rw [List.mem_range] at hi
    have h1 : i / 7 < zs.length := by omega
    have e : sg (zs ++ [s]) (i / 7) = sg zs (i / 7) := by
      unfold sg
      rw [List.getD_eq_getElem?_getD, List.getD_eq_getElem?_getD, List.getElem?_append_left h1]
    unfold segF
    rw [e]
  · have e : sg (zs ++ [s]) zs.length = s := by
      unfold sg
      rw [List.getD_eq_getElem?_getD, List.getElem?_append_right (Nat.le_refl _)]
      simp
    have k : ∀ j, j < 7 → segF (zs ++ [s]) (zs.length * 7 + j) = cellOf s j := fun j hj => by
      unfold segF
      rw [show (zs.length * 7 + j) / 7 = zs.length by omega, show (zs.length * 7 + j) % 7 = j by omega, e]
    have r7 : List.range 7 = [0, 1, 2, 3, 4, 5, 6] := rfl
    rw [r7]
    simp only [List.map_cons, List.map_nil, Function.comp]
    rw [k 0 (by omega), k 1 (by omega), k 2 (by omega), k 3 (by omega), k 4 (by omega), k 5 (by omega), k 6 (by omega)]
    rfl
theorem segs_own {t : TypeId} {B : Nat} {w : World} {q : Option Addr} {zs : List Seg} (h : OwnQ t 7 B w q zs.length (segF zs)) : Segs w q zs.length zs := by
  refine ⟨rfl, by have := h.1; unfold maxLen; omega, fun hn => ?_⟩
  obtain ⟨g, rfl, hr⟩ := h.2.2 hn
  have hl := (h.2.1 _ rfl).2
  refine ⟨g, 0, rfl, hl, fun i hi => ?_⟩
  have key : ∀ j, j < 7 → w.cell? ⟨g, 0 + i * 7 + j, none⟩ = some (.int .i64 (cellOf (sg zs i) j)) := fun j hj => by
    rw [Nat.zero_add, hr.cell (by omega)]
    unfold segF
    rw [show (i * 7 + j) / 7 = i by omega, show (i * 7 + j) % 7 = j by omega]
  exact ⟨key 0 (by omega), key 1 (by omega), key 2 (by omega), key 3 (by omega), key 4 (by omega), key 5 (by omega), key 6 (by omega)⟩
/-- what both readings of a layout hand back -/
def LayQ (t : TypeId) (w : World) (o : Option (List Seg)) (e : Ending) (w' : World) : Prop := match o with
  | some zs => ∃ q c, e = .returned (.tuple #[.agg #[.slice q zs.length c], .bool true]) ∧ OwnQ t 7 w.heap.size w' q zs.length (segF zs)
  | none => e = .returned (.tuple #[.agg #[.slice none 0 0], .bool false])
theorem cells_kept {W W' : World} {row : Option Nat} (hg : W.grownBy W' row) (hr : ∀ r, row = some r → ∃ o : Obj, W.heap[r]? = some o ∧ o.isCells = false) {k : Nat} {c : Array Value} {t : TypeId} {f : Nat × Nat} (h : W.heap[k]? = some (.cells c t f)) : W'.heap[k]? = some (.cells c t f) := by
  rw [hg.block k (Array.getElem?_eq_some_iff.1 h).1 (fun e => by
    obtain ⟨o, ho, hc⟩ := hr k e.symm
    rw [h] at ho
    cases ho
    cases hc)]
  exact h
theorem row_kept {W W' : World} {row : Option Nat} (hg : W.grownBy W' row) (hr : ∀ r, row = some r → ∃ o : Obj, W.heap[r]? = some o ∧ o.isCells = false) {B : Nat} {t : TypeId} {sz : Nat} {v : Value} {n : Nat} {xs : List Value} (h : W.ownsRow B t sz v n xs) : W'.ownsRow B t sz v n xs := by
  obtain ⟨h1, h2⟩ := h
  refine ⟨h1, ?_⟩
  rcases h2 with h2 | ⟨g, cap, cur, e, hB, hc, r⟩
  · exact .inl h2
  · exact .inr ⟨g, cap, cur, e, hB, cells_kept hg hr hc, r⟩
theorem row_other {W : World} {B : Nat} {t : TypeId} {sz : Nat} {v : Value} {n : Nat} {xs : List Value} (h : W.ownsRow B t sz v n xs) {k : Nat} (hk : k < B) (u : Value) : (W.setCell ⟨k, 0, none⟩ u).ownsRow B t sz v n xs := by
  obtain ⟨h1, h2⟩ := h
  refine ⟨h1, ?_⟩
  rcases h2 with h2 | ⟨g, cap, cur, e, hB, hc, r⟩
  · exact .inl h2
  · exact .inr ⟨g, cap, cur, e, hB, (Below.heap_setCell W ⟨k, 0, none⟩ u g (by show g ≠ k; omega)).trans hc, r⟩
/-- the state of the reading loop: what has been read, in the box B4; the results' boxes as they were made -/
def RdI (w : World) (N0 : Nat) (tl ts tb : TypeId) (pre : List (List UInt8)) (W : World) : Prop :=
  (∃ (zs : List Seg) (v : Value), rdLs pre = some zs ∧ W.heap[w.heap.size + 1 + 1]? = some (.cells #[v] tl (0, 0)) ∧ W.ownsRow N0 ts 7 v zs.length (rowV (segF zs) (zs.length * 7))) ∧
  W.heap[w.heap.size]? = some (.cells #[.slice none 0 0] tl (0, 0)) ∧ W.heap[w.heap.size + 1]? = some (.cells #[.bool false] tb (0, 0)) ∧ Below w.heap.size w W
def RdX (w : World) (s : List UInt8) (tl tb : TypeId) (W : World) : Prop :=
  rdLs (linesOf s) = none ∧ W.heap[w.heap.size]? = some (.cells #[.slice none 0 0] tl (0, 0)) ∧ W.heap[w.heap.size + 1]? = some (.cells #[.bool false] tb (0, 0)) ∧ Below w.heap.size w W
theorem RdI.kept {w : World} {N0 N : Nat} {tl ts tb : TypeId} {pre : List (List UInt8)} {W W' : World} {row : Option Nat} (h : RdI w N0 tl ts tb pre W) (hN : w.heap.size ≤ N) (hg : W.grownBy W' row) (hr : ∀ r, row = some r → N ≤ r ∧ ∃ o : Obj, W.heap[r]? = some o ∧ o.isCells = false) : RdI w N0 tl ts tb pre W' := by
  obtain ⟨⟨zs, v, h1, h2, h3⟩, h4, h5, h6⟩ := h
  have hr2 := fun r e => (hr r e).2
  exact ⟨⟨zs, v, h1, cells_kept hg hr2 h2, row_kept hg hr2 h3⟩, cells_kept hg hr2 h4, cells_kept hg hr2 h5, h6.grown hg h6.size (fun k e => Nat.le_trans hN (hr k e).1)⟩
theorem RdX.kept {w : World} {s : List UInt8} {N : Nat} {tl tb : TypeId} {W W' : World} {row : Option Nat} (h : RdX w s tl tb W) (hN : w.heap.size ≤ N) (hg : W.grownBy W' row) (hr : ∀ r, row = some r → N ≤ r ∧ ∃ o : Obj, W.heap[r]? = some o ∧ o.isCells = false) : RdX w s tl tb W' := by
  obtain ⟨h1, h4, h5, h6⟩ := h
  have hr2 := fun r e => (hr r e).2
  exact ⟨h1, cells_kept hg hr2 h4, cells_kept hg hr2 h5, h6.grown hg h6.size (fun k e => Nat.le_trans hN (hr k e).1)⟩
theorem RdI.set {w : World} {N0 : Nat} {tl ts tb : TypeId} {pre : List (List UInt8)} {W : World} (h : RdI w N0 tl ts tb pre W) (hN : w.heap.size + 1 + 1 + 1 < N0) (u : Value) : RdI w N0 tl ts tb pre (W.setCell ⟨w.heap.size + 1 + 1 + 1, 0, none⟩ u) := by
  obtain ⟨⟨zs, v, h1, h2, h3⟩, h4, h5, h6⟩ := h
  have k : ∀ j, j ≠ w.heap.size + 1 + 1 + 1 → (W.setCell ⟨w.heap.size + 1 + 1 + 1, 0, none⟩ u).heap[j]? = W.heap[j]? := fun j hj => Below.heap_setCell W ⟨w.heap.size + 1 + 1 + 1, 0, none⟩ u j hj
  exact ⟨⟨zs, v, h1, (k _ (by omega)).trans h2, row_other h3 hN u⟩, (k _ (by omega)).trans h4, (k _ (by omega)).trans h5, bset h6 (by show w.heap.size ≤ w.heap.size + 1 + 1 + 1; omega) _⟩
theorem RdI.drewN {w : World} {N0 : Nat} {tl ts tb : TypeId} {pre : List (List UInt8)} {W : World} (h : RdI w N0 tl ts tb pre W) (k : Nat) : RdI w N0 tl ts tb pre (W.drewN k) := by
  obtain ⟨⟨zs, v, h1, h2, h3⟩, h4, h5, h6⟩ := h
  exact ⟨⟨zs, v, h1, h2, h3⟩, h4, h5, bdrewN h6 _⟩
theorem set_block {W : World} {k j : Nat} {v u : Value} {t : TypeId} (h : W.heap[k]? = some (.cells #[v] t (0, 0))) : (W.setCell ⟨k, 0, none⟩ u).heap[k]? = some (.cells #[u] t (0, 0)) := by
  rw [Go.Joins.block_setCell h u]
  rfl
theorem RdX.store {w : World} {s : List UInt8} {tl tb : TypeId} {W : World} {u v : Value} (h1 : rdLs (linesOf s) = none) (h4 : W.heap[w.heap.size]? = some (.cells #[u] tl (0, 0))) (h5 : W.heap[w.heap.size + 1]? = some (.cells #[v] tb (0, 0))) (h6 : Below w.heap.size w W) :
    RdX w s tl tb ((W.setCell ⟨w.heap.size, 0, none⟩ (.slice none 0 0)).setCell ⟨w.heap.size + 1, 0, none⟩ (.bool false)) := by
  have a1 := set_block (j := 0) (u := .slice none 0 0) h4
  have a2 := (Below.heap_setCell W ⟨w.heap.size, 0, none⟩ (.slice none 0 0) (w.heap.size + 1) (by show w.heap.size + 1 ≠ w.heap.size; omega)).trans h5
  refine ⟨h1, ?_, set_block (j := 0) a2, bset (bset h6 (Nat.le_refl _) _) (by show w.heap.size ≤ w.heap.size + 1; omega) _⟩
  exact (Below.heap_setCell _ ⟨w.heap.size + 1, 0, none⟩ (.bool false) w.heap.size (by show w.heap.size ≠ w.heap.size + 1; omega)).trans a1
theorem store_far {w : World} {W : World} {k : Nat} (hk : w.heap.size + 1 < k) : ((W.setCell ⟨w.heap.size, 0, none⟩ (.slice none 0 0)).setCell ⟨w.heap.size + 1, 0, none⟩ (.bool false)).heap[k]? = W.heap[k]? :=
  (Below.heap_setCell _ ⟨w.heap.size + 1, 0, none⟩ _ k (by show k ≠ w.heap.size + 1; omega)).trans (Below.heap_setCell W ⟨w.heap.size, 0, none⟩ _ k (by show k ≠ w.heap.size; omega))
theorem at_drop {l : List Oper} {i : Nat} {o : Oper} {rest : List Oper} (hd : l.drop i = o :: rest) : l.toArray[i]? = some o := by
  rw [List.getElem?_toArray]
  have h := List.getElem?_drop (xs := l) (i := i) (j := 0)
  rw [hd] at h
  simpa using h.symm
theorem take_at {P : Program} {Q : Exit → Act → World → Prop} {md : Region.Mode} {S : World → Prop} {l : List Oper} {i : Nat} {oi : Oper} {rest : List Oper} {v : Value} {fuel : Nat} {listed : Array Bool} {a : Act} {w : World} (hd : l.drop i = oi :: rest)
    (hs : Region.noSelect l.toArray = true) (hf : Region.free md l.toArray listed i = true) (hr : (Region.ready md l.toArray listed).contains i = true)
    (hQ : ∀ c a w, Q (.panic c) (a.put oi.dst v) w → Q (.panic c) a w) (hy : YieldsIf P l.toArray S oi v a) (hS : S w)
    (h : wpAnyH P md l.toArray Q S fuel (listed.setIfInBounds i true) (a.put oi.dst v) w) : wpAnyH P md l.toArray Q S (fuel + 1) listed a w :=
  wpAnyH_take (at_drop hd) hs hf hr hQ hy hS h
theorem ready_at {P : Program} {Q : Exit → Act → World → Prop} {md : Region.Mode} {S : World → Prop} {l : List Oper} {fuel : Nat} {listed : Array Bool} {a : Act} {w : World} {i : Nat} {o : Oper} {rest : List Oper} {rs : List Nat} (hd : l.drop i = o :: rest)
    (h : ∀ K' : Act → World → Prop, Hid (∀ a w, S w → (S w → wpAnyH P md l.toArray Q S fuel (listed.setIfInBounds i true) a w) → K' a w) → if Region.wanted o (yielded l.toArray a.tmps) = true then Oper.wp P o a w K' Q else K' (a.put o.dst undef) w)
    (hs : AllReadyH P md l.toArray Q S fuel listed a w rs) : AllReadyH P md l.toArray Q S fuel listed a w (i :: rs) := AllReadyH.cons (at_drop hd) (fun K hK => h K (Lib.hid (fun a w hS hW => hK.out a w hS hW))) hs
theorem held_round {l0 n id : Nat} {P : Program} {Q : Exit → Act → World → Prop} {a : Act} {w : World} {l : List Oper} (S : World → Prop) (hm : P.follows .mixedOrders = true) (hnd : noDefer l.toArray = true) (hq : ¬ LetsOut Q) (hS : S w.drew)
    (h : S w.drew → wpAnyH P .any l.toArray Q S l.toArray.size (Array.replicate l.toArray.size false) a w.drew) : (Code.region id l.toArray true).wpIn (Fence.wide.inRound l0) n P Q a w :=
  wpIn_region_any hm (any_round hnd hq _ _ _ _ (wpAny_of_held _ _ _ _ (h hS)))
theorem own_lt {W : World} {B : Nat} {t : TypeId} {sz : Nat} {v : Value} {n : Nat} {xs : List Value} (h : W.ownsRow B t sz v n xs) {g0 : Nat} (hg : v.ownBlock = some g0) : g0 < W.heap.size := by
  rcases h.2 with ⟨rfl, _⟩ | ⟨g, cap, cur, rfl, hB, hg', r⟩
  · cases hg
  · simp only [Value.ownBlock, Option.some.injEq] at hg
    subst hg
    exact (Array.getElem?_eq_some_iff.1 hg').1
theorem sgnews (w : World) (x0 x1 x2 x3 x4 x5 x6 : Int) (t : TypeId) : ∀ j u, ([.int .i64 x0, .int .i64 x1, .int .i64 x2, .int .i64 x3, .int .i64 x4, .int .i64 x5, .int .i64 x6] : List Value)[j]? = some u → (w.alloc (.cells #[.int .i64 x0, .int .i64 x1, .int .i64 x2, .int .i64 x3, .int .i64 x4, .int .i64 x5, .int .i64 x6] t)).cell? ((⟨w.heap.size, 0, none⟩ : Addr).add j) = some u := by
  have h := World.news_of_block (w := w.alloc (.cells #[.int .i64 x0, .int .i64 x1, .int .i64 x2, .int .i64 x3, .int .i64 x4, .int .i64 x5, .int .i64 x6] t)) (B := w.heap.size) (heap_alloc_new w _)
  exact fun j u hu => h j u hu
theorem set_two {w W : World} {u v x y : Value} {t1 t2 : TypeId} (h1 : W.heap[w.heap.size]? = some (.cells #[u] t1 (0, 0))) (h2 : W.heap[w.heap.size + 1]? = some (.cells #[v] t2 (0, 0))) :
    ((W.setCell ⟨w.heap.size, 0, none⟩ x).setCell ⟨w.heap.size + 1, 0, none⟩ y).heap[w.heap.size]? = some (.cells #[x] t1 (0, 0)) ∧ ((W.setCell ⟨w.heap.size, 0, none⟩ x).setCell ⟨w.heap.size + 1, 0, none⟩ y).heap[w.heap.size + 1]? = some (.cells #[y] t2 (0, 0)) ∧
      ∀ k, w.heap.size + 1 < k → ((W.setCell ⟨w.heap.size, 0, none⟩ x).setCell ⟨w.heap.size + 1, 0, none⟩ y).heap[k]? = W.heap[k]? := by
  have a2 := (Below.heap_setCell W ⟨w.heap.size, 0, none⟩ x (w.heap.size + 1) (by show w.heap.size + 1 ≠ w.heap.size; omega)).trans h2
  refine ⟨(Below.heap_setCell _ ⟨w.heap.size + 1, 0, none⟩ y w.heap.size (by show w.heap.size ≠ w.heap.size + 1; omega)).trans (set_block (j := 0) h1), set_block (j := 0) a2, fun k hk => ?_⟩
  exact (Below.heap_setCell _ ⟨w.heap.size + 1, 0, none⟩ y k (by show k ≠ w.heap.size + 1; omega)).trans (Below.heap_setCell W ⟨w.heap.size, 0, none⟩ x k (by show k ≠ w.heap.size; omega))
theorem ownQ_move {t : TypeId} {sz B B' : Nat} {W W' : World} {q : Option Addr} {n : Nat} {f : Nat → Int} (h : OwnQ t sz B W q n f) (hB : B' ≤ B) (hs : W.heap.size ≤ W'.heap.size) (hk : ∀ k c t f, B ≤ k → W.heap[k]? = some (.cells c t f) → W'.heap[k]? = W.heap[k]?) : OwnQ t sz B' W' q n f := by
  obtain ⟨h1, h2, h3⟩ := h
  refine ⟨h1, fun a ha => ⟨Nat.le_trans hB (h2 a ha).1, Nat.lt_of_lt_of_le (h2 a ha).2 hs⟩, fun hn => ?_⟩
  obtain ⟨g, rfl, cur, hc, r⟩ := h3 hn
  exact ⟨g, rfl, cur, (hk g _ _ _ (h2 _ rfl).1 hc).trans hc, r⟩
theorem block_of {W : World} {k : Nat} {o : Obj} (h : W.heap[k]? = some o) : k < W.heap.size := (Array.getElem?_eq_some_iff.1 h).1
theorem box_cell {W : World} {k : Nat} {v : Value} {t : TypeId} (h : W.heap[k]? = some (.cells #[v] t (0, 0))) : W.cell? ⟨k, 0, none⟩ = some v ∧ W.frozen? ⟨k, 0, none⟩ = false := by
  constructor
  · simp only [World.cell?, h]; simp
  · simp only [World.frozen?, h]; simp
def riI (s : List UInt8) : Option (List Seg) := match rdLs (linesOf s) with
  | some zs => if layOk zs = true ∧ layT zs = s then some zs else none
  | none => none

theorem lib_Lines0 (s : List UInt8) (w : World) : Calls Tryz.prog 20 #[strV s] w fun e w' => e = .returned (.func (.func 39) #[] #[.pointer (some ⟨w.heap.size, 0, none⟩)]) ∧ w' = w.alloc (.cells #[strV s] 9) := by
  go_enter Tryz.func20, Tryz.ntmps20
  go_wp2
  go_ret
  exact ⟨rfl, rfl⟩

attribute [local go_sem] Oper.semAt_some
set_option maxRecDepth 100000 in
theorem i_ReadLayout (s : List UInt8) (hs : s.length ≤ 1048576) (w : World) (hr : Rd Tryz.prog w) (hw : Words w) :
    Calls Tryz.prog 6 #[strV s] w fun e w' => LayQ 41 w (riI s) e w' ∧ Below w.heap.size w w' := by
  obtain ⟨i0, hi, hz0, hz1, hz2⟩ := info_parts (P := Tryz.prog) (e := 41) (z := segV 0 0 0 0 0 0 0) (size := 7) (bytes := 56) (by kernel_rfl)
  refine (callsIn_wide (n := 3)).1 ?_
  refine callsIn_of_wp_marks Tryz.func6 rfl trivial ?_ rfl
  simp only [Tryz.ntmps6, List.size_toArray, List.length_cons, List.length_nil, Nat.reduceAdd, Nat.reduceSub, Array.replicate_succ, Array.replicate_zero, List.push_toArray, List.append_toArray, List.nil_append, List.cons_append]
  have HR := Lib.hid hr
  have HW := Lib.hid hw
  clear hr hw
  gi_wp2_with fail
  refine ⟨trivial, (callsIn_wide.2 (lib_Lines0 s _)).mono ?_⟩
  rintro e w1 ⟨rfl, rfl⟩
  gi_wp2_with fail
  obtain ⟨W0, hW0⟩ : ∃ W0, W0 = (((w.alloc (Obj.cells #[.slice none 0 0] 24)).alloc (Obj.cells #[.bool false] 4)).alloc (Obj.cells #[.slice none 0 0] 24)).alloc (Obj.cells #[strV s] 9) := ⟨_, rfl⟩
  have hN0 : W0.heap.size = w.heap.size + 4 := by rw [hW0]; simp
  have b2 : W0.heap[w.heap.size]? = some (.cells #[.slice none 0 0] 24 (0, 0)) := by
    rw [hW0]
    exact (Below.heap_alloc _ _ _ (by first | (simp; done) | (simp; omega))).trans ((Below.heap_alloc _ _ _ (by first | (simp; done) | (simp; omega))).trans ((Below.heap_alloc _ _ _ (by simp)).trans (World.alloc_heap_new w _)))
  have b3 : W0.heap[w.heap.size + 1]? = some (.cells #[.bool false] 4 (0, 0)) := by
    have h := World.alloc_heap_new (w.alloc (Obj.cells #[.slice none 0 0] 24)) (Obj.cells #[.bool false] 4)
    rw [World.size_alloc] at h
    rw [hW0]
    exact (Below.heap_alloc _ _ _ (by first | (simp; done) | (simp; omega))).trans ((Below.heap_alloc _ _ _ (by simp)).trans h)
  have b4 : W0.heap[w.heap.size + 1 + 1]? = some (.cells #[.slice none 0 0] 24 (0, 0)) := by
    have h := World.alloc_heap_new ((w.alloc (Obj.cells #[.slice none 0 0] 24)).alloc (Obj.cells #[.bool false] 4)) (Obj.cells #[.slice none 0 0] 24)
    rw [World.size_alloc, World.size_alloc] at h
    rw [hW0]
    exact (Below.heap_alloc _ _ _ (by simp)).trans h
  have b5 : W0.cell? ⟨w.heap.size + 1 + 1 + 1, 0, none⟩ = some (strV s) := by rw [hW0]; go_simp
  have f5 : W0.frozen? ⟨w.heap.size + 1 + 1 + 1, 0, none⟩ = false := by rw [hW0]; go_simp
  have hB : Below w.heap.size w W0 := by rw [hW0]; exact balloc (balloc (balloc (balloc (Below.refl _ _) _) _) _) _
  rw [← hW0]
  clear hW0
  refine range_box (xs := linesOf s) (gf := 39) (Bs := w.heap.size + 1 + 1 + 1) rfl (enters_of Tryz.func39 (by kernel_rfl) rfl) (fun _ => rfl) b5 f5 (lib_lines _ _ s hs)
    (RdI w (W0.heap.size + 2) 24 41 4) (RdX w s 24 4)
    (fun _ _ _ _ h hg hr => h.kept (by omega) hg hr) (fun _ _ _ h hg hr => h.kept (by omega) hg hr) (fun _ _ v h => h.set (by omega) v) (fun _ _ k h => h.drewN k)
    ⟨⟨[], _, rfl, b4, World.ownsRow_nil _ _ _ _⟩, b2, b3, hB⟩
    (fun x => { tmps := #[strV s, undef, .pointer (some ⟨w.heap.size, 0, none⟩), .pointer (some ⟨w.heap.size + 1, 0, none⟩), .pointer (some ⟨w.heap.size + 1 + 1, 0, none⟩), strV x, undef, undef, undef, strV s, .func (.func 39) #[] #[.pointer (some ⟨w.heap.size + 1 + 1 + 1, 0, none⟩)], strV x, undef, undef, undef, undef, undef, undef, undef, undef, undef, undef, undef, undef, undef, undef, undef, undef, undef, undef, undef, undef, undef, undef, undef, undef, undef, undef, undef, undef, undef, undef, undef, undef, undef, undef, undef, undef, undef, undef, undef, undef, undef, undef, undef, undef, undef, undef, undef, undef, undef, undef, undef, undef, undef, undef, undef, undef, undef, undef, undef], defers := [] }) ?assign ?body ?done ?stop
  case assign =>
    intro l x W K hK
    gi_wp2
    exact hK
  case body =>
    intro l pre x rest W hx hI hlt
    obtain ⟨⟨zs, v, hz, hb4, how⟩, hb2, hb3, hBW⟩ := hI
    have hxl : x.length ≤ 1048576 := by
      have := linesF_mem _ _ x (show x ∈ linesF s.length s from by
        have h : linesOf s = pre ++ x :: rest := hx
        unfold linesOf at h
        rw [h]
        simp)
      omega
    have hzl : zs.length ≤ 1048576 := by
      have h1 := rdLs_len hz
      have h2 := linesOf_len s
      rw [hx, List.length_append] at h2
      omega
    obtain ⟨t, ht⟩ : ∃ t, trimSuffix x [10] = t := ⟨_, rfl⟩
    have htl : t.length ≤ 1048576 := by
      have := trim_len x [10]
      rw [ht] at this
      omega
    have CT : Hid (Calls Tryz.prog 22 #[strV x, .string ⟨#[10]⟩] W fun e w' => e = .returned (strV t) ∧ w' = W) := by
      rw [← ht]
      exact Tryz.strings_TrimSuffix ⟨x.toArray⟩ ⟨#[10]⟩ W (by show x.length ≤ _; omega)
    have CS := Lib.hid (lib_split t htl W (HR.out.keep hBW))
    obtain ⟨k0, r, hkr⟩ : ∃ k0 r, wordsOf t = k0 :: r := by
      have h := (words_len t).1
      cases hh : wordsOf t with
      | nil => rw [hh] at h; simp at h
      | cons a b => exact ⟨a, b, rfl⟩
    have hrl : r.length ≤ 1048577 := by
      have := words_count t
      rw [hkr, List.length_cons] at this
      omega
    have hrm : ∀ z ∈ r, z.length ≤ 1048576 := fun z hz => by
      have := words_mem (z := t) (x := z) (by rw [hkr]; exact List.mem_cons_of_mem _ hz)
      omega
    have hln : rdLine x = match rdsI r with
        | some [a, b, c, d, e, f] => some ⟨kidx k0, a, b, c, d, e, f⟩
        | _ => none := by unfold rdLine; rw [ht, hkr]
    rw [hkr] at CS
    have HX := Lib.hid hx
    have HZS := Lib.hid hz
    have HRM := Lib.hid hrm
    have HLN := Lib.hid hln
    have HB4 := Lib.hid hb4
    have HB2 := Lib.hid hb2
    have HB3 := Lib.hid hb3
    have HOW := Lib.hid how
    have HBW := Lib.hid hBW
    clear hx hz ht hkr hrm hln hb4 hb2 hb3 how hBW
    gi_wp2_with fail
    refine ⟨trivial, (CallsIn.inRound l (callsIn_wide.2 CT.out)).mono ?_⟩
    rintro e W1 ⟨rfl, hW1⟩
    replace hW1 := hW1.symm
    subst hW1
    gi_wp2_with fail
    refine ⟨trivial, (CallsIn.inRound l (callsIn_wide.2 CS.out)).mono ?_⟩
    rintro e W2 ⟨g, hgW, rfl, hS, hbS⟩
    have hgl : g < W2.heap.size := by
      obtain ⟨b, off, e, hl, _⟩ := hS.2 (by simp)
      cases e
      exact hl
    have S1 : Hid (Strs W2 (some ⟨g, 1, none⟩) r.length r) := by
      refine ⟨rfl, fun hn => ⟨g, 1, rfl, hgl, fun i hi => ?_⟩⟩
      obtain ⟨b, off, e, hl, hc⟩ := hS.2 (by simp)
      cases e
      have := hc (i + 1) (by simp; omega)
      rw [Nat.zero_add] at this
      rw [Nat.add_comm 1 i, this]
      simp
    have c0 : W2.cell? ⟨g, 0, none⟩ = some (strV k0) := by
      obtain ⟨b, off, e, hl, hc⟩ := hS.2 (by simp)
      cases e
      have := hc 0 (by simp)
      rw [this]
      rfl
    have hlr : ((k0 :: r).length : Int) = (r.length : Int) + 1 := by simp
    have CN := Lib.hid (i_readNumbers (some ⟨g, 1, none⟩) r.length r.length r W2 S1.out hrl HRM.out (HR.out.keep (HBW.out.trans (hbS.mono HBW.out.size))))
    have CN0 : Hid (r = [] → Calls Tryz.prog 23 #[.slice (some ⟨g, 0, none⟩) 0 0] W2 fun e w' => NumsQ 2 W2 (rdsI r) e w' ∧ Below W2.heap.size W2 w') := fun h0 => by
      rw [h0]
      exact i_readNumbers (some ⟨g, 0, none⟩) 0 0 [] W2 ⟨rfl, fun h => absurd h (Nat.lt_irrefl _)⟩ (by omega) (fun _ h => by cases h) (HR.out.keep (HBW.out.trans (hbS.mono HBW.out.size)))
    have HBS := Lib.hid hbS
    have C0 := Lib.hid c0
    clear hS hbS c0
    have hl1 : (1 : Int) ≤ (r.length : Int) + 1 := by omega
    have key : ∀ (P3 : Ending → World → Prop), (∀ (pq : Value), P3 = P3) := fun _ _ => rfl
    by_cases hr0 : r = []
    case' pos =>
      have CX := Lib.hid (CN0.out hr0)
      have h0l : r.length = 0 := by rw [hr0]; rfl
    case' neg =>
      have CX := CN
      have h0l : ¬ r.length = 0 := fun h => hr0 (List.length_eq_zero_iff.1 h)
    all_goals
      have HR0 := Lib.hid hr0
      clear hr0 key CN CN0
      gi_wp2_with fail
      try omega
      refine ⟨trivial, (CallsIn.inRound l (callsIn_wide.2 CX.out)).mono ?_⟩
      rintro e W3 ⟨hN, hb3⟩
      have B3 := Lib.hid (HBS.out.trans (hb3.mono HBS.out.size))
      have HB3' := Lib.hid hb3
      have D2 := Lib.hid ((B3.out.block _ (block_of HB2.out)).trans HB2.out)
      have D3 := Lib.hid ((B3.out.block _ (block_of HB3.out)).trans HB3.out)
      have D4 := Lib.hid ((B3.out.block _ (block_of HB4.out)).trans HB4.out)
      obtain ⟨c2, f2⟩ := box_cell D2.out
      obtain ⟨c3, f3⟩ := box_cell D3.out
      obtain ⟨c4, f4⟩ := box_cell D4.out
      clear hb3
      cases hrd : rdsI r with
      | none =>
        rw [hrd] at hN
        have hN2 : e = .returned (.tuple #[.slice none 0 0, .bool false]) := hN
        subst hN2
        have hbad : rdLine x = none := by rw [HLN.out, hrd]
        have hall : rdLs (linesOf s) = none := by rw [HX.out]; exact rdLs_bad _ _ _ hbad
        have HALL := Lib.hid hall
        clear hN hrd hbad hall
        gi_wp2_with fail
        exact ⟨fun k hk => (store_far (by omega)).trans (B3.out.block k (by omega)), RdX.store HALL.out D2.out D3.out (HBW.out.trans (B3.out.mono HBW.out.size))⟩
      | some ys =>
        rw [hrd] at hN
        obtain ⟨q', c', rfl, hq⟩ := hN
        have HRD := Lib.hid hrd
        have hyr := rdsI_len hrd
        have hyl : ys.length ≤ 1048577 := by omega
        clear hrd
        by_cases h6 : ys.length = 6
        · try (exfalso; omega)
          all_goals
            rw [h6] at hq ⊢
            obtain ⟨y1, y2, y3, y4, y5, y6, hys⟩ : ∃ y1 y2 y3 y4 y5 y6, ys = [y1, y2, y3, y4, y5, y6] := by
              rcases ys with _ | ⟨a, _ | ⟨b, _ | ⟨c, _ | ⟨d, _ | ⟨e, _ | ⟨f, _ | ⟨g, r⟩⟩⟩⟩⟩⟩⟩ <;> first | exact ⟨a, b, c, d, e, f, rfl⟩ | (exfalso; simp only [List.length_cons, List.length_nil] at h6; omega)
            obtain ⟨gq, rfl, hrow⟩ := hq.2.2 (by omega)
            have hlq : gq < W3.heap.size := (hq.2.1 _ rfl).2
            have hgq2 : W2.heap.size ≤ gq := (hq.2.1 _ rfl).1
            have hline : rdLine x = some ⟨kidx k0, y1, y2, y3, y4, y5, y6⟩ := by rw [HLN.out, HRD.out, hys]
            have HLI := Lib.hid hline
            have q0 : W3.cell? ⟨gq, 0, none⟩ = some (.int .i64 y1) := by have := hrow.cell (i := 0) (by omega); rw [hys] at this; exact this
            have q1 : W3.cell? ⟨gq, 1, none⟩ = some (.int .i64 y2) := by have := hrow.cell (i := 1) (by omega); rw [hys] at this; exact this
            have q2 : W3.cell? ⟨gq, 2, none⟩ = some (.int .i64 y3) := by have := hrow.cell (i := 2) (by omega); rw [hys] at this; exact this
            have q3 : W3.cell? ⟨gq, 3, none⟩ = some (.int .i64 y4) := by have := hrow.cell (i := 3) (by omega); rw [hys] at this; exact this
            have q4 : W3.cell? ⟨gq, 4, none⟩ = some (.int .i64 y5) := by have := hrow.cell (i := 4) (by omega); rw [hys] at this; exact this
            have q5 : W3.cell? ⟨gq, 5, none⟩ = some (.int .i64 y6) := by have := hrow.cell (i := 5) (by omega); rw [hys] at this; exact this
            have c0' : W3.cell? ⟨g, 0, none⟩ = some (strV k0) := ((below_box (k := g) HB3'.out hgl).1 0).trans C0.out
            have HWD := Lib.hid (HW.out.keep (HBW.out.trans (B3.out.mono HBW.out.size)))
            have CI : Hid (Calls Tryz.prog 24 #[.slice (some ⟨0, 0, none⟩) 5 5, strV k0] { W3 with drawn := W3.drawn + 1 } fun e w'' => e = .returned (.int .i64 (kidx k0)) ∧ w'' = { W3 with drawn := W3.drawn + 1 }) := by
              have h := Tryz.slices_Index_string 0 0 5 5 ([kw 0, kw 1, kw 2, kw 3, kw 4].map fun x => (⟨x.toArray⟩ : ByteArray)) ⟨k0.toArray⟩ W3.drew (by decide) (by decide) (fun j hj => by
                have hj5 : j < 5 := hj
                rw [Nat.zero_add]
                refine (HWD.out j hj5).trans ?_
                rcases j with _ | _ | _ | _ | _ | j
                · rfl
                · rfl
                · rfl
                · rfl
                · rfl
                · omega)
              exact h
            have HR4 := Lib.hid (how_keep' HOW.out B3.out)
            obtain ⟨qv, cv, hv, _⟩ := ownQ_of_own HR4.out (by omega)
            clear hq hrow hline hys h6
            gi_wp2_with fail
            subst hv
            refine held_round (fun w' => w'.cell? ⟨g, 0, none⟩ = some (strV k0) ∧ w'.cell? ⟨gq, 0, none⟩ = some (.int .i64 y1) ∧ w'.cell? ⟨gq, 1, none⟩ = some (.int .i64 y2) ∧ w'.cell? ⟨gq, 2, none⟩ = some (.int .i64 y3) ∧ w'.cell? ⟨gq, 3, none⟩ = some (.int .i64 y4) ∧ w'.cell? ⟨gq, 4, none⟩ = some (.int .i64 y5) ∧ w'.cell? ⟨gq, 5, none⟩ = some (.int .i64 y6)) (by kernel_rfl) (by kernel_rfl) (fun ⟨_, _, h⟩ => h) ⟨c0', q0, q1, q2, q3, q4, q5⟩ (fun hHeld => ?_)
            refine take_at (i := 0) rfl (v := ?v1) (by kernel_rfl) (by kernel_rfl) (by kernel_rfl) (fun _ _ _ h => h) (Or.inl ⟨by rfl, ?hy1⟩) (by assumption) ?re1
            case' hy1 => intro w hSw; (try dsimp only at hSw); go_simp; (try (with_reducible rfl))
            try simp only [Act.put, List.setIfInBounds_toArray, List.set_cons_zero, List.set_cons_succ]
            refine take_at (i := 2) rfl (v := ?v2) (by kernel_rfl) (by kernel_rfl) (by kernel_rfl) (fun _ _ _ h => h) (Or.inl ⟨by rfl, ?hy2⟩) (by assumption) ?re2
            case' hy2 => intro w hSw; (try dsimp only at hSw); go_simp; (try (with_reducible rfl))
            try simp only [Act.put, List.setIfInBounds_toArray, List.set_cons_zero, List.set_cons_succ]
            refine take_at (i := 3) rfl (v := ?v3) (by kernel_rfl) (by kernel_rfl) (by kernel_rfl) (fun _ _ _ h => h) (Or.inl ⟨by rfl, ?hy3⟩) (by assumption) ?re3
            case' hy3 => intro w hSw; (try dsimp only at hSw); go_simp; (try (with_reducible rfl))
            try simp only [Act.put, List.setIfInBounds_toArray, List.set_cons_zero, List.set_cons_succ]
            refine take_at (i := 4) rfl (v := ?v4) (by kernel_rfl) (by kernel_rfl) (by kernel_rfl) (fun _ _ _ h => h) (Or.inl ⟨by rfl, ?hy4⟩) (by assumption) ?re4
            case' hy4 => intro w hSw; (try dsimp only at hSw); go_simp; (try (with_reducible rfl))
            try simp only [Act.put, List.setIfInBounds_toArray, List.set_cons_zero, List.set_cons_succ]
            refine take_at (i := 5) rfl (v := ?v5) (by kernel_rfl) (by kernel_rfl) (by kernel_rfl) (fun _ _ _ h => h) (Or.inl ⟨by rfl, ?hy5⟩) (by assumption) ?re5
            case' hy5 => intro w hSw; (try dsimp only at hSw); go_simp; (try (with_reducible rfl))
            try simp only [Act.put, List.setIfInBounds_toArray, List.set_cons_zero, List.set_cons_succ]
            refine take_at (i := 7) rfl (v := ?v6) (by kernel_rfl) (by kernel_rfl) (by kernel_rfl) (fun _ _ _ h => h) (Or.inl ⟨by rfl, ?hy6⟩) (by assumption) ?re6
            case' hy6 => intro w hSw; (try dsimp only at hSw); go_simp; (try (with_reducible rfl))
            try simp only [Act.put, List.setIfInBounds_toArray, List.set_cons_zero, List.set_cons_succ]
            refine take_at (i := 8) rfl (v := ?v7) (by kernel_rfl) (by kernel_rfl) (by kernel_rfl) (fun _ _ _ h => h) (Or.inl ⟨by rfl, ?hy7⟩) (by assumption) ?re7
            case' hy7 => intro w hSw; (try dsimp only at hSw); go_simp; (try (with_reducible rfl))
            try simp only [Act.put, List.setIfInBounds_toArray, List.set_cons_zero, List.set_cons_succ]
            refine take_at (i := 9) rfl (v := ?v8) (by kernel_rfl) (by kernel_rfl) (by kernel_rfl) (fun _ _ _ h => h) (Or.inl ⟨by rfl, ?hy8⟩) (by assumption) ?re8
            case' hy8 => intro w hSw; (try dsimp only at hSw); go_simp; (try (with_reducible rfl))
            try simp only [Act.put, List.setIfInBounds_toArray, List.set_cons_zero, List.set_cons_succ]
            refine take_at (i := 10) rfl (v := ?v9) (by kernel_rfl) (by kernel_rfl) (by kernel_rfl) (fun _ _ _ h => h) (Or.inl ⟨by rfl, ?hy9⟩) (by assumption) ?re9
            case' hy9 => intro w hSw; (try dsimp only at hSw); go_simp; (try (with_reducible rfl))
            try simp only [Act.put, List.setIfInBounds_toArray, List.set_cons_zero, List.set_cons_succ]
            refine take_at (i := 11) rfl (v := ?v10) (by kernel_rfl) (by kernel_rfl) (by kernel_rfl) (fun _ _ _ h => h) (Or.inl ⟨by rfl, ?hy10⟩) (by assumption) ?re10
            case' hy10 => intro w hSw; (try dsimp only at hSw); go_simp; (try (with_reducible rfl))
            try simp only [Act.put, List.setIfInBounds_toArray, List.set_cons_zero, List.set_cons_succ]
            refine take_at (i := 12) rfl (v := ?v11) (by kernel_rfl) (by kernel_rfl) (by kernel_rfl) (fun _ _ _ h => h) (Or.inl ⟨by rfl, ?hy11⟩) (by assumption) ?re11
            case' hy11 => intro w hSw; (try dsimp only at hSw); go_simp; (try (with_reducible rfl))
            try simp only [Act.put, List.setIfInBounds_toArray, List.set_cons_zero, List.set_cons_succ]
            refine take_at (i := 13) rfl (v := ?v12) (by kernel_rfl) (by kernel_rfl) (by kernel_rfl) (fun _ _ _ h => h) (Or.inl ⟨by rfl, ?hy12⟩) (by assumption) ?re12
            case' hy12 => intro w hSw; (try dsimp only at hSw); go_simp; (try (with_reducible rfl))
            try simp only [Act.put, List.setIfInBounds_toArray, List.set_cons_zero, List.set_cons_succ]
            refine take_at (i := 14) rfl (v := ?v13) (by kernel_rfl) (by kernel_rfl) (by kernel_rfl) (fun _ _ _ h => h) (Or.inl ⟨by rfl, ?hy13⟩) (by assumption) ?re13
            case' hy13 => intro w hSw; (try dsimp only at hSw); go_simp; (try (with_reducible rfl))
            try simp only [Act.put, List.setIfInBounds_toArray, List.set_cons_zero, List.set_cons_succ]
            refine take_at (i := 15) rfl (v := ?v14) (by kernel_rfl) (by kernel_rfl) (by kernel_rfl) (fun _ _ _ h => h) (Or.inl ⟨by rfl, ?hy14⟩) (by assumption) ?re14
            case' hy14 => intro w hSw; (try dsimp only at hSw); go_simp; (try (with_reducible rfl))
            try simp only [Act.put, List.setIfInBounds_toArray, List.set_cons_zero, List.set_cons_succ]
            refine take_at (i := 16) rfl (v := ?v15) (by kernel_rfl) (by kernel_rfl) (by kernel_rfl) (fun _ _ _ h => h) (Or.inl ⟨by rfl, ?hy15⟩) (by assumption) ?re15
            case' hy15 => intro w hSw; (try dsimp only at hSw); go_simp; (try (with_reducible rfl))
            try simp only [Act.put, List.setIfInBounds_toArray, List.set_cons_zero, List.set_cons_succ]
            refine take_at (i := 17) rfl (v := ?v16) (by kernel_rfl) (by kernel_rfl) (by kernel_rfl) (fun _ _ _ h => h) (Or.inl ⟨by rfl, ?hy16⟩) (by assumption) ?re16
            case' hy16 => intro w hSw; (try dsimp only at hSw); go_simp; (try (with_reducible rfl))
            try simp only [Act.put, List.setIfInBounds_toArray, List.set_cons_zero, List.set_cons_succ]
            refine take_at (i := 18) rfl (v := ?v17) (by kernel_rfl) (by kernel_rfl) (by kernel_rfl) (fun _ _ _ h => h) (Or.inl ⟨by rfl, ?hy17⟩) (by assumption) ?re17
            case' hy17 => intro w hSw; (try dsimp only at hSw); go_simp; (try (with_reducible rfl))
            try simp only [Act.put, List.setIfInBounds_toArray, List.set_cons_zero, List.set_cons_succ]
            refine take_at (i := 19) rfl (v := ?v18) (by kernel_rfl) (by kernel_rfl) (by kernel_rfl) (fun _ _ _ h => h) (Or.inl ⟨by rfl, ?hy18⟩) (by assumption) ?re18
            case' hy18 => intro w hSw; (try dsimp only at hSw); go_simp; (try (with_reducible rfl))
            try simp only [Act.put, List.setIfInBounds_toArray, List.set_cons_zero, List.set_cons_succ]
            refine take_at (i := 20) rfl (v := ?v19) (by kernel_rfl) (by kernel_rfl) (by kernel_rfl) (fun _ _ _ h => h) (Or.inl ⟨by rfl, ?hy19⟩) (by assumption) ?re19
            case' hy19 => intro w hSw; (try dsimp only at hSw); go_simp; (try (with_reducible rfl))
            try simp only [Act.put, List.setIfInBounds_toArray, List.set_cons_zero, List.set_cons_succ]
            refine take_at (i := 21) rfl (v := ?v20) (by kernel_rfl) (by kernel_rfl) (by kernel_rfl) (fun _ _ _ h => h) (Or.inl ⟨by rfl, ?hy20⟩) (by assumption) ?re20
            case' hy20 => intro w hSw; (try dsimp only at hSw); go_simp; (try (with_reducible rfl))
            try simp only [Act.put, List.setIfInBounds_toArray, List.set_cons_zero, List.set_cons_succ]
            refine take_at (i := 22) rfl (v := ?v21) (by kernel_rfl) (by kernel_rfl) (by kernel_rfl) (fun _ _ _ h => h) (Or.inl ⟨by rfl, ?hy21⟩) (by assumption) ?re21
            case' hy21 => intro w hSw; (try dsimp only at hSw); go_simp; (try (with_reducible rfl))
            try simp only [Act.put, List.setIfInBounds_toArray, List.set_cons_zero, List.set_cons_succ]
            refine take_at (i := 23) rfl (v := ?v22) (by kernel_rfl) (by kernel_rfl) (by kernel_rfl) (fun _ _ _ h => h) (Or.inl ⟨by rfl, ?hy22⟩) (by assumption) ?re22
            case' hy22 => intro w hSw; (try dsimp only at hSw); go_simp; (try (with_reducible rfl))
            try simp only [Act.put, List.setIfInBounds_toArray, List.set_cons_zero, List.set_cons_succ]
            refine take_at (i := 24) rfl (v := ?v23) (by kernel_rfl) (by kernel_rfl) (by kernel_rfl) (fun _ _ _ h => h) (Or.inl ⟨by rfl, ?hy23⟩) (by assumption) ?re23
            case' hy23 => intro w hSw; (try dsimp only at hSw); go_simp; (try (with_reducible rfl))
            try simp only [Act.put, List.setIfInBounds_toArray, List.set_cons_zero, List.set_cons_succ]
            refine take_at (i := 25) rfl (v := ?v24) (by kernel_rfl) (by kernel_rfl) (by kernel_rfl) (fun _ _ _ h => h) (Or.inl ⟨by rfl, ?hy24⟩) (by assumption) ?re24
            case' hy24 => intro w hSw; (try dsimp only at hSw); go_simp; (try (with_reducible rfl))
            try simp only [Act.put, List.setIfInBounds_toArray, List.set_cons_zero, List.set_cons_succ]
            refine take_at (i := 26) rfl (v := ?v25) (by kernel_rfl) (by kernel_rfl) (by kernel_rfl) (fun _ _ _ h => h) (Or.inl ⟨by rfl, ?hy25⟩) (by assumption) ?re25
            case' hy25 => intro w hSw; (try dsimp only at hSw); go_simp; (try (with_reducible rfl))
            try simp only [Act.put, List.setIfInBounds_toArray, List.set_cons_zero, List.set_cons_succ]
            have hbx := block_of D4.out
            refine wpAnyH_ready (rs := [1, 6]) (by kernel_rfl) (by simp) ?_
            refine ready_at (i := 1) rfl (fun K hK => ?pa101) (ready_at (i := 6) rfl (fun K hK => ?pb101) AllReadyH.nil)
            case' pa101 =>
              go_simp
              refine hK.out _ _ (by assumption) (fun hHeld => ?_)
              clear hK K
              try simp only [Act.put, List.setIfInBounds_toArray, List.set_cons_zero, List.set_cons_succ]
              refine wpAnyH_ready (rs := [6]) (by kernel_rfl) (by simp) ?_
              refine ready_at (i := 6) rfl (fun K hK => ?_) AllReadyH.nil
              go_simp
              refine CI.out.mono ?_
              rintro e w' ⟨rfl, rfl⟩
              go_wp2_with fail
              refine hK.out _ _ (by assumption) (fun hHeld => ?_)
              clear hK K
              try simp only [Act.put, List.setIfInBounds_toArray, List.set_cons_zero, List.set_cons_succ]
              refine take_at (i := 27) rfl (v := ?v103) (by kernel_rfl) (by kernel_rfl) (by kernel_rfl) (fun _ _ _ h => h) (Or.inl ⟨by rfl, ?hy103⟩) (by assumption) ?re103
              case' hy103 => intro w hSw; (try dsimp only at hSw); go_simp; (try (with_reducible rfl))
              try simp only [Act.put, List.setIfInBounds_toArray, List.set_cons_zero, List.set_cons_succ]
              refine wpAnyH_ready (rs := [28]) (by kernel_rfl) (by simp) ?_
              refine ready_at (i := 28) rfl (fun K hK => ?_) AllReadyH.nil
              go_simp
              refine hK.out _ _ (by go_keep) (fun hHeld => ?_)
              clear hK K
              try simp only [Act.put, List.setIfInBounds_toArray, List.set_cons_zero, List.set_cons_succ]
            case' pb101 =>
              go_simp
              refine CI.out.mono ?_
              rintro e w' ⟨rfl, rfl⟩
              go_wp2_with fail
              refine hK.out _ _ (by assumption) (fun hHeld => ?_)
              clear hK K
              try simp only [Act.put, List.setIfInBounds_toArray, List.set_cons_zero, List.set_cons_succ]
              refine take_at (i := 27) rfl (v := ?v105) (by kernel_rfl) (by kernel_rfl) (by kernel_rfl) (fun _ _ _ h => h) (Or.inl ⟨by rfl, ?hy105⟩) (by assumption) ?re105
              case' hy105 => intro w hSw; (try dsimp only at hSw); go_simp; (try (with_reducible rfl))
              try simp only [Act.put, List.setIfInBounds_toArray, List.set_cons_zero, List.set_cons_succ]
              refine wpAnyH_ready (rs := [1, 28]) (by kernel_rfl) (by simp) ?_
              refine ready_at (i := 1) rfl (fun K hK => ?pa106) (ready_at (i := 28) rfl (fun K hK => ?pb106) AllReadyH.nil)
              case' pa106 =>
                go_simp
                refine hK.out _ _ (by assumption) (fun hHeld => ?_)
                clear hK K
                try simp only [Act.put, List.setIfInBounds_toArray, List.set_cons_zero, List.set_cons_succ]
                refine wpAnyH_ready (rs := [28]) (by kernel_rfl) (by simp) ?_
                refine ready_at (i := 28) rfl (fun K hK => ?_) AllReadyH.nil
                go_simp
                refine hK.out _ _ (by go_keep) (fun hHeld => ?_)
                clear hK K
                try simp only [Act.put, List.setIfInBounds_toArray, List.set_cons_zero, List.set_cons_succ]
              case' pb106 =>
                go_simp
                refine hK.out _ _ (by go_keep) (fun hHeld => ?_)
                clear hK K
                try simp only [Act.put, List.setIfInBounds_toArray, List.set_cons_zero, List.set_cons_succ]
                refine wpAnyH_ready (rs := [1]) (by kernel_rfl) (by simp) ?_
                refine ready_at (i := 1) rfl (fun K hK => ?_) AllReadyH.nil
                go_simp
                refine hK.out _ _ (by assumption) (fun hHeld => ?_)
                clear hK K
                try simp only [Act.put, List.setIfInBounds_toArray, List.set_cons_zero, List.set_cons_succ]
            have hs3 := B3.out.size
            have hs23 := HB3'.out.size
            have hs02 := HBS.out.size
            all_goals
              have HR5 := Lib.hid (HR4.out.alloc (.cells #[.int .i64 (kidx k0), .int .i64 y1, .int .i64 y2, .int .i64 y3, .int .i64 y4, .int .i64 y5, .int .i64 y6] 41))
              refine wpAnyH_ready (rs := [29]) (by kernel_rfl) (by simp) ?_
              refine ready_at (i := 29) rfl (fun K hK => ?_) AllReadyH.nil
              rw [if_pos (by rfl)]
              refine wp_append_k _ _ _ 22 rfl (W0.heap.size + 2) 41 i0 (segV 0 0 0 0 0 0 0) 7 56 Tryz.underlying22 hi hz0 hz1 hz2 rfl (by decide) _ zs.length _ rfl HR5.out ⟨W3.heap.size, 0, none⟩ 1 1 [.int .i64 (kidx k0), .int .i64 y1, .int .i64 y2, .int .i64 y3, .int .i64 y4, .int .i64 y5, .int .i64 y6] rfl rfl (sgnews W3 (kidx k0) y1 y2 y3 y4 y5 y6 _) (by simp [Value.oneCell']) (by decide) (by unfold maxLen; omega) (by omega) (by show W0.heap.size + 2 ≤ (W3.alloc _).heap.size; rw [World.size_alloc]; omega) ?_
              intro g2 c2 w1 hown1 hbel hkp hfar hsz1
              have hbig : ∀ k, W.heap.size ≤ k → k < W3.heap.size → w1.heap[k]? = W3.heap[k]? := fun k h1 h2 => (hfar k (by show k < (W3.alloc _).heap.size; rw [World.size_alloc]; omega) (fun g0 e => by have := own_lt HOW.out e; omega)).trans (Below.heap_alloc W3 _ k h2)
              have hsml : ∀ k, k < W0.heap.size + 2 → w1.heap[k]? = W3.heap[k]? := fun k h1 => (hbel.block k h1).trans (Below.heap_alloc W3 _ k (by omega))
              have hbox1 := (hsml (w.heap.size + 1 + 1) (by omega)).trans D4.out
              obtain ⟨c1', f1'⟩ := box_cell hbox1
              have eg : w1.cell? ⟨g, 0, none⟩ = some (strV k0) := (World.cell?_of_block (w := W3) (a := ⟨g, 0, none⟩) (hbig g hgW (by omega))).trans c0'
              have eq : ∀ j, w1.cell? ⟨gq, j, none⟩ = W3.cell? ⟨gq, j, none⟩ := fun j => World.cell?_of_block (w := W3) (a := ⟨gq, j, none⟩) (hbig gq (by omega) hlq)
              refine hK.out _ _ ⟨eg, (eq 0).trans q0, (eq 1).trans q1, (eq 2).trans q2, (eq 3).trans q3, (eq 4).trans q4, (eq 5).trans q5⟩ (fun hHeld => ?_)
              clear hK K
              try simp only [Act.put, List.setIfInBounds_toArray, List.set_cons_zero, List.set_cons_succ]
              refine take_at (i := 30) rfl (v := .pointer (some ⟨w.heap.size + 1 + 1, 0, none⟩)) (by kernel_rfl) (by kernel_rfl) (by kernel_rfl) (fun _ _ _ h => h) (Or.inl ⟨by rfl, fun wx hSw => by go_simp⟩) (by assumption) ?_
              try simp only [Act.put, List.setIfInBounds_toArray, List.set_cons_zero, List.set_cons_succ]
              refine wpAnyH_ready (rs := [31]) (by kernel_rfl) (by simp) ?_
              refine ready_at (i := 31) rfl (fun K hK => ?_) AllReadyH.nil
              go_simp
              have st : ∀ (k o : Nat) (u : Value), k ≠ w.heap.size + 1 + 1 → (w1.setCell ⟨w.heap.size + 1 + 1, 0, none⟩ u).cell? ⟨k, o, none⟩ = w1.cell? ⟨k, o, none⟩ := fun k o u h => World.cell?_setCell_far _ _ _ _ (by show w.heap.size + 1 + 1 ≠ k; omega)
              refine hK.out _ _ ⟨(st g 0 _ (by omega)).trans eg, (st gq 0 _ (by omega)).trans ((eq 0).trans q0), (st gq 1 _ (by omega)).trans ((eq 1).trans q1), (st gq 2 _ (by omega)).trans ((eq 2).trans q2), (st gq 3 _ (by omega)).trans ((eq 3).trans q3), (st gq 4 _ (by omega)).trans ((eq 4).trans q4), (st gq 5 _ (by omega)).trans ((eq 5).trans q5)⟩ (fun hHeld => ?_)
              refine wpAnyH_done (by kernel_rfl) ?_ _
              have hst : ∀ k u, k ≠ w.heap.size + 1 + 1 → (w1.setCell ⟨w.heap.size + 1 + 1, 0, none⟩ u).heap[k]? = w1.heap[k]? := fun k u h => Below.heap_setCell w1 ⟨w.heap.size + 1 + 1, 0, none⟩ u k h
              have hB1 : Below w.heap.size w w1 := (balloc (HBW.out.trans (B3.out.mono HBW.out.size)) _).drew.trans (hbel.mono (by omega))
              refine ⟨fun k hk => (hst k _ (by omega)).trans ((hsml k (by omega)).trans (B3.out.block k (by omega))), ⟨zs ++ [⟨kidx k0, y1, y2, y3, y4, y5, y6⟩], _, ?_, set_block (j := 0) hbox1, ?_⟩, (hst _ _ (by omega)).trans ((hsml _ (by omega)).trans D2.out), (hst _ _ (by omega)).trans ((hsml _ (by omega)).trans D3.out), bset hB1 (by show w.heap.size ≤ w.heap.size + 1 + 1; omega) _⟩
              · rw [rdLs_snoc, HZS.out, HLI.out]
              · rw [List.length_append, List.length_singleton, ← segF_snoc]
                exact row_other hown1 (by omega) _
        · have h6c : ¬ ((ys.length : Nat) : Int) = 6 := by omega
          have hbad : rdLine x = none := by
            rw [HLN.out, HRD.out]
            rcases ys with _ | ⟨a, _ | ⟨b, _ | ⟨c, _ | ⟨d, _ | ⟨e, _ | ⟨f, _ | ⟨g, r⟩⟩⟩⟩⟩⟩⟩ <;> first | rfl | (exact absurd rfl h6)
          have hall : rdLs (linesOf s) = none := by rw [HX.out]; exact rdLs_bad _ _ _ hbad
          have HALL := Lib.hid hall
          clear hbad hall
          gi_wp2_with fail
          exact ⟨fun k hk => (store_far (by omega)).trans (B3.out.block k (by omega)), RdX.store HALL.out D2.out D3.out (HBW.out.trans (B3.out.mono HBW.out.size))⟩
  case done =>
    intro D W hD hI hK
    obtain ⟨⟨zs, v, hz, hb4, how⟩, hb2, hb3, hB⟩ := hI
    have hzl : zs.length ≤ 1048576 := by
      have h1 := rdLs_len hz
      have h2 := linesOf_len s
      omega
    obtain ⟨qv, cv, rfl, hq⟩ := ownQ_of_own how (by omega)
    have hsg := segs_own hq
    obtain ⟨c2, f2⟩ := box_cell hb2
    obtain ⟨c3, f3⟩ := box_cell hb3
    obtain ⟨c4, f4⟩ := box_cell hb4
    have CI := Lib.hid (i_IsLayout qv zs.length cv zs W hsg hzl)
    have HB := Lib.hid hB
    have HZ := Lib.hid hz
    have HQ := Lib.hid hq
    have HK := Lib.hid hK
    have HB2 := Lib.hid hb2
    have HB3 := Lib.hid hb3
    have HSG := Lib.hid hsg
    have HB4 := Lib.hid hb4
    clear hz hb4 how hb2 hb3 hB hq hsg hK
    gi_wp2_with fail
    refine ⟨trivial, (callsIn_wide.2 CI.out).mono ?_⟩
    rintro e W1 ⟨rfl, hb1⟩
    by_cases hL : layOk zs = true
    · have CT := Lib.hid (i_layoutText qv zs.length cv zs W1 (HSG.out.keep hb1) (layOk_iff.1 hL) (HR.out.keep (HB.out.trans (hb1.mono HB.out.size))).1 (HW.out.keep (HB.out.trans (hb1.mono HB.out.size))))
      have c4x := (box_cell ((hb1.block _ (block_of HB4.out)).trans HB4.out)).1
      rw [hL]
      gi_wp2_with fail
      refine ⟨trivial, (callsIn_wide.2 CT.out).mono ?_⟩
      rintro e W2 ⟨rfl, hb2⟩
      have BW := Lib.hid (hb1.trans (hb2.mono hb1.size))
      have BB := Lib.hid (HB.out.trans ((hb1.trans (hb2.mono hb1.size)).mono HB.out.size))
      have E2 := Lib.hid ((BW.out.block _ (block_of HB2.out)).trans HB2.out)
      have E3 := Lib.hid ((BW.out.block _ (block_of HB3.out)).trans HB3.out)
      have E4 := Lib.hid ((BW.out.block _ (block_of HB4.out)).trans HB4.out)
      have ED := Lib.hid ((BW.out.block _ (block_of HK.out)).trans HK.out)
      obtain ⟨c2z, f2z⟩ := box_cell E2.out
      obtain ⟨c3z, f3z⟩ := box_cell E3.out
      obtain ⟨c4z, f4z⟩ := box_cell E4.out
      by_cases hT : layT zs = s
      · have rn : riI s = some zs := by
          unfold riI
          rw [HZ.out]
          simp only [hL, hT, and_self, if_true]
        have RN := Lib.hid rn
        clear rn
        rw [hT]
        clear hT hL hb1 hb2
        gi_wp2_with fail
        obtain ⟨s2, s3, sk⟩ := set_two (x := .slice qv zs.length cv) (y := .bool true) E2.out E3.out
        have sD := (sk D (by omega)).trans ED.out
        refine ⟨by simp, .inl ⟨_, _, rfl, run_takeDeferred sD, ?_⟩⟩
        have k2 := cell_kept (box_cell s2).1 (grownBy_putObj' _ D (.deferred none)) (fun r e => by cases e; exact ⟨_, sD, rfl⟩)
        have k3 := cell_kept (box_cell s3).1 (grownBy_putObj' _ D (.deferred none)) (fun r e => by cases e; exact ⟨_, sD, rfl⟩)
        have kb := belowK_b (w := w) (Nat.le_refl w.heap.size) _ D _ (.deferred none) (by omega) sD rfl rfl
        refine ⟨.tuple #[.agg #[.slice qv zs.length cv], .bool true], ?_, ?_, (bset (bset BB.out (Nat.le_refl _) _) (by show w.heap.size ≤ w.heap.size + 1; omega) _).trans kb⟩
        · simp [results, Tryz.f6, go_sem, k2, k3]
        · rw [RN.out]
          refine ⟨qv, cv, rfl, ownQ_move HQ.out (by omega) (Nat.le_trans BW.out.size (by simp)) (fun k c tk fk hk hc => ?_)⟩
          have hkD : k ≠ D := fun e => by
            rw [e, HK.out] at hc
            cases hc
          exact (putObj_block hkD).trans ((sk k (by omega)).trans (BW.out.block k (block_of hc)))

      · have rn : riI s = none := by
          unfold riI
          rw [HZ.out]
          simp only [hT, and_false, if_false]
        have RN := Lib.hid rn
        clear rn
        have hne : (layT zs == s) = false := by simpa using hT
        clear hT hL hb1 hb2
        gi_wp2_with fail
        obtain ⟨s2, s3, sk⟩ := set_two (x := .slice none 0 0) (y := .bool false) E2.out E3.out
        have sD := (sk D (by omega)).trans ED.out
        refine ⟨by simp, .inl ⟨_, _, rfl, run_takeDeferred sD, ?_⟩⟩
        have k2 := cell_kept (box_cell s2).1 (grownBy_putObj' _ D (.deferred none)) (fun r e => by cases e; exact ⟨_, sD, rfl⟩)
        have k3 := cell_kept (box_cell s3).1 (grownBy_putObj' _ D (.deferred none)) (fun r e => by cases e; exact ⟨_, sD, rfl⟩)
        refine ⟨.tuple #[.agg #[.slice none 0 0], .bool false], ?_, ?_, (bset (bset BB.out (Nat.le_refl _) _) (by show w.heap.size ≤ w.heap.size + 1; omega) _).trans (belowK_b (w := w) (Nat.le_refl _) _ D _ _ (by omega) sD rfl rfl)⟩
        · simp [results, Tryz.f6, go_sem, k2, k3]
        · rw [RN.out]
          exact rfl

    · rw [Bool.not_eq_true] at hL
      have rn : riI s = none := by
        unfold riI
        rw [HZ.out]
        simp [hL]
      have RN := Lib.hid rn
      clear rn
      have BW := Lib.hid (hb1)
      have BB := Lib.hid (HB.out.trans ((hb1).mono HB.out.size))
      have E2 := Lib.hid ((BW.out.block _ (block_of HB2.out)).trans HB2.out)
      have E3 := Lib.hid ((BW.out.block _ (block_of HB3.out)).trans HB3.out)
      have E4 := Lib.hid ((BW.out.block _ (block_of HB4.out)).trans HB4.out)
      have ED := Lib.hid ((BW.out.block _ (block_of HK.out)).trans HK.out)
      obtain ⟨c2z, f2z⟩ := box_cell E2.out
      obtain ⟨c3z, f3z⟩ := box_cell E3.out
      obtain ⟨c4z, f4z⟩ := box_cell E4.out
      rw [hL]
      clear hL hb1
      gi_wp2_with fail
      refine ⟨trivial, ?_⟩
      gi_wp2_with fail
      obtain ⟨s2, s3, sk⟩ := set_two (x := .slice none 0 0) (y := .bool false) E2.out E3.out
      have sD := (sk D (by omega)).trans ED.out
      refine ⟨by simp, .inl ⟨_, _, rfl, run_takeDeferred sD, ?_⟩⟩
      have k2 := cell_kept (box_cell s2).1 (grownBy_putObj' _ D (.deferred none)) (fun r e => by cases e; exact ⟨_, sD, rfl⟩)
      have k3 := cell_kept (box_cell s3).1 (grownBy_putObj' _ D (.deferred none)) (fun r e => by cases e; exact ⟨_, sD, rfl⟩)
      refine ⟨.tuple #[.agg #[.slice none 0 0], .bool false], ?_, ?_, (bset (bset BB.out (Nat.le_refl _) _) (by show w.heap.size ≤ w.heap.size + 1; omega) _).trans (belowK_b (w := w) (Nat.le_refl _) _ D _ _ (by omega) sD rfl rfl)⟩
      · simp [results, Tryz.f6, go_sem, k2, k3]
      · rw [RN.out]
        exact rfl
  case stop =>
    intro D W hD hI hK
    obtain ⟨hall, hb2, hb3, hB⟩ := hI
    gi_wp2_with fail
    refine ⟨by simp, .inl ⟨_, _, rfl, run_takeDeferred hK, ?_⟩⟩
    have k2 := cell_kept (box_cell hb2).1 (grownBy_putObj' _ D (.deferred none)) (fun r e => by cases e; exact ⟨_, hK, rfl⟩)
    have k3 := cell_kept (box_cell hb3).1 (grownBy_putObj' _ D (.deferred none)) (fun r e => by cases e; exact ⟨_, hK, rfl⟩)
    refine ⟨.tuple #[.agg #[.slice none 0 0], .bool false], ?_, ?_, hB.trans (belowK_b (w := w) (Nat.le_refl _) W D _ _ (by omega) hK rfl rfl)⟩
    · simp [results, Tryz.f6, go_sem, k2, k3]
    · unfold riI
      rw [hall]
      exact rfl

end Go.Proofs.YtfbfiikomlnllaaGreatDoor
