/- Contracts and lemmas for the proofs of this seat: Lay20. -/
import Derived.Test.YtgkfnggnhphboaaBase
import Derived.Test.YtgkfnggnhphboaaNum
import Derived.Test.YtgkfnggnhphboaaIv
import Derived.Test.YtgkfnggnhphboaaIv2
import Derived.Test.YtgkfnggnhphboaaDiv
import Derived.Test.YtgkfnggnhphboaaRoot
import Derived.Test.YtgkfnggnhphboaaEn
import Derived.Test.YtgkfnggnhphboaaSeg
import Derived.Test.YtgkfnggnhphboaaList
import Derived.Test.YtgkfnggnhphboaaLay
import Derived.Test.YtgkfnggnhphboaaLay2
import Derived.Test.YtgkfnggnhphboaaLay3
import Derived.Test.YtgkfnggnhphboaaLay4
import Derived.Test.YtgkfnggnhphboaaLay5
import Derived.Test.YtgkfnggnhphboaaLay6
import Derived.Test.YtgkfnggnhphboaaLay7
import Derived.Test.YtgkfnggnhphboaaLay12
import Derived.Test.YtgkfnggnhphboaaLay13
import Derived.Test.YtgkfnggnhphboaaLay15
import Derived.Test.YtgkfnggnhphboaaLay16
import Derived.Test.YtgkfnggnhphboaaLay17
import Derived.Test.YtgkfnggnhphboaaLay18
import Derived.Lib.Hide
import Derived.BigQuiet
import Derived.Deep.QuietTactic
import Derived.Deep.OwnRows
import Derived.Deep.LoopGhost
import Derived.Deep.RegionHeld3
import Derived.Deep.DeepCutAuto
import Derived.StillTailTactics
import Derived.Deep.AppendLies
import Derived.Deep.DrawnRows
import Derived.Outline
namespace Go.Proofs.Ytgkfnggnhphboaa
open Go.RowKit Go.Deep
set_option maxHeartbeats 2000000
set_option linter.unusedVariables false
set_option linter.unusedSimpArgs false

attribute [local go_sem] lt_2 lt_3 lt_4 lt_5 lt_6
def senB (zs : List Seg) (ys : List Int) : Bool := layOk zs && (decide (ys.length ≤ 32) && risesB (totN zs) ys)
def covB (t x y s : Int) : Bool := decide ((x - s) % t < y)
def covN (t x y : Int) (ys : List Int) : Nat → List Int
  | 0 => []
  | k + 1 => if covB t x y (ys.getD k 0) = true then covN t x y ys k ++ [(k : Int)] else covN t x y ys k
theorem covN_len (t x y : Int) (ys : List Int) : ∀ k, (covN t x y ys k).length ≤ k := by
  intro k
  induction k with
  | zero => simp [covN]
  | succ k ih =>
    unfold covN
    split
    · rw [List.length_append]; simp only [List.length_cons, List.length_nil]; omega
    · omega
def scOk (zs : List Seg) (ys : List Int) (x y : Int) : Bool := senB zs ys && (code05 zs x y 1 40000 == 0)
def scL (zs : List Seg) (ys : List Int) (x y : Int) : List Int := if scOk zs ys x y = true then covN (totN zs) x y ys ys.length else []
def scC (zs : List Seg) (ys : List Int) (x y : Int) : Int := if senB zs ys = true then code05 zs x y 1 40000 else 1
theorem map_rowV (L : List Int) : L.map (Value.int .i64) = rowV (fun i => L.getD i 0) L.length := by
  unfold rowV
  refine List.ext_getElem? fun i => ?_
  simp only [List.getElem?_map]
  by_cases h : i < L.length
  · simp [h]
  · have h2 : (List.range L.length)[i]? = none := List.getElem?_eq_none (by rw [List.length_range]; omega)
    rw [List.getElem?_eq_none (by omega), h2]; rfl
theorem rises_pos {m : Int} {ys : List Int} (h : risesB m ys = true) {i : Nat} (hi : i < ys.length) : 0 ≤ ys.getD i 0 ∧ ys.getD i 0 < m := by
  unfold risesB at h
  have := of_decide_eq_true h i hi
  exact ⟨this.1, this.2.1⟩
set_option maxRecDepth 100000 in
theorem s_l05Sensors (p : Option Addr) (n cap : Nat) (zs : List Seg) (q : Option Addr) (k c : Nat) (ys : List Int) (w : World) (hin : Segs w p n zs) (hq : Ints .i64 w q k ys) :
    Calls Try.prog 99 #[.agg #[.slice p n cap], .slice q k c] w fun en w' => en = .returned (.bool (senB zs ys)) ∧ Below w.heap.size w w' := by
  have hz := hq.1
  have hk := hq.2.1
  unfold maxLen at hk
  have HQ := Lib.hid (hq.keep ((Below.refl _ _).alloc (Nat.le_refl _) (Obj.cells #[.slice p n cap] 26)))
  have HIN' : Hid (Segs (w.alloc (Obj.cells #[.slice p n cap] 26)) p n zs) := (hin.alloc _); have h0 := Own.start (w.alloc (Obj.cells #[.slice p n cap] 26)); clear hin
  clear hq
  rcases Bool.eq_false_or_eq_true (layOk zs) with hl | hl
  · have HL := Lib.hid (layOk_iff.1 hl)
    by_cases h4 : k ≤ 32
    · have h4i : (k : Int) ≤ 32 := by omega
      have hr : senB zs ys = risesB (totN zs) ys := by unfold senB; rw [hl, decide_eq_true (by omega)]; rfl
      rw [hr]
      clear hr hz
      go_enter Try.func99, Try.ntmps99
      go_wp2_with first | (go_at_call 62; refine (s_IsLayout p n cap zs _ ?_).mono ?_; (focus (exact HIN'.out.own (by first | assumption | exact Own.alloc (by assumption) _ | exact Own.drew (by assumption) | exact Own.drew (Own.alloc (by assumption) _)))); rintro e w' ⟨rfl, hb⟩; obtain ⟨hc0, hf0, hl0⟩ := below_box (k := w.heap.size) hb (by first | omega | (simp; done) | (simp; omega)); replace hb := Own.join (by first | assumption | exact Own.alloc (by assumption) _ | exact Own.drew (by assumption) | exact Own.drew (Own.alloc (by assumption) _) | exact Own.alloc (Own.alloc (by assumption) _) _ | exact Own.alloc (Own.alloc (Own.alloc (by assumption) _) _) _ | exact Own.drewN (by assumption) _ | exact Own.drew (Own.start _) | exact Own.drewN (Own.start _) _ | exact Own.start _) hb) | (go_at_call 81; refine (s_l03Total p n cap zs _ ?_ HL.out).mono ?_; (focus (exact HIN'.out.own (by first | assumption | exact Own.alloc (by assumption) _ | exact Own.drew (by assumption) | exact Own.drew (Own.alloc (by assumption) _)))); rintro e w' ⟨rfl, hb⟩; obtain ⟨hc0, hf0, hl0⟩ := below_box (k := w.heap.size) hb (by first | omega | (simp; done) | (simp; omega)); replace hb := Own.join (by first | assumption | exact Own.alloc (by assumption) _ | exact Own.drew (by assumption) | exact Own.drew (Own.alloc (by assumption) _) | exact Own.alloc (Own.alloc (by assumption) _) _ | exact Own.alloc (Own.alloc (Own.alloc (by assumption) _) _) _ | exact Own.drewN (by assumption) _ | exact Own.drew (Own.start _) | exact Own.drewN (Own.start _) _ | exact Own.start _) hb) | (go_at_call 131; refine (s_l01Rises q k c ys (totN zs) _ (HQ.out.own ?_)).mono ?_; assumption; rintro e w' ⟨rfl, hb⟩; obtain ⟨hc, hf, hl⟩ := below_box (k := w.heap.size) hb (by omega); replace hb := Own.join (by assumption) hb)
      go_ret
      exact ⟨rfl, by repeat (first | exact Below.refl _ _ | refine balloc ?_ _ | refine Below.drew ?_ | refine bdrewN ?_ _ | refine bto ?_ (Own.below (by assumption)) | refine bset ?_ (by first | (simp; done) | (simp; omega) | exact Own.le_w (by assumption) (by first | (simp; done) | (simp; omega))) _)⟩
    · have h4i : (32 : Int) < (k : Int) := by omega
      have hr : senB zs ys = false := by unfold senB; rw [decide_eq_false (p := ys.length ≤ 32) (by omega)]; simp
      rw [hr]
      clear hr hz
      go_enter Try.func99, Try.ntmps99
      go_wp2_with (go_at_call 62; refine (s_IsLayout p n cap zs _ ?_).mono ?_; (focus (exact HIN'.out.own (by first | assumption | exact Own.alloc (by assumption) _ | exact Own.drew (by assumption) | exact Own.drew (Own.alloc (by assumption) _)))); rintro e w' ⟨rfl, hb⟩; obtain ⟨hc0, hf0, hl0⟩ := below_box (k := w.heap.size) hb (by first | omega | (simp; done) | (simp; omega)); replace hb := Own.join (by first | assumption | exact Own.alloc (by assumption) _ | exact Own.drew (by assumption) | exact Own.drew (Own.alloc (by assumption) _) | exact Own.alloc (Own.alloc (by assumption) _) _ | exact Own.alloc (Own.alloc (Own.alloc (by assumption) _) _) _ | exact Own.drewN (by assumption) _ | exact Own.drew (Own.start _) | exact Own.drewN (Own.start _) _ | exact Own.start _) hb)
      go_ret
      exact ⟨rfl, by repeat (first | exact Below.refl _ _ | refine balloc ?_ _ | refine Below.drew ?_ | refine bdrewN ?_ _ | refine bto ?_ (Own.below (by assumption)) | refine bset ?_ (by first | (simp; done) | (simp; omega) | exact Own.le_w (by assumption) (by first | (simp; done) | (simp; omega))) _)⟩
  · have hr : senB zs ys = false := by unfold senB; rw [hl]; rfl
    rw [hr]
    clear hr hz
    go_enter Try.func99, Try.ntmps99
    go_wp2_with (go_at_call 62; refine (s_IsLayout p n cap zs _ ?_).mono ?_; (focus (exact HIN'.out.own (by first | assumption | exact Own.alloc (by assumption) _ | exact Own.drew (by assumption) | exact Own.drew (Own.alloc (by assumption) _)))); rintro e w' ⟨rfl, hb⟩; obtain ⟨hc0, hf0, hl0⟩ := below_box (k := w.heap.size) hb (by first | omega | (simp; done) | (simp; omega)); replace hb := Own.join (by first | assumption | exact Own.alloc (by assumption) _ | exact Own.drew (by assumption) | exact Own.drew (Own.alloc (by assumption) _) | exact Own.alloc (Own.alloc (by assumption) _) _ | exact Own.alloc (Own.alloc (Own.alloc (by assumption) _) _) _ | exact Own.drewN (by assumption) _ | exact Own.drew (Own.start _) | exact Own.drewN (Own.start _) _ | exact Own.start _) hb)
    go_ret
    exact ⟨rfl, by repeat (first | exact Below.refl _ _ | refine balloc ?_ _ | refine Below.drew ?_ | refine bdrewN ?_ _ | refine bto ?_ (Own.below (by assumption)) | refine bset ?_ (by first | (simp; done) | (simp; omega) | exact Own.le_w (by assumption) (by first | (simp; done) | (simp; omega))) _)⟩

set_option maxRecDepth 100000 in
theorem i_areSensors (p : Option Addr) (n cap : Nat) (zs : List Seg) (q : Option Addr) (k c : Nat) (ys : List Int) (w : World) (hin : Segs w p n zs) (hL : LayOk zs) (hq : Ints .i64 w q k ys) :
    Calls Try.prog 101 #[.agg #[.slice p n cap], .slice q k c] w fun en w' => en = .returned (.bool (decide (ys.length ≤ 32) && risesB (totN zs) ys)) ∧ Below w.heap.size w w' := by
  have hz := hq.1
  have hk := hq.2.1
  unfold maxLen at hk
  have HQ := Lib.hid (hq.keep ((Below.refl _ _).alloc (Nat.le_refl _) (Obj.cells #[.slice p n cap] 26)))
  have HIN' : Hid (Segs (w.alloc (Obj.cells #[.slice p n cap] 26)) p n zs) := (hin.alloc _); have h0 := Own.start (w.alloc (Obj.cells #[.slice p n cap] 26)); clear hin
  have HL := Lib.hid hL
  clear hq hL
  by_cases h4 : k ≤ 32
  · have h4i : (k : Int) ≤ 32 := by omega
    rw [decide_eq_true (by omega), Bool.true_and]
    clear hz
    go_enter Try.func101, Try.ntmps101
    go_wp2_with first | (go_at_call 76; refine (i_size p n cap zs _ ?_ HL.out).mono ?_; (focus (exact HIN'.out.own (by first | assumption | exact Own.alloc (by assumption) _ | exact Own.drew (by assumption) | exact Own.drew (Own.alloc (by assumption) _)))); rintro e w' ⟨rfl, hb⟩; obtain ⟨hc0, hf0, hl0⟩ := below_box (k := w.heap.size) hb (by first | omega | (simp; done) | (simp; omega)); replace hb := Own.join (by first | assumption | exact Own.alloc (by assumption) _ | exact Own.drew (by assumption) | exact Own.drew (Own.alloc (by assumption) _) | exact Own.alloc (Own.alloc (by assumption) _) _ | exact Own.alloc (Own.alloc (Own.alloc (by assumption) _) _) _ | exact Own.drewN (by assumption) _ | exact Own.drew (Own.start _) | exact Own.drewN (Own.start _) _ | exact Own.start _) hb) | (go_at_call 133; refine (i_IsRising q k c ys (totN zs) _ (HQ.out.own ?_)).mono ?_; assumption; rintro e w' ⟨rfl, rfl⟩)
    go_ret
    exact ⟨rfl, by repeat (first | exact Below.refl _ _ | refine balloc ?_ _ | refine Below.drew ?_ | refine bdrewN ?_ _ | refine bto ?_ (Own.below (by assumption)) | refine bset ?_ (by first | (simp; done) | (simp; omega) | exact Own.le_w (by assumption) (by first | (simp; done) | (simp; omega))) _)⟩
  · have h4i : (32 : Int) < (k : Int) := by omega
    rw [decide_eq_false (p := ys.length ≤ 32) (by omega), Bool.false_and]
    clear hz
    go_enter Try.func101, Try.ntmps101
    go_wp2
    go_ret
    exact ⟨rfl, by repeat (first | exact Below.refl _ _ | refine balloc ?_ _ | refine Below.drew ?_ | refine bdrewN ?_ _ | refine bto ?_ (Own.below (by assumption)) | refine bset ?_ (by first | (simp; done) | (simp; omega) | exact Own.le_w (by assumption) (by first | (simp; done) | (simp; omega))) _)⟩

theorem s_l05Covers (t x y s : Int) (ht : 0 < t ∧ t ≤ 4800000) (hx : 0 ≤ x ∧ x ≤ 4800000) (hs : 0 ≤ s ∧ s ≤ 4800000) (w : World) : Calls Try.prog 110 #[.int .i64 t, .int .i64 x, .int .i64 y, .int .i64 s] w fun en w' => en = .returned (.bool (covB t x y s)) ∧ w = w' := by
  go_enter Try.func110, Try.ntmps110
  go_wp2_with (go_at_call 86; refine (s_l05Mod _ _ (by omega) (by omega) _).mono ?_; rintro e w' ⟨rfl, rfl⟩)
  go_ret
  exact ⟨rfl, rfl⟩

theorem how_keep {w w' : World} {B : Nat} {t : TypeId} {sz : Nat} {v : Value} {n : Nat} {xs : List Value} (h : w.ownsRow B t sz v n xs) (hb : Below w.heap.size w w') : w'.ownsRow B t sz v n xs := by
  obtain ⟨h1, h2⟩ := h
  refine ⟨h1, ?_⟩
  rcases h2 with h2 | ⟨g, cap, cur, e, hB, hg, r⟩
  · exact .inl h2
  · exact .inr ⟨g, cap, cur, e, hB, (hb.block g (Array.getElem?_eq_some_iff.1 hg).1).trans hg, r⟩
set_option maxRecDepth 100000 in
theorem i_SensorsCovered (p : Option Addr) (n cap : Nat) (zs : List Seg) (q : Option Addr) (k c : Nat) (ys : List Int) (x y : Int) (w : World) (hin : Segs w p n zs) (hn : n ≤ 1048576) (hq : Ints .i64 w q k ys) :
    Calls Try.prog 53 #[.agg #[.slice p n cap], .slice q k c, .int .i64 x, .int .i64 y] w (ResQ 2 1 (scL zs ys x y).length (fun i => (scL zs ys x y).getD i 0) (scC zs ys x y) w) := by
  obtain ⟨i0, hi, hz0, hz1, hz2⟩ := info_parts (P := Try.prog) (e := 2) (z := .int .i64 0) (size := 1) (bytes := 8) (by kernel_rfl)
  have hz := hq.1
  have hk := hq.2.1
  unfold maxLen at hk
  have HQ := Lib.hid (hq.keep ((Below.refl _ _).alloc (Nat.le_refl _) (Obj.cells #[.slice p n cap] 26)))
  have HIN' : Hid (Segs (w.alloc (Obj.cells #[.slice p n cap] 26)) p n zs) := (hin.alloc _); have h0 := Own.start (w.alloc (Obj.cells #[.slice p n cap] 26)); clear hin
  clear hq
  rcases Bool.eq_false_or_eq_true (layOk zs) with hl | hl
  · have HL := Lib.hid (layOk_iff.1 hl)
    obtain ⟨-, t1, t2⟩ := lay_bd HL.out
    have hF := fun W hi hq => i_areSensors p n cap zs q k c ys W hi HL.out hq
    rcases Bool.eq_false_or_eq_true (decide (ys.length ≤ 32) && risesB (totN zs) ys) with hf | hf
    · rw [hf] at hF
      have HF := Lib.hid hF
      have hsen : senB zs ys = true := by unfold senB; rw [hl, hf]; rfl
      simp only [Bool.and_eq_true, decide_eq_true_eq] at hf
      have hk32 : k ≤ 32 := by omega
      have HRis := Lib.hid hf.2
      have HZ := Lib.hid hz
      by_cases hcd : code05 zs x y 1 40000 = 0
      · have hok : scOk zs ys x y = true := by unfold scOk; rw [hsen, hcd]; rfl
        have hb := hcd
        have hx0 : inB x 0 (totN zs - 1) = true := by
          cases h : inB x 0 (totN zs - 1)
          · rw [code05_bad1 hl h] at hb; cases hb
          · rfl
        have bx := inB_iff.1 hx0
        have h1 : inB y 1 (min 40000 (totN zs)) = true := by
          cases h : inB y 1 (min 40000 (totN zs))
          · rw [code05_bad2 hl h] at hb; cases hb
          · rfl
        have by' := inB_iff.1 h1
        have hL1 : scL zs ys x y = covN (totN zs) x y ys k := by unfold scL; rw [if_pos hok, hz]
        have hC1 : scC zs ys x y = 0 := by unfold scC; rw [if_pos hsen, hcd]
        rw [hL1, hC1]
        have hT := i_trainCode p n cap zs y
        have HT := Lib.hid (fun (W : World) (q1 : Option Addr) (h : Segs W p n zs) (h2 : Ints .i64 W q1 1 [x]) => hT q1 1 1 [x] W h hn h2)
        have hcd' : tcode zs [x] y = 0 := by rw [tcode1]; exact hcd
        rw [hcd'] at HT
        clear hT hcd hcd' hb hx0 h1 hL1 hC1 hok hsen hf hF hz
        go_enter Try.func53, Try.ntmps53
        go_wp2_with first | (go_at_call 58; refine (i_IsLayout p n cap zs _ ?_ hn).mono ?_; (focus (exact HIN'.out.own (by first | assumption | exact Own.alloc (by assumption) _ | exact Own.drew (by assumption) | exact Own.drew (Own.alloc (by assumption) _)))); rintro e w' ⟨rfl, hb⟩; obtain ⟨hc0, hf0, hl0⟩ := below_box (k := w.heap.size) hb (by first | omega | (simp; done) | (simp; omega)); replace hb := Own.join (by first | assumption | exact Own.alloc (by assumption) _ | exact Own.drew (by assumption) | exact Own.drew (Own.alloc (by assumption) _) | exact Own.alloc (Own.alloc (by assumption) _) _ | exact Own.alloc (Own.alloc (Own.alloc (by assumption) _) _) _ | exact Own.drewN (by assumption) _ | exact Own.drew (Own.start _) | exact Own.drewN (Own.start _) _ | exact Own.start _) hb) | (go_at_call 101; refine (HF.out _ (HIN'.out.own ?_) (HQ.out.own ?_)).mono ?_; assumption; assumption; rintro e w' ⟨rfl, hb⟩; obtain ⟨hc, hf, hl⟩ := below_box (k := w.heap.size) hb (by omega); replace hb := Own.join (by assumption) hb)
        have hO : Own (w.alloc (Obj.cells #[.slice p n cap] 26)) w' := by assumption
        have hlw : w.heap.size < w'.heap.size := by omega
        generalize w' = wA at *
        have hnw : Ints .i64 (wA.alloc (Obj.cells #[.int .i64 x] 2)) (some ⟨wA.heap.size, 0, none⟩) 1 [x] := by
          refine ⟨rfl, by unfold maxLen; omega, fun _ => ⟨wA.heap.size, 0, rfl, fun i hi => ?_⟩⟩
          obtain rfl : i = 0 := by omega
          simp
        refine (HT.out _ _ ((HIN'.out.own hO).alloc _) hnw).mono ?_
        rintro e w3 ⟨rfl, hb3⟩
        have O3 := (hO.alloc (Obj.cells #[.int .i64 x] 2)).join hb3
        clear hb3
        go_wp2
        go_loopw [11, 33] (fun v i wr => ∃ j : Nat, j ≤ k ∧ i = .int .i64 j ∧ (∃ v0 : Value, v0 = v ∧ wr.ownsRow (w.heap.size + 1) 2 1 v0 (covN (totN zs) x y ys j).length ((covN (totN zs) x y ys j).map (Value.int .i64))) ∧ Own (w.alloc (Obj.cells #[.slice p n cap] 26)) wr) (fun _ i _ => (k - intOf i).toNat)
        case atStart => exact ⟨0, Nat.zero_le _, rfl, ⟨_, rfl, World.ownsRow_nil _ _ _ _⟩, O3⟩
        case round =>
          obtain ⟨j, hj, rfl, ⟨v, rfl, how⟩, hown⟩ := hrel
          obtain ⟨wB, rfl⟩ : ∃ wB : World, wB = wr := ⟨_, rfl⟩
          have HO := Lib.hid hown
          have HOWN := Lib.hid how
          have hbx : wB.cell? ⟨w.heap.size, 0, none⟩ = some (.slice p n cap) := by rw [(below_box (k := w.heap.size) hown.below (by simp)).1 0]; go_simp
          have hbl := World.block_lt_of_cell? wB _ hbx
          simp only at hbl
          by_cases hlt : j < k
          · obtain ⟨b, off, rfl, hc⟩ := (HQ.out.own hown).2.2 (by omega)
            have hck := hc j hlt
            have hji : (j : Int) < (k : Int) := by omega
            obtain ⟨s, hs⟩ : ∃ s, s = ys.getD j 0 := ⟨_, rfl⟩
            have bs := rises_pos HRis.out (i := j) (by have := HZ.out; omega)
            rw [← hs] at hck bs
            have hcl := covN_len (totN zs) x y ys j
            have hst : covN (totN zs) x y ys (j + 1) = if covB (totN zs) x y s = true then covN (totN zs) x y ys j ++ [(j : Int)] else covN (totN zs) x y ys j := by rw [hs]; rfl
            have HST := Lib.hid hst
            clear hc hown how hs hst
            rcases ilt ((x - s) % totN zs) y with c1 | c1
            · have hcv : covB (totN zs) x y s = true := decide_eq_true c1
              have HCV := Lib.hid hcv
              clear hcv
              go_wp2_with first | (go_at_call 76; refine (i_size p n cap zs _ (HIN'.out.own HO.out) HL.out).mono ?_; rintro e w4 ⟨rfl, hb4⟩; have O4 := Lib.hid (HO.out.join hb4); have W4 := Lib.hid (how_keep HOWN.out hb4); clear hb4) | (go_at_call 79; refine (i_modulo _ _ (by omega) (by omega) _).mono ?_; rintro e w' ⟨rfl, rfl⟩) | (at_builtin; refine wpList_append_k _ rfl _ _ 40 rfl (w.heap.size + 1) 2 i0 (.int .i64 0) 1 8 Try.underlying40 hi hz0 hz1 hz2 rfl (by decide) _ _ _ rfl (W4.out.alloc _) ⟨w4.heap.size, 0, none⟩ 1 1 [.int .i64 j] rfl rfl (one_news _ _ _) (by simp [Value.oneCell']) (by decide) (by unfold maxLen; omega) (by omega) (by have := O4.out.le; simp at this ⊢; omega) ?_; intro g2 c2 w1 hown1 hbel hkp hfar hsz1; have HOWN1 := Lib.hid hown1; have HBEL := Lib.hid hbel; clear hown1 hbel hkp hfar)
              go_roundw
              case rel => exact ⟨j + 1, by omega, by go_num, ⟨_, rfl, by rw [HST.out, if_pos HCV.out]; simpa using HOWN1.out⟩, Below.trans (O4.out.alloc _).below (HBEL.out.mono (Nat.le_of_eq (World.size_alloc _ _)))⟩
              case measure => simp [intOf]; omega
            · have hcv : covB (totN zs) x y s = false := decide_eq_false (by omega)
              have HCV := Lib.hid hcv
              clear hcv
              go_wp2_with first | (go_at_call 76; refine (i_size p n cap zs _ (HIN'.out.own HO.out) HL.out).mono ?_; rintro e w4 ⟨rfl, hb4⟩; have O4 := Lib.hid (HO.out.join hb4); have W4 := Lib.hid (how_keep HOWN.out hb4); clear hb4) | (go_at_call 79; refine (i_modulo _ _ (by omega) (by omega) _).mono ?_; rintro e w' ⟨rfl, rfl⟩)
              go_roundw
              case rel => exact ⟨j + 1, by omega, by go_num, ⟨_, rfl, by rw [HST.out, if_neg (by rw [HCV.out]; simp)]; exact W4.out⟩, O4.out⟩
              case measure => simp [intOf]; omega
          · obtain rfl : j = k := by omega
            have hcl := covN_len (totN zs) x y ys j
            obtain ⟨q2, c2, rfl, hq2⟩ := ownQ_of_own (sz := 1) (f := fun i => (covN (totN zs) x y ys j).getD i 0) (n := (covN (totN zs) x y ys j).length) (by rw [Nat.mul_one, ← map_rowV]; exact how) (by omega)
            have HQ2 := Lib.hid hq2
            clear hown how hq2
            go_wp2
            go_ret2
            exact ⟨q2, c2, rfl, ⟨HQ2.out.1, fun a ha => ⟨by have := (HQ2.out.2.1 a ha).1; omega, (HQ2.out.2.1 a ha).2⟩, HQ2.out.2.2⟩, bto (balloc (Below.refl _ _) _) HO.out.below⟩
      · have hok : scOk zs ys x y = false := by unfold scOk; rw [hsen]; simpa using hcd
        have hL1 : scL zs ys x y = [] := by unfold scL; rw [if_neg (by rw [hok]; simp)]
        have hC1 : scC zs ys x y = code05 zs x y 1 40000 := by unfold scC; rw [if_pos hsen]
        rw [hL1, hC1]
        have hT := i_trainCode p n cap zs y
        have HT := Lib.hid (fun (W : World) (q1 : Option Addr) (h : Segs W p n zs) (h2 : Ints .i64 W q1 1 [x]) => hT q1 1 1 [x] W h hn h2)
        rw [tcode1] at HT
        have hb : (code05 zs x y 1 40000 == 0) = false := by simpa using hcd
        clear hT hcd hL1 hC1 hok hsen hf hF hz
        generalize code05 zs x y 1 40000 = r at *
        go_enter Try.func53, Try.ntmps53
        go_wp2_with first | (go_at_call 58; refine (i_IsLayout p n cap zs _ ?_ hn).mono ?_; (focus (exact HIN'.out.own (by first | assumption | exact Own.alloc (by assumption) _ | exact Own.drew (by assumption) | exact Own.drew (Own.alloc (by assumption) _)))); rintro e w' ⟨rfl, hb⟩; obtain ⟨hc0, hf0, hl0⟩ := below_box (k := w.heap.size) hb (by first | omega | (simp; done) | (simp; omega)); replace hb := Own.join (by first | assumption | exact Own.alloc (by assumption) _ | exact Own.drew (by assumption) | exact Own.drew (Own.alloc (by assumption) _) | exact Own.alloc (Own.alloc (by assumption) _) _ | exact Own.alloc (Own.alloc (Own.alloc (by assumption) _) _) _ | exact Own.drewN (by assumption) _ | exact Own.drew (Own.start _) | exact Own.drewN (Own.start _) _ | exact Own.start _) hb) | (go_at_call 101; refine (HF.out _ (HIN'.out.own ?_) (HQ.out.own ?_)).mono ?_; assumption; assumption; rintro e w' ⟨rfl, hb⟩; obtain ⟨hc, hf, hl⟩ := below_box (k := w.heap.size) hb (by omega); replace hb := Own.join (by assumption) hb)
        have hO : Own (w.alloc (Obj.cells #[.slice p n cap] 26)) w' := by assumption
        generalize w' = wA at *
        have hnw : Ints .i64 (wA.alloc (Obj.cells #[.int .i64 x] 2)) (some ⟨wA.heap.size, 0, none⟩) 1 [x] := by
          refine ⟨rfl, by unfold maxLen; omega, fun _ => ⟨wA.heap.size, 0, rfl, fun i hi => ?_⟩⟩
          obtain rfl : i = 0 := by omega
          simp
        refine (HT.out _ _ ((HIN'.out.own hO).alloc _) hnw).mono ?_
        rintro e w3 ⟨rfl, hb3⟩
        have O3 := Lib.hid ((hO.alloc (Obj.cells #[.int .i64 x] 2)).join hb3)
        clear hb3
        go_wp2
        go_ret2
        exact ⟨none, 0, rfl, OwnQ.nil _ _ _ _ _, bto (balloc (Below.refl _ _) _) O3.out.below⟩
    · rw [hf] at hF
      have HF := Lib.hid hF
      have hsen : senB zs ys = false := by unfold senB; rw [hl, hf]; rfl
      have hok : scOk zs ys x y = false := by unfold scOk; rw [hsen]; rfl
      have hL1 : scL zs ys x y = [] := by unfold scL; rw [if_neg (by rw [hok]; simp)]
      have hC1 : scC zs ys x y = 1 := by unfold scC; rw [if_neg (by rw [hsen]; simp)]
      rw [hL1, hC1]
      clear hL1 hC1 hok hsen hf hF hz
      go_enter Try.func53, Try.ntmps53
      go_wp2_with first | (go_at_call 58; refine (i_IsLayout p n cap zs _ ?_ hn).mono ?_; (focus (exact HIN'.out.own (by first | assumption | exact Own.alloc (by assumption) _ | exact Own.drew (by assumption) | exact Own.drew (Own.alloc (by assumption) _)))); rintro e w' ⟨rfl, hb⟩; obtain ⟨hc0, hf0, hl0⟩ := below_box (k := w.heap.size) hb (by first | omega | (simp; done) | (simp; omega)); replace hb := Own.join (by first | assumption | exact Own.alloc (by assumption) _ | exact Own.drew (by assumption) | exact Own.drew (Own.alloc (by assumption) _) | exact Own.alloc (Own.alloc (by assumption) _) _ | exact Own.alloc (Own.alloc (Own.alloc (by assumption) _) _) _ | exact Own.drewN (by assumption) _ | exact Own.drew (Own.start _) | exact Own.drewN (Own.start _) _ | exact Own.start _) hb) | (go_at_call 101; refine (HF.out _ (HIN'.out.own ?_) (HQ.out.own ?_)).mono ?_; assumption; assumption; rintro e w' ⟨rfl, hb⟩; obtain ⟨hc, hf, hl⟩ := below_box (k := w.heap.size) hb (by omega); replace hb := Own.join (by assumption) hb)
      go_ret2
      exact ⟨none, 0, rfl, OwnQ.nil _ _ _ _ _, by repeat (first | exact Below.refl _ _ | refine balloc ?_ _ | refine Below.drew ?_ | refine bdrewN ?_ _ | refine bto ?_ (Own.below (by assumption)) | refine bset ?_ (by first | (simp; done) | (simp; omega) | exact Own.le_w (by assumption) (by first | (simp; done) | (simp; omega))) _)⟩
  · have hsen : senB zs ys = false := by unfold senB; rw [hl]; rfl
    have hok : scOk zs ys x y = false := by unfold scOk; rw [hsen]; rfl
    have hL1 : scL zs ys x y = [] := by unfold scL; rw [if_neg (by rw [hok]; simp)]
    have hC1 : scC zs ys x y = 1 := by unfold scC; rw [if_neg (by rw [hsen]; simp)]
    rw [hL1, hC1]
    clear hL1 hC1 hok hsen hz
    go_enter Try.func53, Try.ntmps53
    go_wp2_with (go_at_call 58; refine (i_IsLayout p n cap zs _ ?_ hn).mono ?_; (focus (exact HIN'.out.own (by first | assumption | exact Own.alloc (by assumption) _ | exact Own.drew (by assumption) | exact Own.drew (Own.alloc (by assumption) _)))); rintro e w' ⟨rfl, hb⟩; obtain ⟨hc0, hf0, hl0⟩ := below_box (k := w.heap.size) hb (by first | omega | (simp; done) | (simp; omega)); replace hb := Own.join (by first | assumption | exact Own.alloc (by assumption) _ | exact Own.drew (by assumption) | exact Own.drew (Own.alloc (by assumption) _) | exact Own.alloc (Own.alloc (by assumption) _) _ | exact Own.alloc (Own.alloc (Own.alloc (by assumption) _) _) _ | exact Own.drewN (by assumption) _ | exact Own.drew (Own.start _) | exact Own.drewN (Own.start _) _ | exact Own.start _) hb)
    go_ret2
    exact ⟨none, 0, rfl, OwnQ.nil _ _ _ _ _, by repeat (first | exact Below.refl _ _ | refine balloc ?_ _ | refine Below.drew ?_ | refine bdrewN ?_ _ | refine bto ?_ (Own.below (by assumption)) | refine bset ?_ (by first | (simp; done) | (simp; omega) | exact Own.le_w (by assumption) (by first | (simp; done) | (simp; omega))) _)⟩

set_option maxRecDepth 100000 in
theorem s_SensorsCovered (p : Option Addr) (n cap : Nat) (zs : List Seg) (q : Option Addr) (k c : Nat) (ys : List Int) (x y : Int) (w : World) (hin : Segs w p n zs) (hq : Ints .i64 w q k ys) :
    Calls Try.prog 54 #[.agg #[.slice p n cap], .slice q k c, .int .i64 x, .int .i64 y] w (ResQ 2 1 (scL zs ys x y).length (fun i => (scL zs ys x y).getD i 0) (scC zs ys x y) w) := by
  obtain ⟨i0, hi, hz0, hz1, hz2⟩ := info_parts (P := Try.prog) (e := 2) (z := .int .i64 0) (size := 1) (bytes := 8) (by kernel_rfl)
  have hz := hq.1
  have hk := hq.2.1
  unfold maxLen at hk
  have HQ := Lib.hid (hq.keep ((Below.refl _ _).alloc (Nat.le_refl _) (Obj.cells #[.slice p n cap] 26)))
  have HIN' : Hid (Segs (w.alloc (Obj.cells #[.slice p n cap] 26)) p n zs) := (hin.alloc _); have h0 := Own.start (w.alloc (Obj.cells #[.slice p n cap] 26)); clear hin
  clear hq
  have hF := fun W hi hq => s_l05Sensors p n cap zs q k c ys W hi hq
  have HT := Lib.hid (fun W h => s_l05Train p n cap zs x y W h)
  rcases Bool.eq_false_or_eq_true (senB zs ys) with hsen | hsen
  · rw [hsen] at hF
    have HF := Lib.hid hF
    have hsen0 := hsen
    unfold senB at hsen
    simp only [Bool.and_eq_true, decide_eq_true_eq] at hsen
    have HL := Lib.hid (layOk_iff.1 hsen.1)
    obtain ⟨-, t1, t2⟩ := lay_bd HL.out
    have hk32 : k ≤ 32 := by omega
    have HRis := Lib.hid hsen.2.2
    have HZ := Lib.hid hz
    by_cases hcd : code05 zs x y 1 40000 = 0
    · have hok : scOk zs ys x y = true := by unfold scOk; rw [hsen0, hcd]; rfl
      have hb := hcd
      have hx0 : inB x 0 (totN zs - 1) = true := by
        cases h : inB x 0 (totN zs - 1)
        · rw [code05_bad1 hsen.1 h] at hb; cases hb
        · rfl
      have bx := inB_iff.1 hx0
      have hL1 : scL zs ys x y = covN (totN zs) x y ys k := by unfold scL; rw [if_pos hok, hz]
      have hC1 : scC zs ys x y = 0 := by unfold scC; rw [if_pos hsen0, hcd]
      rw [hL1, hC1]
      rw [hcd] at HT
      clear hcd hb hx0 hL1 hC1 hok hsen hsen0 hF hz
      go_enter Try.func54, Try.ntmps54
      go_wp2_with first | (go_at_call 99; refine (HF.out _ (HIN'.out.own ?_) (HQ.out.own ?_)).mono ?_; assumption; assumption; rintro e w' ⟨rfl, hb⟩; obtain ⟨hc, hf, hl⟩ := below_box (k := w.heap.size) hb (by simp); replace hb := Own.join (by assumption) hb) | (go_at_call 85; refine (HT.out _ ?_).mono ?_; (focus (exact HIN'.out.own (by first | assumption | exact Own.alloc (by assumption) _ | exact Own.drew (by assumption) | exact Own.drew (Own.alloc (by assumption) _)))); rintro e w' ⟨rfl, hb⟩; obtain ⟨hc0, hf0, hl0⟩ := below_box (k := w.heap.size) hb (by first | omega | (simp; done) | (simp; omega)); replace hb := Own.join (by first | assumption | exact Own.alloc (by assumption) _ | exact Own.drew (by assumption) | exact Own.drew (Own.alloc (by assumption) _) | exact Own.alloc (Own.alloc (by assumption) _) _ | exact Own.alloc (Own.alloc (Own.alloc (by assumption) _) _) _ | exact Own.drewN (by assumption) _ | exact Own.drew (Own.start _) | exact Own.drewN (Own.start _) _ | exact Own.start _) hb)
      have hO : Own (w.alloc (Obj.cells #[.slice p n cap] 26)) w' := by assumption
      have hlw : w.heap.size + 1 ≤ w'.heap.size := by have := hO.le; simpa using this
      generalize w' = wA at *
      have hown0 : (wA.alloc (Obj.cells #[] 2)).ownsRow (w.heap.size + 1) 2 1 (.slice (some ⟨wA.heap.size, 0, none⟩) 0 0) 0 [] :=
        ⟨rfl, .inr ⟨wA.heap.size, 0, #[], rfl, hlw, heap_alloc_new _ _, Nat.le_refl _, Nat.zero_le _, rfl, rfl⟩⟩
      go_loopw [11, 12] (fun v i wr => ∃ j : Nat, j ≤ k ∧ i = .int .i64 j ∧ (∃ v0 : Value, v0 = v ∧ wr.ownsRow (w.heap.size + 1) 2 1 v0 (covN (totN zs) x y ys j).length ((covN (totN zs) x y ys j).map (Value.int .i64))) ∧ Own (w.alloc (Obj.cells #[.slice p n cap] 26)) wr) (fun _ i _ => (k - intOf i).toNat)
      case atStart => exact ⟨0, Nat.zero_le _, rfl, ⟨_, rfl, hown0⟩, hO.alloc _⟩
      case round =>
        obtain ⟨j, hj, rfl, ⟨v, rfl, how⟩, hown⟩ := hrel
        obtain ⟨wB, rfl⟩ : ∃ wB : World, wB = wr := ⟨_, rfl⟩
        have HO := Lib.hid hown
        have HOWN := Lib.hid how
        have hbx : wB.cell? ⟨w.heap.size, 0, none⟩ = some (.slice p n cap) := by rw [(below_box (k := w.heap.size) hown.below (by simp)).1 0]; go_simp
        have hbl := World.block_lt_of_cell? wB _ hbx
        simp only at hbl
        clear hown0
        by_cases hlt : j < k
        · obtain ⟨b, off, rfl, hc⟩ := (HQ.out.own hown).2.2 (by omega)
          have hck := hc j hlt
          have hji : (j : Int) < (k : Int) := by omega
          have hj0 : (0 : Int) ≤ (j : Int) := by omega
          obtain ⟨s, hs⟩ : ∃ s, s = ys.getD j 0 := ⟨_, rfl⟩
          have bs := rises_pos HRis.out (i := j) (by have := HZ.out; omega)
          rw [← hs] at hck bs
          have hlb : b < wB.heap.size := World.block_lt_of_cell? wB _ hck
          have hcl := covN_len (totN zs) x y ys j
          have hst : covN (totN zs) x y ys (j + 1) = if covB (totN zs) x y s = true then covN (totN zs) x y ys j ++ [(j : Int)] else covN (totN zs) x y ys j := by rw [hs]; rfl
          have HST := Lib.hid hst
          have hsl := how.lt
          clear hc hown how hs hst
          rcases Bool.eq_false_or_eq_true (covB (totN zs) x y s) with hcv | hcv
          · have HCV := Lib.hid hcv
            go_wp2
            go_region_held3 (fun w' => w'.cell? ⟨w.heap.size, 0, none⟩ = some (.slice p n cap) ∧ w'.cell? ⟨b, off + j, none⟩ = some (.int .i64 s)) (go_keep) (first | (go_at_call 81; refine (s_l03Total p n cap zs _ (HIN'.out.own HO.out.drew) HL.out).mono ?_; rintro e w4 ⟨rfl, hb4⟩; have hkx := (below_box (k := w.heap.size) hb4 hbl).1 0; have hkb := (below_box (k := b) hb4 hlb).1; have O4 := Lib.hid (HO.out.drew.join hb4); have W4 := Lib.hid (how_keep (show wB.drew.ownsRow _ _ _ _ _ _ from HOWN.out) hb4); clear hb4) | (go_at_call 110; refine (s_l05Covers _ _ _ _ (by omega) (by omega) (by omega) _).mono ?_; rintro e w' ⟨rfl, rfl⟩))
            all_goals (go_wp2_with (at_builtin; refine wpList_append_k _ rfl _ _ 40 rfl (w.heap.size + 1) 2 i0 (.int .i64 0) 1 8 Try.underlying40 hi hz0 hz1 hz2 rfl (by decide) _ _ _ rfl (W4.out.alloc _) ⟨w4.heap.size, 0, none⟩ 1 1 [.int .i64 j] rfl rfl (one_news _ _ _) (by simp [Value.oneCell']) (by decide) (by unfold maxLen; omega) (by omega) (by have := O4.out.le; simp at this ⊢; omega) ?_; intro g2 c2 w1 hown1 hbel hkp hfar hsz1; have HOWN1 := Lib.hid hown1; have HBEL := Lib.hid hbel; clear hown1 hbel hkp hfar); go_roundw)
            all_goals (first | (case rel => exact ⟨j + 1, by omega, by go_num, ⟨_, rfl, by rw [HST.out, if_pos HCV.out]; simpa using HOWN1.out⟩, Below.trans (O4.out.alloc _).below (HBEL.out.mono (Nat.le_of_eq (World.size_alloc _ _)))⟩) | (case measure => simp [intOf]; omega))
          · have HCV := Lib.hid hcv
            go_wp2
            go_region_held3 (fun w' => w'.cell? ⟨w.heap.size, 0, none⟩ = some (.slice p n cap) ∧ w'.cell? ⟨b, off + j, none⟩ = some (.int .i64 s)) (go_keep) (first | (go_at_call 81; refine (s_l03Total p n cap zs _ (HIN'.out.own HO.out.drew) HL.out).mono ?_; rintro e w4 ⟨rfl, hb4⟩; have hkx := (below_box (k := w.heap.size) hb4 hbl).1 0; have hkb := (below_box (k := b) hb4 hlb).1; have O4 := Lib.hid (HO.out.drew.join hb4); have W4 := Lib.hid (how_keep (show wB.drew.ownsRow _ _ _ _ _ _ from HOWN.out) hb4); clear hb4) | (go_at_call 110; refine (s_l05Covers _ _ _ _ (by omega) (by omega) (by omega) _).mono ?_; rintro e w' ⟨rfl, rfl⟩))
            all_goals (go_wp2; go_roundw)
            all_goals (first | (case rel => exact ⟨j + 1, by omega, by go_num, ⟨_, rfl, by rw [HST.out, if_neg (by rw [HCV.out]; simp)]; exact W4.out⟩, O4.out⟩) | (case measure => simp [intOf]; omega))
        · obtain rfl : j = k := by omega
          have hcl := covN_len (totN zs) x y ys j
          obtain ⟨q2, c2, rfl, hq2⟩ := ownQ_of_own (sz := 1) (f := fun i => (covN (totN zs) x y ys j).getD i 0) (n := (covN (totN zs) x y ys j).length) (by rw [Nat.mul_one, ← map_rowV]; exact how) (by omega)
          have HQ2 := Lib.hid hq2
          clear hown how hq2
          go_wp2
          go_ret2
          exact ⟨q2, c2, rfl, ⟨HQ2.out.1, fun a ha => ⟨by have := (HQ2.out.2.1 a ha).1; omega, (HQ2.out.2.1 a ha).2⟩, HQ2.out.2.2⟩, bto (balloc (Below.refl _ _) _) HO.out.below⟩
    · have hok : scOk zs ys x y = false := by unfold scOk; rw [hsen0]; simpa using hcd
      have hL1 : scL zs ys x y = [] := by unfold scL; rw [if_neg (by rw [hok]; simp)]
      have hC1 : scC zs ys x y = code05 zs x y 1 40000 := by unfold scC; rw [if_pos hsen0]
      rw [hL1, hC1]
      have hb : (code05 zs x y 1 40000 == 0) = false := by simpa using hcd
      clear hcd hL1 hC1 hok hsen hsen0 hF hz
      generalize code05 zs x y 1 40000 = r at *
      go_enter Try.func54, Try.ntmps54
      go_wp2_with first | (go_at_call 99; refine (HF.out _ (HIN'.out.own ?_) (HQ.out.own ?_)).mono ?_; assumption; assumption; rintro e w' ⟨rfl, hb⟩; obtain ⟨hc, hf, hl⟩ := below_box (k := w.heap.size) hb (by simp); replace hb := Own.join (by assumption) hb) | (go_at_call 85; refine (HT.out _ ?_).mono ?_; (focus (exact HIN'.out.own (by first | assumption | exact Own.alloc (by assumption) _ | exact Own.drew (by assumption) | exact Own.drew (Own.alloc (by assumption) _)))); rintro e w' ⟨rfl, hb⟩; obtain ⟨hc0, hf0, hl0⟩ := below_box (k := w.heap.size) hb (by first | omega | (simp; done) | (simp; omega)); replace hb := Own.join (by first | assumption | exact Own.alloc (by assumption) _ | exact Own.drew (by assumption) | exact Own.drew (Own.alloc (by assumption) _) | exact Own.alloc (Own.alloc (by assumption) _) _ | exact Own.alloc (Own.alloc (Own.alloc (by assumption) _) _) _ | exact Own.drewN (by assumption) _ | exact Own.drew (Own.start _) | exact Own.drewN (Own.start _) _ | exact Own.start _) hb)
      go_ret2
      exact ⟨none, 0, rfl, OwnQ.nil _ _ _ _ _, by repeat (first | exact Below.refl _ _ | refine balloc ?_ _ | refine Below.drew ?_ | refine bdrewN ?_ _ | refine bto ?_ (Own.below (by assumption)) | refine bset ?_ (by first | (simp; done) | (simp; omega) | exact Own.le_w (by assumption) (by first | (simp; done) | (simp; omega))) _)⟩
  · rw [hsen] at hF
    have HF := Lib.hid hF
    have hok : scOk zs ys x y = false := by unfold scOk; rw [hsen]; rfl
    have hL1 : scL zs ys x y = [] := by unfold scL; rw [if_neg (by rw [hok]; simp)]
    have hC1 : scC zs ys x y = 1 := by unfold scC; rw [if_neg (by rw [hsen]; simp)]
    rw [hL1, hC1]
    clear hL1 hC1 hok hsen hF hz
    go_enter Try.func54, Try.ntmps54
    go_wp2_with (go_at_call 99; refine (HF.out _ (HIN'.out.own ?_) (HQ.out.own ?_)).mono ?_; assumption; assumption; rintro e w' ⟨rfl, hb⟩; obtain ⟨hc, hf, hl⟩ := below_box (k := w.heap.size) hb (by simp); replace hb := Own.join (by assumption) hb)
    go_ret2
    exact ⟨none, 0, rfl, OwnQ.nil _ _ _ _ _, by repeat (first | exact Below.refl _ _ | refine balloc ?_ _ | refine Below.drew ?_ | refine bdrewN ?_ _ | refine bto ?_ (Own.below (by assumption)) | refine bset ?_ (by first | (simp; done) | (simp; omega) | exact Own.le_w (by assumption) (by first | (simp; done) | (simp; omega))) _)⟩

end Go.Proofs.Ytgkfnggnhphboaa
