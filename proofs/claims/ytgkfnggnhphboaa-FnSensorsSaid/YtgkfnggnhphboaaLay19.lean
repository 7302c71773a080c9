/- Contracts and lemmas for the proofs of this seat: Lay19. -/
import Derived.Test.YtgkfnggnhphboaaBase
import Derived.Test.YtgkfnggnhphboaaNum
import Derived.Test.YtgkfnggnhphboaaIv
import Derived.Test.YtgkfnggnhphboaaIv2
import Derived.Test.YtgkfnggnhphboaaDiv
import Derived.Test.YtgkfnggnhphboaaRoot
import Derived.Test.YtgkfnggnhphboaaEn
import Derived.Test.YtgkfnggnhphboaaSeg
import Derived.Test.YtgkfnggnhphboaaList
import Derived.Test.YtgkfnggnhphboaaLay
import Derived.Test.YtgkfnggnhphboaaLay2
import Derived.Test.YtgkfnggnhphboaaLay3
import Derived.Test.YtgkfnggnhphboaaLay4
import Derived.Test.YtgkfnggnhphboaaLay5
import Derived.Test.YtgkfnggnhphboaaLay6
import Derived.Test.YtgkfnggnhphboaaLay7
import Derived.Lib.Hide
import Derived.BigQuiet
import Derived.Deep.QuietTactic
import Derived.Deep.OwnRows
import Derived.Deep.LoopGhost
import Derived.Deep.RegionHeld3
import Derived.Deep.DeepCutAuto
import Derived.StillTailTactics
import Derived.Deep.AppendLies
import Derived.Deep.DrawnRows
import Derived.Outline
namespace Go.Proofs.Ytgkfnggnhphboaa
open Go.RowKit Go.Deep
set_option maxHeartbeats 2000000
set_option linter.unusedVariables false
set_option linter.unusedSimpArgs false

attribute [local go_sem] lt_2 lt_3 lt_4 lt_5 lt_6
/-- front i collides with one before it -/
def hitB (t m : Int) (ys : List Int) (i : Nat) : Bool := (ys.take i).any fun b => !apartB t (ys.getD i 0) b m
def sepB (t m : Int) (ys : List Int) : Bool := decide (∀ i, i < ys.length → hitB t m ys i = false)
theorem sepB_true {t m : Int} {ys : List Int} (h : ∀ i, i < ys.length → hitB t m ys i = false) : sepB t m ys = true := decide_eq_true h
theorem sepB_false {t m : Int} {ys : List Int} {i : Nat} (hi : i < ys.length) (h : hitB t m ys i = true) : sepB t m ys = false := decide_eq_false fun H => by rw [H i hi] at h; cases h
def allPos (zs : List Seg) (ys : List Int) : Bool := !(ys.any fun y => !isPos zs y)
theorem allPos_mem {zs : List Seg} {ys : List Int} (h : allPos zs ys = true) {y : Int} (hy : y ∈ ys) : 0 ≤ y ∧ y ≤ totN zs - 1 := by
  unfold allPos at h
  simp only [Bool.not_eq_true', List.any_eq_false] at h
  have := h y hy
  cases h2 : isPos zs y
  · rw [h2] at this; simp at this
  · exact inB_iff.1 h2
set_option maxRecDepth 100000 in
theorem c_areSep (B1 B2 B3 : Nat) (p : Option Addr) (n cap : Nat) (zs : List Seg) (a b m : Int) (ha : 0 ≤ a ∧ a ≤ 4800000) (hb : 0 ≤ b ∧ b ≤ 4800000) (hm : 1 ≤ m) (w : World) (hin : Segs w p n zs) (hL : LayOk zs)
    (hbox : w.cell? ⟨B1, 0, none⟩ = some (.slice p n cap)) (h2 : w.cell? ⟨B2, 0, none⟩ = some (.int .i64 a)) (h3 : w.cell? ⟨B3, 0, none⟩ = some (.int .i64 m)) :
    Calls Try.prog 130 #[.int .i64 b, .pointer (some ⟨B1, 0, none⟩), .pointer (some ⟨B2, 0, none⟩), .pointer (some ⟨B3, 0, none⟩)] w fun e w' => e = .returned (.bool (!apartB (totN zs) a b m)) ∧ Below w.heap.size w w' := by
  have HA := Lib.hid (i_areApart p n cap zs a b m ha hb hm w hin hL)
  clear hin hL
  go_enter Try.func130, Try.ntmps130
  go_wp2_with fail
  refine HA.out.mono ?_
  rintro e w' ⟨rfl, hb⟩
  have HB := Lib.hid hb
  clear hb
  go_wp2
  go_ret
  exact ⟨rfl, HB.out⟩

set_option maxRecDepth 100000 in
theorem i_areSeparate (p : Option Addr) (n cap : Nat) (zs : List Seg) (q : Option Addr) (k c : Nat) (ys : List Int) (m : Int) (hm : 1 ≤ m) (hkc : k ≤ c) (w : World) (hin : Segs w p n zs) (hL : LayOk zs) (hq : Ints .i64 w q k ys) (hP : allPos zs ys = true) :
    Calls Try.prog 96 #[.agg #[.slice p n cap], .slice q k c, .int .i64 m] w fun en w' => en = .returned (.bool (sepB (totN zs) m ys)) ∧ Below w.heap.size w w' := by
  obtain ⟨-, t1, t2⟩ := lay_bd hL
  have hk := hq.2.1
  have hz := hq.1
  unfold maxLen at hk
  have HQ := Lib.hid ((hq.keep ((Below.refl _ _).alloc (Nat.le_refl _) (Obj.cells #[.slice p n cap] 26))).keep ((Below.refl _ _).alloc (Nat.le_refl _) (Obj.cells #[.int .i64 m] 2)))
  have HIN' : Hid (Segs ((w.alloc (Obj.cells #[.slice p n cap] 26)).alloc (Obj.cells #[.int .i64 m] 2)) p n zs) := ((hin.alloc _).alloc _); have h0 := Own.start ((w.alloc (Obj.cells #[.slice p n cap] 26)).alloc (Obj.cells #[.int .i64 m] 2)); clear hin
  have HL := Lib.hid hL
  have HP := Lib.hid hP
  have HZ := Lib.hid hz
  clear hL hP hz hq
  go_enter Try.func96, Try.ntmps96
  go_wp2
  go_loopw [11] (fun i wr => ∃ j : Nat, j ≤ k ∧ i = .int .i64 j ∧ (∀ i, i < j → hitB (totN zs) m ys i = false) ∧ Own ((w.alloc (Obj.cells #[.slice p n cap] 26)).alloc (Obj.cells #[.int .i64 m] 2)) wr) (fun i _ => k - (intOf i).toNat)
  case atStart => exact ⟨0, Nat.zero_le _, rfl, fun i hi => by omega, h0⟩
  case round =>
    obtain ⟨j, hj, rfl, hN, hown⟩ := hrel
    obtain ⟨wA, rfl⟩ : ∃ wA : World, wA = wr := ⟨_, rfl⟩
    have HO := Lib.hid hown
    have HN := Lib.hid hN
    have hb1 : wA.cell? ⟨w.heap.size, 0, none⟩ = some (.slice p n cap) := by rw [(below_box (k := w.heap.size) hown.below (by simp; omega)).1 0]; go_simp
    have hb2 : wA.cell? ⟨w.heap.size + 1, 0, none⟩ = some (.int .i64 m) := by rw [(below_box (k := w.heap.size + 1) hown.below (by simp)).1 0]; go_simp
    have hl1 := World.block_lt_of_cell? wA _ hb1
    have hl2 := World.block_lt_of_cell? wA _ hb2
    simp only at hl1 hl2
    clear hN
    by_cases hlt : j < k
    · obtain ⟨b, off, rfl, hc⟩ := (HQ.out.own hown).2.2 (by omega)
      have hck := hc j hlt
      have hji : (j : Int) < (k : Int) := by omega
      have hjc : (j : Int) ≤ (c : Int) := by omega
      obtain ⟨a, ha⟩ : ∃ a, a = ys.getD j 0 := ⟨_, rfl⟩
      have hmem : a ∈ ys := by rw [ha, List.getD_eq_getElem?_getD, List.getElem?_eq_getElem (by rw [HZ.out]; exact hlt)]; exact List.getElem_mem _
      have hab := allPos_mem HP.out hmem
      have hIn : Ints .i64 (wA.alloc (Obj.cells #[.int .i64 a] 2)) (some ⟨b, off, none⟩) j (ys.take j) := by
        refine ⟨by simp; have := HZ.out; omega, by unfold maxLen; omega, fun _ => ⟨b, off, rfl, fun i hi => ?_⟩⟩
        have h1 := hc i (by omega)
        rw [Below.cell (Below.alloc (Below.refl wA.heap.size wA) (Nat.le_refl _) _) (World.block_lt_of_cell? wA _ h1), h1]
        simp [List.getD_eq_getElem?_getD, List.getElem?_take, hi]
      have hC := lib_ContainsFunc_sep (fun x => !apartB (totN zs) a x m) (.pointer (some ⟨w.heap.size, 0, none⟩)) (.pointer (some ⟨wA.heap.size, 0, none⟩)) (.pointer (some ⟨w.heap.size + 1, 0, none⟩)) (some ⟨b, off, none⟩) j c (ys.take j) (wA.alloc (Obj.cells #[.int .i64 a] 2)) hIn
        (fun W x hx hW => by
          have hx2 := allPos_mem HP.out (List.mem_of_mem_take hx)
          exact c_areSep w.heap.size wA.heap.size (w.heap.size + 1) p n cap zs a x m (by omega) (by omega) hm W (((HIN'.out.own HO.out).alloc _).own hW) HL.out
            (by rw [(below_box (k := w.heap.size) hW.below (by simp; omega)).1 0]; go_simp) (by rw [(below_box (k := wA.heap.size) hW.below (by simp)).1 0]; go_simp) (by rw [(below_box (k := w.heap.size + 1) hW.below (by simp; omega)).1 0]; go_simp))
      have hhit : (ys.take j).any (fun x => !apartB (totN zs) a x m) = hitB (totN zs) m ys j := by unfold hitB; rw [ha]
      rw [hhit] at hC
      rw [← ha] at hck
      have HC := Lib.hid hC
      clear hc hown ha hmem hIn hC hhit
      rcases Bool.eq_false_or_eq_true (hitB (totN zs) m ys j) with h1 | h1
      · have HR := Lib.hid (sepB_false (by rw [HZ.out]; exact hlt) h1)
        go_wp2_with fail
        refine HC.out.mono ?_
        rintro e w' ⟨rfl, hb⟩
        have HB := Lib.hid (Below.trans (HO.out.alloc _).below (hb.mono (HO.out.alloc _).le))
        clear hb
        go_wp2
        go_ret
        exact ⟨ret_bool HR.out.symm, bto (balloc (balloc (Below.refl _ _) _) _) HB.out⟩
      · have HN1 : Hid (∀ i, i < j + 1 → hitB (totN zs) m ys i = false) := fun i hi => by
          by_cases e : i = j
          · rw [e]; exact h1
          · exact HN.out i (by omega)
        go_wp2_with fail
        refine HC.out.mono ?_
        rintro e w' ⟨rfl, hb⟩
        have HB := Lib.hid (Below.trans (HO.out.alloc _).below (hb.mono (HO.out.alloc _).le))
        clear hb
        go_wp2
        go_roundw
        case rel => exact ⟨j + 1, by omega, by go_num, HN1.out, HB.out⟩
        case measure => simp [intOf]; omega
    · obtain rfl : j = k := by omega
      have HR := Lib.hid (sepB_true (t := totN zs) (m := m) (ys := ys) (fun i hi => HN.out i (by have := HZ.out; omega)))
      clear hown
      go_wp2
      go_ret
      exact ⟨ret_bool HR.out.symm, bto (balloc (balloc (Below.refl _ _) _) _) HO.out.below⟩

def asR (zs : List Seg) (ys : List Int) (m : Int) : Bool := layOk zs && (decide (ys.length ≤ 4) && (allPos zs ys && (inB m 1 (min 40000 (totN zs)) && sepB (totN zs) m ys)))
theorem tcode_zero {zs : List Seg} {ys : List Int} {m : Int} : tcode zs ys m = 0 ↔ layOk zs = true ∧ allPos zs ys = true ∧ inB m 1 (min 40000 (totN zs)) = true := by
  unfold tcode allPos
  by_cases h1 : layOk zs = true
  · rw [if_pos h1]
    cases h2 : ys.any fun y => !isPos zs y
    · by_cases h3 : inB m 1 (min 40000 (totN zs)) = true <;> simp [h1, h3]
    · simp
  · rw [if_neg h1]; simp [h1]
set_option maxRecDepth 100000 in
theorem i_AreSeparate (p : Option Addr) (n cap : Nat) (zs : List Seg) (q : Option Addr) (k c : Nat) (ys : List Int) (m : Int) (hkc : k ≤ c) (w : World) (hin : Segs w p n zs) (hn : n ≤ 1048576) (hq : Ints .i64 w q k ys) :
    Calls Try.prog 39 #[.agg #[.slice p n cap], .slice q k c, .int .i64 m] w fun en w' => en = .returned (.bool (asR zs ys m)) ∧ Below w.heap.size w w' := by
  have hz := hq.1
  have hk := hq.2.1
  unfold maxLen at hk
  have HQ := Lib.hid (hq.keep ((Below.refl _ _).alloc (Nat.le_refl _) (Obj.cells #[.slice p n cap] 26)))
  have HIN' : Hid (Segs (w.alloc (Obj.cells #[.slice p n cap] 26)) p n zs) := (hin.alloc _); have h0 := Own.start (w.alloc (Obj.cells #[.slice p n cap] 26)); clear hin
  have HT := Lib.hid (i_trainCode p n cap zs m q k c ys _ HIN'.out hn HQ.out)
  clear hq
  by_cases h0' : tcode zs ys m = 0
  · obtain ⟨hl, hp, hb⟩ := tcode_zero.1 h0'
    have HL := Lib.hid (layOk_iff.1 hl)
    have hm : 1 ≤ m := by have := inB_iff.1 hb; omega
    by_cases h4 : k ≤ 4
    · have h4i : (k : Int) ≤ 4 := by omega
      have hr : asR zs ys m = sepB (totN zs) m ys := by simp [asR, hl, hp, hb, hz, h4]
      have HS := Lib.hid (fun W hi hq => i_areSeparate p n cap zs q k c ys m hm hkc W hi HL.out hq hp)
      rw [hr]
      rw [h0'] at HT
      clear hr hl hp hb hz h0'
      go_enter Try.func39, Try.ntmps39
      go_wp2_with fail
      refine HT.out.mono ?_
      rintro e w1 ⟨rfl, hb1⟩
      obtain ⟨hc1, -, hl1⟩ := below_box (k := w.heap.size) hb1 (by simp)
      have O1 := h0.join hb1
      clear hb1
      go_wp2_with fail
      refine (HS.out _ (HIN'.out.own O1) (HQ.out.own O1)).mono ?_
      rintro e w2 ⟨rfl, hb2⟩
      have O2 := Lib.hid (O1.join hb2)
      clear hb2 O1
      go_wp2
      go_ret
      exact ⟨rfl, bto (balloc (Below.refl _ _) _) O2.out.below⟩
    · have h4i : (4 : Int) < (k : Int) := by omega
      have hr : asR zs ys m = false := by unfold asR; rw [decide_eq_false (p := ys.length ≤ 4) (by omega)]; simp
      rw [hr]
      rw [h0'] at HT
      clear hr hl hp hb hz h0'
      go_enter Try.func39, Try.ntmps39
      go_wp2_with fail
      refine HT.out.mono ?_
      rintro e w1 ⟨rfl, hb1⟩
      have O1 := Lib.hid (h0.join hb1)
      clear hb1
      go_wp2
      go_ret
      exact ⟨rfl, bto (balloc (Below.refl _ _) _) O1.out.below⟩
  · have hr : asR zs ys m = false := by
      cases h : asR zs ys m
      · rfl
      · unfold asR at h
        simp only [Bool.and_eq_true] at h
        exact absurd (tcode_zero.2 ⟨h.1, h.2.2.1, h.2.2.2.1⟩) h0'
    rw [hr]
    have hb : (tcode zs ys m == 0) = false := by simpa using h0'
    clear hr hz h0'
    generalize tcode zs ys m = r at *
    go_enter Try.func39, Try.ntmps39
    go_wp2_with fail
    refine HT.out.mono ?_
    rintro e w1 ⟨rfl, hb1⟩
    have O1 := Lib.hid (h0.join hb1)
    clear hb1
    go_wp2
    go_ret
    exact ⟨rfl, bto (balloc (Below.refl _ _) _) O1.out.below⟩

set_option maxRecDepth 100000 in
theorem s_l05Fronts (p : Option Addr) (n cap : Nat) (zs : List Seg) (q : Option Addr) (k c : Nat) (ys : List Int) (m : Int) (w : World) (hin : Segs w p n zs) (hL : LayOk zs) (hq : Ints .i64 w q k ys) :
    Calls Try.prog 97 #[.agg #[.slice p n cap], .slice q k c, .int .i64 m] w fun en w' => en = .returned (.bool (allPos zs ys && inB m 1 (min 40000 (totN zs)))) ∧ Below w.heap.size w w' := by
  obtain ⟨-, t1, t2⟩ := lay_bd hL
  have hk := hq.2.1
  have hz := hq.1
  unfold maxLen at hk
  have HQ := Lib.hid (hq.keep ((Below.refl _ _).alloc (Nat.le_refl _) (Obj.cells #[.slice p n cap] 26)))
  have HIN' : Hid (Segs (w.alloc (Obj.cells #[.slice p n cap] 26)) p n zs) := (hin.alloc _); have h0 := Own.start (w.alloc (Obj.cells #[.slice p n cap] 26)); clear hin
  have HL := Lib.hid hL
  have HZ := Lib.hid hz
  clear hL hz hq
  go_enter Try.func97, Try.ntmps97
  go_wp2_with (go_at_call 81; refine (s_l03Total p n cap zs _ ?_ HL.out).mono ?_; (focus (exact HIN'.out.own (by first | assumption | exact Own.alloc (by assumption) _ | exact Own.drew (by assumption) | exact Own.drew (Own.alloc (by assumption) _)))); rintro e w' ⟨rfl, hb⟩; obtain ⟨hc0, hf0, hl0⟩ := below_box (k := w.heap.size) hb (by first | omega | (simp; done) | (simp; omega)); replace hb := Own.join (by first | assumption | exact Own.alloc (by assumption) _ | exact Own.drew (by assumption) | exact Own.drew (Own.alloc (by assumption) _) | exact Own.alloc (Own.alloc (by assumption) _) _ | exact Own.alloc (Own.alloc (Own.alloc (by assumption) _) _) _ | exact Own.drewN (by assumption) _ | exact Own.drew (Own.start _) | exact Own.drewN (Own.start _) _ | exact Own.start _) hb)
  have HOB : Own (w.alloc (Obj.cells #[.slice p n cap] 26)) w' := by assumption
  generalize w' = wB at *
  go_loopw [8] (fun i wr => ∃ j : Nat, j ≤ k ∧ i = .int .i64 j ∧ (ys.take j).any (fun y => !isPos zs y) = false ∧ Own (w.alloc (Obj.cells #[.slice p n cap] 26)) wr) (fun i _ => k - (intOf i).toNat)
  case atStart => exact ⟨0, Nat.zero_le _, rfl, by simp, HOB⟩
  case round =>
    obtain ⟨j, hj, rfl, hN, hown⟩ := hrel
    obtain ⟨wA, rfl⟩ : ∃ wA : World, wA = wr := ⟨_, rfl⟩
    have HO := Lib.hid hown
    have HN := Lib.hid hN
    clear hN
    by_cases hlt : j < k
    · obtain ⟨b, off, rfl, hc⟩ := (HQ.out.own hown).2.2 (by omega)
      have hck := hc j hlt
      have hji : (j : Int) < (k : Int) := by omega
      obtain ⟨a, ha⟩ : ∃ a, a = ys.getD j 0 := ⟨_, rfl⟩
      rw [← ha] at hck
      have HX := Lib.hid ha
      clear hc hown ha
      rcases Bool.eq_false_or_eq_true (inB a 0 (totN zs - 1)) with h1 | h1
      · have HN1 := Lib.hid (any_take_false (k := j) (P := fun y => !isPos zs y) (by rw [HZ.out]; exact hlt) HN.out (by rw [← HX.out]; unfold isPos; rw [h1]; rfl))
        go_wp2_with (go_at_call 117; refine (s_l01In _ _ _ _).mono ?_; rintro e w' ⟨rfl, rfl⟩)
        go_roundw
        case rel => exact ⟨j + 1, by omega, by go_num, HN1.out, HO.out⟩
        case measure => simp [intOf]; omega
      · have HR : Hid ((allPos zs ys && inB m 1 (min 40000 (totN zs))) = false) := by
          unfold allPos
          rw [any_true_at (k := j) (P := fun y => !isPos zs y) (by rw [HZ.out]; exact hlt) (by rw [← HX.out]; unfold isPos; rw [h1]; rfl)]
          rfl
        go_wp2_with (go_at_call 117; refine (s_l01In _ _ _ _).mono ?_; rintro e w' ⟨rfl, rfl⟩)
        go_ret
        exact ⟨ret_bool HR.out.symm, bto (balloc (Below.refl _ _) _) HO.out.below⟩
    · obtain rfl : j = k := by omega
      have hap : allPos zs ys = true := by have := HN.out; rw [List.take_of_length_le (by rw [HZ.out]; omega)] at this; unfold allPos; rw [this]; rfl
      have HAP := Lib.hid hap
      have e : min 40000 (totN zs) = if totN zs < 40000 then totN zs else 40000 := by rw [Int.min_def]; split <;> split <;> omega
      have E := Lib.hid e
      clear hown hap e
      rcases ilt (totN zs) 40000 with c1 | c1
      · go_wp2_with (go_at_call 117; refine (s_l01In _ _ _ _).mono ?_; rintro e w' ⟨rfl, rfl⟩)
        go_ret
        exact ⟨ret_bool (by rw [HAP.out, E.out, if_pos c1]; rfl), bto (balloc (Below.refl _ _) _) HO.out.below⟩
      · go_wp2_with (go_at_call 117; refine (s_l01In _ _ _ _).mono ?_; rintro e w' ⟨rfl, rfl⟩)
        go_ret
        exact ⟨ret_bool (by rw [HAP.out, E.out, if_neg (by omega)]; rfl), bto (balloc (Below.refl _ _) _) HO.out.below⟩

set_option maxRecDepth 100000 in
theorem s_AreSeparate (p : Option Addr) (n cap : Nat) (zs : List Seg) (q : Option Addr) (k c : Nat) (ys : List Int) (m : Int) (w : World) (hin : Segs w p n zs) (hq : Ints .i64 w q k ys) :
    Calls Try.prog 40 #[.agg #[.slice p n cap], .slice q k c, .int .i64 m] w fun en w' => en = .returned (.bool (asR zs ys m)) ∧ Below w.heap.size w w' := by
  have hz := hq.1
  have hk := hq.2.1
  unfold maxLen at hk
  have HQ := Lib.hid (hq.keep ((Below.refl _ _).alloc (Nat.le_refl _) (Obj.cells #[.slice p n cap] 26)))
  have HIN' : Hid (Segs (w.alloc (Obj.cells #[.slice p n cap] 26)) p n zs) := (hin.alloc _); have h0 := Own.start (w.alloc (Obj.cells #[.slice p n cap] 26)); clear hin
  have HZ := Lib.hid hz
  clear hq
  rcases Bool.eq_false_or_eq_true (layOk zs) with hl | hl
  · have HL := Lib.hid (layOk_iff.1 hl)
    obtain ⟨-, t1, t2⟩ := lay_bd HL.out
    by_cases h4 : k ≤ 4
    · have h4i : (k : Int) ≤ 4 := by omega
      have hF := fun W hi hq => s_l05Fronts p n cap zs q k c ys m W hi HL.out hq
      rcases Bool.eq_false_or_eq_true (allPos zs ys && inB m 1 (min 40000 (totN zs))) with hf | hf
      · rw [hf] at hF
        have HF := Lib.hid hF
        simp only [Bool.and_eq_true] at hf
        have hr : asR zs ys m = sepB (totN zs) m ys := by unfold asR; rw [hl, decide_eq_true (by omega), hf.1, hf.2]; rfl
        have HRR := Lib.hid hr
        have HP := Lib.hid hf.1
        have hm : 1 ≤ m := by have := inB_iff.1 hf.2; omega
        clear hr hf hF hz
        go_enter Try.func40, Try.ntmps40
        go_wp2_with first | (go_at_call 62; refine (s_IsLayout p n cap zs _ ?_).mono ?_; (focus (exact HIN'.out.own (by first | assumption | exact Own.alloc (by assumption) _ | exact Own.drew (by assumption) | exact Own.drew (Own.alloc (by assumption) _)))); rintro e w' ⟨rfl, hb⟩; obtain ⟨hc0, hf0, hl0⟩ := below_box (k := w.heap.size) hb (by first | omega | (simp; done) | (simp; omega)); replace hb := Own.join (by first | assumption | exact Own.alloc (by assumption) _ | exact Own.drew (by assumption) | exact Own.drew (Own.alloc (by assumption) _) | exact Own.alloc (Own.alloc (by assumption) _) _ | exact Own.alloc (Own.alloc (Own.alloc (by assumption) _) _) _ | exact Own.drewN (by assumption) _ | exact Own.drew (Own.start _) | exact Own.drewN (Own.start _) _ | exact Own.start _) hb) | (go_at_call 97; refine (HF.out _ (HIN'.out.own ?_) (HQ.out.own ?_)).mono ?_; assumption; assumption; rintro e w' ⟨rfl, hb⟩; obtain ⟨hc, hf, hl⟩ := below_box (k := w.heap.size) hb (by omega); replace hb := Own.join (by assumption) hb)
        have HOB : Own (w.alloc (Obj.cells #[.slice p n cap] 26)) w' := by assumption
        generalize w' = wB at *
        go_loopw [7] (fun i wr => ∃ j : Nat, j ≤ k ∧ i = .int .i64 j ∧ (∀ i, i < j → hitB (totN zs) m ys i = false) ∧ Own (w.alloc (Obj.cells #[.slice p n cap] 26)) wr) (fun i _ => k - (intOf i).toNat)
        case atStart => exact ⟨0, Nat.zero_le _, rfl, fun i hi => by omega, HOB⟩
        case round =>
          obtain ⟨j, hj, rfl, hN, hown⟩ := hrel
          obtain ⟨wA, rfl⟩ : ∃ wA : World, wA = wr := ⟨_, rfl⟩
          have HO := Lib.hid hown
          have HN := Lib.hid hN
          clear hN
          by_cases hlt : j < k
          · have hji : (j : Int) < (k : Int) := by omega
            clear hown
            go_wp2
            go_loopw [8] (fun i wr => ∃ l : Nat, l ≤ j ∧ i = .int .i64 l ∧ (ys.take l).any (fun b => !apartB (totN zs) (ys.getD j 0) b m) = false ∧ Own (w.alloc (Obj.cells #[.slice p n cap] 26)) wr) (fun i _ => j - (intOf i).toNat)
            case atStart => exact ⟨0, Nat.zero_le _, rfl, by simp, HO.out⟩
            case round =>
              obtain ⟨l, hlj, rfl, hM, hown⟩ := hrel
              obtain ⟨wC, rfl⟩ : ∃ wC : World, wC = wr := ⟨_, rfl⟩
              have HO2 := Lib.hid hown
              have HM := Lib.hid hM
              have hbx : wC.cell? ⟨w.heap.size, 0, none⟩ = some (.slice p n cap) := by rw [(below_box (k := w.heap.size) hown.below (by simp)).1 0]; go_simp
              have hbl := World.block_lt_of_cell? wC _ hbx
              simp only at hbl
              clear hM
              by_cases hlt2 : l < j
              · have hli : (l : Int) < (j : Int) := by omega
                have hli2 : (l : Int) < (k : Int) := by omega
                obtain ⟨b, off, rfl, hc⟩ := (HQ.out.own hown).2.2 (by omega)
                have hc1 := hc j hlt
                have hc2 := hc l (by omega)
                obtain ⟨x, hx⟩ : ∃ x, x = ys.getD j 0 := ⟨_, rfl⟩
                obtain ⟨y, hy⟩ : ∃ y, y = ys.getD l 0 := ⟨_, rfl⟩
                have bx := allPos_mem HP.out (y := x) (by rw [hx, List.getD_eq_getElem?_getD, List.getElem?_eq_getElem (by rw [HZ.out]; omega)]; exact List.getElem_mem _)
                have by' := allPos_mem HP.out (y := y) (by rw [hy, List.getD_eq_getElem?_getD, List.getElem?_eq_getElem (by rw [HZ.out]; omega)]; exact List.getElem_mem _)
                have HX := Lib.hid hx
                have HY := Lib.hid hy
                rw [← hx] at hc1
                rw [← hy] at hc2
                have hw1 : (0 : Int) ≤ (j : Int) := by omega
                have hw2 : (0 : Int) ≤ (l : Int) := by omega
                have hlb : b < wC.heap.size := World.block_lt_of_cell? wC _ hc1
                clear hc hown hx hy
                rcases Bool.eq_false_or_eq_true (apartB (totN zs) x y m) with h1 | h1
                · have HM1 := Lib.hid (any_take_false (k := l) (P := fun b => !apartB (totN zs) (ys.getD j 0) b m) (by rw [HZ.out]; omega) HM.out (by rw [← HX.out, ← HY.out, h1]; rfl))
                  go_wp2
                  go_region_held3 (fun w' => w'.cell? ⟨w.heap.size, 0, none⟩ = some (.slice p n cap) ∧ w'.cell? ⟨b, off + j, none⟩ = some (.int .i64 x) ∧ w'.cell? ⟨b, off + l, none⟩ = some (.int .i64 y)) (go_keep) (first | (go_at_call 81; refine (s_l03Total p n cap zs _ (HIN'.out.own HO2.out.drew) HL.out).mono ?_; rintro e w' ⟨rfl, hb⟩; have hkx := (below_box (k := w.heap.size) hb hbl).1 0; have hkb := (below_box (k := b) hb hlb).1; have HB := Lib.hid (HO2.out.drew.join hb); clear hb) | (go_at_call 94; refine (s_l05Apart _ _ _ _ (by omega) (by omega) (by omega) _).mono ?_; rintro e w' ⟨rfl, rfl⟩))
                  all_goals (go_wp2; go_roundw)
                  all_goals (first | (case rel => exact ⟨l + 1, by omega, by go_num, HM1.out, HB.out⟩) | (case measure => simp [intOf]; omega))
                · have HR := Lib.hid (sepB_false (t := totN zs) (m := m) (ys := ys) (i := j) (by rw [HZ.out]; exact hlt) (by
                    unfold hitB
                    refine List.any_eq_true.2 ⟨y, ?_, by rw [← HX.out, h1]; rfl⟩
                    rw [HY.out, List.getD_eq_getElem?_getD, List.getElem?_eq_getElem (by rw [HZ.out]; omega)]
                    exact List.mem_take_iff_getElem.2 ⟨l, by rw [HZ.out]; omega, rfl⟩))
                  go_wp2
                  go_region_held3 (fun w' => w'.cell? ⟨w.heap.size, 0, none⟩ = some (.slice p n cap) ∧ w'.cell? ⟨b, off + j, none⟩ = some (.int .i64 x) ∧ w'.cell? ⟨b, off + l, none⟩ = some (.int .i64 y)) (go_keep) (first | (go_at_call 81; refine (s_l03Total p n cap zs _ (HIN'.out.own HO2.out.drew) HL.out).mono ?_; rintro e w' ⟨rfl, hb⟩; have hkx := (below_box (k := w.heap.size) hb hbl).1 0; have hkb := (below_box (k := b) hb hlb).1; have HB := Lib.hid (HO2.out.drew.join hb); clear hb) | (go_at_call 94; refine (s_l05Apart _ _ _ _ (by omega) (by omega) (by omega) _).mono ?_; rintro e w' ⟨rfl, rfl⟩))
                  all_goals (go_wp2; go_ret)
                  all_goals exact ⟨ret_bool (HRR.out.trans HR.out).symm, bto (balloc (Below.refl _ _) _) HB.out.below⟩
              · obtain rfl : l = j := by omega
                have HN1 : Hid (∀ i, i < l + 1 → hitB (totN zs) m ys i = false) := fun i hi => by
                  by_cases e : i = l
                  · rw [e]; exact HM.out
                  · exact HN.out i (by omega)
                clear hown
                go_wp2
                go_roundw
                case rel => exact ⟨l + 1, by omega, by go_num, HN1.out, HO2.out⟩
                case measure => simp [intOf]; omega
          · obtain rfl : j = k := by omega
            have HR := Lib.hid (sepB_true (t := totN zs) (m := m) (ys := ys) (fun i hi => HN.out i (by have := HZ.out; omega)))
            clear hown
            go_wp2
            go_ret
            exact ⟨ret_bool (HRR.out.trans HR.out).symm, bto (balloc (Below.refl _ _) _) HO.out.below⟩
      · have hr : asR zs ys m = false := by
          unfold asR
          rw [← Bool.and_assoc (allPos zs ys), hf]
          simp
        rw [hf] at hF
        have HF := Lib.hid hF
        rw [hr]
        clear hr hf hF hz
        go_enter Try.func40, Try.ntmps40
        go_wp2_with first | (go_at_call 62; refine (s_IsLayout p n cap zs _ ?_).mono ?_; (focus (exact HIN'.out.own (by first | assumption | exact Own.alloc (by assumption) _ | exact Own.drew (by assumption) | exact Own.drew (Own.alloc (by assumption) _)))); rintro e w' ⟨rfl, hb⟩; obtain ⟨hc0, hf0, hl0⟩ := below_box (k := w.heap.size) hb (by first | omega | (simp; done) | (simp; omega)); replace hb := Own.join (by first | assumption | exact Own.alloc (by assumption) _ | exact Own.drew (by assumption) | exact Own.drew (Own.alloc (by assumption) _) | exact Own.alloc (Own.alloc (by assumption) _) _ | exact Own.alloc (Own.alloc (Own.alloc (by assumption) _) _) _ | exact Own.drewN (by assumption) _ | exact Own.drew (Own.start _) | exact Own.drewN (Own.start _) _ | exact Own.start _) hb) | (go_at_call 97; refine (HF.out _ (HIN'.out.own ?_) (HQ.out.own ?_)).mono ?_; assumption; assumption; rintro e w' ⟨rfl, hb⟩; obtain ⟨hc, hf, hl⟩ := below_box (k := w.heap.size) hb (by omega); replace hb := Own.join (by assumption) hb)
        go_ret
        exact ⟨rfl, by repeat (first | exact Below.refl _ _ | refine balloc ?_ _ | refine Below.drew ?_ | refine bdrewN ?_ _ | refine bto ?_ (Own.below (by assumption)) | refine bset ?_ (by first | (simp; done) | (simp; omega) | exact Own.le_w (by assumption) (by first | (simp; done) | (simp; omega))) _)⟩
    · have h4i : (4 : Int) < (k : Int) := by omega
      have hr : asR zs ys m = false := by unfold asR; rw [decide_eq_false (p := ys.length ≤ 4) (by omega)]; simp
      rw [hr]
      clear hr hz
      go_enter Try.func40, Try.ntmps40
      go_wp2_with (go_at_call 62; refine (s_IsLayout p n cap zs _ ?_).mono ?_; (focus (exact HIN'.out.own (by first | assumption | exact Own.alloc (by assumption) _ | exact Own.drew (by assumption) | exact Own.drew (Own.alloc (by assumption) _)))); rintro e w' ⟨rfl, hb⟩; obtain ⟨hc0, hf0, hl0⟩ := below_box (k := w.heap.size) hb (by first | omega | (simp; done) | (simp; omega)); replace hb := Own.join (by first | assumption | exact Own.alloc (by assumption) _ | exact Own.drew (by assumption) | exact Own.drew (Own.alloc (by assumption) _) | exact Own.alloc (Own.alloc (by assumption) _) _ | exact Own.alloc (Own.alloc (Own.alloc (by assumption) _) _) _ | exact Own.drewN (by assumption) _ | exact Own.drew (Own.start _) | exact Own.drewN (Own.start _) _ | exact Own.start _) hb)
      go_ret
      exact ⟨rfl, by repeat (first | exact Below.refl _ _ | refine balloc ?_ _ | refine Below.drew ?_ | refine bdrewN ?_ _ | refine bto ?_ (Own.below (by assumption)) | refine bset ?_ (by first | (simp; done) | (simp; omega) | exact Own.le_w (by assumption) (by first | (simp; done) | (simp; omega))) _)⟩
  · have hr : asR zs ys m = false := by unfold asR; rw [hl]; rfl
    rw [hr]
    clear hr hz
    go_enter Try.func40, Try.ntmps40
    go_wp2_with (go_at_call 62; refine (s_IsLayout p n cap zs _ ?_).mono ?_; (focus (exact HIN'.out.own (by first | assumption | exact Own.alloc (by assumption) _ | exact Own.drew (by assumption) | exact Own.drew (Own.alloc (by assumption) _)))); rintro e w' ⟨rfl, hb⟩; obtain ⟨hc0, hf0, hl0⟩ := below_box (k := w.heap.size) hb (by first | omega | (simp; done) | (simp; omega)); replace hb := Own.join (by first | assumption | exact Own.alloc (by assumption) _ | exact Own.drew (by assumption) | exact Own.drew (Own.alloc (by assumption) _) | exact Own.alloc (Own.alloc (by assumption) _) _ | exact Own.alloc (Own.alloc (Own.alloc (by assumption) _) _) _ | exact Own.drewN (by assumption) _ | exact Own.drew (Own.start _) | exact Own.drewN (Own.start _) _ | exact Own.start _) hb)
    go_ret
    exact ⟨rfl, by repeat (first | exact Below.refl _ _ | refine balloc ?_ _ | refine Below.drew ?_ | refine bdrewN ?_ _ | refine bto ?_ (Own.below (by assumption)) | refine bset ?_ (by first | (simp; done) | (simp; omega) | exact Own.le_w (by assumption) (by first | (simp; done) | (simp; omega))) _)⟩

end Go.Proofs.Ytgkfnggnhphboaa
