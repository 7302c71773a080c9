/- Contracts and lemmas for the proofs of this seat: Text1. -/
import Derived.Test.YtfbfiikomlnllaaDoorBase
import Derived.Test.YtfbfiikomlnllaaDoorNum
import Derived.Test.YtfbfiikomlnllaaDoorShelf
import Derived.Lib.Hide
import Derived.BigQuiet
import Derived.Deep.QuietTactic
import Derived.Deep.RegionHeld3
import Derived.Deep.DeepCutAuto
import Derived.StillTailTactics
import Derived.WalkSpells
import Derived.WalkLawsBesides
import Derived.Lib.LaidTab
namespace Go.Proofs.YtfbfiikomlnllaaDoor
open Go.RowKit Go.Deep Go.Lib
set_option maxHeartbeats 2000000
set_option linter.unusedVariables false
set_option linter.unusedSimpArgs false

def bt (d : Nat) : UInt8 := UInt8.ofNat (48 + d)
abbrev strV (l : List UInt8) : Value := .string ⟨l.toArray⟩
theorem conv_byte {P : Program} {src dst e : TypeId} (hs : P.underlying src = some (.slice e)) (he : P.underlying e = some (.int .u8)) (hd : P.underlying dst = some .string) (x : Int) (h0 : 0 ≤ x) (h1 : x < 10) (W : World) (g : Nat)
    (hc : W.cell? ⟨g, 0, none⟩ = some (.int .u8 (48 + x))) : (convert src dst (.slice (some ⟨g, 0, none⟩) 1 1)).run P W = .ok (strV [bt x.toNat]) W := by
  refine run_convert_bytes_back W src dst e ⟨g, 0, none⟩ 1 [bt x.toNat] hs he hd fun j hj => ?_
  obtain rfl : j = 0 := by simp at hj; omega
  have e1 : (⟨g, 0, none⟩ : Addr).add 0 = ⟨g, 0, none⟩ := rfl
  rw [e1, hc]
  simp [bt]
  omega
theorem str_app (l m : List UInt8) : (⟨l.toArray⟩ : ByteArray) ++ ⟨m.toArray⟩ = ⟨(l ++ m).toArray⟩ := by
  apply ByteArray.ext
  simp
theorem ret_str {a : ByteArray} {l : List UInt8} (h : a = ⟨l.toArray⟩) : Ending.returned (.string a) = .returned (strV l) := by rw [h]
theorem decDigits_short : ∀ (k u : Nat), u < 10 ^ (k + 1) → (decDigits u).length ≤ k + 1
  | 0, u, h => by rw [decDigits_one (by simpa using h)]; simp
  | k + 1, u, h => by
    by_cases h1 : u < 10
    · rw [decDigits_one h1]; simp
    · rw [decDigits, dif_neg h1]
      have := decDigits_short k (u / 10) (by rw [Nat.pow_succ] at h; omega)
      simp; omega
theorem decDigits_len {u : Nat} (h : u ≤ 1000000000000) : (decDigits u).length ≤ 13 := decDigits_short 12 u (by omega)

set_option maxRecDepth 100000 in
theorem s_l01Dec (u : Nat) : ∀ (w : World), u ≤ 1000000000000 → Calls Tryd.prog 21 #[.int .i64 (u : Int)] w fun en w' => en = .returned (strV (decDigits u)) ∧ Below w.heap.size w w' := by
  induction u using Nat.strongRecOn with
  | _ u ih =>
    intro w hu
    by_cases h : u < 10
    · have hd : Hid (decDigits u = [bt u]) := decDigits_one h
      have hi : (u : Int) < 10 := by omega
      have hi0 : (0 : Int) ≤ u := by omega
      have hcv := conv_byte (P := Tryd.prog) Tryd.underlying27 Tryd.underlying5 Tryd.underlying9 (u : Int) hi0 hi
      rw [Int.toNat_natCast] at hcv
      clear ih
      go_enter Tryd.func21, Tryd.ntmps21
      go_wp2
      go_ret
      exact ⟨by rw [hd.out]; rfl, balloc (Below.refl _ _) _⟩
    · have hd : decDigits u = decDigits (u / 10) ++ [bt (u % 10)] := by rw [decDigits, dif_neg h]; rfl
      have HD := Lib.hid hd
      have hih := fun W => ih (u / 10) (by omega) W (by omega)
      have hi : (10 : Int) ≤ u := by omega
      have hu1 : (u : Int) ≤ 1000000000000 := by omega
      obtain ⟨q, hq⟩ : ∃ q : Int, ((u / 10 : Nat) : Int) = q := ⟨_, rfl⟩
      obtain ⟨r, hr⟩ : ∃ r : Int, ((u % 10 : Nat) : Int) = r := ⟨_, rfl⟩
      have hr0 : 0 ≤ r := by omega
      have hr1 : r < 10 := by omega
      have hcv := conv_byte (P := Tryd.prog) Tryd.underlying27 Tryd.underlying5 Tryd.underlying9 r hr0 hr1
      rw [show r.toNat = u % 10 from by omega] at hcv
      have t1 : (u : Int).tdiv 10 = q := by rw [Int.tdiv_eq_ediv_of_nonneg (by omega)]; omega
      have t2 : (u : Int).tmod 10 = r := by rw [Int.tmod_eq_emod_of_nonneg (by omega)]; omega
      have t3 : (u : Int) / 10 = q := by omega
      have t4 : (u : Int) % 10 = r := by omega
      have t5 : IntKind.i64.wrap (48 + r) = 48 + r := by rw [IntKind.wrap_i64]; omega
      have t7 : IntKind.i64.wrap q = q := by rw [IntKind.wrap_i64]; omega
      have t6 : IntKind.u8.wrap (48 + r) = 48 + r := by rw [IntKind.wrap_u8]; omega
      rw [hq] at hih
      have HI := Lib.hid hih
      have hlen := decDigits_len (u := u / 10) (by omega)
      generalize decDigits (u / 10) = ds at *
      replace HI := Lib.hid hih
      replace HD := Lib.hid hd
      clear ih hih hd hq hr
      go_enter Tryd.func21, Tryd.ntmps21
      go_upto_region 3 with fail
      go_region_with (go_at_call 21; (with_reducible refine (HI.out _).mono ?_); rintro e w' ⟨rfl, hb⟩; (first | have O9 : Own w w' := Own.join (Own.start w).drew hb | (have O9 : Own w w' := Own.join ((Own.start w).drew.alloc _) hb; obtain ⟨kb, -, -⟩ := below_box (k := w.heap.size) hb (by simp)) | (have O9 : Own w w' := Own.join ((Own.start w).alloc _).drew hb; obtain ⟨kb, -, -⟩ := below_box (k := w.heap.size) hb (by simp)) | (have O9 : Own w w' := Own.join ((Own.start w).alloc _) hb; obtain ⟨kb, -, -⟩ := below_box (k := w.heap.size) hb (by simp))); have HO9 := Lib.hid O9; clear hb O9)
      all_goals
        go_wp2
        go_ret
        refine ⟨ret_str (by rw [HD.out]; exact str_app _ _), ?_⟩
        show Own w _
        repeat (first | exact HO9.out | refine Own.alloc ?_ _ | refine Own.drew ?_)

def mt (n : Int) : List UInt8 := (if n < 0 then [45] else []) ++ decDigits (n.natAbs / 1000) ++ [46] ++ decDigits (n.natAbs / 100 % 10) ++ decDigits (n.natAbs / 10 % 10) ++ decDigits (n.natAbs % 10)
def mtR (n : Int) : List UInt8 := if isVal n = true then mt n else []
theorem s_l01Abs_x (m : Nat) (hm : m ≤ 1000000000000) (n : Int) (hn : n = m ∨ n = -(m : Int)) (w : World) : Calls Tryd.prog 20 #[.int .i64 n] w fun en w' => en = .returned (.int .i64 (m : Int)) ∧ w = w' := by
  have h0 : (0 : Int) ≤ m := by omega
  have h1 : (m : Int) ≤ 1000000000000 := by omega
  rcases hn with rfl | rfl
  · go_enter Tryd.func20, Tryd.ntmps20
    go_wp2
    all_goals go_ret
    all_goals exact ⟨ret_int (by omega), rfl⟩
  · go_enter Tryd.func20, Tryd.ntmps20
    go_wp2
    all_goals go_ret
    all_goals exact ⟨ret_int (by omega), rfl⟩
theorem s_l01Dec' (x : Int) (u : Nat) (w : World) (hx : x = u) (hu : u ≤ 1000000000000) : Calls Tryd.prog 21 #[.int .i64 x] w fun en w' => en = .returned (strV (decDigits u)) ∧ Below w.heap.size w w' := by
  subst hx
  exact s_l01Dec u w hu

set_option maxRecDepth 100000 in
theorem s_MetresText (n : Int) (w : World) : Calls Tryd.prog 7 #[.int .i64 n] w fun en w' => en = .returned (strV (mtR n)) ∧ Below w.heap.size w w' := by
  rcases Bool.eq_false_or_eq_true (isVal n) with hv | hv
  · have hv' := isVal_iff.1 hv
    have CV : Hid (∀ w : World, Calls Tryd.prog 19 #[.int .i64 n] w fun en w' => en = .returned (.bool true) ∧ w = w') := fun w => by rw [← hv]; exact s_l01Is n w
    obtain ⟨m, hm⟩ : ∃ m, n.natAbs = m := ⟨_, rfl⟩
    have hm1 : m ≤ 1000000000000 := by omega
    have CA : Hid (∀ w : World, Calls Tryd.prog 20 #[.int .i64 n] w fun en w' => en = .returned (.int .i64 (m : Int)) ∧ w = w') := fun w => s_l01Abs_x m hm1 n (by omega) w
    have hR : mtR n = (if n < 0 then [45] else []) ++ decDigits (m / 1000) ++ [46] ++ decDigits (m / 100 % 10) ++ decDigits (m / 10 % 10) ++ decDigits (m % 10) := by unfold mtR mt; rw [if_pos hv, hm]
    have l1 := decDigits_len (u := m / 1000) (by omega)
    have l2 := decDigits_len (u := m / 100 % 10) (by omega)
    have l3 := decDigits_len (u := m / 10 % 10) (by omega)
    have l4 := decDigits_len (u := m % 10) (by omega)
    have C1 : Hid (∀ (w : World) (x : Int), x = ((m / 1000 : Nat) : Int) → Calls Tryd.prog 21 #[.int .i64 x] w fun en w' => en = .returned (strV (decDigits (m / 1000))) ∧ Below w.heap.size w w') := fun w x hx => s_l01Dec' x _ w hx (by omega)
    have C2 : Hid (∀ (w : World) (x : Int), x = ((m / 100 % 10 : Nat) : Int) → Calls Tryd.prog 21 #[.int .i64 x] w fun en w' => en = .returned (strV (decDigits (m / 100 % 10))) ∧ Below w.heap.size w w') := fun w x hx => s_l01Dec' x _ w hx (by omega)
    have C3 : Hid (∀ (w : World) (x : Int), x = ((m / 10 % 10 : Nat) : Int) → Calls Tryd.prog 21 #[.int .i64 x] w fun en w' => en = .returned (strV (decDigits (m / 10 % 10))) ∧ Below w.heap.size w w') := fun w x hx => s_l01Dec' x _ w hx (by omega)
    have C4 : Hid (∀ (w : World) (x : Int), x = ((m % 10 : Nat) : Int) → Calls Tryd.prog 21 #[.int .i64 x] w fun en w' => en = .returned (strV (decDigits (m % 10))) ∧ Below w.heap.size w w') := fun w x hx => s_l01Dec' x _ w hx (by omega)
    generalize decDigits (m / 1000) = d1 at *
    generalize decDigits (m / 100 % 10) = d2 at *
    generalize decDigits (m / 10 % 10) = d3 at *
    generalize decDigits (m % 10) = d4 at *
    have HR := Lib.hid hR
    have m0 : (0 : Int) ≤ m := by omega
    have m1 : (m : Int) ≤ 1000000000000 := by omega
    clear hv hm hR
    rcases (show n < 0 ∨ 0 ≤ n by omega) with hneg | hneg
    all_goals
      go_enter Tryd.func7, Tryd.ntmps7
      go_wp2_with first | (go_at_call 19; refine (CV.out _).mono ?_; rintro e w' ⟨rfl, rfl⟩) | (go_at_call 20; refine (CA.out _).mono ?_; rintro e w' ⟨rfl, rfl⟩)
      refine (C1.out _ _ (by omega)).mono ?_
      rintro e w1 ⟨rfl, hb⟩
      have O1 := Lib.hid hb
      clear hb
      go_wp2_with fail
      refine (C2.out _ _ (by omega)).mono ?_
      rintro e w2 ⟨rfl, hb⟩
      have O2 := Lib.hid (Own.join O1.out hb)
      clear hb
      go_wp2_with fail
      refine (C3.out _ _ (by omega)).mono ?_
      rintro e w3 ⟨rfl, hb⟩
      have O3 := Lib.hid (Own.join O2.out hb)
      clear hb
      go_wp2_with fail
      refine (C4.out _ _ (by omega)).mono ?_
      rintro e w4 ⟨rfl, hb⟩
      have O4 := Lib.hid (Own.join O3.out hb)
      clear hb
      go_wp2_with fail
      go_ret
      refine ⟨ret_str ?_, O4.out⟩
      rw [HR.out]
      first | rw [if_pos hneg] | rw [if_neg (by omega)]
      apply ByteArray.ext
      simp
  · have CV : Hid (∀ w : World, Calls Tryd.prog 19 #[.int .i64 n] w fun en w' => en = .returned (.bool false) ∧ w = w') := fun w => by rw [← hv]; exact s_l01Is n w
    have hR : mtR n = [] := by unfold mtR; rw [if_neg (by rw [hv]; simp)]
    have HR := Lib.hid hR
    clear hv hR
    go_enter Tryd.func7, Tryd.ntmps7
    go_wp2_with (go_at_call 19; refine (CV.out _).mono ?_; rintro e w' ⟨rfl, rfl⟩)
    go_ret
    exact ⟨by rw [HR.out]; rfl, Below.refl _ _⟩

theorem TabIs.keep {P : Program} {w w' : World} {name : String} {k : IntKind} {zs : List Int} (h : TabIs P w name k zs) (hb : Below w.heap.size w w') : TabIs P w' name k zs := by
  unfold TabIs World.var? at h ⊢
  cases hg : P.globalNamed name with
  | none => rw [hg] at h; cases h
  | some g =>
    rw [hg] at h
    simp only [Option.bind_some] at h ⊢
    have hlt : g < w.heap.size := by
      rcases Nat.lt_or_ge g w.heap.size with h1 | h1
      · exact h1
      · rw [Array.getElem?_eq_none h1] at h; cases h
    rw [hb.block g hlt]
    exact h
def Pow (P : Program) (w : World) : Prop := TabIs P w "internal/strconv.uint64pow10" .u64 pow10Tab
theorem Pow.keep {P : Program} {w w' : World} (h : Pow P w) (hb : Below w.heap.size w w') : Pow P w' := TabIs.keep h hb

theorem i_decimal (x : Int) (h0 : -9223372036854775808 ≤ x) (h1 : x ≤ 9223372036854775807) (w : World) (ht : Pow Tryd.prog w) : Calls Tryd.prog 39 #[.int .i64 x] w fun en w' => en = .returned (strV (itoa x)) ∧ Below w.heap.size w w' := by
  have CF := Lib.hid (Tryd.strconv_FormatInt_10 x h0 h1 w ht)
  clear h0 h1
  go_enter Tryd.func39, Tryd.ntmps39
  go_wp2_with fail
  refine CF.out.mono ?_
  rintro e w1 ⟨rfl, k, os, hw⟩
  have HB : Hid (Below w.heap.size w w1) := by
    subst hw
    exact ⟨rfl, rfl, rfl, by show w.heap.size ≤ (w.heap ++ os).size; simp, fun j hj => by show (w.heap ++ os)[j]? = w.heap[j]?; rw [Array.getElem?_append_left hj]⟩
  clear hw
  go_wp2_with fail
  go_ret
  exact ⟨rfl, HB.out⟩
theorem i_decimalN (x : Int) (u : Nat) (hx : x = u) (hu : u ≤ 1000000000000) (w : World) (ht : Pow Tryd.prog w) : Calls Tryd.prog 39 #[.int .i64 x] w fun en w' => en = .returned (strV (decDigits u)) ∧ Below w.heap.size w w' := by
  subst hx
  have h := i_decimal (u : Int) (by omega) (by omega) w ht
  have e : itoa (u : Int) = decDigits u := by unfold itoa; rw [if_neg (by omega), Int.toNat_natCast]
  rwa [e] at h

theorem pad_zero {p : Nat} (h : p < 1000) : (decDigits p).length ≤ 3 ∧ 1 ≤ (decDigits p).length ∧ repeatL [48] (3 - (decDigits p).length) ++ decDigits p = decDigits (p / 100) ++ decDigits (p / 10 % 10) ++ decDigits (p % 10) := by
  by_cases h1 : p < 10
  · have e0 : p / 100 = 0 := by omega
    have e1 : p / 10 % 10 = 0 := by omega
    have e2 : p % 10 = p := by omega
    rw [e0, e1, e2, decDigits_one h1, decDigits_one (show 0 < 10 by omega)]
    refine ⟨by simp, by simp, ?_⟩
    simp [repeatL]
  · by_cases h2 : p < 100
    · have e0 : p / 100 = 0 := by omega
      rw [e0, decDigits_two h1 h2, decDigits_one (show 0 < 10 by omega), decDigits_one (show p / 10 % 10 < 10 by omega), decDigits_one (show p % 10 < 10 by omega), show p / 10 % 10 = p / 10 from by omega]
      refine ⟨by simp, by simp, ?_⟩
      simp [repeatL]
    · have e0 : decDigits p = decDigits (p / 10) ++ [UInt8.ofNat (48 + p % 10)] := by rw [decDigits, dif_neg h1]
      rw [e0, decDigits_two (show ¬ p / 10 < 10 by omega) (show p / 10 < 100 by omega), decDigits_one (show p / 100 < 10 by omega), decDigits_one (show p / 10 % 10 < 10 by omega), decDigits_one (show p % 10 < 10 by omega), show p / 10 / 10 = p / 100 from by omega]
      refine ⟨by simp, by simp, ?_⟩
      simp [repeatL]

set_option maxRecDepth 100000 in
theorem i_metresText (n : Int) (hv : isVal n = true) (w : World) (ht : Pow Tryd.prog w) : Calls Tryd.prog 23 #[.int .i64 n] w fun en w' => en = .returned (strV (mt n)) ∧ Below w.heap.size w w' := by
  have hv' := isVal_iff.1 hv
  obtain ⟨m, hm⟩ : ∃ m, n.natAbs = m := ⟨_, rfl⟩
  have hm1 : m ≤ 1000000000000 := by omega
  obtain ⟨p1, p2, p3⟩ := pad_zero (p := m % 1000) (by omega)
  have hR : mt n = (if n < 0 then [45] else []) ++ decDigits (m / 1000) ++ [46] ++ (repeatL [48] (3 - (decDigits (m % 1000)).length) ++ decDigits (m % 1000)) := by
    rw [p3]
    unfold mt
    rw [hm, show m % 1000 / 100 = m / 100 % 10 from by omega, show m % 1000 / 10 % 10 = m / 10 % 10 from by omega, show m % 1000 % 10 = m % 10 from by omega]
    simp only [List.append_assoc]
  have l1 := decDigits_len (u := m / 1000) (by omega)
  have C1 : Hid (∀ (w : World) (x : Int), Pow Tryd.prog w → x = ((m % 1000 : Nat) : Int) → Calls Tryd.prog 39 #[.int .i64 x] w fun en w' => en = .returned (strV (decDigits (m % 1000))) ∧ Below w.heap.size w w') := fun w x ht hx => i_decimalN x _ hx (by omega) w ht
  have C2 : Hid (∀ (w : World) (x : Int), Pow Tryd.prog w → x = ((m / 1000 : Nat) : Int) → Calls Tryd.prog 39 #[.int .i64 x] w fun en w' => en = .returned (strV (decDigits (m / 1000))) ∧ Below w.heap.size w w') := fun w x ht hx => i_decimalN x _ hx (by omega) w ht
  generalize decDigits (m / 1000) = d1 at *
  generalize decDigits (m % 1000) = d2 at *
  have C3 : Hid (∀ (w : World) (x : Int), x = ((3 - d2.length : Nat) : Int) → Calls Tryd.prog 40 #[strV [48], .int .i64 x] w fun en w' => en = .returned (strV (repeatL [48] (3 - d2.length))) ∧ Below w.heap.size w w') := fun w x hx => by
    subst hx
    exact Tryd.strings_Repeat ⟨[48].toArray⟩ (3 - d2.length) w (by omega) (by simp [ByteArray.size]; omega)
  have l3 : (repeatL [48] (3 - d2.length)).length ≤ 3 := by rw [repeatL_length]; simp
  generalize repeatL [48] (3 - d2.length) = d3 at *
  have HR := Lib.hid hR
  have HT := Lib.hid ht
  have m0 : (0 : Int) ≤ m := by omega
  have m1 : (m : Int) ≤ 1000000000000 := by omega
  have HM := Lib.hid hm
  have q1 : (d2.length : Int) ≤ 3 := by omega
  clear hv hR hm p3 ht
  have hn2 : (n = -(m : Int) ∧ 0 < m) ∨ n = (m : Int) := by have := HM.out; omega
  clear HM hv'
  rcases hn2 with ⟨rfl, hneg⟩ | rfl
  all_goals
    (try have hneg2 : (0 : Int) < m := by omega)
    go_enter Tryd.func23, Tryd.ntmps23
    go_wp2_with fail
    refine (C1.out _ _ HT.out (by first | omega | (rw [Int.tmod_eq_emod_of_nonneg (by omega)]; omega))).mono ?_
    rintro e w1 ⟨rfl, hb⟩
    have O1 := Lib.hid hb
    clear hb
    go_wp2_with fail
    refine (C2.out _ _ (HT.out.keep O1.out) (by first | omega | (rw [Int.tdiv_eq_ediv_of_nonneg (by omega)]; omega))).mono ?_
    rintro e w2 ⟨rfl, hb⟩
    have O2 := Lib.hid (Own.join O1.out hb)
    clear hb
    go_wp2_with fail
    refine (C3.out _ _ (by omega)).mono ?_
    rintro e w3 ⟨rfl, hb⟩
    have O3 := Lib.hid (Own.join O2.out hb)
    clear hb
    go_wp2_with fail
    go_ret
    refine ⟨ret_str ?_, O3.out⟩
    rw [HR.out]
    first | rw [if_pos (by omega)] | rw [if_neg (by omega)]
    apply ByteArray.ext
    simp

theorem i_MetresText (n : Int) (w : World) (ht : Pow Tryd.prog w) : Calls Tryd.prog 8 #[.int .i64 n] w fun en w' => en = .returned (strV (mtR n)) ∧ Below w.heap.size w w' := by
  rcases Bool.eq_false_or_eq_true (isVal n) with hv | hv
  · have CV : Hid (∀ w : World, Calls Tryd.prog 22 #[.int .i64 n] w fun en w' => en = .returned (.bool true) ∧ w = w') := fun w => by rw [← hv]; exact i_isValue n w
    have CM : Hid (∀ w : World, Pow Tryd.prog w → Calls Tryd.prog 23 #[.int .i64 n] w fun en w' => en = .returned (strV (mt n)) ∧ Below w.heap.size w w') := fun w ht => i_metresText n hv w ht
    have hR : mtR n = mt n := by unfold mtR; rw [if_pos hv]
    have HR := Lib.hid hR
    have HT := Lib.hid ht
    clear hv hR ht
    go_enter Tryd.func8, Tryd.ntmps8
    go_wp2_with (go_at_call 22; refine (CV.out _).mono ?_; rintro e w' ⟨rfl, rfl⟩)
    refine (CM.out _ HT.out).mono ?_
    rintro e w1 ⟨rfl, hb⟩
    have O1 := Lib.hid hb
    clear hb
    go_wp2_with fail
    go_ret
    exact ⟨by rw [HR.out]; rfl, O1.out⟩
  · have CV : Hid (∀ w : World, Calls Tryd.prog 22 #[.int .i64 n] w fun en w' => en = .returned (.bool false) ∧ w = w') := fun w => by rw [← hv]; exact i_isValue n w
    have hR : mtR n = [] := by unfold mtR; rw [if_neg (by rw [hv]; simp)]
    have HR := Lib.hid hR
    clear hv hR ht
    go_enter Tryd.func8, Tryd.ntmps8
    go_wp2_with (go_at_call 22; refine (CV.out _).mono ?_; rintro e w' ⟨rfl, rfl⟩)
    go_ret
    exact ⟨by rw [HR.out]; rfl, Below.refl _ _⟩

end Go.Proofs.YtfbfiikomlnllaaDoor
