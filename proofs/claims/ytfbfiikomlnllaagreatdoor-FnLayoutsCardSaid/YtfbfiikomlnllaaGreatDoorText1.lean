/- Contracts and lemmas for the proofs of this seat: Text1. -/
import Derived.Test.YtfbfiikomlnllaaGreatDoorBase
import Derived.Test.YtfbfiikomlnllaaGreatDoorNum
import Derived.Test.YtfbfiikomlnllaaGreatDoorShelf
import Derived.Lib.Hide
import Derived.BigQuiet
import Derived.Deep.QuietTactic
import Derived.Deep.RegionHeld3
import Derived.Deep.DeepCutAuto
import Derived.StillTailTactics
import Derived.WalkSpells
import Derived.WalkLawsBesides
import Derived.Lib.LaidTab
namespace Go.Proofs.YtfbfiikomlnllaaGreatDoor
open Go.RowKit Go.Deep Go.Lib
set_option maxHeartbeats 2000000
set_option linter.unusedVariables false
set_option linter.unusedSimpArgs false

def bt (d : Nat) : UInt8 := UInt8.ofNat (48 + d)
abbrev strV (l : List UInt8) : Value := .string ⟨l.toArray⟩
theorem conv_byte {P : Program} {src dst e : TypeId} (hs : P.underlying src = some (.slice e)) (he : P.underlying e = some (.int .u8)) (hd : P.underlying dst = some .string) (x : Int) (h0 : 0 ≤ x) (h1 : x < 10) (W : World) (g : Nat)
    (hc : W.cell? ⟨g, 0, none⟩ = some (.int .u8 (48 + x))) : (convert src dst (.slice (some ⟨g, 0, none⟩) 1 1)).run P W = .ok (strV [bt x.toNat]) W := by
  refine run_convert_bytes_back W src dst e ⟨g, 0, none⟩ 1 [bt x.toNat] hs he hd fun j hj => ?_
  obtain rfl : j = 0 := by simp at hj; omega
  have e1 : (⟨g, 0, none⟩ : Addr).add 0 = ⟨g, 0, none⟩ := rfl
  rw [e1, hc]
  simp [bt]
  omega
theorem str_app (l m : List UInt8) : (⟨l.toArray⟩ : ByteArray) ++ ⟨m.toArray⟩ = ⟨(l ++ m).toArray⟩ := by
  apply ByteArray.ext
  simp
theorem ret_str {a : ByteArray} {l : List UInt8} (h : a = ⟨l.toArray⟩) : Ending.returned (.string a) = .returned (strV l) := by rw [h]
theorem decDigits_short : ∀ (k u : Nat), u < 10 ^ (k + 1) → (decDigits u).length ≤ k + 1
  | 0, u, h => by rw [decDigits_one (by simpa using h)]; simp
  | k + 1, u, h => by
    by_cases h1 : u < 10
    · rw [decDigits_one h1]; simp
    · rw [decDigits, dif_neg h1]
      have := decDigits_short k (u / 10) (by rw [Nat.pow_succ] at h; omega)
      simp; omega
theorem decDigits_len {u : Nat} (h : u ≤ 1000000000000) : (decDigits u).length ≤ 13 := decDigits_short 12 u (by omega)

set_option maxRecDepth 100000 in
theorem s_l01Dec (u : Nat) : ∀ (w : World), u ≤ 1000000000000 → Calls Tryz.prog 65 #[.int .i64 (u : Int)] w fun en w' => en = .returned (strV (decDigits u)) ∧ Below w.heap.size w w' := by
  induction u using Nat.strongRecOn with
  | _ u ih =>
    intro w hu
    by_cases h : u < 10
    · have hd : Hid (decDigits u = [bt u]) := decDigits_one h
      have hi : (u : Int) < 10 := by omega
      have hi0 : (0 : Int) ≤ u := by omega
      have hcv := conv_byte (P := Tryz.prog) Tryz.underlying30 Tryz.underlying5 Tryz.underlying9 (u : Int) hi0 hi
      rw [Int.toNat_natCast] at hcv
      clear ih
      go_enter Tryz.func65, Tryz.ntmps65
      go_wp2
      go_ret
      exact ⟨by rw [hd.out]; rfl, balloc (Below.refl _ _) _⟩
    · have hd : decDigits u = decDigits (u / 10) ++ [bt (u % 10)] := by rw [decDigits, dif_neg h]; rfl
      have HD := Lib.hid hd
      have hih := fun W => ih (u / 10) (by omega) W (by omega)
      have hi : (10 : Int) ≤ u := by omega
      have hu1 : (u : Int) ≤ 1000000000000 := by omega
      obtain ⟨q, hq⟩ : ∃ q : Int, ((u / 10 : Nat) : Int) = q := ⟨_, rfl⟩
      obtain ⟨r, hr⟩ : ∃ r : Int, ((u % 10 : Nat) : Int) = r := ⟨_, rfl⟩
      have hr0 : 0 ≤ r := by omega
      have hr1 : r < 10 := by omega
      have hcv := conv_byte (P := Tryz.prog) Tryz.underlying30 Tryz.underlying5 Tryz.underlying9 r hr0 hr1
      rw [show r.toNat = u % 10 from by omega] at hcv
      have t1 : (u : Int).tdiv 10 = q := by rw [Int.tdiv_eq_ediv_of_nonneg (by omega)]; omega
      have t2 : (u : Int).tmod 10 = r := by rw [Int.tmod_eq_emod_of_nonneg (by omega)]; omega
      have t3 : (u : Int) / 10 = q := by omega
      have t4 : (u : Int) % 10 = r := by omega
      have t5 : IntKind.i64.wrap (48 + r) = 48 + r := by rw [IntKind.wrap_i64]; omega
      have t7 : IntKind.i64.wrap q = q := by rw [IntKind.wrap_i64]; omega
      have t6 : IntKind.u8.wrap (48 + r) = 48 + r := by rw [IntKind.wrap_u8]; omega
      rw [hq] at hih
      have HI := Lib.hid hih
      have hlen := decDigits_len (u := u / 10) (by omega)
      generalize decDigits (u / 10) = ds at *
      replace HI := Lib.hid hih
      replace HD := Lib.hid hd
      clear ih hih hd hq hr
      go_enter Tryz.func65, Tryz.ntmps65
      go_upto_region 3 with fail
      go_region_with (go_at_call 65; (with_reducible refine (HI.out _).mono ?_); rintro e w' ⟨rfl, hb⟩; (first | have O9 : Own w w' := Own.join (Own.start w).drew hb | (have O9 : Own w w' := Own.join ((Own.start w).drew.alloc _) hb; obtain ⟨kb, -, -⟩ := below_box (k := w.heap.size) hb (by simp)) | (have O9 : Own w w' := Own.join ((Own.start w).alloc _).drew hb; obtain ⟨kb, -, -⟩ := below_box (k := w.heap.size) hb (by simp)) | (have O9 : Own w w' := Own.join ((Own.start w).alloc _) hb; obtain ⟨kb, -, -⟩ := below_box (k := w.heap.size) hb (by simp))); have HO9 := Lib.hid O9; clear hb O9)
      all_goals
        go_wp2
        go_ret
        refine ⟨ret_str (by rw [HD.out]; exact str_app _ _), ?_⟩
        show Own w _
        repeat (first | exact HO9.out | refine Own.alloc ?_ _ | refine Own.drew ?_)

def mt (n : Int) : List UInt8 := (if n < 0 then [45] else []) ++ decDigits (n.natAbs / 1000) ++ [46] ++ decDigits (n.natAbs / 100 % 10) ++ decDigits (n.natAbs / 10 % 10) ++ decDigits (n.natAbs % 10)
def mtR (n : Int) : List UInt8 := if isVal n = true then mt n else []
theorem s_l01Abs_x (m : Nat) (hm : m ≤ 1000000000000) (n : Int) (hn : n = m ∨ n = -(m : Int)) (w : World) : Calls Tryz.prog 48 #[.int .i64 n] w fun en w' => en = .returned (.int .i64 (m : Int)) ∧ w = w' := by
  have h0 : (0 : Int) ≤ m := by omega
  have h1 : (m : Int) ≤ 1000000000000 := by omega
  rcases hn with rfl | rfl
  · go_enter Tryz.func48, Tryz.ntmps48
    go_wp2
    all_goals go_ret
    all_goals exact ⟨ret_int (by omega), rfl⟩
  · go_enter Tryz.func48, Tryz.ntmps48
    go_wp2
    all_goals go_ret
    all_goals exact ⟨ret_int (by omega), rfl⟩
theorem s_l01Dec' (x : Int) (u : Nat) (w : World) (hx : x = u) (hu : u ≤ 1000000000000) : Calls Tryz.prog 65 #[.int .i64 x] w fun en w' => en = .returned (strV (decDigits u)) ∧ Below w.heap.size w w' := by
  subst hx
  exact s_l01Dec u w hu

theorem TabIs.keep {P : Program} {w w' : World} {name : String} {k : IntKind} {zs : List Int} (h : TabIs P w name k zs) (hb : Below w.heap.size w w') : TabIs P w' name k zs := by
  unfold TabIs World.var? at h ⊢
  cases hg : P.globalNamed name with
  | none => rw [hg] at h; cases h
  | some g =>
    rw [hg] at h
    simp only [Option.bind_some] at h ⊢
    have hlt : g < w.heap.size := by
      rcases Nat.lt_or_ge g w.heap.size with h1 | h1
      · exact h1
      · rw [Array.getElem?_eq_none h1] at h; cases h
    rw [hb.block g hlt]
    exact h
def Pow (P : Program) (w : World) : Prop := TabIs P w "internal/strconv.uint64pow10" .u64 pow10Tab
theorem Pow.keep {P : Program} {w w' : World} (h : Pow P w) (hb : Below w.heap.size w w') : Pow P w' := TabIs.keep h hb

theorem i_decimal (x : Int) (h0 : -9223372036854775808 ≤ x) (h1 : x ≤ 9223372036854775807) (w : World) (ht : Pow Tryz.prog w) : Calls Tryz.prog 61 #[.int .i64 x] w fun en w' => en = .returned (strV (itoa x)) ∧ Below w.heap.size w w' := by
  have CF := Lib.hid (Tryz.strconv_FormatInt_10 x h0 h1 w ht)
  clear h0 h1
  go_enter Tryz.func61, Tryz.ntmps61
  go_wp2_with fail
  refine CF.out.mono ?_
  rintro e w1 ⟨rfl, k, os, hw⟩
  have HB : Hid (Below w.heap.size w w1) := by
    subst hw
    exact ⟨rfl, rfl, rfl, by show w.heap.size ≤ (w.heap ++ os).size; simp, fun j hj => by show (w.heap ++ os)[j]? = w.heap[j]?; rw [Array.getElem?_append_left hj]⟩
  clear hw
  go_wp2_with fail
  go_ret
  exact ⟨rfl, HB.out⟩
theorem i_decimalN (x : Int) (u : Nat) (hx : x = u) (hu : u ≤ 1000000000000) (w : World) (ht : Pow Tryz.prog w) : Calls Tryz.prog 61 #[.int .i64 x] w fun en w' => en = .returned (strV (decDigits u)) ∧ Below w.heap.size w w' := by
  subst hx
  have h := i_decimal (u : Int) (by omega) (by omega) w ht
  have e : itoa (u : Int) = decDigits u := by unfold itoa; rw [if_neg (by omega), Int.toNat_natCast]
  rwa [e] at h

end Go.Proofs.YtfbfiikomlnllaaGreatDoor
