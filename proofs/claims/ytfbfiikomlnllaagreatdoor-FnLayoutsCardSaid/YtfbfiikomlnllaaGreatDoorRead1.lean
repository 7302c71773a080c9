/- Contracts and lemmas for the proofs of this seat: Read1. -/
import Derived.Test.YtfbfiikomlnllaaGreatDoorBase
import Derived.Test.YtfbfiikomlnllaaGreatDoorNum
import Derived.Test.YtfbfiikomlnllaaGreatDoorList
import Derived.Test.YtfbfiikomlnllaaGreatDoorSeg
import Derived.Test.YtfbfiikomlnllaaGreatDoorLay
import Derived.Test.YtfbfiikomlnllaaGreatDoorLay2
import Derived.Test.YtfbfiikomlnllaaGreatDoorLay3
import Derived.Test.YtfbfiikomlnllaaGreatDoorLay15
import Derived.Test.YtfbfiikomlnllaaGreatDoorShelf
import Derived.Test.YtfbfiikomlnllaaGreatDoorText1
import Derived.Test.YtfbfiikomlnllaaGreatDoorTextLaw
import Derived.Test.YtfbfiikomlnllaaGreatDoorText2
import Derived.Test.YtfbfiikomlnllaaGreatDoorLayText
import Derived.Lib.Hide
import Derived.BigQuiet
import Derived.Deep.QuietTactic
import Derived.Deep.OwnRows
import Derived.Deep.LoopGhost
import Derived.Deep.RegionHeld3
import Derived.Deep.DeepCutAuto
import Derived.StillTailTactics
import Derived.WalkSpells
import Derived.WalkLawsBesides
import Derived.Lib.AtoiErrMem
namespace Go.Proofs.YtfbfiikomlnllaaGreatDoor
open Go.RowKit Go.Deep Go.Lib
set_option maxHeartbeats 2000000
set_option linter.unusedVariables false
set_option linter.unusedSimpArgs false

-- for seats that read layouts (6)
/-- the program's reading of a number -/
def rdI (z : List UInt8) : Option Int := match parseIntB 64 z with
  | .ok v => if itoa v = z then some v else none
  | _ => none
/-- a slice of strings -/
def Strs (w : World) (p : Option Addr) (n : Nat) (ws : List (List UInt8)) : Prop :=
  ws.length = n ∧ (0 < n → ∃ b off, p = some ⟨b, off, none⟩ ∧ b < w.heap.size ∧ ∀ i, i < n → w.cell? ⟨b, off + i, none⟩ = some (strV (ws.getD i [])))
theorem Strs.keep {w w' : World} {p : Option Addr} {n : Nat} {ws : List (List UInt8)} (h : Strs w p n ws) (hb : Below w.heap.size w w') : Strs w' p n ws := by
  refine ⟨h.1, fun hn => ?_⟩
  obtain ⟨b, off, e, hl, hc⟩ := h.2 hn
  exact ⟨b, off, e, Nat.lt_of_lt_of_le hl hb.size, fun i hi => ((below_box (k := b) hb hl).1 _).trans (hc i hi)⟩
theorem parse_bound {z : List UInt8} {v : Int} (h : parseIntB 64 z = .ok v) : -9223372036854775808 ≤ v ∧ v ≤ 9223372036854775807 := by
  have e : (2 : Nat) ^ (64 - 1) = 9223372036854775808 := by decide
  unfold parseIntB at h
  split at h
  · cases h
  · rename_i c r
    simp only at h
    split at h
    · cases h
    · cases h
    · rename_i u hu
      rw [e] at h
      by_cases hn : c.toNat = 45
      · rw [if_neg (by simp [hn])] at h
        by_cases hx : 9223372036854775808 < u
        · rw [if_pos ⟨hn, hx⟩] at h; cases h
        · rw [if_neg (fun hh => hx hh.2), if_pos hn] at h
          cases h
          omega
      · by_cases hx : 9223372036854775808 ≤ u
        · rw [if_pos ⟨hn, hx⟩] at h; cases h
        · rw [if_neg (fun hh => hx hh.2), if_neg (fun hh => hn hh.1), if_neg hn] at h
          cases h
          omega

set_option maxRecDepth 100000 in
theorem i_readNumber (z : List UInt8) (hz : z.length ≤ 1048576) (w : World) (hr : Rd Tryz.prog w) :
    Calls Tryz.prog 43 #[strV z] w fun e w' => (∃ (x : Int) (b : Bool), e = .returned (.tuple #[.int .i64 x, .bool b]) ∧ (rdI z = some x ∧ b = true ∨ rdI z = none ∧ b = false)) ∧ Below w.heap.size w w' := by
  have HRd := Lib.hid hr
  clear hr
  by_cases hok : ∃ v, parseIntB 64 z = .ok v
  · obtain ⟨v, hv⟩ := hok
    have CP : Hid (∀ w : World, Calls Tryz.prog 60 #[strV z, .int .i64 10, .int .i64 64] w fun e w' => e = .returned (.tuple #[.int .i64 v, .nilIface]) ∧ Below w.heap.size w w') := fun w => parse_ok z hz v hv w
    have hvb := parse_bound hv
    have CD : Hid (∀ w : World, Pow Tryz.prog w → Calls Tryz.prog 61 #[.int .i64 v] w fun en w' => en = .returned (strV (itoa v)) ∧ Below w.heap.size w w') := fun w ht => i_decimal v hvb.1 hvb.2 w ht
    have hR : rdI z = if itoa v = z then some v else none := by unfold rdI; rw [hv]
    generalize itoa v = t at *
    have hbR : ∃ b : Bool, (t == z) = b ∧ (rdI z = some v ∧ b = true ∨ rdI z = none ∧ b = false) := by
      by_cases e : t = z
      · exact ⟨true, by rw [e]; simp, .inl ⟨by rw [hR, if_pos e], rfl⟩⟩
      · exact ⟨false, by simpa using e, .inr ⟨by rw [hR, if_neg e], rfl⟩⟩
    obtain ⟨b, hb1, hb2⟩ := hbR
    have HB2 := Lib.hid hb2
    clear hv hvb hR hb2
    go_enter Tryz.func43, Tryz.ntmps43
    go_wp2_with fail
    refine (CP.out _).mono ?_
    rintro e w1 ⟨rfl, hb⟩
    have O1 := Lib.hid hb
    clear hb
    go_wp2_with fail
    refine (CD.out _ (HRd.out.keep O1.out).1).mono ?_
    rintro e w2 ⟨rfl, hb⟩
    have O2 := Lib.hid (Own.join O1.out hb)
    clear hb
    go_wp2_with fail
    go_ret2
    exact ⟨⟨v, b, by first | rfl | (rw [← hb1]; rfl), HB2.out⟩, O2.out⟩
  · have hbad : ∀ v, parseIntB 64 z ≠ .ok v := fun v e => hok ⟨v, e⟩
    have hR : rdI z = none := by
      unfold rdI
      split
      · rename_i v hv; exact absurd hv (hbad v)
      · rfl
    have CP : Hid (∀ w : World, Rd Tryz.prog w → Calls Tryz.prog 60 #[strV z, .int .i64 10, .int .i64 64] w fun e w' => ∃ (x : Int) (N : Nat), e = .returned (.tuple #[.int .i64 x, .iface 109 (.pointer (some ⟨N, 0, none⟩))]) ∧ Below w.heap.size w w') := fun w hr => parse_bad z hz hbad w hr
    have HR := Lib.hid hR
    clear hR hok hbad
    go_enter Tryz.func43, Tryz.ntmps43
    go_wp2_with fail
    refine (CP.out _ HRd.out).mono ?_
    rintro e w1 ⟨x, N, rfl, hb⟩
    have O1 := Lib.hid hb
    clear hb
    go_wp2_with fail
    go_ret2
    exact ⟨⟨x, false, rfl, .inr ⟨HR.out, rfl⟩⟩, O1.out⟩

-- (6)
theorem how_keep' {w w' : World} {B : Nat} {t : TypeId} {sz : Nat} {v : Value} {n : Nat} {xs : List Value} (h : w.ownsRow B t sz v n xs) (hb : Below w.heap.size w w') : w'.ownsRow B t sz v n xs := by
  obtain ⟨h1, h2⟩ := h
  refine ⟨h1, ?_⟩
  rcases h2 with h2 | ⟨g, cap, cur, e, hB, hg, r⟩
  · exact .inl h2
  · exact .inr ⟨g, cap, cur, e, hB, (hb.block g (Array.getElem?_eq_some_iff.1 hg).1).trans hg, r⟩
theorem map_rowV' (L : List Int) : L.map (Value.int .i64) = rowV (fun i => L.getD i 0) L.length := by
  unfold rowV
  refine List.ext_getElem? fun i => ?_
  simp only [List.getElem?_map]
  by_cases h : i < L.length
  · simp [h]
  · have h2 : (List.range L.length)[i]? = none := List.getElem?_eq_none (by rw [List.length_range]; omega)
    rw [List.getElem?_eq_none (by omega), h2]; rfl

def rdsI : List (List UInt8) → Option (List Int)
  | [] => some []
  | z :: r => match rdI z, rdsI r with
    | some x, some ys => some (x :: ys)
    | _, _ => none
theorem rdsI_len : ∀ {ws : List (List UInt8)} {ys : List Int}, rdsI ws = some ys → ys.length = ws.length
  | [], ys, h => by simp only [rdsI, Option.some.injEq] at h; subst h; rfl
  | z :: r, ys, h => by
    simp only [rdsI] at h
    split at h
    · rename_i x ys' h1 h2
      cases h
      simp [rdsI_len h2]
    · cases h
theorem rdsI_snoc : ∀ (ws : List (List UInt8)) (z : List UInt8), rdsI (ws ++ [z]) = match rdsI ws, rdI z with
    | some ys, some x => some (ys ++ [x])
    | _, _ => none
  | [], z => by
    simp only [List.nil_append, rdsI]
    cases rdI z <;> rfl
  | a :: r, z => by
    simp only [List.cons_append, rdsI, rdsI_snoc r z]
    cases rdI a <;> cases rdsI r <;> cases rdI z <;> rfl
theorem rdsI_bad {ws : List (List UInt8)} {k : Nat} (hk : k < ws.length) (h : rdI (ws.getD k []) = none) : rdsI ws = none := by
  induction ws generalizing k with
  | nil => simp at hk
  | cons a r ih =>
    simp only [rdsI]
    cases k with
    | zero =>
      have : rdI a = none := by simpa using h
      rw [this]
    | succ k =>
      rw [ih (k := k) (by simpa using hk) (by simpa using h)]
      cases rdI a <;> rfl
theorem take_snocW {ws : List (List UInt8)} {k : Nat} (hk : k < ws.length) : ws.take (k + 1) = ws.take k ++ [ws.getD k []] := by
  rw [List.take_succ_eq_append_getElem hk, List.getD_eq_getElem?_getD, List.getElem?_eq_getElem hk]
  rfl
/-- what a reading of numbers hands back -/
def NumsQ (t : TypeId) (w : World) (o : Option (List Int)) (e : Ending) (w' : World) : Prop := match o with
  | some ys => ∃ q' c', e = .returned (.tuple #[.slice q' ys.length c', .bool true]) ∧ OwnQ t 1 w.heap.size w' q' ys.length (fun i => ys.getD i 0)
  | none => e = .returned (.tuple #[.slice none 0 0, .bool false])
set_option maxRecDepth 100000 in
theorem i_readNumbers (q : Option Addr) (m c : Nat) (ws : List (List UInt8)) (w : World) (hq : Strs w q m ws) (hm : m ≤ 1048577) (hl : ∀ z ∈ ws, z.length ≤ 1048576) (hr : Rd Tryz.prog w) :
    Calls Tryz.prog 23 #[.slice q m c] w fun e w' => NumsQ 2 w (rdsI ws) e w' ∧ Below w.heap.size w w' := by
  obtain ⟨i0, hi, hz0, hz1, hz2⟩ := info_parts (P := Tryz.prog) (e := 2) (z := .int .i64 0) (size := 1) (bytes := 8) (by kernel_rfl)
  have HQ := Lib.hid hq
  have HZ := Lib.hid hq.1
  have HL := Lib.hid hl
  have HRd := Lib.hid hr
  clear hq hl hr
  go_enter Tryz.func23, Tryz.ntmps23
  go_wp2
  go_loopw [4, 11] (fun v i wr => ∃ (j : Nat) (ys : List Int), j ≤ m ∧ i = .int .i64 j ∧ rdsI (ws.take j) = some ys ∧ (∃ v0 : Value, v0 = v ∧ wr.ownsRow w.heap.size 2 1 v0 ys.length (ys.map (Value.int .i64))) ∧ Own w wr) (fun _ i _ => (m - RowKit.intOf i).toNat)
  case atStart => exact ⟨0, [], Nat.zero_le _, rfl, rfl, ⟨_, rfl, World.ownsRow_nil _ _ _ _⟩, Own.start _⟩
  case round =>
    obtain ⟨j, ys, hj, rfl, hys, ⟨v, rfl, how⟩, hown⟩ := hrel
    obtain ⟨wB, rfl⟩ : ∃ wB : World, wB = wr := ⟨_, rfl⟩
    have HO := Lib.hid hown
    have HOWN := Lib.hid how
    have HYS := Lib.hid hys
    have hlen : ys.length = j := by rw [rdsI_len hys, List.length_take, HZ.out]; omega
    have hlW := hown.le
    by_cases hlt : j < m
    · obtain ⟨b, off, rfl, hlb, hc⟩ := (HQ.out.keep hown).2 (by omega)
      have hcj := hc j hlt
      have hji : (j : Int) < (m : Int) := by omega
      have hsn := take_snocW (ws := ws) (k := j) (by rw [HZ.out]; exact hlt)
      have hmem : ws.getD j [] ∈ ws := by rw [List.getD_eq_getElem?_getD, List.getElem?_eq_getElem (by rw [HZ.out]; exact hlt)]; exact List.getElem_mem _
      have hbad : rdI (ws.getD j []) = none → rdsI ws = none := rdsI_bad (by rw [HZ.out]; exact hlt)
      obtain ⟨z, hz⟩ : ∃ z, ws.getD j [] = z := ⟨_, rfl⟩
      rw [hz] at hcj hsn hmem hbad
      have HSN := Lib.hid hsn
      have HBD := Lib.hid hbad
      have CN := Lib.hid (i_readNumber z (HL.out z hmem) wB (HRd.out.keep hown))
      clear hc hz hsn hmem hbad hys how hown
      go_wp2_with fail
      refine CN.out.mono ?_
      rintro e w4 ⟨⟨x, b4, rfl, (⟨hx, rfl⟩ | ⟨hx, rfl⟩)⟩, hb4⟩
      · have O4 := Lib.hid (HO.out.join hb4)
        have W4 := Lib.hid (how_keep' HOWN.out hb4)
        have HX := Lib.hid hx
        have hsz4 := hb4.size
        clear hx hb4
        go_wp2_with (at_builtin; refine wpList_append_k _ rfl _ _ 49 rfl w.heap.size 2 i0 (.int .i64 0) 1 8 Tryz.underlying49 hi hz0 hz1 hz2 rfl (by decide) _ _ _ rfl (W4.out.alloc _) ⟨w4.heap.size, 0, none⟩ 1 1 [.int .i64 x] rfl rfl (one_news _ _ _) (by simp [Value.oneCell']) (by decide) (by unfold maxLen; omega) (by omega) (by simp; omega) ?_; intro g2 c2 w1 hown1 hbel hkp hfar hsz1; have HOWN1 := Lib.hid hown1; have HBEL := Lib.hid hbel; clear hown1 hbel hkp hfar)
        go_roundw
        case rel => exact ⟨j + 1, ys ++ [x], by omega, by go_num, by rw [HSN.out, rdsI_snoc, HYS.out, HX.out], ⟨_, rfl, by simpa [hlen] using HOWN1.out⟩, Below.trans (O4.out.alloc _).below (HBEL.out.mono (Nat.le_refl _))⟩
        case measure => simp [RowKit.intOf]; omega
      · have O4 := Lib.hid (HO.out.join hb4)
        have hn := HBD.out hx
        have HN := Lib.hid hn
        clear hx hb4 hn
        go_wp2_with fail
        go_ret2
        exact ⟨by rw [HN.out]; exact rfl, O4.out.below⟩
    · obtain rfl : j = m := by omega
      have hall : rdsI ws = some ys := by
        have := HYS.out
        rwa [List.take_of_length_le (by rw [HZ.out]; omega)] at this
      obtain ⟨q2, c2, rfl, hq2⟩ := ownQ_of_own (sz := 1) (f := fun i => ys.getD i 0) (n := ys.length) (by rw [Nat.mul_one, ← map_rowV']; exact how) (by omega)
      have HQ2 := Lib.hid hq2
      have HA := Lib.hid hall
      clear hys how hown hq2 hall
      go_wp2
      go_ret2
      exact ⟨by rw [HA.out]; exact ⟨q2, c2, rfl, HQ2.out⟩, HO.out.below⟩

end Go.Proofs.YtfbfiikomlnllaaGreatDoor
