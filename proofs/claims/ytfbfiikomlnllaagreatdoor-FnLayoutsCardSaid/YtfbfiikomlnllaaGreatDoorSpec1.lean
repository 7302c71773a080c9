/- Contracts and lemmas for the proofs of this seat: Spec1. -/
import Derived.Test.YtfbfiikomlnllaaGreatDoorBase
import Derived.Test.YtfbfiikomlnllaaGreatDoorNum
import Derived.Test.YtfbfiikomlnllaaGreatDoorList
import Derived.Test.YtfbfiikomlnllaaGreatDoorSeg
import Derived.Test.YtfbfiikomlnllaaGreatDoorLay
import Derived.Test.YtfbfiikomlnllaaGreatDoorLay2
import Derived.Test.YtfbfiikomlnllaaGreatDoorLay3
import Derived.Test.YtfbfiikomlnllaaGreatDoorLay15
import Derived.Test.YtfbfiikomlnllaaGreatDoorShelf
import Derived.Test.YtfbfiikomlnllaaGreatDoorText1
import Derived.Test.YtfbfiikomlnllaaGreatDoorTextLaw
import Derived.Test.YtfbfiikomlnllaaGreatDoorText2
import Derived.Test.YtfbfiikomlnllaaGreatDoorLayText
import Derived.Test.YtfbfiikomlnllaaGreatDoorRangeB
import Derived.Test.YtfbfiikomlnllaaGreatDoorLines
import Derived.Test.YtfbfiikomlnllaaGreatDoorRead1
import Derived.Test.YtfbfiikomlnllaaGreatDoorRead2
import Derived.Test.YtfbfiikomlnllaaGreatDoorReadLaw
import Derived.Test.YtfbfiikomlnllaaGreatDoorReadSpec
import Derived.Lib.Hide
import Derived.BigQuiet
import Derived.Deep.QuietTactic
import Derived.Deep.OwnRows
import Derived.Deep.LoopGhost
import Derived.Deep.RegionHeld3
import Derived.Deep.DeepCutAuto
import Derived.StillTailTactics
import Derived.WalkSpells
import Derived.WalkLawsBesides
namespace Go.Proofs.YtfbfiikomlnllaaGreatDoor
open Go.RowKit Go.Deep Go.Lib
set_option maxHeartbeats 2000000
set_option linter.unusedVariables false
set_option linter.unusedSimpArgs false

-- (6)
/-- what a reading of a number hands back -/
def NumQ (o : Option Int) (e : Ending) : Prop := ∃ (x : Int) (b : Bool), e = .returned (.tuple #[.int .i64 x, .bool b]) ∧ (-1000000000000 ≤ x ∧ x ≤ 1000000000000) ∧ (o = some x ∧ b = true ∨ o = none ∧ b = false)
def digN (z : List UInt8) (j : Nat) : Nat := valN (z.take j)
theorem digN_succ {z : List UInt8} {j : Nat} {c : UInt8} (h : z[j]? = some c) : digN z (j + 1) = 10 * digN z j + (c.toNat - 48) := by
  have hj : j < z.length := (List.getElem?_eq_some_iff.1 h).1
  have hc : z[j] = c := (List.getElem?_eq_some_iff.1 h).2
  unfold digN valN
  rw [List.take_succ_eq_append_getElem hj, List.foldl_append, hc]
  rfl
theorem digN_lt {z : List UInt8} : ∀ {j : Nat}, (∀ i, i < j → ∀ c, z[i]? = some c → isDg c = true) → j ≤ z.length → digN z j < 10 ^ j
  | 0, _, _ => by simp [digN, valN]
  | j + 1, h, hj => by
    have ih := digN_lt (z := z) (j := j) (fun i hi c hc => h i (by omega) c hc) (by omega)
    have hd := h j (by omega) z[j] (List.getElem?_eq_getElem (by omega))
    rw [digN_succ (List.getElem?_eq_getElem (show j < z.length by omega)), Nat.pow_succ]
    simp only [isDg, Bool.and_eq_true, decide_eq_true_eq] at hd
    omega
theorem notDg {z : List UInt8} {j : Nat} {c : UInt8} (h : z[j]? = some c) (hc : isDg c = false) : rdV z = none := by
  have hm : c ∈ z := List.mem_of_getElem? h
  unfold rdV
  rw [if_neg]
  rintro ⟨-, -, h3, -⟩
  rw [List.all_eq_true] at h3
  rw [h3 c hm] at hc
  cases hc
theorem allDg {z : List UInt8} (h : ∀ k, k < z.length → ∀ c, z[k]? = some c → isDg c = true) : z.all isDg = true := by
  rw [List.all_eq_true]
  intro c hc
  obtain ⟨k, hk, rfl⟩ := List.getElem_of_mem hc
  exact h k hk _ (List.getElem?_eq_getElem hk)
theorem digN_all (z : List UInt8) : digN z z.length = valN z := by unfold digN; rw [List.take_length]
theorem str_cut (l : List UInt8) (a b : Nat) : (⟨l.toArray⟩ : ByteArray).extract a b = ⟨((l.take b).drop a).toArray⟩ := by
  apply ByteArray.ext
  rw [ByteArray.data_extract]
  apply Array.ext'
  simp [List.drop_take]
theorem cut_tail (c : UInt8) (r : List UInt8) : (⟨(c :: r : List UInt8).toArray⟩ : ByteArray).extract 1 (r.length + 1) = ⟨r.toArray⟩ := by
  rw [str_cut, List.take_of_length_le (by simp)]
  rfl
theorem pow_le12 {j : Nat} (h : j ≤ 12) : (10 : Nat) ^ j ≤ 1000000000000 := Nat.pow_le_pow_right (by decide) h
theorem pow_le11 {j : Nat} (h : j ≤ 11) : (10 : Nat) ^ j ≤ 100000000000 := Nat.pow_le_pow_right (by decide) h

set_option maxRecDepth 100000 in
theorem s_l01Value (z : List UInt8) (hz : z.length ≤ 1048576) (w : World) : Calls Tryz.prog 69 #[strV z] w fun e w' => NumQ ((rdV z).map Int.ofNat) e ∧ Below w.heap.size w w' := by
  have hsz : (⟨z.toArray⟩ : ByteArray).size = z.length := rfl
  by_cases hl : 1 ≤ z.length ∧ z.length ≤ 12
  · have h1 : ¬ ((z.length : Nat) : Int) < 1 := by omega
    have h2 : ¬ (12 : Int) < ((z.length : Nat) : Int) := by omega
    go_enter Tryz.func69, Tryz.ntmps69
    go_wp2
    go_loopw [4, 5] (fun n i wr => ∃ j : Nat, j ≤ z.length ∧ i = .int .i64 j ∧ n = .int .i64 (digN z j) ∧ (∀ k, k < j → ∀ c, z[k]? = some c → isDg c = true) ∧ wr = w) (fun _ i _ => (z.length - RowKit.intOf i).toNat)
    case atStart => exact ⟨0, Nat.zero_le _, rfl, rfl, fun k hk => absurd hk (Nat.not_lt_zero _), rfl⟩
    case round =>
      obtain ⟨j, hj, rfl, rfl, hd, rfl⟩ := hrel
      have hdl := digN_lt hd hj
      by_cases hlt : j < z.length
      · have hnb := pow_le11 (j := j) (by omega)
        obtain ⟨c, r, hcr⟩ : ∃ c r, z.drop j = c :: r := ⟨_, _, List.drop_eq_getElem_cons hlt⟩
        have hat : z[j]? = some c := by
          have h := List.getElem?_drop (xs := z) (i := j) (j := 0)
          rw [hcr] at h
          simpa using h.symm
        have hsu := digN_succ hat
        obtain ⟨-, -, hk2, hget⟩ := strV_get hcr
        obtain ⟨n, hn⟩ : ∃ n, digN z j = n := ⟨_, rfl⟩
        rw [hn] at hdl hsu ⊢
        have hji : (j : Int) < (z.length : Int) := by omega
        have hidx : 0 ≤ (j : Int) ∧ (j : Int) < (⟨z.toArray⟩ : ByteArray).size := ⟨by omega, by rw [hsz]; omega⟩
        have hc255 : c.toNat ≤ 255 := by have := c.toNat_lt; omega
        have hn11 : n < 100000000000 := by omega
        have HSU := Lib.hid hsu
        have HD := Lib.hid hd
        have HAT := Lib.hid hat
        clear hcr hsu hd hat hdl hnb hn
        subst hget
        by_cases c1 : 48 ≤ ((⟨z.toArray⟩ : ByteArray)[j]'hk2).toNat
        · by_cases c2 : ((⟨z.toArray⟩ : ByteArray)[j]'hk2).toNat ≤ 57
          · obtain ⟨v, hv⟩ : ∃ v, ((⟨z.toArray⟩ : ByteArray)[j]'hk2).toNat = 48 + v := ⟨((⟨z.toArray⟩ : ByteArray)[j]'hk2).toNat - 48, by omega⟩
            have hv9 : v ≤ 9 := by omega
            have HSU2 := Lib.hid (show digN z (j + 1) = 10 * n + v by rw [HSU.out, hv]; omega)
            have HDG := Lib.hid (isDg_iff.2 ⟨c1, c2⟩)
            have i1 : (48 : Int) ≤ ((⟨z.toArray⟩ : ByteArray)[j]'hk2).toNat := by omega
            have i2 : (((⟨z.toArray⟩ : ByteArray)[j]'hk2).toNat : Int) ≤ 57 := by omega
            go_wp2
            go_roundw
            case rel =>
              refine ⟨j + 1, by omega, by go_num, by rw [HSU2.out]; go_num, fun k hk c hc => ?_, trivial⟩
              rcases Nat.lt_succ_iff_lt_or_eq.1 hk with hk | rfl
              · exact HD.out k hk c hc
              · rw [HAT.out] at hc; cases hc; exact HDG.out
            case measure => simp [RowKit.intOf]; omega
          · have HR := Lib.hid (notDg HAT.out (by unfold isDg; exact decide_eq_false (by omega)))
            have i1 : (48 : Int) ≤ ((⟨z.toArray⟩ : ByteArray)[j]'hk2).toNat := by omega
            have i2 : (57 : Int) < ((⟨z.toArray⟩ : ByteArray)[j]'hk2).toNat := by omega
            go_wp2
            go_ret2
            exact ⟨⟨0, false, rfl, by omega, .inr ⟨by rw [HR.out]; rfl, rfl⟩⟩, Below.refl _ _⟩
        · have HR := Lib.hid (notDg HAT.out (by unfold isDg; exact decide_eq_false (by omega)))
          have i1 : (((⟨z.toArray⟩ : ByteArray)[j]'hk2).toNat : Int) < 48 := by omega
          go_wp2
          go_ret2
          exact ⟨⟨0, false, rfl, by omega, .inr ⟨by rw [HR.out]; rfl, rfl⟩⟩, Below.refl _ _⟩
      · obtain rfl : j = z.length := by omega
        rw [digN_all] at hdl ⊢
        have hnb := pow_le12 (j := z.length) (by omega)
        have hall := allDg hd
        have hR : rdV z = if decDigits (valN z) = z then some (valN z) else none := by
          unfold rdV
          by_cases e : decDigits (valN z) = z
          · rw [if_pos ⟨hl.1, hl.2, hall, e⟩, if_pos e]
          · rw [if_neg (fun h => e h.2.2.2), if_neg e]
        obtain ⟨n, hn⟩ : ∃ n, valN z = n := ⟨_, rfl⟩
        rw [hn] at hdl hR ⊢
        have hnl : n ≤ 1000000000000 := by omega
        have CD : Hid (∀ w : World, Calls Tryz.prog 65 #[.int .i64 (n : Int)] w fun en w' => en = .returned (strV (decDigits n)) ∧ Below w.heap.size w w') := fun w => s_l01Dec n w hnl
        obtain ⟨t, ht⟩ : ∃ t, decDigits n = t := ⟨_, rfl⟩
        rw [ht] at CD hR
        have hbR : ∃ b : Bool, (t == z) = b ∧ ((rdV z).map Int.ofNat = some (n : Int) ∧ b = true ∨ (rdV z).map Int.ofNat = none ∧ b = false) := by
          by_cases e : t = z
          · exact ⟨true, by rw [e]; simp, .inl ⟨by rw [hR, if_pos e]; rfl, rfl⟩⟩
          · exact ⟨false, by simpa using e, .inr ⟨by rw [hR, if_neg e]; rfl, rfl⟩⟩
        obtain ⟨b, hb1, hb2⟩ := hbR
        have HB2 := Lib.hid hb2
        have HNL := Lib.hid hnl
        clear hd hdl hnb hall hR hn ht hb2 hnl
        go_wp2_with fail
        refine (CD.out _).mono ?_
        rintro e w1 ⟨rfl, hb⟩
        have O1 := Lib.hid hb
        clear hb
        go_wp2_with fail
        go_ret2
        exact ⟨⟨n, b, by first | rfl | (rw [← hb1]; rfl), by have := HNL.out; omega, HB2.out⟩, O1.out⟩
  · have HR : Hid ((rdV z).map Int.ofNat = none) := by
      unfold rdV
      rw [if_neg (fun h => hl ⟨h.1, h.2.1⟩)]
      exact rfl
    by_cases h1 : ((z.length : Nat) : Int) < 1
    · go_enter Tryz.func69, Tryz.ntmps69
      go_wp2
      go_ret2
      exact ⟨⟨0, false, rfl, by omega, .inr ⟨HR.out, rfl⟩⟩, Below.refl _ _⟩
    · have h2 : (12 : Int) < ((z.length : Nat) : Int) := by omega
      go_enter Tryz.func69, Tryz.ntmps69
      go_wp2
      go_ret2
      exact ⟨⟨0, false, rfl, by omega, .inr ⟨HR.out, rfl⟩⟩, Below.refl _ _⟩

set_option maxRecDepth 100000 in
theorem s_l01Signed (z : List UInt8) (hz : z.length ≤ 1048576) (w : World) : Calls Tryz.prog 54 #[strV z] w fun e w' => NumQ (rdS z) e ∧ Below w.heap.size w w' := by
  have hsz : (⟨z.toArray⟩ : ByteArray).size = z.length := rfl
  by_cases hh : z.head? = some 45
  · obtain ⟨r, rfl⟩ : ∃ r, z = 45 :: r := by
      cases z with
      | nil => cases hh
      | cons a r =>
        simp only [List.head?_cons, Option.some.injEq] at hh
        exact ⟨r, by rw [hh]⟩
    have hsr : ({ data := (45 :: r : List UInt8).toArray } : ByteArray).extract 1 (r.length + 1) = ⟨r.toArray⟩ := cut_tail 45 r
    have CV := Lib.hid (fun w => s_l01Value r (by simp at hz; omega) w)
    have hs1 : (1 : Int) ≤ ((45 :: r : List UInt8).length : Int) := by simp; omega
    have hs2 : (0 : Int) < ((45 :: r : List UInt8).length : Int) := by simp
    have g0 : (⟨(45 :: r : List UInt8).toArray⟩ : ByteArray)[0]'(by rw [hsz]; simp) = 45 := rfl
    have i0 : (((⟨(45 :: r : List UInt8).toArray⟩ : ByteArray)[0]'(by rw [hsz]; simp)).toNat : Int) = 45 := rfl
    have HR : Hid (rdS (45 :: r) = match rdV r with
      | some n => if 0 < n then some (-(n : Int)) else none
      | none => none) := rfl
    go_enter Tryz.func54, Tryz.ntmps54
    go_wp2_with fail
    refine (CV.out _).mono ?_
    rintro e w1 ⟨⟨x, b, rfl, hbd, h3⟩, hb⟩
    have O1 := Lib.hid hb
    clear hb
    rcases h3 with ⟨hx, rfl⟩ | ⟨hx, rfl⟩
    · obtain ⟨n, hn, hxn⟩ := Option.map_eq_some_iff.1 hx
      obtain rfl : (n : Int) = x := hxn
      rw [hn] at HR
      replace HR := Lib.hid (HR.out.trans rfl)
      have HBD := Lib.hid hbd
      clear hx hn
      by_cases hp : 0 < n
      · have hpi : (0 : Int) < (n : Int) := by omega
        have HP := Lib.hid hp
        go_wp2_with fail
        go_ret2
        exact ⟨⟨-(n : Int), true, by go_num, by have := HBD.out; omega, .inl ⟨by rw [HR.out]; exact if_pos HP.out, rfl⟩⟩, O1.out⟩
      · obtain rfl : n = 0 := by omega
        go_wp2_with fail
        go_ret2
        exact ⟨⟨0, false, rfl, by omega, .inr ⟨by rw [HR.out]; rfl, rfl⟩⟩, O1.out⟩
    · rw [Option.map_eq_none_iff.1 hx] at HR
      replace HR := Lib.hid (HR.out.trans rfl)
      have HBD := Lib.hid hbd
      clear hx
      go_wp2_with fail
      go_ret2
      exact ⟨⟨-x, false, by go_num, by have := HBD.out; omega, .inr ⟨HR.out, rfl⟩⟩, O1.out⟩
  · have CV := Lib.hid (fun w => s_l01Value z hz w)
    have HR : Hid ((rdV z).map Int.ofNat = rdS z) := by
      unfold rdS
      rw [if_neg hh]
      cases rdV z <;> exact rfl
    cases z with
    | nil =>
      have hs2 : ¬ (0 : Int) < (([] : List UInt8).length : Int) := by simp
      go_enter Tryz.func54, Tryz.ntmps54
      go_wp2_with fail
      refine (CV.out _).mono ?_
      rintro e w1 ⟨⟨x, b, rfl, hbd, h3⟩, hb⟩
      have O1 := Lib.hid hb
      have HB := Lib.hid hbd
      have H3 := Lib.hid h3
      clear hb hbd h3
      go_wp2_with fail
      go_ret2
      exact ⟨⟨x, b, rfl, HB.out, by rw [← HR.out]; exact H3.out⟩, O1.out⟩
    | cons c r =>
      have hc : ¬ c.toNat = 45 := fun e => hh (by
        rw [List.head?_cons, Option.some.injEq, ← UInt8.toNat_inj]
        exact e)
      have hs2 : (0 : Int) < ((c :: r : List UInt8).length : Int) := by simp
      have hpos : 0 < (⟨(c :: r : List UInt8).toArray⟩ : ByteArray).size := by rw [hsz]; simp
      have b1 : ((((⟨(c :: r : List UInt8).toArray⟩ : ByteArray)[0]'hpos).toNat : Int) == 45) = false := by
        have : (⟨(c :: r : List UInt8).toArray⟩ : ByteArray)[0]'hpos = c := rfl
        rw [this]
        simp
        omega
      go_enter Tryz.func54, Tryz.ntmps54
      go_wp2_with fail
      refine (CV.out _).mono ?_
      rintro e w1 ⟨⟨x, b, rfl, hbd, h3⟩, hb⟩
      have O1 := Lib.hid hb
      have HB := Lib.hid hbd
      have H3 := Lib.hid h3
      clear hb hbd h3
      go_wp2_with fail
      go_ret2
      exact ⟨⟨x, b, rfl, HB.out, by rw [← HR.out]; exact H3.out⟩, O1.out⟩

end Go.Proofs.YtfbfiikomlnllaaGreatDoor
