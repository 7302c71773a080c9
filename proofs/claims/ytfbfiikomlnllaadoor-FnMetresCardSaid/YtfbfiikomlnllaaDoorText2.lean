/- Contracts and lemmas for the proofs of this seat: Text2. -/
import Derived.Test.YtfbfiikomlnllaaDoorBase
import Derived.Test.YtfbfiikomlnllaaDoorNum
import Derived.Test.YtfbfiikomlnllaaDoorShelf
import Derived.Test.YtfbfiikomlnllaaDoorText1
import Derived.Test.YtfbfiikomlnllaaDoorTextLaw
import Derived.Lib.Hide
import Derived.BigQuiet
import Derived.Deep.QuietTactic
import Derived.Deep.RegionHeld3
import Derived.Deep.DeepCutAuto
import Derived.StillTailTactics
import Derived.WalkSpells
import Derived.WalkLawsBesides
import Derived.Lib.LaidTab
import Derived.Lib.AtoiErrMem
namespace Go.Proofs.YtfbfiikomlnllaaDoor
open Go.RowKit Go.Deep Go.Lib
set_option maxHeartbeats 2000000
set_option linter.unusedVariables false
set_option linter.unusedSimpArgs false

theorem strV_get {l : List UInt8} {k : Nat} {c : UInt8} {r : List UInt8} (h : l.drop k = c :: r) : k < l.length ∧ l.drop (k + 1) = r ∧ ∃ h2 : k < (⟨l.toArray⟩ : ByteArray).size, (⟨l.toArray⟩ : ByteArray)[k]'h2 = c := by
  have hk : k < l.length := by
    rcases Nat.lt_or_ge k l.length with h1 | h1
    · exact h1
    · rw [List.drop_eq_nil_of_le h1] at h; cases h
  have h2 := List.drop_eq_getElem_cons hk
  rw [h] at h2
  obtain ⟨e1, e2⟩ := List.cons.inj h2
  refine ⟨hk, e2.symm, hk, ?_⟩
  rw [e1]
  rfl
theorem isDg_iff {c : UInt8} : isDg c = true ↔ 48 ≤ c.toNat ∧ c.toNat ≤ 57 := by unfold isDg; exact decide_eq_true_iff
theorem rdN_stop (l : List UInt8) (n d : Nat) (h : 14 ≤ d) : rdN l n d = n := by
  cases l with
  | nil => rfl
  | cons c r => simp only [rdN]; rw [if_neg (by omega)]
theorem rdN_dg {c : UInt8} {v : Nat} (hc : c.toNat = 48 + v) (hv : v ≤ 9) (r : List UInt8) (n d : Nat) (hd : d < 14) : rdN (c :: r) n d = rdN r (10 * n + v) (d + 1) := by
  simp only [rdN]
  rw [if_pos hd, if_pos (isDg_iff.2 (by omega)), hc, Nat.add_sub_cancel_left]
theorem rdN_le : ∀ (l : List UInt8) (n d : Nat), n < 10 ^ d → d ≤ 14 → rdN l n d < 10 ^ 14
  | [], n, d, h, hd => Nat.lt_of_lt_of_le h (Nat.pow_le_pow_right (by omega) hd)
  | c :: r, n, d, h, hd => by
    simp only [rdN]
    by_cases h1 : d < 14
    · rw [if_pos h1]
      by_cases h2 : isDg c = true
      · rw [if_pos h2]
        have := isDg_iff.1 h2
        exact rdN_le r _ _ (by rw [Nat.pow_succ]; omega) (by omega)
      · rw [if_neg h2]; exact rdN_le r _ _ h hd
    · rw [if_neg h1]; exact Nat.lt_of_lt_of_le h (Nat.pow_le_pow_right (by omega) hd)
theorem pow_bound {n d : Nat} (h : n < 10 ^ d) (hd : d ≤ 14) : n < 100000000000000 := Nat.lt_of_lt_of_le h (Nat.le_trans (Nat.pow_le_pow_right (by omega) hd) (by decide))

set_option maxRecDepth 100000 in
theorem s_ReadMetres (l : List UInt8) (hl : l.length ≤ 1048576) (w : World) : Calls Tryd.prog 9 #[strV l] w fun en w' => en = .returned (.tuple #[.int .i64 (rmR l).1, .bool (rmR l).2]) ∧ Below w.heap.size w w' := by
  have CM : Hid (∀ (w : World) (x : Int), Calls Tryd.prog 7 #[.int .i64 x] w fun en w' => en = .returned (strV (mtR x)) ∧ Below w.heap.size w w') := fun w x => s_MetresText x w
  have HR : Hid (rmR l = if l = [] ∨ mtR (rmN l) ≠ l then (0, false) else (rmN l, true)) := rfl
  have HN : Hid (rmN l = if l.head? = some 45 then -(rdN l 0 0 : Int) else rdN l 0 0) := rfl
  have hsz : (⟨l.toArray⟩ : ByteArray).size = l.length := rfl
  go_enter Tryd.func9, Tryd.ntmps9
  go_wp2
  go_loop [4, 5, 6] (fun a b i => ∃ n d k : Nat, a = .int .i64 n ∧ b = .int .i64 d ∧ i = .int .i64 k ∧ k ≤ l.length ∧ d ≤ 14 ∧ n < 10 ^ d ∧ rdN (l.drop k) n d = rdN l 0 0) (fun _ _ i => l.length - (RowKit.intOf i).toNat)
  case atStart => exact ⟨0, 0, 0, rfl, rfl, rfl, Nat.zero_le _, by omega, by omega, rfl⟩
  case round =>
    obtain ⟨n, d, k, rfl, rfl, rfl, hk, hd, hn, hrd⟩ := hrel
    have hnb := pow_bound hn hd
    by_cases hgo : k < l.length ∧ d < 14
    · obtain ⟨hkl, hdl⟩ := hgo
      have hkl' : (k : Int) < l.length := by omega
      have hdl' : (d : Int) < 14 := by omega
      obtain ⟨c, r, hcr⟩ : ∃ c r, l.drop k = c :: r := ⟨_, _, List.drop_eq_getElem_cons hkl⟩
      obtain ⟨-, hr, hk2, hget⟩ := strV_get hcr
      rw [hcr] at hrd
      have hidx : 0 ≤ (k : Int) ∧ (k : Int) < (⟨l.toArray⟩ : ByteArray).size := ⟨by omega, by rw [hsz]; omega⟩
      have hc255 : c.toNat ≤ 255 := by have := c.toNat_lt; omega
      have HRD := Lib.hid hrd
      have HDR := Lib.hid hr
      have HNN := Lib.hid hn
      clear hrd hcr hr hn
      subst hget
      by_cases c1 : 48 ≤ ((⟨l.toArray⟩ : ByteArray)[k]'hk2).toNat
      · by_cases c2 : ((⟨l.toArray⟩ : ByteArray)[k]'hk2).toNat ≤ 57
        · obtain ⟨v, hv⟩ : ∃ v, ((⟨l.toArray⟩ : ByteArray)[k]'hk2).toNat = 48 + v := ⟨((⟨l.toArray⟩ : ByteArray)[k]'hk2).toNat - 48, by omega⟩
          have hv9 : v ≤ 9 := by omega
          have HRS := Lib.hid ((rdN_dg hv hv9 r n d hdl).symm.trans HRD.out)
          have HV := Lib.hid hv
          have i1 : (48 : Int) ≤ ((⟨l.toArray⟩ : ByteArray)[k]'hk2).toNat := by omega
          have i2 : (((⟨l.toArray⟩ : ByteArray)[k]'hk2).toNat : Int) ≤ 57 := by omega
          go_wp2
          go_round
          case rel => exact ⟨10 * n + v, d + 1, k + 1, by go_num, by go_num, by go_num, by omega, by omega, by have := HNN.out; rw [Nat.pow_succ]; omega, by rw [HDR.out]; exact HRS.out⟩
          case measure => simp [RowKit.intOf]; omega
        · have HRS := Lib.hid ((rdN_other (by unfold isDg; exact decide_eq_false (by omega)) r n d hdl).symm.trans HRD.out)
          have i1 : (48 : Int) ≤ ((⟨l.toArray⟩ : ByteArray)[k]'hk2).toNat := by omega
          have i2 : (57 : Int) < ((⟨l.toArray⟩ : ByteArray)[k]'hk2).toNat := by omega
          go_wp2
          go_round
          case rel => exact ⟨n, d, k + 1, rfl, rfl, by go_num, by omega, hd, HNN.out, by rw [HDR.out]; exact HRS.out⟩
          case measure => simp [RowKit.intOf]; omega
      · have HRS := Lib.hid ((rdN_other (by unfold isDg; exact decide_eq_false (by omega)) r n d hdl).symm.trans HRD.out)
        have i1 : (((⟨l.toArray⟩ : ByteArray)[k]'hk2).toNat : Int) < 48 := by omega
        go_wp2
        go_round
        case rel => exact ⟨n, d, k + 1, rfl, rfl, by go_num, by omega, hd, HNN.out, by rw [HDR.out]; exact HRS.out⟩
        case measure => simp [RowKit.intOf]; omega
    · have hx : rdN l 0 0 = n := by
        rw [← hrd]
        rcases (show l.length ≤ k ∨ 14 ≤ d by omega) with h1 | h1
        · rw [List.drop_eq_nil_of_le h1]; rfl
        · exact rdN_stop _ _ _ h1
      have HX := Lib.hid hx
      have hex : (l.length : Int) ≤ k ∨ (k : Int) < l.length ∧ (14 : Int) ≤ d := by omega
      clear hgo hx hrd hn
      by_cases hl0 : l = []
      · subst hl0
        obtain rfl : k = 0 := by simpa using hk
        go_wp2
        go_ret2
        exact ⟨rfl, Below.refl _ _⟩
      · obtain ⟨c, r, hcr⟩ := List.exists_cons_of_ne_nil hl0
        obtain ⟨t, ht⟩ : ∃ t, mtR (rmN l) = t := ⟨_, rfl⟩
        rw [HX.out] at HN
        have hpos : 0 < (⟨l.toArray⟩ : ByteArray).size := by rw [hsz, hcr]; simp
        have hg0 : ((⟨l.toArray⟩ : ByteArray)[0]'hpos) = c := by subst hcr; rfl
        have hp : (0 : Int) < l.length := by rw [← hsz]; omega
        have hle : (l == []) = false := by simpa using hl0
        have HN2 : rmN l = if c.toNat = 45 then -(n : Int) else n := by
          rw [HN.out, hcr]
          have : c = 45 ↔ c.toNat = 45 := by rw [← UInt8.toNat_inj]; rfl
          simp [this]
        have HRR : Hid (rmR l = if t ≠ l then (0, false) else (rmN l, true)) := Lib.hid (by rw [HR.out, ht]; simp [hl0])
        clear hcr HN HR
        subst hg0
        rcases Decidable.em (((⟨l.toArray⟩ : ByteArray)[0]'hpos).toNat = 45) with hc | hc
        · rw [if_pos hc] at HN2
          rw [HN2] at ht HRR
          replace CM : Hid (∀ (w : World), Calls Tryd.prog 7 #[.int .i64 (-(n : Int))] w fun en w' => en = .returned (strV t) ∧ Below w.heap.size w w') := fun w => by have := CM.out w (-(n : Int)); rwa [ht] at this
          have b1 : ((((⟨l.toArray⟩ : ByteArray)[0]'hpos).toNat : Int) == 45) = true := by rw [hc]; rfl
          have b2 : (((⟨l.toArray⟩ : ByteArray)[0]'hpos).toNat : Int) = 45 := by rw [hc]; rfl
          clear hc ht HN2
          rcases Decidable.em (t = l) with hq | hq
          · have hRR : rmR l = (-(n : Int), true) := by rw [HRR.out, if_neg]; simpa using hq
            have hqb : (t == l) = true := by rw [hq]; simp
            replace HRR := Lib.hid hRR
            clear hRR hq
            rcases hex with hex | ⟨hex, hex2⟩
            all_goals
              go_wp2_with fail
              refine (CM.out _).mono ?_
              rintro e w1 ⟨rfl, hb⟩
              have O1 := Lib.hid hb
              clear hb
              go_wp2_with fail
              go_ret2
              exact ⟨by rw [HRR.out]; rfl, O1.out⟩
          · have hRR : rmR l = (0, false) := by rw [HRR.out, if_pos hq]
            have hqb : (t == l) = false := by simpa using hq
            replace HRR := Lib.hid hRR
            clear hRR hq
            rcases hex with hex | ⟨hex, hex2⟩
            all_goals
              go_wp2_with fail
              refine (CM.out _).mono ?_
              rintro e w1 ⟨rfl, hb⟩
              have O1 := Lib.hid hb
              clear hb
              go_wp2_with fail
              go_ret2
              exact ⟨by rw [HRR.out]; rfl, O1.out⟩
        · rw [if_neg hc] at HN2
          rw [HN2] at ht HRR
          replace CM : Hid (∀ (w : World), Calls Tryd.prog 7 #[.int .i64 (n : Int)] w fun en w' => en = .returned (strV t) ∧ Below w.heap.size w w') := fun w => by have := CM.out w (n : Int); rwa [ht] at this
          have b1 : ((((⟨l.toArray⟩ : ByteArray)[0]'hpos).toNat : Int) == 45) = false := by simp; omega
          have b2 : ¬ (((⟨l.toArray⟩ : ByteArray)[0]'hpos).toNat : Int) = 45 := by omega
          clear hc ht HN2
          rcases Decidable.em (t = l) with hq | hq
          · have hRR : rmR l = ((n : Int), true) := by rw [HRR.out, if_neg]; simpa using hq
            have hqb : (t == l) = true := by rw [hq]; simp
            replace HRR := Lib.hid hRR
            clear hRR hq
            rcases hex with hex | ⟨hex, hex2⟩
            all_goals
              go_wp2_with fail
              refine (CM.out _).mono ?_
              rintro e w1 ⟨rfl, hb⟩
              have O1 := Lib.hid hb
              clear hb
              go_wp2_with fail
              go_ret2
              exact ⟨by rw [HRR.out]; rfl, O1.out⟩
          · have hRR : rmR l = (0, false) := by rw [HRR.out, if_pos hq]
            have hqb : (t == l) = false := by simpa using hq
            replace HRR := Lib.hid hRR
            clear hRR hq
            rcases hex with hex | ⟨hex, hex2⟩
            all_goals
              go_wp2_with fail
              refine (CM.out _).mono ?_
              rintro e w1 ⟨rfl, hb⟩
              have O1 := Lib.hid hb
              clear hb
              go_wp2_with fail
              go_ret2
              exact ⟨by rw [HRR.out]; rfl, O1.out⟩

theorem replaceK_len (old : List UInt8) : ∀ (k : Nat) (s : List UInt8), (replaceK old [] k s).length ≤ s.length
  | 0, s => Nat.le_refl _
  | k + 1, s => by
    unfold replaceK
    split
    · exact Nat.le_refl _
    · have := replaceK_len old k (s.drop ((index s old).toNat + old.length))
      simp only [List.length_append, List.length_take, List.length_nil, List.length_drop] at this ⊢
      omega
theorem replace_len (s old : List UInt8) (n : Int) : (replace s old [] n).length ≤ s.length := by
  unfold replace
  split
  · exact Nat.le_refl _
  · exact replaceK_len _ _ _
theorem var_keep {P : Program} {w w' : World} {name : String} {cs : Array Value} (h : w.var? P name = some cs) (hb : Below w.heap.size w w') : w'.var? P name = some cs := by
  unfold World.var? at h ⊢
  cases hg : P.globalNamed name with
  | none => rw [hg] at h; cases h
  | some g =>
    rw [hg] at h
    simp only [Option.bind_some] at h ⊢
    have hlt : g < w.heap.size := by
      rcases Nat.lt_or_ge g w.heap.size with h1 | h1
      · exact h1
      · rw [Array.getElem?_eq_none h1] at h; cases h
    rw [hb.block g hlt]
    exact h
theorem cell_keep {w w' : World} {g : Nat} {v : Value} (h : w.cell? ⟨g, 0, none⟩ = some v) (hb : Below w.heap.size w w') : w'.cell? ⟨g, 0, none⟩ = some v := by
  unfold World.cell? at h ⊢
  have hlt : g < w.heap.size := by
    rcases Nat.lt_or_ge g w.heap.size with h1 | h1
    · exact h1
    · simp [Array.getElem?_eq_none h1] at h
  simp only [hb.block g hlt]
  exact h
/-- what a reading asks of the variables -/
def Rd (P : Program) (w : World) : Prop := Pow P w ∧ (∃ m, w.cell? ⟨3, 0, none⟩ = some (.int .i64 m)) ∧ (∃ tp p, w.var? P "strconv.ErrSyntax" = some #[.iface tp p]) ∧ ∃ tp p, w.var? P "strconv.ErrRange" = some #[.iface tp p]
theorem Rd.keep {P : Program} {w w' : World} (h : Rd P w) (hb : Below w.heap.size w w') : Rd P w' := by
  obtain ⟨h1, ⟨m, h2⟩, ⟨t3, p3, h3⟩, t4, p4, h4⟩ := h
  exact ⟨h1.keep hb, ⟨m, cell_keep h2 hb⟩, ⟨t3, p3, var_keep h3 hb⟩, t4, p4, var_keep h4 hb⟩
/-- strconv.ParseInt, as the reading uses it -/
theorem parse_bad (z : List UInt8) (hz : z.length ≤ 1048576) (h : ∀ v, parseIntB 64 z ≠ .ok v) (w : World) (hr : Rd Tryd.prog w) :
    Calls Tryd.prog 24 #[strV z, .int .i64 10, .int .i64 64] w fun e w' => ∃ (x : Int) (N : Nat), e = .returned (.tuple #[.int .i64 x, .iface 99 (.pointer (some ⟨N, 0, none⟩))]) ∧ Below w.heap.size w w' := by
  obtain ⟨-, -, ⟨t3, p3, h3⟩, t4, p4, h4⟩ := hr
  rcases hp : parseIntB 64 z with v | _ | _
  · exact absurd hp (h v)
  · exact (Any.strconv_ParseInt_10_at64_syntax_var Tryd.laysC174 ⟨z.toArray⟩ (by show z.length ≤ _; omega) hp t3 p3 w h3).mono fun e w' ⟨N, he, _, _, hb⟩ => ⟨_, N, he, hb⟩
  · exact (Tryd.strconv_ParseInt_10_at64_range_var ⟨z.toArray⟩ (by show z.length ≤ _; omega) hp t4 p4 w h4).mono fun e w' ⟨N, he, _, _, hb⟩ => ⟨_, N, he, hb⟩
theorem parse_ok (z : List UInt8) (hz : z.length ≤ 1048576) (v : Int) (h : parseIntB 64 z = .ok v) (w : World) :
    Calls Tryd.prog 24 #[strV z, .int .i64 10, .int .i64 64] w fun e w' => e = .returned (.tuple #[.int .i64 v, .nilIface]) ∧ Below w.heap.size w w' :=
  (Tryd.strconv_ParseInt_10_at64_ok ⟨z.toArray⟩ (by show z.length ≤ _; omega) v h w).mono fun e w' ⟨he, hw⟩ => ⟨he, by
    rcases hw with rfl | ⟨t, rfl⟩
    · exact Below.refl _ _
    · exact Lib.bytesWorld_below _ _ _⟩

set_option maxRecDepth 100000 in
theorem i_ReadMetres (l : List UInt8) (hl : l.length ≤ 1048576) (w : World) (hr : Rd Tryd.prog w) :
    Calls Tryd.prog 10 #[strV l] w fun en w' => en = .returned (.tuple #[.int .i64 (rmI l).1, .bool (rmI l).2]) ∧ Below w.heap.size w w' := by
  obtain ⟨m, hm⟩ := hr.2.1
  have CR := Lib.hid (Tryd.strings_Replace ⟨l.toArray⟩ ⟨#[46]⟩ ⟨#[]⟩ 1 m w (by show l.length < _; omega) hm (by decide) (by show l.length + _ * 0 ≤ _; omega))
  have hlen : (Lib.replace l [46] [] 1).length ≤ 1048576 := Nat.le_trans (replace_len _ _ _) hl
  have HI : Hid (rmI l = match parseIntB 64 (replace l [46] [] 1) with
    | .ok v => if mtR v = l then (v, true) else (0, false)
    | _ => (0, false)) := rfl
  change Hid (Calls _ _ _ _ fun e w' => e = .returned (strV (Lib.replace l [46] [] 1)) ∧ _) at CR
  generalize Lib.replace l [46] [] 1 = z at *
  have HRd := Lib.hid hr
  clear hr hm
  by_cases hok : ∃ v, parseIntB 64 z = .ok v
  · obtain ⟨v, hv⟩ := hok
    have CP : Hid (∀ w : World, Calls Tryd.prog 24 #[strV z, .int .i64 10, .int .i64 64] w fun e w' => e = .returned (.tuple #[.int .i64 v, .nilIface]) ∧ Below w.heap.size w w') := fun w => parse_ok z hlen v hv w
    have CM : Hid (∀ w : World, Pow Tryd.prog w → Calls Tryd.prog 8 #[.int .i64 v] w fun en w' => en = .returned (strV (mtR v)) ∧ Below w.heap.size w w') := fun w ht => i_MetresText v w ht
    have hRR : rmI l = if mtR v = l then (v, true) else (0, false) := by rw [HI.out, hv]
    generalize mtR v = t at *
    clear HI hv
    rcases Decidable.em (t = l) with hq | hq
    · rw [if_pos hq] at hRR
      have hqb : (t == l) = true := by rw [hq]; simp
      have HRR := Lib.hid hRR
      clear hRR hq
      go_enter Tryd.func10, Tryd.ntmps10
      go_wp2_with fail
      refine CR.out.mono ?_
      rintro e w1 ⟨rfl, hb⟩
      have O1 := Lib.hid hb
      clear hb
      go_wp2_with fail
      refine (CP.out _).mono ?_
      rintro e w2 ⟨rfl, hb⟩
      have O2 := Lib.hid (Own.join O1.out hb)
      clear hb
      go_wp2_with fail
      refine (CM.out _ (HRd.out.keep O2.out).1).mono ?_
      rintro e w3 ⟨rfl, hb⟩
      have O3 := Lib.hid (Own.join O2.out hb)
      clear hb
      go_wp2_with fail
      go_ret2
      exact ⟨by rw [HRR.out]; rfl, O3.out⟩
    · rw [if_neg hq] at hRR
      have hqb : (t == l) = false := by simpa using hq
      have HRR := Lib.hid hRR
      clear hRR hq
      go_enter Tryd.func10, Tryd.ntmps10
      go_wp2_with fail
      refine CR.out.mono ?_
      rintro e w1 ⟨rfl, hb⟩
      have O1 := Lib.hid hb
      clear hb
      go_wp2_with fail
      refine (CP.out _).mono ?_
      rintro e w2 ⟨rfl, hb⟩
      have O2 := Lib.hid (Own.join O1.out hb)
      clear hb
      go_wp2_with fail
      refine (CM.out _ (HRd.out.keep O2.out).1).mono ?_
      rintro e w3 ⟨rfl, hb⟩
      have O3 := Lib.hid (Own.join O2.out hb)
      clear hb
      go_wp2_with fail
      go_ret2
      exact ⟨by rw [HRR.out]; rfl, O3.out⟩
  · have hbad : ∀ v, parseIntB 64 z ≠ .ok v := fun v e => hok ⟨v, e⟩
    have CP : Hid (∀ w : World, Rd Tryd.prog w → Calls Tryd.prog 24 #[strV z, .int .i64 10, .int .i64 64] w fun e w' => ∃ (x : Int) (N : Nat), e = .returned (.tuple #[.int .i64 x, .iface 99 (.pointer (some ⟨N, 0, none⟩))]) ∧ Below w.heap.size w w') := fun w hr => parse_bad z hlen hbad w hr
    have hRR : rmI l = (0, false) := by
      rw [HI.out]
      split
      · rename_i v hv; exact absurd hv (hbad v)
      · rfl
    have HRR := Lib.hid hRR
    clear hRR HI hok hbad
    go_enter Tryd.func10, Tryd.ntmps10
    go_wp2_with fail
    refine CR.out.mono ?_
    rintro e w1 ⟨rfl, hb⟩
    have O1 := Lib.hid hb
    clear hb
    go_wp2_with fail
    refine (CP.out _ (HRd.out.keep O1.out)).mono ?_
    rintro e w2 ⟨x, N, rfl, hb⟩
    have O2 := Lib.hid (Own.join O1.out hb)
    clear hb
    go_wp2_with fail
    go_ret2
    exact ⟨by rw [HRR.out]; rfl, O2.out⟩

end Go.Proofs.YtfbfiikomlnllaaDoor
