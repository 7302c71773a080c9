/- Contracts and lemmas for the proofs of this seat: Text2. -/
import Derived.Test.YtfbfiikomlnllaaGreatDoorBase
import Derived.Test.YtfbfiikomlnllaaGreatDoorNum
import Derived.Test.YtfbfiikomlnllaaGreatDoorShelf
import Derived.Test.YtfbfiikomlnllaaGreatDoorText1
import Derived.Test.YtfbfiikomlnllaaGreatDoorTextLaw
import Derived.Lib.Hide
import Derived.BigQuiet
import Derived.Deep.QuietTactic
import Derived.Deep.RegionHeld3
import Derived.Deep.DeepCutAuto
import Derived.StillTailTactics
import Derived.WalkSpells
import Derived.WalkLawsBesides
import Derived.Lib.LaidTab
import Derived.Lib.AtoiErrMem
namespace Go.Proofs.YtfbfiikomlnllaaGreatDoor
open Go.RowKit Go.Deep Go.Lib
set_option maxHeartbeats 2000000
set_option linter.unusedVariables false
set_option linter.unusedSimpArgs false

theorem strV_get {l : List UInt8} {k : Nat} {c : UInt8} {r : List UInt8} (h : l.drop k = c :: r) : k < l.length ∧ l.drop (k + 1) = r ∧ ∃ h2 : k < (⟨l.toArray⟩ : ByteArray).size, (⟨l.toArray⟩ : ByteArray)[k]'h2 = c := by
  have hk : k < l.length := by
    rcases Nat.lt_or_ge k l.length with h1 | h1
    · exact h1
    · rw [List.drop_eq_nil_of_le h1] at h; cases h
  have h2 := List.drop_eq_getElem_cons hk
  rw [h] at h2
  obtain ⟨e1, e2⟩ := List.cons.inj h2
  refine ⟨hk, e2.symm, hk, ?_⟩
  rw [e1]
  rfl
theorem isDg_iff {c : UInt8} : isDg c = true ↔ 48 ≤ c.toNat ∧ c.toNat ≤ 57 := by unfold isDg; exact decide_eq_true_iff
theorem rdN_stop (l : List UInt8) (n d : Nat) (h : 14 ≤ d) : rdN l n d = n := by
  cases l with
  | nil => rfl
  | cons c r => simp only [rdN]; rw [if_neg (by omega)]
theorem rdN_dg {c : UInt8} {v : Nat} (hc : c.toNat = 48 + v) (hv : v ≤ 9) (r : List UInt8) (n d : Nat) (hd : d < 14) : rdN (c :: r) n d = rdN r (10 * n + v) (d + 1) := by
  simp only [rdN]
  rw [if_pos hd, if_pos (isDg_iff.2 (by omega)), hc, Nat.add_sub_cancel_left]
theorem rdN_le : ∀ (l : List UInt8) (n d : Nat), n < 10 ^ d → d ≤ 14 → rdN l n d < 10 ^ 14
  | [], n, d, h, hd => Nat.lt_of_lt_of_le h (Nat.pow_le_pow_right (by omega) hd)
  | c :: r, n, d, h, hd => by
    simp only [rdN]
    by_cases h1 : d < 14
    · rw [if_pos h1]
      by_cases h2 : isDg c = true
      · rw [if_pos h2]
        have := isDg_iff.1 h2
        exact rdN_le r _ _ (by rw [Nat.pow_succ]; omega) (by omega)
      · rw [if_neg h2]; exact rdN_le r _ _ h hd
    · rw [if_neg h1]; exact Nat.lt_of_lt_of_le h (Nat.pow_le_pow_right (by omega) hd)
theorem pow_bound {n d : Nat} (h : n < 10 ^ d) (hd : d ≤ 14) : n < 100000000000000 := Nat.lt_of_lt_of_le h (Nat.le_trans (Nat.pow_le_pow_right (by omega) hd) (by decide))

theorem replaceK_len (old : List UInt8) : ∀ (k : Nat) (s : List UInt8), (replaceK old [] k s).length ≤ s.length
  | 0, s => Nat.le_refl _
  | k + 1, s => by
    unfold replaceK
    split
    · exact Nat.le_refl _
    · have := replaceK_len old k (s.drop ((index s old).toNat + old.length))
      simp only [List.length_append, List.length_take, List.length_nil, List.length_drop] at this ⊢
      omega
theorem replace_len (s old : List UInt8) (n : Int) : (replace s old [] n).length ≤ s.length := by
  unfold replace
  split
  · exact Nat.le_refl _
  · exact replaceK_len _ _ _
theorem var_keep {P : Program} {w w' : World} {name : String} {cs : Array Value} (h : w.var? P name = some cs) (hb : Below w.heap.size w w') : w'.var? P name = some cs := by
  unfold World.var? at h ⊢
  cases hg : P.globalNamed name with
  | none => rw [hg] at h; cases h
  | some g =>
    rw [hg] at h
    simp only [Option.bind_some] at h ⊢
    have hlt : g < w.heap.size := by
      rcases Nat.lt_or_ge g w.heap.size with h1 | h1
      · exact h1
      · rw [Array.getElem?_eq_none h1] at h; cases h
    rw [hb.block g hlt]
    exact h
theorem cell_keep {w w' : World} {g : Nat} {v : Value} (h : w.cell? ⟨g, 0, none⟩ = some v) (hb : Below w.heap.size w w') : w'.cell? ⟨g, 0, none⟩ = some v := by
  unfold World.cell? at h ⊢
  have hlt : g < w.heap.size := by
    rcases Nat.lt_or_ge g w.heap.size with h1 | h1
    · exact h1
    · simp [Array.getElem?_eq_none h1] at h
  simp only [hb.block g hlt]
  exact h
/-- what a reading asks of the variables -/
def Rd (P : Program) (w : World) : Prop := Pow P w ∧ (∃ m, w.cell? ⟨1, 0, none⟩ = some (.int .i64 m)) ∧ (∃ tp p, w.var? P "strconv.ErrSyntax" = some #[.iface tp p]) ∧ ∃ tp p, w.var? P "strconv.ErrRange" = some #[.iface tp p]
theorem Rd.keep {P : Program} {w w' : World} (h : Rd P w) (hb : Below w.heap.size w w') : Rd P w' := by
  obtain ⟨h1, ⟨m, h2⟩, ⟨t3, p3, h3⟩, t4, p4, h4⟩ := h
  exact ⟨h1.keep hb, ⟨m, cell_keep h2 hb⟩, ⟨t3, p3, var_keep h3 hb⟩, t4, p4, var_keep h4 hb⟩
/-- strconv.ParseInt, as the reading uses it -/
theorem parse_bad (z : List UInt8) (hz : z.length ≤ 1048576) (h : ∀ v, parseIntB 64 z ≠ .ok v) (w : World) (hr : Rd Tryz.prog w) :
    Calls Tryz.prog 60 #[strV z, .int .i64 10, .int .i64 64] w fun e w' => ∃ (x : Int) (N : Nat), e = .returned (.tuple #[.int .i64 x, .iface 109 (.pointer (some ⟨N, 0, none⟩))]) ∧ Below w.heap.size w w' := by
  obtain ⟨-, -, ⟨t3, p3, h3⟩, t4, p4, h4⟩ := hr
  rcases hp : parseIntB 64 z with v | _ | _
  · exact absurd hp (h v)
  · exact (Any.strconv_ParseInt_10_at64_syntax_var Tryz.laysC174 ⟨z.toArray⟩ (by show z.length ≤ _; omega) hp t3 p3 w h3).mono fun e w' ⟨N, he, _, _, hb⟩ => ⟨_, N, he, hb⟩
  · exact (Tryz.strconv_ParseInt_10_at64_range_var ⟨z.toArray⟩ (by show z.length ≤ _; omega) hp t4 p4 w h4).mono fun e w' ⟨N, he, _, _, hb⟩ => ⟨_, N, he, hb⟩
theorem parse_ok (z : List UInt8) (hz : z.length ≤ 1048576) (v : Int) (h : parseIntB 64 z = .ok v) (w : World) :
    Calls Tryz.prog 60 #[strV z, .int .i64 10, .int .i64 64] w fun e w' => e = .returned (.tuple #[.int .i64 v, .nilIface]) ∧ Below w.heap.size w w' :=
  (Tryz.strconv_ParseInt_10_at64_ok ⟨z.toArray⟩ (by show z.length ≤ _; omega) v h w).mono fun e w' ⟨he, hw⟩ => ⟨he, by
    rcases hw with rfl | ⟨t, rfl⟩
    · exact Below.refl _ _
    · exact Lib.bytesWorld_below _ _ _⟩

end Go.Proofs.YtfbfiikomlnllaaGreatDoor
