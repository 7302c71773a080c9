/- Contracts and lemmas for the proofs of this seat: TextLaw. -/
import Derived.Test.YtfbfiikomlnllaaGreatDoorBase
import Derived.Test.YtfbfiikomlnllaaGreatDoorNum
import Derived.Test.YtfbfiikomlnllaaGreatDoorShelf
import Derived.Test.YtfbfiikomlnllaaGreatDoorText1
import Derived.Lib.ParseIntB
import Derived.Lib.Replace
import Derived.Lib.LaidTab
namespace Go.Proofs.YtfbfiikomlnllaaGreatDoor
open Go.RowKit Go.Lib
set_option maxHeartbeats 2000000
set_option linter.unusedVariables false
set_option linter.unusedSimpArgs false

theorem bt_nat {x : Nat} (h : x < 10) : (bt x).toNat = 48 + x := by
  unfold bt
  simp
  omega
def isDg (c : UInt8) : Bool := decide (48 ≤ c.toNat ∧ c.toNat ≤ 57)
theorem isDg_bt {x : Nat} (h : x < 10) : isDg (bt x) = true := by
  unfold isDg
  rw [bt_nat h]
  exact decide_eq_true (by omega)
/-- the specification's reading: the number that the first fourteen digits spell -/
def rdN : List UInt8 → Nat → Nat → Nat
  | [], n, _ => n
  | c :: r, n, d => if d < 14 then (if isDg c = true then rdN r (10 * n + (c.toNat - 48)) (d + 1) else rdN r n d) else n
theorem rdN_bt {x : Nat} (h : x < 10) (r : List UInt8) (n d : Nat) (hd : d < 14) : rdN (bt x :: r) n d = rdN r (10 * n + x) (d + 1) := by
  simp only [rdN]
  rw [if_pos hd, if_pos (isDg_bt h), bt_nat h, Nat.add_sub_cancel_left]
theorem decDigits_bt1 {u : Nat} (h : u < 10) : decDigits u = [bt u] := decDigits_one h
theorem decDigits_btS {u : Nat} (h : ¬ u < 10) : decDigits u = decDigits (u / 10) ++ [bt (u % 10)] := by rw [decDigits, dif_neg h]; rfl
theorem rdN_dec (u : Nat) : ∀ (r : List UInt8) (n d : Nat), d + nDigits u ≤ 14 → rdN (decDigits u ++ r) n d = rdN r (n * 10 ^ nDigits u + u) (d + nDigits u) := by
  induction u using Nat.strongRecOn with
  | _ u ih =>
    intro r n d hd
    by_cases h : u < 10
    · rw [nDigits_small h] at hd ⊢
      rw [decDigits_bt1 h, List.singleton_append, rdN_bt h _ _ _ (by omega)]
      congr 1
      omega
    · rw [nDigits_big h] at hd ⊢
      rw [decDigits_btS h, List.append_assoc, List.singleton_append, ih (u / 10) (by omega) _ _ _ (by omega), rdN_bt (by omega) _ _ _ (by omega)]
      congr 1
      rw [Nat.pow_succ, ← Nat.mul_assoc]
      omega
theorem nDigits_le {k : Nat} : ∀ {u : Nat}, u < 10 ^ (k + 1) → nDigits u ≤ k + 1 := by
  intro u h
  rw [← decDigits_length]
  exact decDigits_short k u h
theorem rdN_other {c : UInt8} (h : isDg c = false) (r : List UInt8) (n d : Nat) (hd : d < 14) : rdN (c :: r) n d = rdN r n d := by
  simp only [rdN]
  rw [if_pos hd, if_neg (by rw [h]; simp)]
theorem rd_mt {n : Int} (hv : isVal n = true) : rdN (mt n) 0 0 = n.natAbs := by
  have hv' := isVal_iff.1 hv
  have hn : nDigits (n.natAbs / 1000) ≤ 10 := nDigits_le (k := 9) (by omega)
  have e : rdN (mt n) 0 0 = rdN (decDigits (n.natAbs / 1000) ++ (46 :: bt (n.natAbs / 100 % 10) :: bt (n.natAbs / 10 % 10) :: bt (n.natAbs % 10) :: [])) 0 0 := by
    unfold mt
    rw [decDigits_bt1 (show n.natAbs / 100 % 10 < 10 by omega), decDigits_bt1 (show n.natAbs / 10 % 10 < 10 by omega), decDigits_bt1 (show n.natAbs % 10 < 10 by omega)]
    by_cases h : n < 0
    · rw [if_pos h]
      simp only [List.append_assoc, List.cons_append, List.nil_append]
      exact rdN_other rfl _ _ _ (by omega)
    · rw [if_neg h]
      simp only [List.append_assoc, List.cons_append, List.nil_append]
  rw [e, rdN_dec _ _ _ _ (by omega), rdN_other rfl _ _ _ (by omega), rdN_bt (by omega) _ _ _ (by omega), rdN_bt (by omega) _ _ _ (by omega), rdN_bt (by omega) _ _ _ (by omega)]
  simp only [rdN]
  omega
def rmN (l : List UInt8) : Int := if l.head? = some 45 then -(rdN l 0 0 : Int) else rdN l 0 0
/-- what both give: the value that the text is of -/
def rmR (l : List UInt8) : Int × Bool := if l = [] ∨ mtR (rmN l) ≠ l then (0, false) else (rmN l, true)
theorem mt_ne (n : Int) : mt n ≠ [] := by
  unfold mt
  simp
theorem mt_head (n : Int) : (mt n).head? = some 45 ↔ n < 0 := by
  unfold mt
  by_cases h : n < 0
  · simp [h]
  · have hd : ∃ c r, decDigits (n.natAbs / 1000) = c :: r ∧ c ≠ 45 := by
      have key : ∀ u : Nat, ∃ x r, x < 10 ∧ decDigits u = bt x :: r := by
        intro u
        induction u using Nat.strongRecOn with
        | _ u ih =>
          by_cases h : u < 10
          · exact ⟨u, [], h, decDigits_bt1 h⟩
          · obtain ⟨x, r, hx, e⟩ := ih (u / 10) (by omega)
            exact ⟨x, r ++ [bt (u % 10)], hx, by rw [decDigits_btS h, e]; rfl⟩
      obtain ⟨x, r, hx, e⟩ := key (n.natAbs / 1000)
      refine ⟨_, r, e, fun hc => ?_⟩
      have := bt_nat hx
      rw [hc] at this
      simp at this
      omega
    obtain ⟨c, r, e, hc⟩ := hd
    rw [if_neg h, e]
    simp [h, hc]
theorem rmN_mt {n : Int} (hv : isVal n = true) : rmN (mt n) = n := by
  unfold rmN
  rw [rd_mt hv]
  by_cases h : n < 0
  · rw [if_pos ((mt_head n).2 h)]; omega
  · rw [if_neg (fun h2 => h ((mt_head n).1 h2))]; omega
theorem mtR_eq {n : Int} {l : List UInt8} (hl : l ≠ []) (h : mtR n = l) : isVal n = true ∧ l = mt n := by
  unfold mtR at h
  by_cases hv : isVal n = true
  · rw [if_pos hv] at h; exact ⟨hv, h.symm⟩
  · rw [if_neg hv] at h; exact absurd h.symm hl
theorem rmR_mt {n : Int} (hv : isVal n = true) : rmR (mt n) = (n, true) := by
  unfold rmR
  rw [rmN_mt hv, if_neg]
  intro h
  rcases h with h | h
  · exact mt_ne n h
  · exact h (by unfold mtR; rw [if_pos hv])
theorem rmR_no {l : List UInt8} (h : ∀ n, isVal n = true → l ≠ mt n) : rmR l = (0, false) := by
  unfold rmR
  by_cases hl : l = []
  · rw [if_pos (.inl hl)]
  · rw [if_pos (.inr fun e => h _ (mtR_eq hl e).1 (mtR_eq hl e).2)]

theorem index_one {c : UInt8} : ∀ (a r : List UInt8), c ∉ a → index (a ++ c :: r) [c] = a.length
  | [], r, _ => by simp [index]
  | b :: a, r, h => by
    have hb : ¬ c = b := fun e => h (e ▸ List.mem_cons_self)
    have ih := index_one a r (fun e => h (List.mem_cons_of_mem _ e))
    have hp : ([c] : List UInt8).isPrefixOf (b :: (a ++ c :: r)) = false := by simp [List.isPrefixOf, hb]
    rw [List.cons_append, index, hp, ih]
    simp
theorem replace_one {c : UInt8} (a r : List UInt8) (h : c ∉ a) : replace (a ++ c :: r) [c] [] 1 = a ++ r := by
  have hi := index_one a r h
  have hc : 1 ≤ count (a ++ c :: r) [c] := by rw [count_hit (by simp) hi]; omega
  have hn : replaceNum (a ++ c :: r) [c] 1 = 1 := by
    unfold replaceNum
    rw [if_neg (by omega)]
    rfl
  unfold replace
  rw [hn, if_neg (by simp), replaceK_hit _ _ _ _ _ hi]
  simp [replaceK]
theorem pM_bt {M : Nat} (hM : 100000000000000000 ≤ M) {x : Nat} (h : x < 10) (r : List UInt8) (acc : Nat) (ha : acc ≤ 1000000000000000) : parseUintM M acc (bt x :: r) = parseUintM M (acc * 10 + x) r := by
  rw [parseUintM, bt_nat h, if_pos (by omega), if_neg (by omega), Nat.add_sub_cancel_left, if_neg (by omega)]
theorem pM_dec {M : Nat} (hM : 100000000000000000 ≤ M) (u : Nat) : ∀ (r : List UInt8) (acc : Nat), acc * 10 ^ nDigits u + u ≤ 1000000000000000 → parseUintM M acc (decDigits u ++ r) = parseUintM M (acc * 10 ^ nDigits u + u) r := by
  induction u using Nat.strongRecOn with
  | _ u ih =>
    intro r acc hd
    by_cases h : u < 10
    · rw [nDigits_small h, Nat.pow_one] at hd ⊢
      rw [decDigits_bt1 h, List.singleton_append, pM_bt hM h _ _ (by omega)]
    · rw [nDigits_big h, Nat.pow_succ, ← Nat.mul_assoc] at hd ⊢
      rw [decDigits_btS h, List.append_assoc, List.singleton_append, ih (u / 10) (by omega) _ _ (by omega), pM_bt hM (by omega) _ _ (by omega)]
      congr 1
      omega
theorem dec_head (u : Nat) : ∃ x r, x < 10 ∧ decDigits u = bt x :: r := by
  induction u using Nat.strongRecOn with
  | _ u ih =>
    by_cases h : u < 10
    · exact ⟨u, [], h, decDigits_bt1 h⟩
    · obtain ⟨x, r, hx, e⟩ := ih (u / 10) (by omega)
      exact ⟨x, r ++ [bt (u % 10)], hx, by rw [decDigits_btS h, e]; rfl⟩
theorem dec_mem (u : Nat) : ∀ c ∈ decDigits u, isDg c = true := by
  induction u using Nat.strongRecOn with
  | _ u ih =>
    intro c hc
    by_cases h : u < 10
    · rw [decDigits_bt1 h] at hc
      simp only [List.mem_singleton] at hc
      subst hc
      exact isDg_bt h
    · rw [decDigits_btS h, List.mem_append] at hc
      rcases hc with hc | hc
      · exact ih (u / 10) (by omega) c hc
      · simp only [List.mem_singleton] at hc
        subst hc
        exact isDg_bt (by omega)
theorem dot_dec (u : Nat) : (46 : UInt8) ∉ decDigits u := fun h => by
  have := dec_mem u 46 h
  simp [isDg] at this
theorem mt_form {n : Int} (hv : isVal n = true) : mt n = ((if n < 0 then [45] else []) ++ decDigits (n.natAbs / 1000)) ++ 46 :: (bt (n.natAbs / 100 % 10) :: bt (n.natAbs / 10 % 10) :: bt (n.natAbs % 10) :: []) := by
  unfold mt
  rw [decDigits_bt1 (show n.natAbs / 100 % 10 < 10 by omega), decDigits_bt1 (show n.natAbs / 10 % 10 < 10 by omega), decDigits_bt1 (show n.natAbs % 10 < 10 by omega)]
  simp only [List.append_assoc, List.cons_append, List.nil_append]
theorem parseU_mt {m : Nat} (hm : m ≤ 1000000000000) : parseUintB 64 (decDigits (m / 1000) ++ (bt (m / 100 % 10) :: bt (m / 10 % 10) :: bt (m % 10) :: [])) = .ok m := by
  obtain ⟨x, r, hx, e⟩ := dec_head (m / 1000)
  unfold parseUintB
  have hM : 100000000000000000 ≤ 2 ^ 64 - 1 := by decide
  rw [if_neg (by rw [e]; simp), pM_dec hM _ _ _ (by omega), pM_bt hM (by omega) _ _ (by omega), pM_bt hM (by omega) _ _ (by omega), pM_bt hM (by omega) _ _ (by omega)]
  simp only [parseUintM]
  congr 1
  omega
theorem parse_mt {n : Int} (hv : isVal n = true) : parseIntB 64 (replace (mt n) [46] [] 1) = .ok n := by
  have hv' := isVal_iff.1 hv
  have hp := parseU_mt (m := n.natAbs) (by omega)
  rw [mt_form hv, replace_one _ _ (by
    intro h
    rw [List.mem_append] at h
    rcases h with h | h
    · by_cases hn : n < 0
      · rw [if_pos hn] at h; simp at h
      · rw [if_neg hn] at h; simp at h
    · exact dot_dec _ h)]
  by_cases hn : n < 0
  · rw [if_pos hn]
    simp only [List.cons_append, List.nil_append]
    unfold parseIntB
    simp only [show (45 : UInt8).toNat = 45 from rfl]
    rw [if_pos (by simp), hp]
    simp only
    rw [if_neg (by simp), if_neg (by omega)]
    simp
    omega
  · rw [if_neg hn, List.nil_append]
    obtain ⟨x, r, hx, e⟩ := dec_head (n.natAbs / 1000)
    have hb := bt_nat hx
    rw [e] at hp ⊢
    simp only [List.cons_append] at hp ⊢
    unfold parseIntB
    simp only [hb]
    rw [if_neg (by omega), hp]
    simp only
    rw [if_neg (by omega), if_neg (by omega), if_neg (by omega)]
    congr 1
    omega
/-- the program's reading -/
def rmI (l : List UInt8) : Int × Bool := match parseIntB 64 (replace l [46] [] 1) with
  | .ok v => if mtR v = l then (v, true) else (0, false)
  | _ => (0, false)
theorem rmI_eq (l : List UInt8) : rmI l = rmR l := by
  by_cases h : ∃ n, isVal n = true ∧ l = mt n
  · obtain ⟨n, hv, rfl⟩ := h
    rw [rmR_mt hv]
    unfold rmI
    rw [parse_mt hv]
    simp only
    rw [if_pos (by unfold mtR; rw [if_pos hv])]
  · have h2 : ∀ n, isVal n = true → l ≠ mt n := fun n hv e => h ⟨n, hv, e⟩
    rw [rmR_no h2]
    unfold rmI
    split
    · rename_i v hp
      rw [if_neg]
      intro e
      by_cases hl : l = []
      · subst hl
        have hr : replace ([] : List UInt8) [46] [] 1 = [] := by decide
        rw [hr] at hp
        simp [parseIntB] at hp
      · exact h2 v (mtR_eq hl e).1 (mtR_eq hl e).2
    · rfl

end Go.Proofs.YtfbfiikomlnllaaGreatDoor
