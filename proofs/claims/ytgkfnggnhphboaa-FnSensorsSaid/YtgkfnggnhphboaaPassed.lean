/- Contracts and lemmas for the proofs of this seat: Passed. -/
import Derived.Test.YtgkfnggnhphboaaBase
import Derived.Test.YtgkfnggnhphboaaNum
import Derived.Test.YtgkfnggnhphboaaList
import Derived.Lib.Hide
namespace Go.Proofs.Ytgkfnggnhphboaa
open Go.RowKit
set_option maxHeartbeats 2000000
set_option linter.unusedVariables false
set_option linter.unusedSimpArgs false

section
def wayN (t x s : Int) : Int := (s - x - 1) % t
def passB (t x y s : Int) : Bool := decide (wayN t x s < y)
def spN (t x y : Int) (ys : List Int) (f n : Nat) : Nat → List Int
  | 0 => []
  | k + 1 => if passB t x y (ys.getD ((f + k) % n) 0) = true then spN t x y ys f n k ++ [(((f + k) % n : Nat) : Int)] else spN t x y ys f n k
theorem spN_eq (t x y : Int) (ys : List Int) (f n : Nat) : ∀ k, spN t x y ys f n k = (((List.range k).map fun j => (f + j) % n).filter fun i => passB t x y (ys.getD i 0)).map (fun i : Nat => (i : Int)) := by
  intro k
  induction k with
  | zero => rfl
  | succ k ih =>
    have e : spN t x y ys f n (k + 1) = if passB t x y (ys.getD ((f + k) % n) 0) = true then spN t x y ys f n k ++ [(((f + k) % n : Nat) : Int)] else spN t x y ys f n k := rfl
    rw [e, ih, List.range_succ, List.map_append, List.filter_append, List.map_append]
    simp only [List.map_cons, List.map_nil]
    by_cases h : passB t x y (ys.getD ((f + k) % n) 0) = true
    · rw [if_pos h, List.filter_cons_of_pos (by simpa using h)]; rfl
    · rw [if_neg h, List.filter_cons_of_neg (by simpa using h), List.filter_nil, List.map_nil, List.append_nil]
theorem spN_len (t x y : Int) (ys : List Int) (f n : Nat) : ∀ k, (spN t x y ys f n k).length ≤ k := by
  intro k
  rw [spN_eq, List.length_map]
  exact Nat.le_trans (List.length_filter_le _ _) (by simp)
/-- once around, from place f -/
def rotL (f n : Nat) : List Nat := (List.range (n - f)).map (f + ·) ++ List.range f
theorem rot_eq (f n : Nat) (hf : f ≤ n) : (List.range n).map (fun j => (f + j) % n) = rotL f n := by
  unfold rotL
  have e : n = (n - f) + f := by omega
  rw [show List.range n = List.range ((n - f) + f) from by rw [← e], List.range_add, List.map_append, List.map_map]
  congr 1
  · refine List.map_congr_left fun j hj => ?_
    rw [List.mem_range] at hj
    exact Nat.mod_eq_of_lt (by omega)
  · refine (List.map_congr_left (g := id) fun j hj => ?_).trans (List.map_id _)
    rw [List.mem_range] at hj
    show (f + ((n - f) + j)) % n = j
    rw [show f + ((n - f) + j) = j + n by omega, Nat.add_mod_right]
    exact Nat.mod_eq_of_lt (by omega)
theorem rot_perm (f n : Nat) (hf : f ≤ n) : (rotL f n).Perm (List.range n) := by
  unfold rotL
  refine List.perm_append_comm.trans ?_
  have e : n = f + (n - f) := by omega
  rw [show List.range n = List.range (f + (n - f)) from by rw [← e], List.range_add]
theorem way_hi {t x s : Int} (h0 : 0 ≤ x) (h1 : x < s) (h2 : s < t) : wayN t x s = s - x - 1 := Int.emod_eq_of_lt (by omega) (by omega)
theorem way_lo {t x s : Int} (h0 : 0 ≤ s) (h1 : s ≤ x) (h2 : x < t) : wayN t x s = s - x - 1 + t := by
  unfold wayN
  rw [← Int.add_emod_right]
  exact Int.emod_eq_of_lt (by omega) (by omega)
/-- sensors in increasing order upon a circuit of length t -/
def Rs (t : Int) (ys : List Int) : Prop := ∀ i, i < ys.length → 0 ≤ ys.getD i 0 ∧ ys.getD i 0 < t ∧ (i + 1 < ys.length → ys.getD i 0 < ys.getD (i + 1) 0)
theorem Rs.lt {t : Int} {ys : List Int} (h : Rs t ys) {i j : Nat} (hij : i < j) (hj : j < ys.length) : ys.getD i 0 < ys.getD j 0 := by
  induction j with
  | zero => omega
  | succ j ih =>
    have h1 := (h j (by omega)).2.2 hj
    by_cases e : i = j
    · subst e; exact h1
    · have := ih (by omega) (by omega); omega
/-- f: the first place behind x -/
def At (x : Int) (ys : List Int) (f : Nat) : Prop := f ≤ ys.length ∧ (∀ i, i < f → ys.getD i 0 ≤ x) ∧ ∀ i, f ≤ i → i < ys.length → x < ys.getD i 0
theorem rot_sorted {t x : Int} {ys : List Int} {f : Nat} (hR : Rs t ys) (h0 : 0 ≤ x) (h1 : x < t) (hA : At x ys f) : (rotL f ys.length).Pairwise fun i j => wayN t x (ys.getD i 0) < wayN t x (ys.getD j 0) := by
  obtain ⟨hf, hlo, hhi⟩ := hA
  unfold rotL
  rw [List.pairwise_append]
  refine ⟨?_, ?_, ?_⟩
  · rw [List.pairwise_map]
    refine List.pairwise_lt_range.imp_of_mem ?_
    intro a b ha hb hab
    rw [List.mem_range] at ha hb
    have e1 := way_hi h0 (hhi (f + a) (by omega) (by omega)) (hR _ (by omega)).2.1
    have e2 := way_hi h0 (hhi (f + b) (by omega) (by omega)) (hR _ (by omega)).2.1
    have := hR.lt (i := f + a) (j := f + b) (by omega) (by omega)
    omega
  · refine List.pairwise_lt_range.imp_of_mem ?_
    intro a b ha hb hab
    rw [List.mem_range] at ha hb
    have e1 := way_lo (hR a (by omega)).1 (hlo a ha) h1
    have e2 := way_lo (hR b (by omega)).1 (hlo b hb) h1
    have := hR.lt (i := a) (j := b) (by omega) (by omega)
    omega
  · intro a ha b hb
    rw [List.mem_map] at ha
    obtain ⟨a, ha, rfl⟩ := ha
    rw [List.mem_range] at ha hb
    have r1 := hR (f + a) (by omega)
    have e1 := way_hi h0 (hhi (f + a) (by omega) (by omega)) r1.2.1
    have e2 := way_lo (hR b (by omega)).1 (hlo b hb) h1
    have := (hR b (by omega)).1
    omega
/-- two places are as far ahead only if they are one -/
theorem way_inj {t x : Int} {ys : List Int} (hR : Rs t ys) {i j : Nat} (hi : i < ys.length) (hj : j < ys.length) (e : wayN t x (ys.getD i 0) = wayN t x (ys.getD j 0)) : i = j := by
  have key : ∀ i j, i < j → j < ys.length → wayN t x (ys.getD i 0) ≠ wayN t x (ys.getD j 0) := by
    intro i j hij hj e
    have h1 := hR.lt hij hj
    have h2 := hR i (by omega)
    have h3 := hR j hj
    unfold wayN at e
    have e2 : (ys.getD j 0 - x - 1 - (ys.getD i 0 - x - 1)) % t = 0 := Int.emod_eq_emod_iff_emod_sub_eq_zero.1 e.symm
    rw [show ys.getD j 0 - x - 1 - (ys.getD i 0 - x - 1) = ys.getD j 0 - ys.getD i 0 by omega, Int.emod_eq_of_lt (by omega) (by omega)] at e2
    omega
  rcases Nat.lt_trichotomy i j with h | h | h
  · exact absurd e (key i j h hj)
  · exact h
  · exact absurd e.symm (key j i h hi)
/-- what stands sorted and holds the passed ones is the list -/
theorem passed_unique {t x y : Int} {ys : List Int} {f : Nat} (hR : Rs t ys) (h0 : 0 ≤ x) (h1 : x < t) (hA : At x ys f) {L : List Nat}
    (hp : L.Perm ((List.range ys.length).filter fun i => passB t x y (ys.getD i 0))) (hs : L.Pairwise fun i j => wayN t x (ys.getD i 0) ≤ wayN t x (ys.getD j 0)) :
    L.map (fun i : Nat => (i : Int)) = spN t x y ys f ys.length ys.length := by
  rw [spN_eq, rot_eq f _ hA.1]
  congr 1
  have hm : ∀ i, i ∈ L → i < ys.length := fun i hi => by
    have := (hp.mem_iff.1 hi); rw [List.mem_filter, List.mem_range] at this; exact this.1
  have hq : L.Perm ((rotL f ys.length).filter fun i => passB t x y (ys.getD i 0)) := hp.trans ((rot_perm f _ hA.1).filter _).symm
  refine List.Perm.eq_of_pairwise (le := fun i j => wayN t x (ys.getD i 0) ≤ wayN t x (ys.getD j 0)) ?_ hs ?_ hq
  · intro a b ha hb hab hba
    exact way_inj (x := x) hR (hm a ha) (hm b (hq.mem_iff.2 hb)) (Int.le_antisymm hab hba)
  · exact ((rot_sorted hR h0 h1 hA).imp (fun h => Int.le_of_lt h)).filter _
/-- the first place behind x -/
def firstN (x : Int) (ys : List Int) : Nat := ys.findIdx fun s => decide (x < s)
theorem firstN_at {t x : Int} {ys : List Int} (hR : Rs t ys) : At x ys (firstN x ys) := by
  refine ⟨List.findIdx_le_length, fun i hi => ?_, fun i hi hl => ?_⟩
  · have hl : i < ys.length := Nat.lt_of_lt_of_le hi List.findIdx_le_length
    have := List.not_of_lt_findIdx hi
    rw [List.getD_eq_getElem?_getD, List.getElem?_eq_getElem hl]
    simpa using this
  · have hf : firstN x ys < ys.length := by omega
    have h1 := List.findIdx_getElem (w := hf)
    have h2 : x < ys.getD (firstN x ys) 0 := by
      rw [List.getD_eq_getElem?_getD, List.getElem?_eq_getElem hf]
      exact of_decide_eq_true h1
    by_cases e : firstN x ys = i
    · rw [← e]; exact h2
    · have := hR.lt (i := firstN x ys) (j := i) (by omega) hl; omega
theorem At.unique {x : Int} {ys : List Int} {f g : Nat} (h : At x ys f) (k : At x ys g) : f = g := by
  rcases Nat.lt_trichotomy f g with e | e | e
  · have h1 := k.2.1 f e; have h2 := h.2.2 f (Nat.le_refl _) (by have := k.1; omega); omega
  · exact e
  · have h1 := h.2.1 g e; have h2 := k.2.2 g (Nat.le_refl _) (by have := h.1; omega); omega
theorem way_d {t x s : Int} (hx : 0 ≤ x ∧ x < t) (hs : 0 ≤ s ∧ s < t) : wayN t x s + 1 = if (s - x) % t = 0 then t else (s - x) % t := by
  by_cases h : x < s
  · rw [way_hi hx.1 h hs.2, Int.emod_eq_of_lt (by omega) (by omega), if_neg (by omega)]
    omega
  · rw [way_lo hs.1 (by omega) hx.2]
    by_cases e : s = x
    · subst e
      rw [if_pos (by simp)]
      omega
    · have : (s - x) % t = s - x + t := by
        rw [← Int.add_emod_right]
        exact Int.emod_eq_of_lt (by omega) (by omega)
      rw [this, if_neg (by omega)]
      omega
theorem filter_prefix {α : Type} (key : α → Int) (y : Int) : ∀ L : List α, (L.Pairwise fun a b => key a ≤ key b) → L.filter (fun a => decide (key a < y)) = L.take (L.filter (fun a => decide (key a < y))).length := by
  intro L
  induction L with
  | nil => intro _; rfl
  | cons a r ih =>
    intro h
    rw [List.pairwise_cons] at h
    by_cases c : key a < y
    · rw [List.filter_cons_of_pos (by simpa using c), List.length_cons, List.take_succ_cons, ← ih h.2]
    · have e : (a :: r).filter (fun a => decide (key a < y)) = [] := by
        rw [List.filter_eq_nil_iff]
        intro b hb
        rw [List.mem_cons] at hb
        rcases hb with rfl | hb
        · simpa using c
        · have := h.1 b hb; simp; omega
      rw [e]; rfl
end
theorem rs_of {t : Int} {ys : List Int} (h : risesB t ys = true) : Rs t ys := by
  unfold risesB at h
  have h := of_decide_eq_true h
  intro i hi
  refine ⟨(h i hi).1, (h i hi).2.1, fun hn => ?_⟩
  have := (h (i + 1) hn).2.2 (by omega)
  simpa using this
theorem passed_len (t x y : Int) (ys : List Int) (f n : Nat) : (spN t x y ys f n n).length ≤ n := spN_len t x y ys f n n

end Go.Proofs.Ytgkfnggnhphboaa
