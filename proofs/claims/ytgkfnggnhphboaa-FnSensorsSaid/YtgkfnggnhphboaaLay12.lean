/- Contracts and lemmas for the proofs of this seat: Lay12. -/
import Derived.Test.YtgkfnggnhphboaaBase
import Derived.Test.YtgkfnggnhphboaaNum
import Derived.Test.YtgkfnggnhphboaaIv
import Derived.Test.YtgkfnggnhphboaaIv2
import Derived.Test.YtgkfnggnhphboaaDiv
import Derived.Test.YtgkfnggnhphboaaRoot
import Derived.Test.YtgkfnggnhphboaaEn
import Derived.Test.YtgkfnggnhphboaaSeg
import Derived.Test.YtgkfnggnhphboaaList
import Derived.Test.YtgkfnggnhphboaaLay
import Derived.Test.YtgkfnggnhphboaaLay2
import Derived.Test.YtgkfnggnhphboaaLay3
import Derived.Test.YtgkfnggnhphboaaLay4
import Derived.Lib.Hide
import Derived.BigQuiet
import Derived.Deep.QuietTactic
import Derived.Deep.OwnRows
import Derived.Deep.LoopGhost
import Derived.Deep.RegionHeld3
import Derived.Deep.DeepCutAuto
import Derived.StillTailTactics
import Derived.Deep.AppendLies
import Derived.Deep.DrawnRows
import Derived.Outline
namespace Go.Proofs.Ytgkfnggnhphboaa
open Go.RowKit Go.Deep
set_option maxHeartbeats 2000000
set_option linter.unusedVariables false
set_option linter.unusedSimpArgs false

attribute [local go_sem] lt_2 lt_3 lt_4 lt_5 lt_6
def IsAt (zs : List Seg) (x : Int) (k : Nat) : Prop := k < zs.length ∧ preN zs k ≤ x ∧ x < preN zs (k + 1)
def segIxF (zs : List Seg) (x : Int) : Nat → Nat
  | 0 => 0
  | m + 1 => if preN zs m ≤ x then m else segIxF zs x m
def segIx (zs : List Seg) (x : Int) : Nat := segIxF zs x zs.length
theorem segIxF_at {zs : List Seg} {x : Int} (h0 : 0 ≤ x) : ∀ m : Nat, x < preN zs m → segIxF zs x m < m ∧ preN zs (segIxF zs x m) ≤ x ∧ x < preN zs (segIxF zs x m + 1) := by
  intro m
  induction m with
  | zero => intro h; simp only [preN] at h; omega
  | succ m ih =>
    intro h
    unfold segIxF
    by_cases c : preN zs m ≤ x
    · rw [if_pos c]; exact ⟨by omega, c, h⟩
    · rw [if_neg c]
      have := ih (by omega)
      exact ⟨by omega, this.2⟩
theorem segIx_at {zs : List Seg} {x : Int} (h0 : 0 ≤ x) (h1 : x < totN zs) : IsAt zs x (segIx zs x) := segIxF_at h0 _ h1
theorem preN_le {zs : List Seg} {i j : Nat} (h : AllOk zs j) (hi : i ≤ j) : preN zs i ≤ preN zs j := by
  rcases Nat.lt_or_eq_of_le hi with h1 | h1
  · have := preN_lt h h1; omega
  · rw [h1]; omega
theorem IsAt.uniq {zs : List Seg} {x : Int} {k k' : Nat} (hA : AllOk zs zs.length) (h : IsAt zs x k) (h' : IsAt zs x k') : k = k' := by
  obtain ⟨a1, a2, a3⟩ := h
  obtain ⟨b1, b2, b3⟩ := h'
  rcases Nat.lt_trichotomy k k' with c | c | c
  · have := preN_le (i := k + 1) (j := k') (fun i hi => hA i (by omega)) (by omega); omega
  · exact c
  · have := preN_le (i := k' + 1) (j := k) (fun i hi => hA i (by omega)) (by omega); omega
def segR (zs : List Seg) (x : Int) : Int × Int × Int := if layOk zs = true then (if inB x 0 (totN zs - 1) = true then ((segIx zs x : Int), x - preN zs (segIx zs x), 0) else (0, 0, 2)) else (0, 0, 1)
abbrev p3 (r : Int × Int × Int) : Value := .tuple #[.int .i64 r.1, .int .i64 r.2.1, .int .i64 r.2.2]

set_option maxRecDepth 100000 in
theorem s_l03Code (p : Option Addr) (n cap : Nat) (zs : List Seg) (x : Int) (w : World) (hin : Segs w p n zs) : Calls Try.prog 73 #[.agg #[.slice p n cap], .int .i64 x] w fun en w' => en = .returned (.int .i64 (segR zs x).2.2) ∧ Below w.heap.size w w' := by
  have HIN' : Hid (Segs (w.alloc (Obj.cells #[.slice p n cap] 26)) p n zs) := (hin.alloc _); have h0 := Own.start (w.alloc (Obj.cells #[.slice p n cap] 26)); clear hin
  rcases Bool.eq_false_or_eq_true (layOk zs) with hl | hl
  · have HL := Lib.hid (layOk_iff.1 hl)
    obtain ⟨-, t1, t2⟩ := lay_bd HL.out
    rcases Bool.eq_false_or_eq_true (inB x 0 (totN zs - 1)) with h1 | h1
    · have hg : (segR zs x).2.2 = 0 := by unfold segR; rw [if_pos hl, if_pos h1]
      rw [hg]
      clear hg
      go_enter Try.func73, Try.ntmps73
      go_wp2_with first | (go_at_call 62; refine (s_IsLayout p n cap zs _ ?_).mono ?_; (focus (exact HIN'.out.own (by first | assumption | exact Own.alloc (by assumption) _ | exact Own.drew (by assumption) | exact Own.drew (Own.alloc (by assumption) _)))); rintro e w' ⟨rfl, hb⟩; obtain ⟨hc0, hf0, hl0⟩ := below_box (k := w.heap.size) hb (by first | omega | (simp; done) | (simp; omega)); replace hb := Own.join (by first | assumption | exact Own.alloc (by assumption) _ | exact Own.drew (by assumption) | exact Own.drew (Own.alloc (by assumption) _) | exact Own.alloc (Own.alloc (by assumption) _) _ | exact Own.alloc (Own.alloc (Own.alloc (by assumption) _) _) _ | exact Own.drewN (by assumption) _ | exact Own.drew (Own.start _) | exact Own.drewN (Own.start _) _ | exact Own.start _) hb) | (go_at_call 81; refine (s_l03Total p n cap zs _ ?_ HL.out).mono ?_; (focus (exact HIN'.out.own (by first | assumption | exact Own.alloc (by assumption) _ | exact Own.drew (by assumption) | exact Own.drew (Own.alloc (by assumption) _)))); rintro e w' ⟨rfl, hb⟩; obtain ⟨hc0, hf0, hl0⟩ := below_box (k := w.heap.size) hb (by first | omega | (simp; done) | (simp; omega)); replace hb := Own.join (by first | assumption | exact Own.alloc (by assumption) _ | exact Own.drew (by assumption) | exact Own.drew (Own.alloc (by assumption) _) | exact Own.alloc (Own.alloc (by assumption) _) _ | exact Own.alloc (Own.alloc (Own.alloc (by assumption) _) _) _ | exact Own.drewN (by assumption) _ | exact Own.drew (Own.start _) | exact Own.drewN (Own.start _) _ | exact Own.start _) hb) | (go_at_call 117; refine (s_l01In _ _ _ _).mono ?_; rintro e w' ⟨rfl, rfl⟩)
      go_ret
      exact ⟨rfl, by repeat (first | exact Below.refl _ _ | refine balloc ?_ _ | refine Below.drew ?_ | refine bdrewN ?_ _ | refine bto ?_ (Own.below (by assumption)) | refine bset ?_ (by first | (simp; done) | (simp; omega) | exact Own.le_w (by assumption) (by first | (simp; done) | (simp; omega))) _)⟩
    · have hg : (segR zs x).2.2 = 2 := by unfold segR; rw [if_pos hl, if_neg (by rw [h1]; simp)]
      rw [hg]
      clear hg
      go_enter Try.func73, Try.ntmps73
      go_wp2_with first | (go_at_call 62; refine (s_IsLayout p n cap zs _ ?_).mono ?_; (focus (exact HIN'.out.own (by first | assumption | exact Own.alloc (by assumption) _ | exact Own.drew (by assumption) | exact Own.drew (Own.alloc (by assumption) _)))); rintro e w' ⟨rfl, hb⟩; obtain ⟨hc0, hf0, hl0⟩ := below_box (k := w.heap.size) hb (by first | omega | (simp; done) | (simp; omega)); replace hb := Own.join (by first | assumption | exact Own.alloc (by assumption) _ | exact Own.drew (by assumption) | exact Own.drew (Own.alloc (by assumption) _) | exact Own.alloc (Own.alloc (by assumption) _) _ | exact Own.alloc (Own.alloc (Own.alloc (by assumption) _) _) _ | exact Own.drewN (by assumption) _ | exact Own.drew (Own.start _) | exact Own.drewN (Own.start _) _ | exact Own.start _) hb) | (go_at_call 81; refine (s_l03Total p n cap zs _ ?_ HL.out).mono ?_; (focus (exact HIN'.out.own (by first | assumption | exact Own.alloc (by assumption) _ | exact Own.drew (by assumption) | exact Own.drew (Own.alloc (by assumption) _)))); rintro e w' ⟨rfl, hb⟩; obtain ⟨hc0, hf0, hl0⟩ := below_box (k := w.heap.size) hb (by first | omega | (simp; done) | (simp; omega)); replace hb := Own.join (by first | assumption | exact Own.alloc (by assumption) _ | exact Own.drew (by assumption) | exact Own.drew (Own.alloc (by assumption) _) | exact Own.alloc (Own.alloc (by assumption) _) _ | exact Own.alloc (Own.alloc (Own.alloc (by assumption) _) _) _ | exact Own.drewN (by assumption) _ | exact Own.drew (Own.start _) | exact Own.drewN (Own.start _) _ | exact Own.start _) hb) | (go_at_call 117; refine (s_l01In _ _ _ _).mono ?_; rintro e w' ⟨rfl, rfl⟩)
      go_ret
      exact ⟨rfl, by repeat (first | exact Below.refl _ _ | refine balloc ?_ _ | refine Below.drew ?_ | refine bdrewN ?_ _ | refine bto ?_ (Own.below (by assumption)) | refine bset ?_ (by first | (simp; done) | (simp; omega) | exact Own.le_w (by assumption) (by first | (simp; done) | (simp; omega))) _)⟩
  · have hg : (segR zs x).2.2 = 1 := by unfold segR; rw [if_neg (by rw [hl]; simp)]
    rw [hg]
    clear hg
    go_enter Try.func73, Try.ntmps73
    go_wp2_with (go_at_call 62; refine (s_IsLayout p n cap zs _ ?_).mono ?_; (focus (exact HIN'.out.own (by first | assumption | exact Own.alloc (by assumption) _ | exact Own.drew (by assumption) | exact Own.drew (Own.alloc (by assumption) _)))); rintro e w' ⟨rfl, hb⟩; obtain ⟨hc0, hf0, hl0⟩ := below_box (k := w.heap.size) hb (by first | omega | (simp; done) | (simp; omega)); replace hb := Own.join (by first | assumption | exact Own.alloc (by assumption) _ | exact Own.drew (by assumption) | exact Own.drew (Own.alloc (by assumption) _) | exact Own.alloc (Own.alloc (by assumption) _) _ | exact Own.alloc (Own.alloc (Own.alloc (by assumption) _) _) _ | exact Own.drewN (by assumption) _ | exact Own.drew (Own.start _) | exact Own.drewN (Own.start _) _ | exact Own.start _) hb)
    go_ret
    exact ⟨rfl, by repeat (first | exact Below.refl _ _ | refine balloc ?_ _ | refine Below.drew ?_ | refine bdrewN ?_ _ | refine bto ?_ (Own.below (by assumption)) | refine bset ?_ (by first | (simp; done) | (simp; omega) | exact Own.le_w (by assumption) (by first | (simp; done) | (simp; omega))) _)⟩

set_option maxRecDepth 100000 in
theorem s_l03At (p : Option Addr) (n cap : Nat) (zs : List Seg) (x : Int) (k0 : Nat) (w : World) (hin : Segs w p n zs) (hL : LayOk zs) (hk0 : IsAt zs x k0) :
    Calls Try.prog 74 #[.agg #[.slice p n cap], .int .i64 x] w fun en w' => en = .returned (p2 ((k0 : Int), x - preN zs k0)) ∧ Below w.heap.size w w' := by
  have hz := hin.1
  have hn : n ≤ 24 := by have := hL.2.1; omega
  have hA := (lay_bd hL).1
  have hT := (lay_bd hL).2
  have hk0n : k0 < n := by have := hk0.1; omega
  have HIN' : Hid (Segs (w.alloc (Obj.cells #[.slice p n cap] 26)) p n zs) := (hin.alloc _); have h0 := Own.start (w.alloc (Obj.cells #[.slice p n cap] 26)); clear hin
  have HZ := Lib.hid hz
  have HA := Lib.hid hA
  have HK := Lib.hid hk0
  have hx0 : 0 ≤ x := by have := preN_bd (zs := zs) (k := k0) (fun i hi => hA i (by omega)); have := hk0.2.1; omega
  have hx1 : x ≤ 4800000 := by have := preN_le (zs := zs) (i := k0 + 1) (j := zs.length) hA hk0.1; have := hk0.2.2; unfold totN at hT; omega
  clear hz hA hT hk0 hL
  go_enter Try.func74, Try.ntmps74
  go_wp2
  go_loopw [1, 6] (fun a i wr => ∃ j : Nat, j ≤ k0 ∧ i = .int .i64 j ∧ a = .int .i64 (x - preN zs j) ∧ Own (w.alloc (Obj.cells #[.slice p n cap] 26)) wr) (fun _ i _ => (k0 - intOf i).toNat)
  case atStart => exact ⟨0, Nat.zero_le _, rfl, by simp [preN], h0⟩
  case round =>
    obtain ⟨j, hj, rfl, rfl, hown⟩ := hrel
    obtain ⟨wA, rfl⟩ : ∃ wA : World, wA = wr := ⟨_, rfl⟩
    have HO := Lib.hid hown
    obtain ⟨hbx, hbf, hbl⟩ := below_box (k := w.heap.size) hown.below (by simp)
    have hbx := hbx 0
    simp at hbx
    obtain ⟨b, off, rfl, hlb, hc⟩ := (HIN'.out.own hown).2.2 (by omega)
    obtain ⟨-, c1, -, -, -, -, -⟩ := hc j (by omega)
    have b1 := preN_bd (zs := zs) (k := j) (fun i hi => HA.out i (by have := HZ.out; omega))
    have b2 := ok_bd (HA.out j (by have := HZ.out; omega))
    have b3 : preN zs (j + 1) = preN zs j + (sg zs j).n := rfl
    have HN := Lib.hid b3
    have hji : (j : Int) < (n : Int) := by omega
    by_cases hlt : j < k0
    · have h1 := preN_le (zs := zs) (i := j + 1) (j := k0) (fun i hi => HA.out i (by have := HZ.out; omega)) (by omega)
      have h2 := HK.out.2.1
      generalize preN zs k0 = y0 at *
      generalize preN zs j = y at *
      generalize (sg zs j).n = z at *
      have hge : z ≤ x - y := by omega
      clear hc hown hbf b3
      go_wp2
      go_roundw
      case rel => exact ⟨j + 1, by omega, by go_num, by rw [HN.out]; go_num, HO.out⟩
      case measure => simp [intOf]; omega
    · obtain rfl : j = k0 := by omega
      have h2 := HK.out.2.2
      have h3 : x - preN zs j < (sg zs j).n := by omega
      obtain ⟨y, hy⟩ : ∃ y, y = preN zs j := ⟨_, rfl⟩
      have HY := Lib.hid hy
      rw [← hy] at b1 h3 b3 ⊢
      generalize (sg zs j).n = z at *
      clear hc hown hbf b3 hy h2
      go_wp2
      go_ret2
      exact ⟨ret_int2 rfl (by rw [← HY.out]), bto (balloc (Below.refl _ _) _) HO.out.below⟩

theorem c_Less (a b : Int) (w : World) : Calls Try.prog 141 #[.int .i64 a, .int .i64 b] w fun en w' => en = .returned (.bool (decide (a < b))) ∧ w = w' := by
  go_enter Try.func141, Try.ntmps141
  go_wp2_with go_in
  all_goals go_ret
  all_goals exact ⟨rfl, rfl⟩

def fnd (ys : List Int) (t : Int) (r m : Nat) : Bool := decide (r < m) && decide (ys.getD r 0 = t)
theorem ret_ib {k : IntKind} {a b : Bool} {c d : Int} (h : c = d) (g : a = b) : Ending.returned (.tuple #[.int k c, .bool a]) = .returned (.tuple #[.int k d, .bool b]) := by rw [h, g]
def SrtB (ys : List Int) (m : Nat) : Prop := ∀ i j, i < j → j < m → ys.getD i 0 < ys.getD j 0
set_option maxRecDepth 100000 in
theorem lib_BinarySearch (q : Option Addr) (m c : Nat) (ys : List Int) (t : Int) (w : World) (hm : m ≤ 1048576) (hq : Ints .i64 w q m ys) (hS : SrtB ys m) :
    Calls Try.prog 123 #[.slice q m c, .int .i64 t] w fun e w' => ∃ r : Nat, (r ≤ m ∧ (∀ i, i < r → ys.getD i 0 < t) ∧ (∀ i, r ≤ i → i < m → t ≤ ys.getD i 0)) ∧ e = .returned (.tuple #[.int .i64 r, .bool (fnd ys t r m)]) ∧ w = w' := by
  have HQ := Lib.hid hq
  have HS := Lib.hid hS
  clear hq hS
  go_enter Try.func123, Try.ntmps123
  go_wp2
  go_loop [7, 8] (fun a b => ∃ i j : Nat, i ≤ j ∧ j ≤ m ∧ a = .int .i64 i ∧ b = .int .i64 j ∧ (∀ k, k < i → ys.getD k 0 < t) ∧ (∀ k, j ≤ k → k < m → t ≤ ys.getD k 0)) (fun a b => (intOf b - intOf a).toNat)
  case atStart => exact ⟨0, m, Nat.zero_le _, Nat.le_refl _, rfl, rfl, fun k h => by omega, fun k h1 h2 => by omega⟩
  case round =>
    obtain ⟨i, j, hij, hj, rfl, rfl, hlo, hhi⟩ := hrel
    have HLO := Lib.hid hlo
    have HHI := Lib.hid hhi
    clear hlo hhi
    by_cases hlt : i < j
    · have hlti : (i : Int) < (j : Int) := by omega
      obtain ⟨b, off, rfl, hc⟩ := HQ.out.2.2 (by omega)
      have hck := hc ((i + j) / 2) (by omega)
      obtain ⟨x, hx⟩ : ∃ x, x = ys.getD ((i + j) / 2) 0 := ⟨_, rfl⟩
      rw [← hx] at hck
      have HX := Lib.hid hx
      clear hc hx
      rcases ilt x t with c1 | c1
      · go_wp2_with (go_at_call 141; refine (c_Less _ _ _).mono ?_; rintro e w' ⟨rfl, rfl⟩)
        go_round
        case rel =>
          exact ⟨(i + j) / 2 + 1, j, by omega, by omega, by go_num, rfl, fun k hk => by
            by_cases e : k = (i + j) / 2
            · rw [e, ← HX.out]; exact c1
            · have := HS.out k ((i + j) / 2) (by omega) (by omega); have := HX.out; omega, HHI.out⟩
        case measure => simp [intOf]; omega
      · go_wp2_with (go_at_call 141; refine (c_Less _ _ _).mono ?_; rintro e w' ⟨rfl, rfl⟩)
        go_round
        case rel =>
          exact ⟨i, (i + j) / 2, by omega, by omega, rfl, by go_num, HLO.out, fun k hk hkm => by
            by_cases e : k = (i + j) / 2
            · rw [e, ← HX.out]; exact c1
            · have := HS.out ((i + j) / 2) k (by omega) (by omega); have := HX.out; omega⟩
        case measure => simp [intOf]; omega
    · obtain rfl : i = j := by omega
      by_cases him : i < m
      · have himi : (i : Int) < (m : Int) := by omega
        obtain ⟨b, off, rfl, hc⟩ := HQ.out.2.2 (by omega)
        have hck := hc i him
        obtain ⟨x, hx⟩ : ∃ x, x = ys.getD i 0 := ⟨_, rfl⟩
        rw [← hx] at hck
        have HX := Lib.hid hx
        clear hc hx
        by_cases hxt : x = t
        · subst hxt
          go_wp2_with go_in
          go_ret2
          exact ⟨i, ⟨by omega, HLO.out, HHI.out⟩, ret_ib rfl (by unfold fnd; rw [decide_eq_true him, decide_eq_true HX.out.symm]; rfl), rfl⟩
        · have hb : (x == t) = false := by simpa using hxt
          go_wp2_with go_in
          go_ret2
          exact ⟨i, ⟨by omega, HLO.out, HHI.out⟩, ret_ib rfl (by unfold fnd; rw [decide_eq_false (p := ys.getD i 0 = t) (fun h => hxt (HX.out.trans h)), Bool.and_false]), rfl⟩
      · go_wp2_with fail
        go_ret2
        exact ⟨i, ⟨by omega, HLO.out, HHI.out⟩, ret_ib rfl (by unfold fnd; rw [decide_eq_false him, Bool.false_and]), rfl⟩

end Go.Proofs.Ytgkfnggnhphboaa
