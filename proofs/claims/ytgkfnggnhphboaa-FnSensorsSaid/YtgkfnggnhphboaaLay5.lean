/- Contracts and lemmas for the proofs of this seat: Lay5. -/
import Derived.Test.YtgkfnggnhphboaaBase
import Derived.Test.YtgkfnggnhphboaaNum
import Derived.Test.YtgkfnggnhphboaaIv
import Derived.Test.YtgkfnggnhphboaaIv2
import Derived.Test.YtgkfnggnhphboaaDiv
import Derived.Test.YtgkfnggnhphboaaRoot
import Derived.Test.YtgkfnggnhphboaaEn
import Derived.Test.YtgkfnggnhphboaaSeg
import Derived.Test.YtgkfnggnhphboaaList
import Derived.Test.YtgkfnggnhphboaaLay
import Derived.Test.YtgkfnggnhphboaaLay2
import Derived.Test.YtgkfnggnhphboaaLay3
import Derived.Test.YtgkfnggnhphboaaLay4
import Derived.Lib.Hide
import Derived.BigQuiet
import Derived.Deep.QuietTactic
import Derived.Deep.OwnRows
import Derived.Deep.LoopGhost
import Derived.Deep.RegionHeld3
import Derived.Deep.DeepCutAuto
import Derived.StillTailTactics
import Derived.Deep.AppendLies
import Derived.Deep.DrawnRows
import Derived.Outline
namespace Go.Proofs.Ytgkfnggnhphboaa
open Go.RowKit Go.Deep
set_option maxHeartbeats 2000000
set_option linter.unusedVariables false
set_option linter.unusedSimpArgs false

attribute [local go_sem] lt_2 lt_3 lt_4 lt_5 lt_6
theorem any_take_false {ys : List Int} {P : Int → Bool} {k : Nat} (hk : k < ys.length) (h : (ys.take k).any P = false) (h1 : P (ys.getD k 0) = false) : (ys.take (k + 1)).any P = false := by
  rw [List.take_succ_eq_append_getElem hk, List.any_append, h]
  rw [List.getD_eq_getElem?_getD, List.getElem?_eq_getElem hk] at h1
  simpa using h1
theorem any_true_at {ys : List Int} {P : Int → Bool} {k : Nat} (hk : k < ys.length) (h1 : P (ys.getD k 0) = true) : ys.any P = true := by
  rw [List.getD_eq_getElem?_getD, List.getElem?_eq_getElem hk] at h1
  exact List.any_eq_true.2 ⟨_, List.getElem_mem hk, by simpa using h1⟩

theorem lib_IndexFunc_fr (P : Int → Bool) (c0 : Value) (q : Option Addr) (m c : Nat) (ys : List Int) (w : World) (hq : Ints .i64 w q m ys)
    (hp : ∀ (W : World) (x : Int), x ∈ ys → Own w W → Calls Try.prog 143 #[.int .i64 x, c0] W fun e w' => e = .returned (.bool (P x)) ∧ Below W.heap.size W w') :
    Calls Try.prog 145 #[.slice q m c, .func (.func 143) #[] #[c0]] w fun e w' => ∃ r : Int, e = .returned (.int .i64 r) ∧ decide (0 ≤ r) = ys.any P ∧ Below w.heap.size w w' := by
  have hm := hq.2.1
  have hz := hq.1
  unfold maxLen at hm
  have HP := Lib.hid hp
  have HZ := Lib.hid hz
  have HQ := Lib.hid hq
  clear hp hz hq
  go_enter Try.func145, Try.ntmps145
  go_wp2
  go_loopw [8] (fun i wr => ∃ k : Nat, k ≤ m ∧ i = .int .i64 k ∧ (ys.take k).any P = false ∧ Own w wr) (fun i _ => m - (intOf i).toNat)
  case atStart => exact ⟨0, Nat.zero_le _, rfl, by simp, Own.start _⟩
  case round =>
    obtain ⟨k, hk, rfl, hN, hown⟩ := hrel
    have HO := Lib.hid hown
    have HN := Lib.hid hN
    clear hN
    by_cases hlt : k < m
    · obtain ⟨b, off, rfl, hc⟩ := (HQ.out.own hown).2.2 (by omega)
      have hck := hc k hlt
      have hlen : (k : Int) < m := by omega
      obtain ⟨x, hx⟩ : ∃ x, x = ys.getD k 0 := ⟨_, rfl⟩
      rw [← hx] at hck
      have HX := Lib.hid hx
      have HM : Hid (x ∈ ys) := by rw [hx, List.getD_eq_getElem?_getD, List.getElem?_eq_getElem (by rw [HZ.out]; exact hlt)]; exact List.getElem_mem _
      obtain ⟨wA, rfl⟩ : ∃ wA : World, wA = wr := ⟨_, rfl⟩
      clear hc hown hx
      rcases Bool.eq_false_or_eq_true (P x) with h1 | h1
      · have hr : decide ((0 : Int) ≤ (k : Int)) = ys.any P := by rw [any_true_at (k := k) (by rw [HZ.out]; exact hlt) (by rw [← HX.out]; exact h1)]; simp
        have HR := Lib.hid hr
        clear hr
        go_wp2_with fail
        refine (HP.out _ _ HM.out HO.out).mono ?_
        rintro e w' ⟨rfl, hb⟩
        have HB := Lib.hid hb
        clear hb
        go_wp2
        go_ret
        exact ⟨_, rfl, HR.out, (HO.out.join HB.out).below⟩
      · have HN1 := Lib.hid (any_take_false (by rw [HZ.out]; exact hlt) HN.out (by rw [← HX.out]; exact h1))
        go_wp2_with fail
        refine (HP.out _ _ HM.out HO.out).mono ?_
        rintro e w' ⟨rfl, hb⟩
        have HB := Lib.hid hb
        clear hb
        go_wp2
        go_roundw
        case rel => exact ⟨k + 1, by omega, by go_num, HN1.out, HO.out.join HB.out⟩
        case measure => simp [intOf]; omega
    · obtain rfl : k = m := by omega
      clear hown
      go_wp2
      go_ret
      exact ⟨-1, rfl, by have := HN.out; rw [List.take_of_length_le (by rw [HZ.out]; omega)] at this; rw [this]; rfl, HO.out.below⟩
theorem lib_ContainsFunc_fr (P : Int → Bool) (c0 : Value) (q : Option Addr) (m c : Nat) (ys : List Int) (w : World) (hq : Ints .i64 w q m ys)
    (hp : ∀ (W : World) (x : Int), x ∈ ys → Own w W → Calls Try.prog 143 #[.int .i64 x, c0] W fun e w' => e = .returned (.bool (P x)) ∧ Below W.heap.size W w') :
    Calls Try.prog 129 #[.slice q m c, .func (.func 143) #[] #[c0]] w fun e w' => e = .returned (.bool (ys.any P)) ∧ Below w.heap.size w w' := by
  have HI := Lib.hid (lib_IndexFunc_fr P c0 q m c ys w hq hp)
  clear hp hq
  go_enter Try.func129, Try.ntmps129
  go_wp2_with fail
  refine HI.out.mono ?_
  rintro e w' ⟨r, rfl, hr, hb⟩
  have HR := Lib.hid hr
  have HB := Lib.hid hb
  clear hr hb
  go_wp2
  go_ret
  exact ⟨ret_bool HR.out, HB.out⟩

theorem lib_IndexFunc_sep (P : Int → Bool) (c0 c1 c2 : Value) (q : Option Addr) (m c : Nat) (ys : List Int) (w : World) (hq : Ints .i64 w q m ys)
    (hp : ∀ (W : World) (x : Int), x ∈ ys → Own w W → Calls Try.prog 130 #[.int .i64 x, c0, c1, c2] W fun e w' => e = .returned (.bool (P x)) ∧ Below W.heap.size W w') :
    Calls Try.prog 145 #[.slice q m c, .func (.func 130) #[] #[c0, c1, c2]] w fun e w' => ∃ r : Int, e = .returned (.int .i64 r) ∧ decide (0 ≤ r) = ys.any P ∧ Below w.heap.size w w' := by
  have hm := hq.2.1
  have hz := hq.1
  unfold maxLen at hm
  have HP := Lib.hid hp
  have HZ := Lib.hid hz
  have HQ := Lib.hid hq
  clear hp hz hq
  go_enter Try.func145, Try.ntmps145
  go_wp2
  go_loopw [8] (fun i wr => ∃ k : Nat, k ≤ m ∧ i = .int .i64 k ∧ (ys.take k).any P = false ∧ Own w wr) (fun i _ => m - (intOf i).toNat)
  case atStart => exact ⟨0, Nat.zero_le _, rfl, by simp, Own.start _⟩
  case round =>
    obtain ⟨k, hk, rfl, hN, hown⟩ := hrel
    have HO := Lib.hid hown
    have HN := Lib.hid hN
    clear hN
    by_cases hlt : k < m
    · obtain ⟨b, off, rfl, hc⟩ := (HQ.out.own hown).2.2 (by omega)
      have hck := hc k hlt
      have hlen : (k : Int) < m := by omega
      obtain ⟨x, hx⟩ : ∃ x, x = ys.getD k 0 := ⟨_, rfl⟩
      rw [← hx] at hck
      have HX := Lib.hid hx
      have HM : Hid (x ∈ ys) := by rw [hx, List.getD_eq_getElem?_getD, List.getElem?_eq_getElem (by rw [HZ.out]; exact hlt)]; exact List.getElem_mem _
      obtain ⟨wA, rfl⟩ : ∃ wA : World, wA = wr := ⟨_, rfl⟩
      clear hc hown hx
      rcases Bool.eq_false_or_eq_true (P x) with h1 | h1
      · have hr : decide ((0 : Int) ≤ (k : Int)) = ys.any P := by rw [any_true_at (k := k) (by rw [HZ.out]; exact hlt) (by rw [← HX.out]; exact h1)]; simp
        have HR := Lib.hid hr
        clear hr
        go_wp2_with fail
        refine (HP.out _ _ HM.out HO.out).mono ?_
        rintro e w' ⟨rfl, hb⟩
        have HB := Lib.hid hb
        clear hb
        go_wp2
        go_ret
        exact ⟨_, rfl, HR.out, (HO.out.join HB.out).below⟩
      · have HN1 := Lib.hid (any_take_false (by rw [HZ.out]; exact hlt) HN.out (by rw [← HX.out]; exact h1))
        go_wp2_with fail
        refine (HP.out _ _ HM.out HO.out).mono ?_
        rintro e w' ⟨rfl, hb⟩
        have HB := Lib.hid hb
        clear hb
        go_wp2
        go_roundw
        case rel => exact ⟨k + 1, by omega, by go_num, HN1.out, HO.out.join HB.out⟩
        case measure => simp [intOf]; omega
    · obtain rfl : k = m := by omega
      clear hown
      go_wp2
      go_ret
      exact ⟨-1, rfl, by have := HN.out; rw [List.take_of_length_le (by rw [HZ.out]; omega)] at this; rw [this]; rfl, HO.out.below⟩
theorem lib_ContainsFunc_sep (P : Int → Bool) (c0 c1 c2 : Value) (q : Option Addr) (m c : Nat) (ys : List Int) (w : World) (hq : Ints .i64 w q m ys)
    (hp : ∀ (W : World) (x : Int), x ∈ ys → Own w W → Calls Try.prog 130 #[.int .i64 x, c0, c1, c2] W fun e w' => e = .returned (.bool (P x)) ∧ Below W.heap.size W w') :
    Calls Try.prog 129 #[.slice q m c, .func (.func 130) #[] #[c0, c1, c2]] w fun e w' => e = .returned (.bool (ys.any P)) ∧ Below w.heap.size w w' := by
  have HI := Lib.hid (lib_IndexFunc_sep P c0 c1 c2 q m c ys w hq hp)
  clear hp hq
  go_enter Try.func129, Try.ntmps129
  go_wp2_with fail
  refine HI.out.mono ?_
  rintro e w' ⟨r, rfl, hr, hb⟩
  have HR := Lib.hid hr
  have HB := Lib.hid hb
  clear hr hb
  go_wp2
  go_ret
  exact ⟨ret_bool HR.out, HB.out⟩

set_option maxRecDepth 100000 in
theorem c_areFronts (B : Nat) (p : Option Addr) (n cap : Nat) (zs : List Seg) (x : Int) (w : World) (hin : Segs w p n zs) (hL : LayOk zs) (hbox : w.cell? ⟨B, 0, none⟩ = some (.slice p n cap)) :
    Calls Try.prog 143 #[.int .i64 x, .pointer (some ⟨B, 0, none⟩)] w fun e w' => e = .returned (.bool (!isPos zs x)) ∧ Below w.heap.size w w' := by
  have HIN := Lib.hid hin
  have HL := Lib.hid hL
  clear hin hL
  go_enter Try.func143, Try.ntmps143
  go_wp2_with fail
  refine (i_isPosition p n cap zs x _ HIN.out HL.out).mono ?_
  rintro e w' ⟨rfl, hb⟩
  have HB := Lib.hid hb
  clear hb
  go_wp2
  go_ret
  exact ⟨rfl, HB.out⟩
set_option maxRecDepth 100000 in
theorem i_areFronts (p : Option Addr) (n cap : Nat) (zs : List Seg) (q : Option Addr) (m c : Nat) (ys : List Int) (w : World) (hin : Segs w p n zs) (hL : LayOk zs) (hq : Ints .i64 w q m ys) :
    Calls Try.prog 124 #[.agg #[.slice p n cap], .slice q m c] w fun en w' => en = .returned (.bool (!(ys.any fun y => !isPos zs y))) ∧ Below w.heap.size w w' := by
  have hC := lib_ContainsFunc_fr (fun y => !isPos zs y) (.pointer (some ⟨w.heap.size, 0, none⟩)) q m c ys (w.alloc (Obj.cells #[.slice p n cap] 26)) (hq.keep ((Below.refl _ _).alloc (Nat.le_refl _) _))
    (fun W x _ hW => c_areFronts w.heap.size p n cap zs x W ((hin.alloc _).own hW) hL (by rw [(below_box (k := w.heap.size) hW.below (by simp)).1 0]; go_simp))
  have HC := Lib.hid hC
  clear hC hin hL hq
  go_enter Try.func124, Try.ntmps124
  go_wp2_with fail
  refine HC.out.mono ?_
  rintro e w' ⟨rfl, hb⟩
  have HB := Lib.hid hb
  clear hb
  go_wp2
  go_ret
  exact ⟨rfl, bto (balloc (Below.refl _ _) _) HB.out⟩

def tcode (zs : List Seg) (ys : List Int) (x : Int) : Int := if layOk zs = true then (if (ys.any fun y => !isPos zs y) = false ∧ inB x 1 (min 40000 (totN zs)) = true then 0 else 2) else 1
set_option maxRecDepth 100000 in
theorem i_trainCode (p : Option Addr) (n cap : Nat) (zs : List Seg) (x : Int) (q : Option Addr) (m c : Nat) (ys : List Int) (w : World) (hin : Segs w p n zs) (hn : n ≤ 1048576) (hq : Ints .i64 w q m ys) :
    Calls Try.prog 83 #[.agg #[.slice p n cap], .int .i64 x, .slice q m c] w fun en w' => en = .returned (.int .i64 (tcode zs ys x)) ∧ Below w.heap.size w w' := by
  have HQ := Lib.hid (hq.keep ((Below.refl _ _).alloc (Nat.le_refl _) (Obj.cells #[.slice p n cap] 26)))
  clear hq
  have HIN' : Hid (Segs (w.alloc (Obj.cells #[.slice p n cap] 26)) p n zs) := (hin.alloc _); have h0 := Own.start (w.alloc (Obj.cells #[.slice p n cap] 26)); clear hin
  rcases Bool.eq_false_or_eq_true (layOk zs) with hl | hl
  · have HL := Lib.hid (layOk_iff.1 hl)
    rcases Bool.eq_false_or_eq_true (ys.any fun y => !isPos zs y) with h1 | h1
    · have hr : tcode zs ys x = 2 := by simp only [tcode, hl, h1]; simp
      have HR := Lib.hid (show (!(ys.any fun y => !isPos zs y)) = false by rw [h1]; rfl)
      rw [hr]; clear hr h1
      go_enter Try.func83, Try.ntmps83
      go_wp2_with first | (go_at_call 58; refine (i_IsLayout p n cap zs _ ?_ hn).mono ?_; (focus (exact HIN'.out.own (by first | assumption | exact Own.alloc (by assumption) _ | exact Own.drew (by assumption) | exact Own.drew (Own.alloc (by assumption) _)))); rintro e w' ⟨rfl, hb⟩; obtain ⟨hc0, hf0, hl0⟩ := below_box (k := w.heap.size) hb (by first | omega | (simp; done) | (simp; omega)); replace hb := Own.join (by first | assumption | exact Own.alloc (by assumption) _ | exact Own.drew (by assumption) | exact Own.drew (Own.alloc (by assumption) _) | exact Own.alloc (Own.alloc (by assumption) _) _ | exact Own.alloc (Own.alloc (Own.alloc (by assumption) _) _) _ | exact Own.drewN (by assumption) _ | exact Own.drew (Own.start _) | exact Own.drewN (Own.start _) _ | exact Own.start _) hb) | (go_at_call 124; refine (i_areFronts p n cap zs q m c ys _ (HIN'.out.own ?_) HL.out (HQ.out.own ?_)).mono ?_; assumption; assumption; rw [HR.out]; rintro e w' ⟨rfl, hb⟩; obtain ⟨hc, hf, hl⟩ := below_box (k := w.heap.size) hb (by omega); replace hb := Own.join (by assumption) hb)
      go_ret
      exact ⟨rfl, by repeat (first | exact Below.refl _ _ | refine balloc ?_ _ | refine Below.drew ?_ | refine bdrewN ?_ _ | refine bto ?_ (Own.below (by assumption)) | refine bset ?_ (by first | (simp; done) | (simp; omega) | exact Own.le_w (by assumption) (by first | (simp; done) | (simp; omega))) _)⟩
    · have HR := Lib.hid (show (!(ys.any fun y => !isPos zs y)) = true by rw [h1]; rfl)
      rcases Bool.eq_false_or_eq_true (inB x 1 (min 40000 (totN zs))) with h2 | h2
      · have hr : tcode zs ys x = 0 := by simp only [tcode, hl, h1, h2]; simp
        rw [hr]; clear hr h1
        have c1 := fun (W : World) (h : Segs W p n zs) => h2 ▸ i_isTrainLength p n cap zs x W h HL.out
        have HT := Lib.hid c1
        clear h2 c1
        go_enter Try.func83, Try.ntmps83
        go_wp2_with first | (go_at_call 58; refine (i_IsLayout p n cap zs _ ?_ hn).mono ?_; (focus (exact HIN'.out.own (by first | assumption | exact Own.alloc (by assumption) _ | exact Own.drew (by assumption) | exact Own.drew (Own.alloc (by assumption) _)))); rintro e w' ⟨rfl, hb⟩; obtain ⟨hc0, hf0, hl0⟩ := below_box (k := w.heap.size) hb (by first | omega | (simp; done) | (simp; omega)); replace hb := Own.join (by first | assumption | exact Own.alloc (by assumption) _ | exact Own.drew (by assumption) | exact Own.drew (Own.alloc (by assumption) _) | exact Own.alloc (Own.alloc (by assumption) _) _ | exact Own.alloc (Own.alloc (Own.alloc (by assumption) _) _) _ | exact Own.drewN (by assumption) _ | exact Own.drew (Own.start _) | exact Own.drewN (Own.start _) _ | exact Own.start _) hb) | (go_at_call 125; refine (HT.out _ ?_).mono ?_; (focus (exact HIN'.out.own (by first | assumption | exact Own.alloc (by assumption) _ | exact Own.drew (by assumption) | exact Own.drew (Own.alloc (by assumption) _)))); rintro e w' ⟨rfl, hb⟩; obtain ⟨hc0, hf0, hl0⟩ := below_box (k := w.heap.size) hb (by first | omega | (simp; done) | (simp; omega)); replace hb := Own.join (by first | assumption | exact Own.alloc (by assumption) _ | exact Own.drew (by assumption) | exact Own.drew (Own.alloc (by assumption) _) | exact Own.alloc (Own.alloc (by assumption) _) _ | exact Own.alloc (Own.alloc (Own.alloc (by assumption) _) _) _ | exact Own.drewN (by assumption) _ | exact Own.drew (Own.start _) | exact Own.drewN (Own.start _) _ | exact Own.start _) hb) | (go_at_call 124; refine (i_areFronts p n cap zs q m c ys _ (HIN'.out.own ?_) HL.out (HQ.out.own ?_)).mono ?_; assumption; assumption; rw [HR.out]; rintro e w' ⟨rfl, hb⟩; obtain ⟨hc, hf, hl⟩ := below_box (k := w.heap.size) hb (by omega); replace hb := Own.join (by assumption) hb)
        go_ret
        exact ⟨rfl, by repeat (first | exact Below.refl _ _ | refine balloc ?_ _ | refine Below.drew ?_ | refine bdrewN ?_ _ | refine bto ?_ (Own.below (by assumption)) | refine bset ?_ (by first | (simp; done) | (simp; omega) | exact Own.le_w (by assumption) (by first | (simp; done) | (simp; omega))) _)⟩
      · have hr : tcode zs ys x = 2 := by simp only [tcode, hl, h1, h2]; simp
        rw [hr]; clear hr h1
        have c1 := fun (W : World) (h : Segs W p n zs) => h2 ▸ i_isTrainLength p n cap zs x W h HL.out
        have HT := Lib.hid c1
        clear h2 c1
        go_enter Try.func83, Try.ntmps83
        go_wp2_with first | (go_at_call 58; refine (i_IsLayout p n cap zs _ ?_ hn).mono ?_; (focus (exact HIN'.out.own (by first | assumption | exact Own.alloc (by assumption) _ | exact Own.drew (by assumption) | exact Own.drew (Own.alloc (by assumption) _)))); rintro e w' ⟨rfl, hb⟩; obtain ⟨hc0, hf0, hl0⟩ := below_box (k := w.heap.size) hb (by first | omega | (simp; done) | (simp; omega)); replace hb := Own.join (by first | assumption | exact Own.alloc (by assumption) _ | exact Own.drew (by assumption) | exact Own.drew (Own.alloc (by assumption) _) | exact Own.alloc (Own.alloc (by assumption) _) _ | exact Own.alloc (Own.alloc (Own.alloc (by assumption) _) _) _ | exact Own.drewN (by assumption) _ | exact Own.drew (Own.start _) | exact Own.drewN (Own.start _) _ | exact Own.start _) hb) | (go_at_call 125; refine (HT.out _ ?_).mono ?_; (focus (exact HIN'.out.own (by first | assumption | exact Own.alloc (by assumption) _ | exact Own.drew (by assumption) | exact Own.drew (Own.alloc (by assumption) _)))); rintro e w' ⟨rfl, hb⟩; obtain ⟨hc0, hf0, hl0⟩ := below_box (k := w.heap.size) hb (by first | omega | (simp; done) | (simp; omega)); replace hb := Own.join (by first | assumption | exact Own.alloc (by assumption) _ | exact Own.drew (by assumption) | exact Own.drew (Own.alloc (by assumption) _) | exact Own.alloc (Own.alloc (by assumption) _) _ | exact Own.alloc (Own.alloc (Own.alloc (by assumption) _) _) _ | exact Own.drewN (by assumption) _ | exact Own.drew (Own.start _) | exact Own.drewN (Own.start _) _ | exact Own.start _) hb) | (go_at_call 124; refine (i_areFronts p n cap zs q m c ys _ (HIN'.out.own ?_) HL.out (HQ.out.own ?_)).mono ?_; assumption; assumption; rw [HR.out]; rintro e w' ⟨rfl, hb⟩; obtain ⟨hc, hf, hl⟩ := below_box (k := w.heap.size) hb (by omega); replace hb := Own.join (by assumption) hb)
        go_ret
        exact ⟨rfl, by repeat (first | exact Below.refl _ _ | refine balloc ?_ _ | refine Below.drew ?_ | refine bdrewN ?_ _ | refine bto ?_ (Own.below (by assumption)) | refine bset ?_ (by first | (simp; done) | (simp; omega) | exact Own.le_w (by assumption) (by first | (simp; done) | (simp; omega))) _)⟩
  · have hr : tcode zs ys x = 1 := by simp [tcode, hl]
    rw [hr]; clear hr
    go_enter Try.func83, Try.ntmps83
    go_wp2_with (go_at_call 58; refine (i_IsLayout p n cap zs _ ?_ hn).mono ?_; (focus (exact HIN'.out.own (by first | assumption | exact Own.alloc (by assumption) _ | exact Own.drew (by assumption) | exact Own.drew (Own.alloc (by assumption) _)))); rintro e w' ⟨rfl, hb⟩; obtain ⟨hc0, hf0, hl0⟩ := below_box (k := w.heap.size) hb (by first | omega | (simp; done) | (simp; omega)); replace hb := Own.join (by first | assumption | exact Own.alloc (by assumption) _ | exact Own.drew (by assumption) | exact Own.drew (Own.alloc (by assumption) _) | exact Own.alloc (Own.alloc (by assumption) _) _ | exact Own.alloc (Own.alloc (Own.alloc (by assumption) _) _) _ | exact Own.drewN (by assumption) _ | exact Own.drew (Own.start _) | exact Own.drewN (Own.start _) _ | exact Own.start _) hb)
    go_ret
    exact ⟨rfl, by repeat (first | exact Below.refl _ _ | refine balloc ?_ _ | refine Below.drew ?_ | refine bdrewN ?_ _ | refine bto ?_ (Own.below (by assumption)) | refine bset ?_ (by first | (simp; done) | (simp; omega) | exact Own.le_w (by assumption) (by first | (simp; done) | (simp; omega))) _)⟩

end Go.Proofs.Ytgkfnggnhphboaa
