/- Contracts and lemmas for the proofs of this seat: Seg. -/
import Derived.Test.YtfbfiikomlnllaaGreatDoorBase
import Derived.Test.YtfbfiikomlnllaaGreatDoorNum
import Derived.Test.YtfbfiikomlnllaaGreatDoorIv
import Derived.Test.YtfbfiikomlnllaaGreatDoorIv2
import Derived.Test.YtfbfiikomlnllaaGreatDoorDiv
import Derived.Test.YtfbfiikomlnllaaGreatDoorRoot
import Derived.Test.YtfbfiikomlnllaaGreatDoorEn
import Derived.Lib.Hide
import Derived.BigQuiet
import Derived.Deep.QuietTactic
import Derived.ProofKit
import Derived.OpenShut
import Derived.Lib.SmallJoins
import Derived.Deep.Slices
namespace Go.Proofs.YtfbfiikomlnllaaGreatDoor
open Go.RowKit
set_option maxHeartbeats 2000000
set_option linter.unusedVariables false
set_option linter.unusedSimpArgs false

attribute [local go_sem] lt_2 lt_3 lt_4 lt_5 lt_6
abbrev segV (k n r c d e f : Int) : Value := .agg #[.int .i64 k, .int .i64 n, .int .i64 r, .int .i64 c, .int .i64 d, .int .i64 e, .int .i64 f]
def segOk (k n r c d e f : Int) : Bool :=
  inB k 0 4 && (inB n 1 200000 && (inB r (-100000) 100000 && (inB r (-n) n && (withinIv c d 0 20000 && (if k = 0 then (e == 0 && f == 0) else withinIv e f 1 20000)))))
theorem withinIv_const {a b lo hi : Int} (h : -1000000000000 ≤ lo ∧ lo ≤ hi ∧ hi ≤ 1000000000000) : withinIv a b lo hi = (isIv a b && (decide (lo ≤ a) && decide (b ≤ hi))) := by
  have h : isIv lo hi = true := by rw [isIv_iff]; omega
  simp [withinIv, h]
theorem withinIv_iff {a b lo hi : Int} (h : -1000000000000 ≤ lo ∧ lo ≤ hi ∧ hi ≤ 1000000000000) : withinIv a b lo hi = true ↔ lo ≤ a ∧ a ≤ b ∧ b ≤ hi := by
  rw [withinIv_const h]; simp [isIv_iff]; omega
theorem segOk_iff {k n r c d e f : Int} : segOk k n r c d e f = true ↔ (0 ≤ k ∧ k ≤ 4) ∧ (1 ≤ n ∧ n ≤ 200000) ∧ (-100000 ≤ r ∧ r ≤ 100000) ∧ (-n ≤ r ∧ r ≤ n) ∧ (0 ≤ c ∧ c ≤ d ∧ d ≤ 20000) ∧ (if k = 0 then e = 0 ∧ f = 0 else 1 ≤ e ∧ e ≤ f ∧ f ≤ 20000) := by
  unfold segOk
  by_cases hk : k = 0 <;> simp [hk, inB_iff, withinIv_iff]
/-- what every proof about a valid segment uses: the bounds of its numbers -/
theorem segOk_bd {k n r c d e f : Int} (h : segOk k n r c d e f = true) : (0 ≤ k ∧ k ≤ 4) ∧ (1 ≤ n ∧ n ≤ 200000) ∧ (-100000 ≤ r ∧ r ≤ 100000) ∧ (-n ≤ r ∧ r ≤ n) ∧ (0 ≤ c ∧ c ≤ d ∧ d ≤ 20000) ∧ (0 ≤ e ∧ e ≤ f ∧ f ≤ 20000) := by
  have h := segOk_iff.1 h
  by_cases hk : k = 0
  · rw [if_pos hk] at h; omega
  · rw [if_neg hk] at h; omega
/-- a Segment by value, opened -/
def SegWf (k n r c d e f : Int) : Prop := (Lit.int .i64 k).wf = true ∧ (Lit.int .i64 n).wf = true ∧ (Lit.int .i64 r).wf = true ∧ (Lit.int .i64 c).wf = true ∧ (Lit.int .i64 d).wf = true ∧ (Lit.int .i64 e).wf = true ∧ (Lit.int .i64 f).wf = true
section
open Go.ChangeShapes Go.WideShapes Go.ChangeAt Go.Joins Go.Deep
variable {H : Type} {enc : TypeId × Value → H} {P : Program} {w : World} {base : Nat} {spare : Nat → Bool} {held : Bool}
theorem trod_seg {t ti tv : TypeId} {f0 f1 f2 f3 f4 v0 v1 : Field} {fuel : Nat} {cs : List Value} {x : DataW H × List MemPlace} (hs : P.underlying t = some (.struct #[f0, f1, f2, f3, f4]))
    (hty : (f0.type, f1.type, f2.type, f3.type, f4.type) = (ti, ti, ti, tv, tv)) (hof : (f0.offset, f1.offset, f2.offset, f3.offset, f4.offset) = (0, 1, 2, 3, 5))
    (hC : P.cellsOf t = 7) (hi1 : P.cellsOf ti = 1) (hv2 : P.cellsOf tv = 2) (hsv : P.underlying tv = some (.struct #[v0, v1])) (hone : oneCellFields P #[v0, v1] = true)
    (hv0 : v0.type = ti) (hv1 : v1.type = ti) (hti : P.underlying ti = some (.int .i64)) (h : DataW.trod enc P w base spare held fuel t cs = some x) :
    ∃ k n r c d e f : Int, cs = [.int .i64 k, .int .i64 n, .int .i64 r, .int .i64 c, .int .i64 d, .int .i64 e, .int .i64 f] ∧ SegWf k n r c d e f := by
  obtain ⟨xs, m, _, _, hl, hlen, hf⟩ := DataW.trod_struct hs h
  simp only [Prod.mk.injEq] at hty hof
  obtain ⟨t0, t1, t2, t3, t4⟩ := hty
  obtain ⟨o0, o1, o2, o3, o4⟩ := hof
  rw [hC] at hl
  have k0 := hf 0 f0 rfl
  have k1 := hf 1 f1 rfl
  have k2 := hf 2 f2 rfl
  have k3 := hf 3 f3 rfl
  have k4 := hf 4 f4 rfl
  rw [t0, o0, hi1] at k0
  rw [t1, o1, hi1] at k1
  rw [t2, o2, hi1] at k2
  rw [t3, o3, hv2] at k3
  rw [t4, o4, hv2] at k4
  match xs, hlen with
  | [y0, y1, y2, y3, y4], _ =>
    match cs, hl with
    | [c0, c1, c2, c3, c4, c5, c6], _ =>
      simp at k0 k1 k2 k3 k4
      obtain ⟨a0, e0, _, u0⟩ := DataW.trod_int hti k0
      obtain ⟨a1, e1, _, u1⟩ := DataW.trod_int hti k1
      obtain ⟨a2, e2, _, u2⟩ := DataW.trod_int hti k2
      obtain ⟨a3, a4, e3, u3, u4⟩ := trod_iv hsv hone hv2 (hv0 ▸ hti) (hv1 ▸ hti) k3
      obtain ⟨a5, a6, e5, u5, u6⟩ := trod_iv hsv hone hv2 (hv0 ▸ hti) (hv1 ▸ hti) k4
      simp at e0 e1 e2 e3 e5
      exact ⟨a0, a1, a2, a3, a4, a5, a6, by rw [e0, e1, e2, e3.1, e3.2, e5.1, e5.2], u0, u1, u2, u3, u4, u5, u6⟩
theorem open_seg {r : Reach} {b0 : Nat} {t ti tv : TypeId} {f0 f1 f2 f3 f4 v0 v1 : Field} {v : Value} {d : DataW H} {p : List MemPlace} (hs : P.underlying t = some (.struct #[f0, f1, f2, f3, f4]))
    (hty : (f0.type, f1.type, f2.type, f3.type, f4.type) = (ti, ti, ti, tv, tv)) (hof : (f0.offset, f1.offset, f2.offset, f3.offset, f4.offset) = (0, 1, 2, 3, 5))
    (hC : P.cellsOf t = 7) (hi1 : P.cellsOf ti = 1) (hv2 : P.cellsOf tv = 2) (hsv : P.underlying tv = some (.struct #[v0, v1])) (hone : oneCellFields P #[v0, v1] = true)
    (hv0 : v0.type = ti) (hv1 : v1.type = ti) (hti : P.underlying ti = some (.int .i64)) (hv : Value.okWide P w r b0 t v) (h : DataW.Trod enc P w base spare held t v d p) :
    ∃ k n r c d e f : Int, v = .agg #[.int .i64 k, .int .i64 n, .int .i64 r, .int .i64 c, .int .i64 d, .int .i64 e, .int .i64 f] ∧ SegWf k n r c d e f := by
  obtain ⟨⟨l⟩, rfl, hsz⟩ := okWide_struct hs hv
  obtain ⟨fuel, hf⟩ := h
  obtain ⟨k, n, r, c, d, e, f, hl, hw⟩ := trod_seg hs hty hof hC hi1 hv2 hsv hone hv0 hv1 hti hf
  simp [Value.cells] at hl
  exact ⟨k, n, r, c, d, e, f, by rw [hl], hw⟩
end

def absI (r : Int) : Int := if r < 0 then -r else r
theorem s_l01Abs (r : Int) (h : -100000000000000 ≤ r ∧ r ≤ 100000000000000) (w : World) : Calls Tryz.prog 48 #[.int .i64 r] w fun en w' => en = .returned (.int .i64 (absI r)) ∧ w = w' := by
  rcases ilt r 0 with c | c
  · have hr : absI r = -r := by unfold absI; rw [if_pos c]
    rw [hr]; clear hr
    go_enter Tryz.func48, Tryz.ntmps48
    go_wp2
    go_ret
    exact ⟨rfl, rfl⟩
  · have hr : absI r = r := by unfold absI; rw [if_neg (by omega)]
    rw [hr]; clear hr
    go_enter Tryz.func48, Tryz.ntmps48
    go_wp2
    go_ret
    exact ⟨rfl, rfl⟩

set_option maxHeartbeats 1000000 in
theorem i_IsSegment (k n r c d e f : Int) (w : World) : Calls Tryz.prog 34 #[segV k n r c d e f] w fun en w' => en = .returned (.bool (segOk k n r c d e f)) ∧ Below w.heap.size w w' := by
  rcases Bool.eq_false_or_eq_true (inB k 0 4) with h1 | h1
  rotate_left
  · have hr : segOk k n r c d e f = false := by simp [segOk, h1]
    rw [hr]; clear hr
    (go_enter Tryz.func34, Tryz.ntmps34; go_wp2_with (first | (go_at_call 35; refine (i_within _ _ _ _).mono ?_; rintro e w' ⟨rfl, rfl⟩) | (go_at_call 51; refine (i_IsWithin _ _ _ _ _).mono ?_; rintro e w' ⟨rfl, hb⟩; have hr := New.join (by first | assumption | exact New.startD _ | exact New.startN _ _ | exact New.start _) hb; obtain ⟨rc, rf, rl, rl1, -, -, rn⟩ := hr.own.kept; replace hb := Own.join (by first | assumption | exact Own.alloc (by assumption) _ | exact Own.drew (by assumption) | exact Own.drew (Own.alloc (by assumption) _) | exact Own.alloc (Own.alloc (by assumption) _) _ | exact Own.alloc (Own.alloc (Own.alloc (by assumption) _) _) _ | exact Own.drewN (by assumption) _ | exact Own.drew (Own.start _) | exact Own.drewN (Own.start _) _ | exact Own.start _) hb; obtain ⟨hc, hf, hl, hl1, hl2, hl3, hn⟩ := hb.kept)); go_ret; exact ⟨rfl, by repeat (first | exact Below.refl _ _ | refine balloc ?_ _ | refine Below.drew ?_ | refine bdrewN ?_ _ | refine bto ?_ (Own.below (by assumption)) | refine bset ?_ (by first | (simp; done) | (simp; omega) | exact Own.le_w (by assumption) (by first | (simp; done) | (simp; omega))) _)⟩)
  rcases Bool.eq_false_or_eq_true (inB n 1 200000) with h2 | h2
  rotate_left
  · have hr : segOk k n r c d e f = false := by simp [segOk, h2]
    rw [hr]; clear hr
    (go_enter Tryz.func34, Tryz.ntmps34; go_wp2_with (first | (go_at_call 35; refine (i_within _ _ _ _).mono ?_; rintro e w' ⟨rfl, rfl⟩) | (go_at_call 51; refine (i_IsWithin _ _ _ _ _).mono ?_; rintro e w' ⟨rfl, hb⟩; have hr := New.join (by first | assumption | exact New.startD _ | exact New.startN _ _ | exact New.start _) hb; obtain ⟨rc, rf, rl, rl1, -, -, rn⟩ := hr.own.kept; replace hb := Own.join (by first | assumption | exact Own.alloc (by assumption) _ | exact Own.drew (by assumption) | exact Own.drew (Own.alloc (by assumption) _) | exact Own.alloc (Own.alloc (by assumption) _) _ | exact Own.alloc (Own.alloc (Own.alloc (by assumption) _) _) _ | exact Own.drewN (by assumption) _ | exact Own.drew (Own.start _) | exact Own.drewN (Own.start _) _ | exact Own.start _) hb; obtain ⟨hc, hf, hl, hl1, hl2, hl3, hn⟩ := hb.kept)); go_ret; exact ⟨rfl, by repeat (first | exact Below.refl _ _ | refine balloc ?_ _ | refine Below.drew ?_ | refine bdrewN ?_ _ | refine bto ?_ (Own.below (by assumption)) | refine bset ?_ (by first | (simp; done) | (simp; omega) | exact Own.le_w (by assumption) (by first | (simp; done) | (simp; omega))) _)⟩)
  have gn := inB_iff.1 h2
  rcases Bool.eq_false_or_eq_true (inB r (-100000) 100000) with h3 | h3
  rotate_left
  · have hr : segOk k n r c d e f = false := by simp [segOk, h3]
    rw [hr]; clear hr
    (go_enter Tryz.func34, Tryz.ntmps34; go_wp2_with (first | (go_at_call 35; refine (i_within _ _ _ _).mono ?_; rintro e w' ⟨rfl, rfl⟩) | (go_at_call 51; refine (i_IsWithin _ _ _ _ _).mono ?_; rintro e w' ⟨rfl, hb⟩; have hr := New.join (by first | assumption | exact New.startD _ | exact New.startN _ _ | exact New.start _) hb; obtain ⟨rc, rf, rl, rl1, -, -, rn⟩ := hr.own.kept; replace hb := Own.join (by first | assumption | exact Own.alloc (by assumption) _ | exact Own.drew (by assumption) | exact Own.drew (Own.alloc (by assumption) _) | exact Own.alloc (Own.alloc (by assumption) _) _ | exact Own.alloc (Own.alloc (Own.alloc (by assumption) _) _) _ | exact Own.drewN (by assumption) _ | exact Own.drew (Own.start _) | exact Own.drewN (Own.start _) _ | exact Own.start _) hb; obtain ⟨hc, hf, hl, hl1, hl2, hl3, hn⟩ := hb.kept)); go_ret; exact ⟨rfl, by repeat (first | exact Below.refl _ _ | refine balloc ?_ _ | refine Below.drew ?_ | refine bdrewN ?_ _ | refine bto ?_ (Own.below (by assumption)) | refine bset ?_ (by first | (simp; done) | (simp; omega) | exact Own.le_w (by assumption) (by first | (simp; done) | (simp; omega))) _)⟩)
  rcases Bool.eq_false_or_eq_true (inB r (-n) n) with h4 | h4
  rotate_left
  · have hr : segOk k n r c d e f = false := by simp [segOk, h4]
    rw [hr]; clear hr
    (go_enter Tryz.func34, Tryz.ntmps34; go_wp2_with (first | (go_at_call 35; refine (i_within _ _ _ _).mono ?_; rintro e w' ⟨rfl, rfl⟩) | (go_at_call 51; refine (i_IsWithin _ _ _ _ _).mono ?_; rintro e w' ⟨rfl, hb⟩; have hr := New.join (by first | assumption | exact New.startD _ | exact New.startN _ _ | exact New.start _) hb; obtain ⟨rc, rf, rl, rl1, -, -, rn⟩ := hr.own.kept; replace hb := Own.join (by first | assumption | exact Own.alloc (by assumption) _ | exact Own.drew (by assumption) | exact Own.drew (Own.alloc (by assumption) _) | exact Own.alloc (Own.alloc (by assumption) _) _ | exact Own.alloc (Own.alloc (Own.alloc (by assumption) _) _) _ | exact Own.drewN (by assumption) _ | exact Own.drew (Own.start _) | exact Own.drewN (Own.start _) _ | exact Own.start _) hb; obtain ⟨hc, hf, hl, hl1, hl2, hl3, hn⟩ := hb.kept)); go_ret; exact ⟨rfl, by repeat (first | exact Below.refl _ _ | refine balloc ?_ _ | refine Below.drew ?_ | refine bdrewN ?_ _ | refine bto ?_ (Own.below (by assumption)) | refine bset ?_ (by first | (simp; done) | (simp; omega) | exact Own.le_w (by assumption) (by first | (simp; done) | (simp; omega))) _)⟩)
  rcases Bool.eq_false_or_eq_true (withinIv c d 0 20000) with h5 | h5
  rotate_left
  · have hr : segOk k n r c d e f = false := by simp [segOk, h5]
    rw [hr]; clear hr
    (go_enter Tryz.func34, Tryz.ntmps34; go_wp2_with (first | (go_at_call 35; refine (i_within _ _ _ _).mono ?_; rintro e w' ⟨rfl, rfl⟩) | (go_at_call 51; refine (i_IsWithin _ _ _ _ _).mono ?_; rintro e w' ⟨rfl, hb⟩; have hr := New.join (by first | assumption | exact New.startD _ | exact New.startN _ _ | exact New.start _) hb; obtain ⟨rc, rf, rl, rl1, -, -, rn⟩ := hr.own.kept; replace hb := Own.join (by first | assumption | exact Own.alloc (by assumption) _ | exact Own.drew (by assumption) | exact Own.drew (Own.alloc (by assumption) _) | exact Own.alloc (Own.alloc (by assumption) _) _ | exact Own.alloc (Own.alloc (Own.alloc (by assumption) _) _) _ | exact Own.drewN (by assumption) _ | exact Own.drew (Own.start _) | exact Own.drewN (Own.start _) _ | exact Own.start _) hb; obtain ⟨hc, hf, hl, hl1, hl2, hl3, hn⟩ := hb.kept)); go_ret; exact ⟨rfl, by repeat (first | exact Below.refl _ _ | refine balloc ?_ _ | refine Below.drew ?_ | refine bdrewN ?_ _ | refine bto ?_ (Own.below (by assumption)) | refine bset ?_ (by first | (simp; done) | (simp; omega) | exact Own.le_w (by assumption) (by first | (simp; done) | (simp; omega))) _)⟩)
  by_cases hk : k = 0
  · have hr : segOk k n r c d e f = (e == 0 && f == 0) := by simp only [segOk, h1, h2, h3, h4, h5, Bool.true_and]; rw [if_pos hk]
    have hkb : (k == 0) = true := by simpa using hk
    rw [hr]; clear hr hk
    by_cases he : e = 0
    · subst he
      by_cases hf : f = 0
      · subst hf
        (go_enter Tryz.func34, Tryz.ntmps34; go_wp2_with (first | (go_at_call 35; refine (i_within _ _ _ _).mono ?_; rintro e w' ⟨rfl, rfl⟩) | (go_at_call 51; refine (i_IsWithin _ _ _ _ _).mono ?_; rintro e w' ⟨rfl, hb⟩; have hr := New.join (by first | assumption | exact New.startD _ | exact New.startN _ _ | exact New.start _) hb; obtain ⟨rc, rf, rl, rl1, -, -, rn⟩ := hr.own.kept; replace hb := Own.join (by first | assumption | exact Own.alloc (by assumption) _ | exact Own.drew (by assumption) | exact Own.drew (Own.alloc (by assumption) _) | exact Own.alloc (Own.alloc (by assumption) _) _ | exact Own.alloc (Own.alloc (Own.alloc (by assumption) _) _) _ | exact Own.drewN (by assumption) _ | exact Own.drew (Own.start _) | exact Own.drewN (Own.start _) _ | exact Own.start _) hb; obtain ⟨hc, hf, hl, hl1, hl2, hl3, hn⟩ := hb.kept)); go_ret; exact ⟨rfl, by repeat (first | exact Below.refl _ _ | refine balloc ?_ _ | refine Below.drew ?_ | refine bdrewN ?_ _ | refine bto ?_ (Own.below (by assumption)) | refine bset ?_ (by first | (simp; done) | (simp; omega) | exact Own.le_w (by assumption) (by first | (simp; done) | (simp; omega))) _)⟩)
      · have hx : ((0 : Int) == 0 && f == 0) = false := by simpa using hf
        rw [hx]; clear hx
        (go_enter Tryz.func34, Tryz.ntmps34; go_wp2_with (first | (go_at_call 35; refine (i_within _ _ _ _).mono ?_; rintro e w' ⟨rfl, rfl⟩) | (go_at_call 51; refine (i_IsWithin _ _ _ _ _).mono ?_; rintro e w' ⟨rfl, hb⟩; have hr := New.join (by first | assumption | exact New.startD _ | exact New.startN _ _ | exact New.start _) hb; obtain ⟨rc, rf, rl, rl1, -, -, rn⟩ := hr.own.kept; replace hb := Own.join (by first | assumption | exact Own.alloc (by assumption) _ | exact Own.drew (by assumption) | exact Own.drew (Own.alloc (by assumption) _) | exact Own.alloc (Own.alloc (by assumption) _) _ | exact Own.alloc (Own.alloc (Own.alloc (by assumption) _) _) _ | exact Own.drewN (by assumption) _ | exact Own.drew (Own.start _) | exact Own.drewN (Own.start _) _ | exact Own.start _) hb; obtain ⟨hc, hf, hl, hl1, hl2, hl3, hn⟩ := hb.kept)); go_ret; exact ⟨rfl, by repeat (first | exact Below.refl _ _ | refine balloc ?_ _ | refine Below.drew ?_ | refine bdrewN ?_ _ | refine bto ?_ (Own.below (by assumption)) | refine bset ?_ (by first | (simp; done) | (simp; omega) | exact Own.le_w (by assumption) (by first | (simp; done) | (simp; omega))) _)⟩)
    · have hx : (e == 0 && f == 0) = false := by simp [he]
      rw [hx]; clear hx
      (go_enter Tryz.func34, Tryz.ntmps34; go_wp2_with (first | (go_at_call 35; refine (i_within _ _ _ _).mono ?_; rintro e w' ⟨rfl, rfl⟩) | (go_at_call 51; refine (i_IsWithin _ _ _ _ _).mono ?_; rintro e w' ⟨rfl, hb⟩; have hr := New.join (by first | assumption | exact New.startD _ | exact New.startN _ _ | exact New.start _) hb; obtain ⟨rc, rf, rl, rl1, -, -, rn⟩ := hr.own.kept; replace hb := Own.join (by first | assumption | exact Own.alloc (by assumption) _ | exact Own.drew (by assumption) | exact Own.drew (Own.alloc (by assumption) _) | exact Own.alloc (Own.alloc (by assumption) _) _ | exact Own.alloc (Own.alloc (Own.alloc (by assumption) _) _) _ | exact Own.drewN (by assumption) _ | exact Own.drew (Own.start _) | exact Own.drewN (Own.start _) _ | exact Own.start _) hb; obtain ⟨hc, hf, hl, hl1, hl2, hl3, hn⟩ := hb.kept)); go_ret; exact ⟨rfl, by repeat (first | exact Below.refl _ _ | refine balloc ?_ _ | refine Below.drew ?_ | refine bdrewN ?_ _ | refine bto ?_ (Own.below (by assumption)) | refine bset ?_ (by first | (simp; done) | (simp; omega) | exact Own.le_w (by assumption) (by first | (simp; done) | (simp; omega))) _)⟩)
  · have hr : segOk k n r c d e f = withinIv e f 1 20000 := by simp only [segOk, h1, h2, h3, h4, h5, Bool.true_and]; rw [if_neg hk]
    have hkb : (k == 0) = false := by simpa using hk
    rw [hr]; clear hr hk
    (go_enter Tryz.func34, Tryz.ntmps34; go_wp2_with (first | (go_at_call 35; refine (i_within _ _ _ _).mono ?_; rintro e w' ⟨rfl, rfl⟩) | (go_at_call 51; refine (i_IsWithin _ _ _ _ _).mono ?_; rintro e w' ⟨rfl, hb⟩; have hr := New.join (by first | assumption | exact New.startD _ | exact New.startN _ _ | exact New.start _) hb; obtain ⟨rc, rf, rl, rl1, -, -, rn⟩ := hr.own.kept; replace hb := Own.join (by first | assumption | exact Own.alloc (by assumption) _ | exact Own.drew (by assumption) | exact Own.drew (Own.alloc (by assumption) _) | exact Own.alloc (Own.alloc (by assumption) _) _ | exact Own.alloc (Own.alloc (Own.alloc (by assumption) _) _) _ | exact Own.drewN (by assumption) _ | exact Own.drew (Own.start _) | exact Own.drewN (Own.start _) _ | exact Own.start _) hb; obtain ⟨hc, hf, hl, hl1, hl2, hl3, hn⟩ := hb.kept)); go_ret; exact ⟨rfl, by repeat (first | exact Below.refl _ _ | refine balloc ?_ _ | refine Below.drew ?_ | refine bdrewN ?_ _ | refine bto ?_ (Own.below (by assumption)) | refine bset ?_ (by first | (simp; done) | (simp; omega) | exact Own.le_w (by assumption) (by first | (simp; done) | (simp; omega))) _)⟩)

theorem absI_iff {r n : Int} : (n < absI r) ↔ inB r (-n) n = false := by
  rw [Bool.eq_false_iff, ne_eq, inB_iff]; unfold absI; split <;> omega
set_option maxHeartbeats 4000000 in
theorem s_IsSegment (k n r c d e f : Int) (w : World) : Calls Tryz.prog 36 #[segV k n r c d e f] w fun en w' => en = .returned (.bool (segOk k n r c d e f)) ∧ Below w.heap.size w w' := by
  rcases Bool.eq_false_or_eq_true (inB k 0 4) with h1 | h1
  rotate_left
  · have hr : segOk k n r c d e f = false := by simp [segOk, h1]
    rw [hr]; clear hr
    go_enter Tryz.func36, Tryz.ntmps36
    go_upto_region 1 with fail
    go_quiet ((first | (go_at_call 52; exact quiet_left (s_l01In _ _ _ _)) | (go_at_call 52; exact quiet_add_left (s_l01In _ _ _ _)) | (go_at_call 48; exact quiet_left (s_l01Abs _ (by omega) _)) | (go_at_call 48; exact quiet_add_left (s_l01Abs _ (by omega) _))))
    go_wp2_with (go_at_call 53; refine (s_l03Within _ _ _ _ _).mono ?_; rintro e w' ⟨rfl, hb⟩; have hr := New.join (by first | assumption | exact New.startD _ | exact New.startN _ _ | exact New.start _) hb; obtain ⟨rc, rf, rl, rl1, -, -, rn⟩ := hr.own.kept; replace hb := Own.join (by first | assumption | exact Own.alloc (by assumption) _ | exact Own.drew (by assumption) | exact Own.drew (Own.alloc (by assumption) _) | exact Own.alloc (Own.alloc (by assumption) _) _ | exact Own.alloc (Own.alloc (Own.alloc (by assumption) _) _) _ | exact Own.drewN (by assumption) _ | exact Own.drew (Own.start _) | exact Own.drewN (Own.start _) _ | exact Own.start _) hb; obtain ⟨hc, hf, hl, hl1, hl2, hl3, hn⟩ := hb.kept)
    go_ret
    exact ⟨rfl, by repeat (first | exact Below.refl _ _ | refine balloc ?_ _ | refine Below.drew ?_ | refine bdrewN ?_ _ | refine bto ?_ (Own.below (by assumption)) | refine bset ?_ (by first | (simp; done) | (simp; omega) | exact Own.le_w (by assumption) (by first | (simp; done) | (simp; omega))) _)⟩
  rcases Bool.eq_false_or_eq_true (inB n 1 200000) with h2 | h2
  rotate_left
  · have hr : segOk k n r c d e f = false := by simp [segOk, h2]
    rw [hr]; clear hr
    go_enter Tryz.func36, Tryz.ntmps36
    go_upto_region 1 with fail
    go_quiet ((first | (go_at_call 52; exact quiet_left (s_l01In _ _ _ _)) | (go_at_call 52; exact quiet_add_left (s_l01In _ _ _ _)) | (go_at_call 48; exact quiet_left (s_l01Abs _ (by omega) _)) | (go_at_call 48; exact quiet_add_left (s_l01Abs _ (by omega) _))))
    go_wp2_with (go_at_call 53; refine (s_l03Within _ _ _ _ _).mono ?_; rintro e w' ⟨rfl, hb⟩; have hr := New.join (by first | assumption | exact New.startD _ | exact New.startN _ _ | exact New.start _) hb; obtain ⟨rc, rf, rl, rl1, -, -, rn⟩ := hr.own.kept; replace hb := Own.join (by first | assumption | exact Own.alloc (by assumption) _ | exact Own.drew (by assumption) | exact Own.drew (Own.alloc (by assumption) _) | exact Own.alloc (Own.alloc (by assumption) _) _ | exact Own.alloc (Own.alloc (Own.alloc (by assumption) _) _) _ | exact Own.drewN (by assumption) _ | exact Own.drew (Own.start _) | exact Own.drewN (Own.start _) _ | exact Own.start _) hb; obtain ⟨hc, hf, hl, hl1, hl2, hl3, hn⟩ := hb.kept)
    go_ret
    exact ⟨rfl, by repeat (first | exact Below.refl _ _ | refine balloc ?_ _ | refine Below.drew ?_ | refine bdrewN ?_ _ | refine bto ?_ (Own.below (by assumption)) | refine bset ?_ (by first | (simp; done) | (simp; omega) | exact Own.le_w (by assumption) (by first | (simp; done) | (simp; omega))) _)⟩
  rcases Bool.eq_false_or_eq_true (inB r (-100000) 100000) with h3 | h3
  rotate_left
  · have hr : segOk k n r c d e f = false := by simp [segOk, h3]
    rw [hr]; clear hr
    go_enter Tryz.func36, Tryz.ntmps36
    go_upto_region 1 with fail
    go_quiet ((first | (go_at_call 52; exact quiet_left (s_l01In _ _ _ _)) | (go_at_call 52; exact quiet_add_left (s_l01In _ _ _ _)) | (go_at_call 48; exact quiet_left (s_l01Abs _ (by omega) _)) | (go_at_call 48; exact quiet_add_left (s_l01Abs _ (by omega) _))))
    go_wp2_with (go_at_call 53; refine (s_l03Within _ _ _ _ _).mono ?_; rintro e w' ⟨rfl, hb⟩; have hr := New.join (by first | assumption | exact New.startD _ | exact New.startN _ _ | exact New.start _) hb; obtain ⟨rc, rf, rl, rl1, -, -, rn⟩ := hr.own.kept; replace hb := Own.join (by first | assumption | exact Own.alloc (by assumption) _ | exact Own.drew (by assumption) | exact Own.drew (Own.alloc (by assumption) _) | exact Own.alloc (Own.alloc (by assumption) _) _ | exact Own.alloc (Own.alloc (Own.alloc (by assumption) _) _) _ | exact Own.drewN (by assumption) _ | exact Own.drew (Own.start _) | exact Own.drewN (Own.start _) _ | exact Own.start _) hb; obtain ⟨hc, hf, hl, hl1, hl2, hl3, hn⟩ := hb.kept)
    go_ret
    exact ⟨rfl, by repeat (first | exact Below.refl _ _ | refine balloc ?_ _ | refine Below.drew ?_ | refine bdrewN ?_ _ | refine bto ?_ (Own.below (by assumption)) | refine bset ?_ (by first | (simp; done) | (simp; omega) | exact Own.le_w (by assumption) (by first | (simp; done) | (simp; omega))) _)⟩
  rcases Bool.eq_false_or_eq_true (inB r (-n) n) with h4 | h4
  rotate_left
  · have hr : segOk k n r c d e f = false := by simp [segOk, h4]
    rw [hr]; clear hr
    have ha : decide (n < absI r) = true := by simpa using absI_iff.2 h4
    have gr := inB_iff.1 h3
    go_enter Tryz.func36, Tryz.ntmps36
    go_upto_region 1 with fail
    go_quiet ((first | (go_at_call 52; exact quiet_left (s_l01In _ _ _ _)) | (go_at_call 52; exact quiet_add_left (s_l01In _ _ _ _)) | (go_at_call 48; exact quiet_left (s_l01Abs _ (by omega) _)) | (go_at_call 48; exact quiet_add_left (s_l01Abs _ (by omega) _))))
    go_wp2_with (go_at_call 53; refine (s_l03Within _ _ _ _ _).mono ?_; rintro e w' ⟨rfl, hb⟩; have hr := New.join (by first | assumption | exact New.startD _ | exact New.startN _ _ | exact New.start _) hb; obtain ⟨rc, rf, rl, rl1, -, -, rn⟩ := hr.own.kept; replace hb := Own.join (by first | assumption | exact Own.alloc (by assumption) _ | exact Own.drew (by assumption) | exact Own.drew (Own.alloc (by assumption) _) | exact Own.alloc (Own.alloc (by assumption) _) _ | exact Own.alloc (Own.alloc (Own.alloc (by assumption) _) _) _ | exact Own.drewN (by assumption) _ | exact Own.drew (Own.start _) | exact Own.drewN (Own.start _) _ | exact Own.start _) hb; obtain ⟨hc, hf, hl, hl1, hl2, hl3, hn⟩ := hb.kept)
    go_ret
    exact ⟨rfl, by repeat (first | exact Below.refl _ _ | refine balloc ?_ _ | refine Below.drew ?_ | refine bdrewN ?_ _ | refine bto ?_ (Own.below (by assumption)) | refine bset ?_ (by first | (simp; done) | (simp; omega) | exact Own.le_w (by assumption) (by first | (simp; done) | (simp; omega))) _)⟩
  have ha : decide (n < absI r) = false := by rw [decide_eq_false_iff_not, absI_iff, h4]; simp
  have gr := inB_iff.1 h3
  have e5 : within3 c d 0 20000 = withinIv c d 0 20000 := by rw [withinIv_const (by omega)]; rfl
  have e6 : within3 e f 1 20000 = withinIv e f 1 20000 := by rw [withinIv_const (by omega)]; rfl
  rcases Bool.eq_false_or_eq_true (withinIv c d 0 20000) with h5 | h5
  · rw [h5] at e5
    by_cases hk : k = 0
    · have hr : segOk k n r c d e f = (e == 0 && f == 0) := by simp only [segOk, h1, h2, h3, h4, h5, Bool.true_and]; rw [if_pos hk]
      have hkb : (k == 0) = true := by simpa using hk
      rw [hr]; clear hr hk e6
      by_cases he : e = 0
      · subst he
        by_cases hf : f = 0
        · subst hf
          go_enter Tryz.func36, Tryz.ntmps36
          go_upto_region 1 with fail
          go_quiet ((first | (go_at_call 52; exact quiet_left (s_l01In _ _ _ _)) | (go_at_call 52; exact quiet_add_left (s_l01In _ _ _ _)) | (go_at_call 48; exact quiet_left (s_l01Abs _ (by omega) _)) | (go_at_call 48; exact quiet_add_left (s_l01Abs _ (by omega) _))))
          go_wp2_with (go_at_call 53; refine (s_l03Within _ _ _ _ _).mono ?_; rintro e w' ⟨rfl, hb⟩; have hr := New.join (by first | assumption | exact New.startD _ | exact New.startN _ _ | exact New.start _) hb; obtain ⟨rc, rf, rl, rl1, -, -, rn⟩ := hr.own.kept; replace hb := Own.join (by first | assumption | exact Own.alloc (by assumption) _ | exact Own.drew (by assumption) | exact Own.drew (Own.alloc (by assumption) _) | exact Own.alloc (Own.alloc (by assumption) _) _ | exact Own.alloc (Own.alloc (Own.alloc (by assumption) _) _) _ | exact Own.drewN (by assumption) _ | exact Own.drew (Own.start _) | exact Own.drewN (Own.start _) _ | exact Own.start _) hb; obtain ⟨hc, hf, hl, hl1, hl2, hl3, hn⟩ := hb.kept)
          go_ret
          exact ⟨rfl, by repeat (first | exact Below.refl _ _ | refine balloc ?_ _ | refine Below.drew ?_ | refine bdrewN ?_ _ | refine bto ?_ (Own.below (by assumption)) | refine bset ?_ (by first | (simp; done) | (simp; omega) | exact Own.le_w (by assumption) (by first | (simp; done) | (simp; omega))) _)⟩
        · have hx : ((0 : Int) == 0 && f == 0) = false := by simpa using hf
          rw [hx]; clear hx
          go_enter Tryz.func36, Tryz.ntmps36
          go_upto_region 1 with fail
          go_quiet ((first | (go_at_call 52; exact quiet_left (s_l01In _ _ _ _)) | (go_at_call 52; exact quiet_add_left (s_l01In _ _ _ _)) | (go_at_call 48; exact quiet_left (s_l01Abs _ (by omega) _)) | (go_at_call 48; exact quiet_add_left (s_l01Abs _ (by omega) _))))
          go_wp2_with (go_at_call 53; refine (s_l03Within _ _ _ _ _).mono ?_; rintro e w' ⟨rfl, hb⟩; have hr := New.join (by first | assumption | exact New.startD _ | exact New.startN _ _ | exact New.start _) hb; obtain ⟨rc, rf, rl, rl1, -, -, rn⟩ := hr.own.kept; replace hb := Own.join (by first | assumption | exact Own.alloc (by assumption) _ | exact Own.drew (by assumption) | exact Own.drew (Own.alloc (by assumption) _) | exact Own.alloc (Own.alloc (by assumption) _) _ | exact Own.alloc (Own.alloc (Own.alloc (by assumption) _) _) _ | exact Own.drewN (by assumption) _ | exact Own.drew (Own.start _) | exact Own.drewN (Own.start _) _ | exact Own.start _) hb; obtain ⟨hc, hf, hl, hl1, hl2, hl3, hn⟩ := hb.kept)
          go_ret
          exact ⟨rfl, by repeat (first | exact Below.refl _ _ | refine balloc ?_ _ | refine Below.drew ?_ | refine bdrewN ?_ _ | refine bto ?_ (Own.below (by assumption)) | refine bset ?_ (by first | (simp; done) | (simp; omega) | exact Own.le_w (by assumption) (by first | (simp; done) | (simp; omega))) _)⟩
      · have hx : (e == 0 && f == 0) = false := by simp [he]
        rw [hx]; clear hx
        go_enter Tryz.func36, Tryz.ntmps36
        go_upto_region 1 with fail
        go_quiet ((first | (go_at_call 52; exact quiet_left (s_l01In _ _ _ _)) | (go_at_call 52; exact quiet_add_left (s_l01In _ _ _ _)) | (go_at_call 48; exact quiet_left (s_l01Abs _ (by omega) _)) | (go_at_call 48; exact quiet_add_left (s_l01Abs _ (by omega) _))))
        go_wp2_with (go_at_call 53; refine (s_l03Within _ _ _ _ _).mono ?_; rintro e w' ⟨rfl, hb⟩; have hr := New.join (by first | assumption | exact New.startD _ | exact New.startN _ _ | exact New.start _) hb; obtain ⟨rc, rf, rl, rl1, -, -, rn⟩ := hr.own.kept; replace hb := Own.join (by first | assumption | exact Own.alloc (by assumption) _ | exact Own.drew (by assumption) | exact Own.drew (Own.alloc (by assumption) _) | exact Own.alloc (Own.alloc (by assumption) _) _ | exact Own.alloc (Own.alloc (Own.alloc (by assumption) _) _) _ | exact Own.drewN (by assumption) _ | exact Own.drew (Own.start _) | exact Own.drewN (Own.start _) _ | exact Own.start _) hb; obtain ⟨hc, hf, hl, hl1, hl2, hl3, hn⟩ := hb.kept)
        go_ret
        exact ⟨rfl, by repeat (first | exact Below.refl _ _ | refine balloc ?_ _ | refine Below.drew ?_ | refine bdrewN ?_ _ | refine bto ?_ (Own.below (by assumption)) | refine bset ?_ (by first | (simp; done) | (simp; omega) | exact Own.le_w (by assumption) (by first | (simp; done) | (simp; omega))) _)⟩
    · have hr : segOk k n r c d e f = within3 e f 1 20000 := by rw [e6]; simp only [segOk, h1, h2, h3, h4, h5, Bool.true_and]; rw [if_neg hk]
      have hkb : (k == 0) = false := by simpa using hk
      rw [hr]; clear hr hk e6
      go_enter Tryz.func36, Tryz.ntmps36
      go_upto_region 1 with fail
      go_quiet ((first | (go_at_call 52; exact quiet_left (s_l01In _ _ _ _)) | (go_at_call 52; exact quiet_add_left (s_l01In _ _ _ _)) | (go_at_call 48; exact quiet_left (s_l01Abs _ (by omega) _)) | (go_at_call 48; exact quiet_add_left (s_l01Abs _ (by omega) _))))
      go_wp2_with (go_at_call 53; refine (s_l03Within _ _ _ _ _).mono ?_; rintro e w' ⟨rfl, hb⟩; have hr := New.join (by first | assumption | exact New.startD _ | exact New.startN _ _ | exact New.start _) hb; obtain ⟨rc, rf, rl, rl1, -, -, rn⟩ := hr.own.kept; replace hb := Own.join (by first | assumption | exact Own.alloc (by assumption) _ | exact Own.drew (by assumption) | exact Own.drew (Own.alloc (by assumption) _) | exact Own.alloc (Own.alloc (by assumption) _) _ | exact Own.alloc (Own.alloc (Own.alloc (by assumption) _) _) _ | exact Own.drewN (by assumption) _ | exact Own.drew (Own.start _) | exact Own.drewN (Own.start _) _ | exact Own.start _) hb; obtain ⟨hc, hf, hl, hl1, hl2, hl3, hn⟩ := hb.kept)
      go_ret
      exact ⟨rfl, by repeat (first | exact Below.refl _ _ | refine balloc ?_ _ | refine Below.drew ?_ | refine bdrewN ?_ _ | refine bto ?_ (Own.below (by assumption)) | refine bset ?_ (by first | (simp; done) | (simp; omega) | exact Own.le_w (by assumption) (by first | (simp; done) | (simp; omega))) _)⟩
  · rw [h5] at e5
    have hr : segOk k n r c d e f = false := by simp [segOk, h5]
    rw [hr]; clear hr e6
    by_cases hk : k = 0
    · have hkb : (k == 0) = true := by simpa using hk
      clear hk
      go_enter Tryz.func36, Tryz.ntmps36
      go_upto_region 1 with fail
      go_quiet ((first | (go_at_call 52; exact quiet_left (s_l01In _ _ _ _)) | (go_at_call 52; exact quiet_add_left (s_l01In _ _ _ _)) | (go_at_call 48; exact quiet_left (s_l01Abs _ (by omega) _)) | (go_at_call 48; exact quiet_add_left (s_l01Abs _ (by omega) _))))
      go_wp2_with (go_at_call 53; refine (s_l03Within _ _ _ _ _).mono ?_; rintro e w' ⟨rfl, hb⟩; have hr := New.join (by first | assumption | exact New.startD _ | exact New.startN _ _ | exact New.start _) hb; obtain ⟨rc, rf, rl, rl1, -, -, rn⟩ := hr.own.kept; replace hb := Own.join (by first | assumption | exact Own.alloc (by assumption) _ | exact Own.drew (by assumption) | exact Own.drew (Own.alloc (by assumption) _) | exact Own.alloc (Own.alloc (by assumption) _) _ | exact Own.alloc (Own.alloc (Own.alloc (by assumption) _) _) _ | exact Own.drewN (by assumption) _ | exact Own.drew (Own.start _) | exact Own.drewN (Own.start _) _ | exact Own.start _) hb; obtain ⟨hc, hf, hl, hl1, hl2, hl3, hn⟩ := hb.kept)
      go_ret
      exact ⟨rfl, by repeat (first | exact Below.refl _ _ | refine balloc ?_ _ | refine Below.drew ?_ | refine bdrewN ?_ _ | refine bto ?_ (Own.below (by assumption)) | refine bset ?_ (by first | (simp; done) | (simp; omega) | exact Own.le_w (by assumption) (by first | (simp; done) | (simp; omega))) _)⟩
    · have hkb : (k == 0) = false := by simpa using hk
      clear hk
      go_enter Tryz.func36, Tryz.ntmps36
      go_upto_region 1 with fail
      go_quiet ((first | (go_at_call 52; exact quiet_left (s_l01In _ _ _ _)) | (go_at_call 52; exact quiet_add_left (s_l01In _ _ _ _)) | (go_at_call 48; exact quiet_left (s_l01Abs _ (by omega) _)) | (go_at_call 48; exact quiet_add_left (s_l01Abs _ (by omega) _))))
      go_wp2_with (go_at_call 53; refine (s_l03Within _ _ _ _ _).mono ?_; rintro e w' ⟨rfl, hb⟩; have hr := New.join (by first | assumption | exact New.startD _ | exact New.startN _ _ | exact New.start _) hb; obtain ⟨rc, rf, rl, rl1, -, -, rn⟩ := hr.own.kept; replace hb := Own.join (by first | assumption | exact Own.alloc (by assumption) _ | exact Own.drew (by assumption) | exact Own.drew (Own.alloc (by assumption) _) | exact Own.alloc (Own.alloc (by assumption) _) _ | exact Own.alloc (Own.alloc (Own.alloc (by assumption) _) _) _ | exact Own.drewN (by assumption) _ | exact Own.drew (Own.start _) | exact Own.drewN (Own.start _) _ | exact Own.start _) hb; obtain ⟨hc, hf, hl, hl1, hl2, hl3, hn⟩ := hb.kept)
      go_ret
      exact ⟨rfl, by repeat (first | exact Below.refl _ _ | refine balloc ?_ _ | refine Below.drew ?_ | refine bdrewN ?_ _ | refine bto ?_ (Own.below (by assumption)) | refine bset ?_ (by first | (simp; done) | (simp; omega) | exact Own.le_w (by assumption) (by first | (simp; done) | (simp; omega))) _)⟩

end Go.Proofs.YtfbfiikomlnllaaGreatDoor
