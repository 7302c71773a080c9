/- Contracts and lemmas for the proofs of this seat: Seg. -/
import Derived.Test.YtfhliikfnhggpaaBase
import Derived.Test.YtfhliikfnhggpaaNum
import Derived.Test.YtfhliikfnhggpaaIv
import Derived.Test.YtfhliikfnhggpaaIv2
import Derived.Test.YtfhliikfnhggpaaDiv
import Derived.Test.YtfhliikfnhggpaaRoot
import Derived.Test.YtfhliikfnhggpaaEn
import Derived.Lib.Hide
import Derived.BigQuiet
import Derived.Deep.QuietTactic
import Derived.ProofKit
import Derived.OpenShut
import Derived.Lib.SmallJoins
import Derived.Deep.Slices
namespace Go.Proofs.Ytfhliikfnhggpaa
open Go.RowKit
set_option maxHeartbeats 2000000
set_option linter.unusedVariables false
set_option linter.unusedSimpArgs false

attribute [local go_sem] lt_2 lt_3 lt_4 lt_5 lt_6
abbrev segV (k n r c d e f : Int) : Value := .agg #[.int .i64 k, .int .i64 n, .int .i64 r, .int .i64 c, .int .i64 d, .int .i64 e, .int .i64 f]
def segOk (k n r c d e f : Int) : Bool :=
  inB k 0 4 && (inB n 1 200000 && (inB r (-100000) 100000 && (inB r (-n) n && (withinIv c d 0 20000 && (if k = 0 then (e == 0 && f == 0) else withinIv e f 1 20000)))))
theorem withinIv_const {a b lo hi : Int} (h : -1000000000000 ≤ lo ∧ lo ≤ hi ∧ hi ≤ 1000000000000) : withinIv a b lo hi = (isIv a b && (decide (lo ≤ a) && decide (b ≤ hi))) := by
  have h : isIv lo hi = true := by rw [isIv_iff]; omega
  simp [withinIv, h]
theorem withinIv_iff {a b lo hi : Int} (h : -1000000000000 ≤ lo ∧ lo ≤ hi ∧ hi ≤ 1000000000000) : withinIv a b lo hi = true ↔ lo ≤ a ∧ a ≤ b ∧ b ≤ hi := by
  rw [withinIv_const h]; simp [isIv_iff]; omega
theorem segOk_iff {k n r c d e f : Int} : segOk k n r c d e f = true ↔ (0 ≤ k ∧ k ≤ 4) ∧ (1 ≤ n ∧ n ≤ 200000) ∧ (-100000 ≤ r ∧ r ≤ 100000) ∧ (-n ≤ r ∧ r ≤ n) ∧ (0 ≤ c ∧ c ≤ d ∧ d ≤ 20000) ∧ (if k = 0 then e = 0 ∧ f = 0 else 1 ≤ e ∧ e ≤ f ∧ f ≤ 20000) := by
  unfold segOk
  by_cases hk : k = 0 <;> simp [hk, inB_iff, withinIv_iff]
/-- what every proof about a valid segment uses: the bounds of its numbers -/
theorem segOk_bd {k n r c d e f : Int} (h : segOk k n r c d e f = true) : (0 ≤ k ∧ k ≤ 4) ∧ (1 ≤ n ∧ n ≤ 200000) ∧ (-100000 ≤ r ∧ r ≤ 100000) ∧ (-n ≤ r ∧ r ≤ n) ∧ (0 ≤ c ∧ c ≤ d ∧ d ≤ 20000) ∧ (0 ≤ e ∧ e ≤ f ∧ f ≤ 20000) := by
  have h := segOk_iff.1 h
  by_cases hk : k = 0
  · rw [if_pos hk] at h; omega
  · rw [if_neg hk] at h; omega
/-- a Segment by value, opened -/
def SegWf (k n r c d e f : Int) : Prop := (Lit.int .i64 k).wf = true ∧ (Lit.int .i64 n).wf = true ∧ (Lit.int .i64 r).wf = true ∧ (Lit.int .i64 c).wf = true ∧ (Lit.int .i64 d).wf = true ∧ (Lit.int .i64 e).wf = true ∧ (Lit.int .i64 f).wf = true
section
open Go.ChangeShapes Go.WideShapes Go.ChangeAt Go.Joins Go.Deep
variable {H : Type} {enc : TypeId × Value → H} {P : Program} {w : World} {base : Nat} {spare : Nat → Bool} {held : Bool}
theorem trod_seg {t ti tv : TypeId} {f0 f1 f2 f3 f4 v0 v1 : Field} {fuel : Nat} {cs : List Value} {x : DataW H × List MemPlace} (hs : P.underlying t = some (.struct #[f0, f1, f2, f3, f4]))
    (hty : (f0.type, f1.type, f2.type, f3.type, f4.type) = (ti, ti, ti, tv, tv)) (hof : (f0.offset, f1.offset, f2.offset, f3.offset, f4.offset) = (0, 1, 2, 3, 5))
    (hC : P.cellsOf t = 7) (hi1 : P.cellsOf ti = 1) (hv2 : P.cellsOf tv = 2) (hsv : P.underlying tv = some (.struct #[v0, v1])) (hone : oneCellFields P #[v0, v1] = true)
    (hv0 : v0.type = ti) (hv1 : v1.type = ti) (hti : P.underlying ti = some (.int .i64)) (h : DataW.trod enc P w base spare held fuel t cs = some x) :
    ∃ k n r c d e f : Int, cs = [.int .i64 k, .int .i64 n, .int .i64 r, .int .i64 c, .int .i64 d, .int .i64 e, .int .i64 f] ∧ SegWf k n r c d e f := by
  obtain ⟨xs, m, _, _, hl, hlen, hf⟩ := DataW.trod_struct hs h
  simp only [Prod.mk.injEq] at hty hof
  obtain ⟨t0, t1, t2, t3, t4⟩ := hty
  obtain ⟨o0, o1, o2, o3, o4⟩ := hof
  rw [hC] at hl
  have k0 := hf 0 f0 rfl
  have k1 := hf 1 f1 rfl
  have k2 := hf 2 f2 rfl
  have k3 := hf 3 f3 rfl
  have k4 := hf 4 f4 rfl
  rw [t0, o0, hi1] at k0
  rw [t1, o1, hi1] at k1
  rw [t2, o2, hi1] at k2
  rw [t3, o3, hv2] at k3
  rw [t4, o4, hv2] at k4
  match xs, hlen with
  | [y0, y1, y2, y3, y4], _ =>
    match cs, hl with
    | [c0, c1, c2, c3, c4, c5, c6], _ =>
      simp at k0 k1 k2 k3 k4
      obtain ⟨a0, e0, _, u0⟩ := DataW.trod_int hti k0
      obtain ⟨a1, e1, _, u1⟩ := DataW.trod_int hti k1
      obtain ⟨a2, e2, _, u2⟩ := DataW.trod_int hti k2
      obtain ⟨a3, a4, e3, u3, u4⟩ := trod_iv hsv hone hv2 (hv0 ▸ hti) (hv1 ▸ hti) k3
      obtain ⟨a5, a6, e5, u5, u6⟩ := trod_iv hsv hone hv2 (hv0 ▸ hti) (hv1 ▸ hti) k4
      simp at e0 e1 e2 e3 e5
      exact ⟨a0, a1, a2, a3, a4, a5, a6, by rw [e0, e1, e2, e3.1, e3.2, e5.1, e5.2], u0, u1, u2, u3, u4, u5, u6⟩
theorem open_seg {r : Reach} {b0 : Nat} {t ti tv : TypeId} {f0 f1 f2 f3 f4 v0 v1 : Field} {v : Value} {d : DataW H} {p : List MemPlace} (hs : P.underlying t = some (.struct #[f0, f1, f2, f3, f4]))
    (hty : (f0.type, f1.type, f2.type, f3.type, f4.type) = (ti, ti, ti, tv, tv)) (hof : (f0.offset, f1.offset, f2.offset, f3.offset, f4.offset) = (0, 1, 2, 3, 5))
    (hC : P.cellsOf t = 7) (hi1 : P.cellsOf ti = 1) (hv2 : P.cellsOf tv = 2) (hsv : P.underlying tv = some (.struct #[v0, v1])) (hone : oneCellFields P #[v0, v1] = true)
    (hv0 : v0.type = ti) (hv1 : v1.type = ti) (hti : P.underlying ti = some (.int .i64)) (hv : Value.okWide P w r b0 t v) (h : DataW.Trod enc P w base spare held t v d p) :
    ∃ k n r c d e f : Int, v = .agg #[.int .i64 k, .int .i64 n, .int .i64 r, .int .i64 c, .int .i64 d, .int .i64 e, .int .i64 f] ∧ SegWf k n r c d e f := by
  obtain ⟨⟨l⟩, rfl, hsz⟩ := okWide_struct hs hv
  obtain ⟨fuel, hf⟩ := h
  obtain ⟨k, n, r, c, d, e, f, hl, hw⟩ := trod_seg hs hty hof hC hi1 hv2 hsv hone hv0 hv1 hti hf
  simp [Value.cells] at hl
  exact ⟨k, n, r, c, d, e, f, by rw [hl], hw⟩
end

end Go.Proofs.Ytfhliikfnhggpaa
