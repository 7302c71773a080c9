/- The Go function laws.FnStops returns true for every input and leaves its arguments as they were; no condition. -/
import Derived.Test.YtafbmhncmbcpjaaRows
import Derived.Test.YtafbmhncmbcpjaaBase
import Derived.Test.YtafbmhncmbcpjaaNum
import Derived.Test.YtafbmhncmbcpjaaDiv
import Derived.Test.YtafbmhncmbcpjaaIv
import Derived.Test.YtafbmhncmbcpjaaIv2
import Derived.Test.YtafbmhncmbcpjaaSeg
import Derived.Test.YtafbmhncmbcpjaaEn
import Derived.Test.YtafbmhncmbcpjaaEn2
import Derived.Test.YtafbmhncmbcpjaaStop
import Derived.Test.YtafbmhncmbcpjaaStop2
import Derived.Test.YtafbmhncmbcpjaaList
import Derived.Test.YtafbmhncmbcpjaaDraw
import Derived.Test.YtafbmhncmbcpjaaDraw2
import Derived.Test.YtafbmhncmbcpjaaDraw3
import Derived.Test.YtafbmhncmbcpjaaDraw4
import Derived.Test.YtafbmhncmbcpjaaLawKit
import Derived.Lib.Hide
import Derived.WalkKit
import Derived.WalkSpells
import Derived.WalkLawsBesides
import Derived.ProofKit
import Derived.OpenShut
import Derived.ShutString
import Derived.ChangeOld
import Derived.Below
import Derived.Deep.RegionHeld3
import Derived.Deep.DeepCutAuto
namespace Go.Proofs.Ytafbmhncmbcpjaa.pFnStops
open Go.ChangeShapes Go.WideShapes Go.ChangeAt Go.RowKit
set_option maxHeartbeats 2000000
set_option linter.unusedVariables false
set_option linter.unusedSimpArgs false

theorem floorG_pos {a b : Int} (hb : 0 < b) : floorG a b * b ≤ a ∧ a < floorG a b * b + b := by
  have h1 := Int.mul_tdiv_add_tmod a b
  have h2 : (a.tmod b).natAbs < b.natAbs := by rw [Int.natAbs_tmod]; exact Nat.mod_lt _ (by omega)
  have h3 : 0 ≤ a → 0 ≤ a.tmod b := fun h => Int.tmod_nonneg b h
  have h4 : a ≤ 0 → a.tmod b ≤ 0 := fun h => by
    have h3 := Int.tmod_nonneg b (show 0 ≤ -a by omega)
    rw [Int.neg_tmod] at h3
    omega
  unfold floorG
  generalize a.tmod b = r at *
  generalize a.tdiv b = q at *
  have e1 : (q - 1) * b = b * q - b := by rw [Int.sub_mul, Int.mul_comm]; omega
  have e3 : q * b = b * q := Int.mul_comm _ _
  by_cases hr : r = 0 ∨ (a < 0 ↔ b < 0)
  · rw [if_pos hr, e3]; omega
  · rw [if_neg hr, e1]; omega
theorem ceilG_pos {a b : Int} (hb : 0 < b) : a ≤ ceilG a b * b ∧ ceilG a b * b < a + b := by
  have h := floorG_pos (a := -a) hb
  unfold ceilG
  have e : -floorG (-a) b * b = -(floorG (-a) b * b) := Int.neg_mul _ _
  omega
theorem lt_of_mul {a b c : Int} (hc : 0 < c) (h : a * c < b * c) : a < b := Int.lt_of_mul_lt_mul_right h (Int.le_of_lt hc)
theorem le_of_mul {a b c : Int} (hc : 0 < c) (h : a * c ≤ b * c) : a ≤ b := Int.le_of_mul_le_mul_right h hc
theorem ceil_le {y L W : Int} (hL : 1 ≤ L) (hW : 1 ≤ W) : ceilG (y * L) W ≤ L ↔ y ≤ W := by
  have h := ceilG_pos (a := y * L) (b := W) (by omega)
  constructor
  · intro hc
    have h1 := Int.mul_le_mul_of_nonneg_right hc (show 0 ≤ W by omega)
    have h2 : y * L ≤ W * L := by have := Int.mul_comm L W; omega
    exact le_of_mul (by omega) h2
  · intro hy
    have h1 := Int.mul_le_mul_of_nonneg_right hy (show 0 ≤ L by omega)
    have h2 : ceilG (y * L) W * W < (L + 1) * W := by
      have := Int.mul_comm L W
      have := Int.add_mul L 1 W
      omega
    have := lt_of_mul (by omega) h2
    omega
theorem floor_ge {x L W : Int} (hL : 1 ≤ L) (hW : 1 ≤ W) (h : W < x) : L ≤ floorG (x * L) W := by
  have g := floorG_pos (a := x * L) (b := W) (by omega)
  have h1 := Int.mul_lt_mul_of_pos_right h (show 0 < L by omega)
  have h2 : L * W < (floorG (x * L) W + 1) * W := by
    have := Int.mul_comm L W
    have := Int.add_mul (floorG (x * L) W) 1 W
    omega
  have := lt_of_mul (by omega) h2
  omega
theorem floor_ceil {x y L W V : Int} (hL : 1 ≤ L) (hW : 1 ≤ W) (hV : W ≤ V) (hx : 0 ≤ x) (h : x ≤ y) : floorG (x * L) V ≤ ceilG (y * L) W := by
  have g := floorG_pos (a := x * L) (b := V) (by omega)
  have k := ceilG_pos (a := y * L) (b := W) (by omega)
  have h0 : 0 ≤ y * L := Int.mul_nonneg (by omega) (by omega)
  have h1 := Int.mul_le_mul_of_nonneg_right h (show 0 ≤ L by omega)
  have hc : 0 ≤ ceilG (y * L) W := by
    have : -1 * W < ceilG (y * L) W * W := by omega
    have := lt_of_mul (show 0 < W by omega) this
    omega
  have h2 := Int.mul_le_mul_of_nonneg_left hV hc
  exact le_of_mul (c := V) (by omega) (by omega)
theorem stop_law {sk sn sr sc sd se sf x y d1 d2 v v2 : Int} (h : stopD sk sn sr sc sd se sf x y = (d1, d2, 0)) (hv : stopV sk sn sr sc sd se sf x y = (v, v2)) :
    ((v = 2 ∧ d2 ≤ sn) ∨ (v = 0 ∧ ¬ d2 ≤ sn ∧ ¬ d1 < sn) ∨ (v = 1 ∧ ¬ d2 ≤ sn)) ∧ ¬ d2 < d1 ∧
    ∃ q b1 b2, great sk sn sr sc sd se sf = (q, 0) ∧ (0 ≤ q ∧ q ≤ 10000000000) ∧ stopV sk sn sr sc sd se sf q q = (2, 0) ∧ stopV sk sn sr sc sd se sf (q + 1) (q + 1) = (b1, b2) ∧ (q = 10000000000 ∨ (b2 = 0 ∧ ¬ b1 = 2)) := by
  unfold stopD at h
  by_cases c : segOk sk sn sr sc sd se sf = true ∧ isEn x y = true
  · rw [if_pos c] at h
    by_cases cs : slowB sk sn sr sc se = true
    · rw [if_pos cs] at h
      simp only [Prod.mk.injEq, and_true] at h
      obtain ⟨rfl, rfl⟩ := h
      have hb := segOk_bd c.1
      have he := isEn_iff.1 c.2
      have hbr : brakeB sk = true ∧ 1 ≤ wkLo sn sr sc se := by simpa [slowB] using cs
      have hWV : wkLo sn sr sc se ≤ wkLo sn sr sd sf := by
        unfold wkLo
        have hm := Int.mul_le_mul_of_nonneg_right (show se + sc ≤ sf + sd by omega) (show 0 ≤ sn by omega)
        omega
      have hV : ∀ a b, isEn a b = true → stopV sk sn sr sc sd se sf a b = if slowB sk sn sr sc se = true ∧ b ≤ wkLo sn sr sc se then (2, 0) else if wkLo sn sr sd sf < a then (0, 0) else (1, 0) := by
        intro a b hab
        unfold stopV
        rw [if_pos ⟨c.1, hab⟩, if_pos hbr.1]
      rw [hV _ _ c.2] at hv
      have k1 := ceil_le (y := y) (L := sn) (W := wkLo sn sr sc se) (by omega) hbr.2
      have k2 := fun h => floor_ge (x := x) (L := sn) (W := wkLo sn sr sd sf) (by omega) (by omega) h
      have k3 := floor_ceil (x := x) (y := y) (L := sn) (W := wkLo sn sr sc se) (V := wkLo sn sr sd sf) (by omega) hbr.2 hWV (by omega) (by omega)
      have hg : great sk sn sr sc sd se sf = (min (wkLo sn sr sc se) 10000000000, 0) := by unfold great; rw [if_pos c.1, if_pos cs]
      obtain ⟨B1, B2, hB⟩ : ∃ B1 B2, stopV sk sn sr sc sd se sf (min (wkLo sn sr sc se) 10000000000 + 1) (min (wkLo sn sr sc se) 10000000000 + 1) = (B1, B2) := ⟨_, _, rfl⟩
      refine ⟨?_, by omega, min (wkLo sn sr sc se) 10000000000, B1, B2, hg, by omega, ?_, hB, ?_⟩
      · by_cases h1 : y ≤ wkLo sn sr sc se
        · rw [if_pos ⟨cs, h1⟩] at hv
          simp only [Prod.mk.injEq] at hv
          exact .inl ⟨hv.1.symm, k1.2 h1⟩
        · rw [if_neg (fun hh => h1 hh.2)] at hv
          have hn : ¬ ceilG (y * sn) (wkLo sn sr sc se) ≤ sn := fun hh => h1 (k1.1 hh)
          by_cases h2 : wkLo sn sr sd sf < x
          · rw [if_pos h2] at hv
            simp only [Prod.mk.injEq] at hv
            have := k2 h2
            exact .inr (.inl ⟨hv.1.symm, hn, by omega⟩)
          · rw [if_neg h2] at hv
            simp only [Prod.mk.injEq] at hv
            exact .inr (.inr ⟨hv.1.symm, hn⟩)
      · rw [hV _ _ (isEn_iff.2 (by omega)), if_pos ⟨cs, by omega⟩]
      · rcases ilt (wkLo sn sr sc se) 10000000000 with h1 | h1
        · right
          have e : min (wkLo sn sr sc se) 10000000000 = wkLo sn sr sc se := by omega
          rw [e, hV _ _ (isEn_iff.2 (by omega)), if_neg (fun hh => by have := hh.2; omega)] at hB
          split at hB
          all_goals
            simp only [Prod.mk.injEq] at hB
            obtain ⟨rfl, rfl⟩ := hB
            exact ⟨rfl, by omega⟩
        · left; omega
    · rw [if_neg cs] at h; simp at h
  · rw [if_neg c] at h; simp at h
set_option maxRecDepth 100000 in set_option maxHeartbeats 20000000 in
theorem walk (w : World) (p0 : Option Addr) (len0 cap0 : Nat) (z0 : List Int) (r0 : IsRow .u8 w p0 len0 cap0 z0) :
    Calls Try.prog 13 #[.slice p0 len0 cap0] w fun e w' => e = .returned (.bool true) ∧ Below w.heap.size w w' := by
  have hin := r0.bytes8
  have hn := hin.1
  clear r0
  rcases Bool.eq_false_or_eq_true (decide (4096 < len0)) with hbig | hbig
  · go_enter Try.func13, Try.ntmps13
    go_wp2_with (go_at_call 21; refine (l_big p0 len0 cap0 _ hn).mono ?_; rintro e w' ⟨rfl, rfl⟩; rw [hbig])
    go_ret
    exact ⟨rfl, Below.refl _ _⟩
  · go_enter Try.func13, Try.ntmps13
    go_upto_region 3 with (go_at_call 21; refine (l_big p0 len0 cap0 _ hn).mono ?_; rintro e w' ⟨rfl, rfl⟩; rw [hbig])
    clear hbig
    go_cut [3, 4] (fun s3 s4 wx => ∃ (a b : Nat) (sk sn sr sc sd se sf x y : Int), s3 = .pointer (some ⟨a, 0, none⟩) ∧ s4 = .pointer (some ⟨b, 0, none⟩) ∧ w.heap.size ≤ a ∧ a < b ∧ Lw w wx [(b, [x, y]), (a, [sk, sn, sr, sc, sd, se, sf])])
    case first =>
      as_aux_lemma =>
        go_wp2_with (go_at_call 67; refine (s_DrawStoppingDistance _ _ _ _ hin).mono ?_; rintro e w' ⟨sk, sn, sr, sc, sd, se, sf, x, y, rfl, hB⟩; have hL := Lw.ofBelow hB)
        go_meet
        exact ⟨_, _, sk, sn, sr, sc, sd, se, sf, x, y, rfl, rfl, hB.size, by simp, by (repeat (first | with_reducible assumption | focus ((with_reducible refine Lw.new' ?_ ?_ ?_); rotate_left; (focus rfl); (focus first | rfl | (simp; done))) | with_reducible refine Lw.alloc ?_ _ | with_reducible refine Lw.drew ?_ | with_reducible refine Lw.drewN ?_ _))⟩
    case rest =>
    obtain ⟨a, b, sk, sn, sr, sc, sd, se, sf, x, y, rfl, rfl, oo0, oo1, hL⟩ := hcut
    clear hn
    obtain ⟨d1, d2, dc, e1⟩ : ∃ d1 d2 dc, stopD sk sn sr sc sd se sf x y = (d1, d2, dc) := ⟨_, _, _, rfl⟩
    obtain ⟨v1, v2, e2⟩ : ∃ v1 v2, stopV sk sn sr sc sd se sf x y = (v1, v2) := ⟨_, _, rfl⟩
    obtain ⟨k1, k2, kc, e3⟩ : ∃ k1 k2 kc, workR sk sn sr sc sd se sf = (k1, k2, kc) := ⟨_, _, _, rfl⟩
    have ca : ∀ w : World, Calls Try.prog 20 #[segV sk sn sr sc sd se sf, ivV x y] w fun en w' => en = .returned (ivT (d1, d2, dc)) ∧ Below w.heap.size w w' := fun w => by rw [← e1]; exact i_StoppingDistance sk sn sr sc sd se sf x y w
    have cb : ∀ w : World, Calls Try.prog 19 #[segV sk sn sr sc sd se sf, ivV x y] w fun en w' => en = .returned (ivT (d1, d2, dc)) ∧ Below w.heap.size w w' := fun w => by rw [← e1]; exact s_StoppingDistance sk sn sr sc sd se sf x y w
    have cc : ∀ w : World, Calls Try.prog 68 #[segV sk sn sr sc sd se sf, ivV x y] w fun en w' => en = .returned (p2 (v1, v2)) ∧ Below w.heap.size w w' := fun w => by rw [← e2]; exact i_StopVerdict sk sn sr sc sd se sf x y w
    have cd : ∀ w : World, Calls Try.prog 69 #[segV sk sn sr sc sd se sf, ivV x y] w fun en w' => en = .returned (p2 (v1, v2)) ∧ Below w.heap.size w w' := fun w => by rw [← e2]; exact s_StopVerdict sk sn sr sc sd se sf x y w
    have ce : ∀ w : World, Calls Try.prog 70 #[segV sk sn sr sc sd se sf] w fun en w' => en = .returned (ivT (k1, k2, kc)) ∧ Below w.heap.size w w' := fun w => by rw [← e3]; exact i_BrakeWork sk sn sr sc sd se sf  w
    have cf : ∀ w : World, Calls Try.prog 71 #[segV sk sn sr sc sd se sf] w fun en w' => en = .returned (ivT (k1, k2, kc)) ∧ Below w.heap.size w w' := fun w => by rw [← e3]; exact s_BrakeWork sk sn sr sc sd se sf  w
    have E := Lib.hid (And.intro e1 e2)
    clear e1 e2 e3 hin
    have hB_b := hL.b (k := b) (l := [x, y]) (.head _)
    have c_b_0 := hB_b.cell 0 (x) rfl
    have c_b_1 := hB_b.cell 1 (y) rfl
    have l_b := hB_b.lt
    clear hB_b
    have hB_a := hL.b (k := a) (l := [sk, sn, sr, sc, sd, se, sf]) (.tail _ (.head _))
    have c_a_0 := hB_a.cell 0 (sk) rfl
    have c_a_1 := hB_a.cell 1 (sn) rfl
    have c_a_2 := hB_a.cell 2 (sr) rfl
    have c_a_3 := hB_a.cell 3 (sc) rfl
    have c_a_4 := hB_a.cell 4 (sd) rfl
    have c_a_5 := hB_a.cell 5 (se) rfl
    have c_a_6 := hB_a.cell 6 (sf) rfl
    have l_a := hB_a.lt
    clear hB_a
    go_upto_region 4 with fail
    go_cut [5, 6] (fun s5 s6 wx => ∃ f : Nat, s5 = .pointer (some ⟨f, 0, none⟩) ∧ s6 = .int .i64 dc ∧ b < f ∧ Lw w wx [(f, [d1, d2]), (b, [x, y]), (a, [sk, sn, sr, sc, sd, se, sf])])
    case first =>
      as_aux_lemma =>
        go_wp2_with (go_at_call 20; (with_reducible refine (ca _).mono ?_); rintro e w' ⟨rfl, hbel⟩; replace hL : Lw w w' [(b, [x, y]), (a, [sk, sn, sr, sc, sd, se, sf])] := Lw.below (by (repeat (first | with_reducible assumption | focus ((with_reducible refine Lw.new' ?_ ?_ ?_); rotate_left; (focus rfl); (focus first | rfl | (simp; done))) | with_reducible refine Lw.alloc ?_ _ | with_reducible refine Lw.drew ?_ | with_reducible refine Lw.drewN ?_ _))) hbel; clear hbel)
        all_goals go_meet
        all_goals exact ⟨_, rfl, rfl, (by first | omega | (simp; omega) | (have := Blk.lt (hL.b (.head _)); simp; omega)), (by (repeat (first | with_reducible assumption | focus ((with_reducible refine Lw.new' ?_ ?_ ?_); rotate_left; (focus rfl); (focus first | rfl | (simp; done))) | with_reducible refine Lw.alloc ?_ _ | with_reducible refine Lw.drew ?_ | with_reducible refine Lw.drewN ?_ _)))⟩
    case rest =>
      obtain ⟨f, rfl, rfl, o_f, hL⟩ := hcut
      clear c_b_0 c_b_1 l_b c_a_0 c_a_1 c_a_2 c_a_3 c_a_4 c_a_5 c_a_6 l_a
      have hB_f := hL.b (k := f) (l := [d1, d2]) (.head _)
      have c_f_0 := hB_f.cell 0 (d1) rfl
      have c_f_1 := hB_f.cell 1 (d2) rfl
      have l_f := hB_f.lt
      clear hB_f
      have hB_b := hL.b (k := b) (l := [x, y]) (.tail _ (.head _))
      have c_b_0 := hB_b.cell 0 (x) rfl
      have c_b_1 := hB_b.cell 1 (y) rfl
      have l_b := hB_b.lt
      clear hB_b
      have hB_a := hL.b (k := a) (l := [sk, sn, sr, sc, sd, se, sf]) (.tail _ (.tail _ (.head _)))
      have c_a_0 := hB_a.cell 0 (sk) rfl
      have c_a_1 := hB_a.cell 1 (sn) rfl
      have c_a_2 := hB_a.cell 2 (sr) rfl
      have c_a_3 := hB_a.cell 3 (sc) rfl
      have c_a_4 := hB_a.cell 4 (sd) rfl
      have c_a_5 := hB_a.cell 5 (se) rfl
      have c_a_6 := hB_a.cell 6 (sf) rfl
      have l_a := hB_a.lt
      clear hB_a
      go_upto_region 5 with fail
      go_cut [7, 8] (fun s7 s8 wx => ∃ g : Nat, s7 = .pointer (some ⟨g, 0, none⟩) ∧ s8 = .int .i64 dc ∧ f < g ∧ Lw w wx [(g, [d1, d2]), (f, [d1, d2]), (b, [x, y]), (a, [sk, sn, sr, sc, sd, se, sf])])
      case first =>
        as_aux_lemma =>
          go_wp2_with (go_at_call 19; (with_reducible refine (cb _).mono ?_); rintro e w' ⟨rfl, hbel⟩; replace hL : Lw w w' [(f, [d1, d2]), (b, [x, y]), (a, [sk, sn, sr, sc, sd, se, sf])] := Lw.below (by (repeat (first | with_reducible assumption | focus ((with_reducible refine Lw.new' ?_ ?_ ?_); rotate_left; (focus rfl); (focus first | rfl | (simp; done))) | with_reducible refine Lw.alloc ?_ _ | with_reducible refine Lw.drew ?_ | with_reducible refine Lw.drewN ?_ _))) hbel; clear hbel)
          all_goals go_meet
          all_goals exact ⟨_, rfl, rfl, (by first | omega | (simp; omega) | (have := Blk.lt (hL.b (.head _)); simp; omega)), (by (repeat (first | with_reducible assumption | focus ((with_reducible refine Lw.new' ?_ ?_ ?_); rotate_left; (focus rfl); (focus first | rfl | (simp; done))) | with_reducible refine Lw.alloc ?_ _ | with_reducible refine Lw.drew ?_ | with_reducible refine Lw.drewN ?_ _)))⟩
      case rest =>
        obtain ⟨g, rfl, rfl, o_g, hL⟩ := hcut
        clear c_f_0 c_f_1 l_f c_b_0 c_b_1 l_b c_a_0 c_a_1 c_a_2 c_a_3 c_a_4 c_a_5 c_a_6 l_a
        have hB_g := hL.b (k := g) (l := [d1, d2]) (.head _)
        have c_g_0 := hB_g.cell 0 (d1) rfl
        have c_g_1 := hB_g.cell 1 (d2) rfl
        have l_g := hB_g.lt
        clear hB_g
        have hB_f := hL.b (k := f) (l := [d1, d2]) (.tail _ (.head _))
        have c_f_0 := hB_f.cell 0 (d1) rfl
        have c_f_1 := hB_f.cell 1 (d2) rfl
        have l_f := hB_f.lt
        clear hB_f
        have hB_b := hL.b (k := b) (l := [x, y]) (.tail _ (.tail _ (.head _)))
        have c_b_0 := hB_b.cell 0 (x) rfl
        have c_b_1 := hB_b.cell 1 (y) rfl
        have l_b := hB_b.lt
        clear hB_b
        have hB_a := hL.b (k := a) (l := [sk, sn, sr, sc, sd, se, sf]) (.tail _ (.tail _ (.tail _ (.head _))))
        have c_a_0 := hB_a.cell 0 (sk) rfl
        have c_a_1 := hB_a.cell 1 (sn) rfl
        have c_a_2 := hB_a.cell 2 (sr) rfl
        have c_a_3 := hB_a.cell 3 (sc) rfl
        have c_a_4 := hB_a.cell 4 (sd) rfl
        have c_a_5 := hB_a.cell 5 (se) rfl
        have c_a_6 := hB_a.cell 6 (sf) rfl
        have l_a := hB_a.lt
        clear hB_a
        go_upto_region 6 with fail
        go_cut [9, 10] (fun s9 s10 wx => s9 = .int .i64 v1 ∧ s10 = .int .i64 v2 ∧ Lw w wx [(g, [d1, d2]), (f, [d1, d2]), (b, [x, y]), (a, [sk, sn, sr, sc, sd, se, sf])])
        case first =>
          as_aux_lemma =>
            go_wp2_with (go_at_call 68; (with_reducible refine (cc _).mono ?_); rintro e w' ⟨rfl, hbel⟩; replace hL : Lw w w' [(g, [d1, d2]), (f, [d1, d2]), (b, [x, y]), (a, [sk, sn, sr, sc, sd, se, sf])] := Lw.below (by (repeat (first | with_reducible assumption | focus ((with_reducible refine Lw.new' ?_ ?_ ?_); rotate_left; (focus rfl); (focus first | rfl | (simp; done))) | with_reducible refine Lw.alloc ?_ _ | with_reducible refine Lw.drew ?_ | with_reducible refine Lw.drewN ?_ _))) hbel; clear hbel)
            all_goals go_meet
            all_goals exact ⟨rfl, rfl, (by (repeat (first | with_reducible assumption | focus ((with_reducible refine Lw.new' ?_ ?_ ?_); rotate_left; (focus rfl); (focus first | rfl | (simp; done))) | with_reducible refine Lw.alloc ?_ _ | with_reducible refine Lw.drew ?_ | with_reducible refine Lw.drewN ?_ _)))⟩
        case rest =>
          obtain ⟨rfl, rfl, hL⟩ := hcut
          clear c_g_0 c_g_1 l_g c_f_0 c_f_1 l_f c_b_0 c_b_1 l_b c_a_0 c_a_1 c_a_2 c_a_3 c_a_4 c_a_5 c_a_6 l_a
          have hB_g := hL.b (k := g) (l := [d1, d2]) (.head _)
          have c_g_0 := hB_g.cell 0 (d1) rfl
          have c_g_1 := hB_g.cell 1 (d2) rfl
          have l_g := hB_g.lt
          clear hB_g
          have hB_f := hL.b (k := f) (l := [d1, d2]) (.tail _ (.head _))
          have c_f_0 := hB_f.cell 0 (d1) rfl
          have c_f_1 := hB_f.cell 1 (d2) rfl
          have l_f := hB_f.lt
          clear hB_f
          have hB_b := hL.b (k := b) (l := [x, y]) (.tail _ (.tail _ (.head _)))
          have c_b_0 := hB_b.cell 0 (x) rfl
          have c_b_1 := hB_b.cell 1 (y) rfl
          have l_b := hB_b.lt
          clear hB_b
          have hB_a := hL.b (k := a) (l := [sk, sn, sr, sc, sd, se, sf]) (.tail _ (.tail _ (.tail _ (.head _))))
          have c_a_0 := hB_a.cell 0 (sk) rfl
          have c_a_1 := hB_a.cell 1 (sn) rfl
          have c_a_2 := hB_a.cell 2 (sr) rfl
          have c_a_3 := hB_a.cell 3 (sc) rfl
          have c_a_4 := hB_a.cell 4 (sd) rfl
          have c_a_5 := hB_a.cell 5 (se) rfl
          have c_a_6 := hB_a.cell 6 (sf) rfl
          have l_a := hB_a.lt
          clear hB_a
          go_upto_region 7 with fail
          go_cut [11, 12] (fun s11 s12 wx => s11 = .int .i64 v1 ∧ s12 = .int .i64 v2 ∧ Lw w wx [(g, [d1, d2]), (f, [d1, d2]), (b, [x, y]), (a, [sk, sn, sr, sc, sd, se, sf])])
          case first =>
            as_aux_lemma =>
              go_wp2_with (go_at_call 69; (with_reducible refine (cd _).mono ?_); rintro e w' ⟨rfl, hbel⟩; replace hL : Lw w w' [(g, [d1, d2]), (f, [d1, d2]), (b, [x, y]), (a, [sk, sn, sr, sc, sd, se, sf])] := Lw.below (by (repeat (first | with_reducible assumption | focus ((with_reducible refine Lw.new' ?_ ?_ ?_); rotate_left; (focus rfl); (focus first | rfl | (simp; done))) | with_reducible refine Lw.alloc ?_ _ | with_reducible refine Lw.drew ?_ | with_reducible refine Lw.drewN ?_ _))) hbel; clear hbel)
              all_goals go_meet
              all_goals exact ⟨rfl, rfl, (by (repeat (first | with_reducible assumption | focus ((with_reducible refine Lw.new' ?_ ?_ ?_); rotate_left; (focus rfl); (focus first | rfl | (simp; done))) | with_reducible refine Lw.alloc ?_ _ | with_reducible refine Lw.drew ?_ | with_reducible refine Lw.drewN ?_ _)))⟩
          case rest =>
            obtain ⟨rfl, rfl, hL⟩ := hcut
            clear c_g_0 c_g_1 l_g c_f_0 c_f_1 l_f c_b_0 c_b_1 l_b c_a_0 c_a_1 c_a_2 c_a_3 c_a_4 c_a_5 c_a_6 l_a
            have hB_g := hL.b (k := g) (l := [d1, d2]) (.head _)
            have c_g_0 := hB_g.cell 0 (d1) rfl
            have c_g_1 := hB_g.cell 1 (d2) rfl
            have l_g := hB_g.lt
            clear hB_g
            have hB_f := hL.b (k := f) (l := [d1, d2]) (.tail _ (.head _))
            have c_f_0 := hB_f.cell 0 (d1) rfl
            have c_f_1 := hB_f.cell 1 (d2) rfl
            have l_f := hB_f.lt
            clear hB_f
            have hB_b := hL.b (k := b) (l := [x, y]) (.tail _ (.tail _ (.head _)))
            have c_b_0 := hB_b.cell 0 (x) rfl
            have c_b_1 := hB_b.cell 1 (y) rfl
            have l_b := hB_b.lt
            clear hB_b
            have hB_a := hL.b (k := a) (l := [sk, sn, sr, sc, sd, se, sf]) (.tail _ (.tail _ (.tail _ (.head _))))
            have c_a_0 := hB_a.cell 0 (sk) rfl
            have c_a_1 := hB_a.cell 1 (sn) rfl
            have c_a_2 := hB_a.cell 2 (sr) rfl
            have c_a_3 := hB_a.cell 3 (sc) rfl
            have c_a_4 := hB_a.cell 4 (sd) rfl
            have c_a_5 := hB_a.cell 5 (se) rfl
            have c_a_6 := hB_a.cell 6 (sf) rfl
            have l_a := hB_a.lt
            clear hB_a
            go_upto_region 8 with fail
            go_cut [13, 14] (fun s13 s14 wx => ∃ p : Nat, s13 = .pointer (some ⟨p, 0, none⟩) ∧ s14 = .int .i64 kc ∧ g < p ∧ Lw w wx [(p, [k1, k2]), (g, [d1, d2]), (f, [d1, d2]), (b, [x, y]), (a, [sk, sn, sr, sc, sd, se, sf])])
            case first =>
              as_aux_lemma =>
                go_wp2_with (go_at_call 70; (with_reducible refine (ce _).mono ?_); rintro e w' ⟨rfl, hbel⟩; replace hL : Lw w w' [(g, [d1, d2]), (f, [d1, d2]), (b, [x, y]), (a, [sk, sn, sr, sc, sd, se, sf])] := Lw.below (by (repeat (first | with_reducible assumption | focus ((with_reducible refine Lw.new' ?_ ?_ ?_); rotate_left; (focus rfl); (focus first | rfl | (simp; done))) | with_reducible refine Lw.alloc ?_ _ | with_reducible refine Lw.drew ?_ | with_reducible refine Lw.drewN ?_ _))) hbel; clear hbel)
                all_goals go_meet
                all_goals exact ⟨_, rfl, rfl, (by first | omega | (simp; omega) | (have := Blk.lt (hL.b (.head _)); simp; omega)), (by (repeat (first | with_reducible assumption | focus ((with_reducible refine Lw.new' ?_ ?_ ?_); rotate_left; (focus rfl); (focus first | rfl | (simp; done))) | with_reducible refine Lw.alloc ?_ _ | with_reducible refine Lw.drew ?_ | with_reducible refine Lw.drewN ?_ _)))⟩
            case rest =>
              obtain ⟨p, rfl, rfl, o_p, hL⟩ := hcut
              clear c_g_0 c_g_1 l_g c_f_0 c_f_1 l_f c_b_0 c_b_1 l_b c_a_0 c_a_1 c_a_2 c_a_3 c_a_4 c_a_5 c_a_6 l_a
              have hB_p := hL.b (k := p) (l := [k1, k2]) (.head _)
              have c_p_0 := hB_p.cell 0 (k1) rfl
              have c_p_1 := hB_p.cell 1 (k2) rfl
              have l_p := hB_p.lt
              clear hB_p
              have hB_g := hL.b (k := g) (l := [d1, d2]) (.tail _ (.head _))
              have c_g_0 := hB_g.cell 0 (d1) rfl
              have c_g_1 := hB_g.cell 1 (d2) rfl
              have l_g := hB_g.lt
              clear hB_g
              have hB_f := hL.b (k := f) (l := [d1, d2]) (.tail _ (.tail _ (.head _)))
              have c_f_0 := hB_f.cell 0 (d1) rfl
              have c_f_1 := hB_f.cell 1 (d2) rfl
              have l_f := hB_f.lt
              clear hB_f
              have hB_b := hL.b (k := b) (l := [x, y]) (.tail _ (.tail _ (.tail _ (.head _))))
              have c_b_0 := hB_b.cell 0 (x) rfl
              have c_b_1 := hB_b.cell 1 (y) rfl
              have l_b := hB_b.lt
              clear hB_b
              have hB_a := hL.b (k := a) (l := [sk, sn, sr, sc, sd, se, sf]) (.tail _ (.tail _ (.tail _ (.tail _ (.head _)))))
              have c_a_0 := hB_a.cell 0 (sk) rfl
              have c_a_1 := hB_a.cell 1 (sn) rfl
              have c_a_2 := hB_a.cell 2 (sr) rfl
              have c_a_3 := hB_a.cell 3 (sc) rfl
              have c_a_4 := hB_a.cell 4 (sd) rfl
              have c_a_5 := hB_a.cell 5 (se) rfl
              have c_a_6 := hB_a.cell 6 (sf) rfl
              have l_a := hB_a.lt
              clear hB_a
              go_upto_region 9 with fail
              go_cut [15, 16] (fun s15 s16 wx => ∃ q' : Nat, s15 = .pointer (some ⟨q', 0, none⟩) ∧ s16 = .int .i64 kc ∧ p < q' ∧ Lw w wx [(q', [k1, k2]), (p, [k1, k2]), (g, [d1, d2]), (f, [d1, d2]), (b, [x, y]), (a, [sk, sn, sr, sc, sd, se, sf])])
              case first =>
                as_aux_lemma =>
                  go_wp2_with (go_at_call 71; (with_reducible refine (cf _).mono ?_); rintro e w' ⟨rfl, hbel⟩; replace hL : Lw w w' [(p, [k1, k2]), (g, [d1, d2]), (f, [d1, d2]), (b, [x, y]), (a, [sk, sn, sr, sc, sd, se, sf])] := Lw.below (by (repeat (first | with_reducible assumption | focus ((with_reducible refine Lw.new' ?_ ?_ ?_); rotate_left; (focus rfl); (focus first | rfl | (simp; done))) | with_reducible refine Lw.alloc ?_ _ | with_reducible refine Lw.drew ?_ | with_reducible refine Lw.drewN ?_ _))) hbel; clear hbel)
                  all_goals go_meet
                  all_goals exact ⟨_, rfl, rfl, (by first | omega | (simp; omega) | (have := Blk.lt (hL.b (.head _)); simp; omega)), (by (repeat (first | with_reducible assumption | focus ((with_reducible refine Lw.new' ?_ ?_ ?_); rotate_left; (focus rfl); (focus first | rfl | (simp; done))) | with_reducible refine Lw.alloc ?_ _ | with_reducible refine Lw.drew ?_ | with_reducible refine Lw.drewN ?_ _)))⟩
              case rest =>
                obtain ⟨q', rfl, rfl, o_q', hL⟩ := hcut
                clear c_p_0 c_p_1 l_p c_g_0 c_g_1 l_g c_f_0 c_f_1 l_f c_b_0 c_b_1 l_b c_a_0 c_a_1 c_a_2 c_a_3 c_a_4 c_a_5 c_a_6 l_a
                have hB_q' := hL.b (k := q') (l := [k1, k2]) (.head _)
                have c_q'_0 := hB_q'.cell 0 (k1) rfl
                have c_q'_1 := hB_q'.cell 1 (k2) rfl
                have l_q' := hB_q'.lt
                clear hB_q'
                have hB_p := hL.b (k := p) (l := [k1, k2]) (.tail _ (.head _))
                have c_p_0 := hB_p.cell 0 (k1) rfl
                have c_p_1 := hB_p.cell 1 (k2) rfl
                have l_p := hB_p.lt
                clear hB_p
                have hB_g := hL.b (k := g) (l := [d1, d2]) (.tail _ (.tail _ (.head _)))
                have c_g_0 := hB_g.cell 0 (d1) rfl
                have c_g_1 := hB_g.cell 1 (d2) rfl
                have l_g := hB_g.lt
                clear hB_g
                have hB_f := hL.b (k := f) (l := [d1, d2]) (.tail _ (.tail _ (.tail _ (.head _))))
                have c_f_0 := hB_f.cell 0 (d1) rfl
                have c_f_1 := hB_f.cell 1 (d2) rfl
                have l_f := hB_f.lt
                clear hB_f
                have hB_b := hL.b (k := b) (l := [x, y]) (.tail _ (.tail _ (.tail _ (.tail _ (.head _)))))
                have c_b_0 := hB_b.cell 0 (x) rfl
                have c_b_1 := hB_b.cell 1 (y) rfl
                have l_b := hB_b.lt
                clear hB_b
                have hB_a := hL.b (k := a) (l := [sk, sn, sr, sc, sd, se, sf]) (.tail _ (.tail _ (.tail _ (.tail _ (.tail _ (.head _))))))
                have c_a_0 := hB_a.cell 0 (sk) rfl
                have c_a_1 := hB_a.cell 1 (sn) rfl
                have c_a_2 := hB_a.cell 2 (sr) rfl
                have c_a_3 := hB_a.cell 3 (sc) rfl
                have c_a_4 := hB_a.cell 4 (sd) rfl
                have c_a_5 := hB_a.cell 5 (se) rfl
                have c_a_6 := hB_a.cell 6 (sf) rfl
                have l_a := hB_a.lt
                clear hB_a
                go_upto_region 10 with fail
                go_cut [91] (fun s91 wx => s91 = .bool false ∧ Lw w wx [(q', [k1, k2]), (p, [k1, k2]), (g, [d1, d2]), (f, [d1, d2]), (b, [x, y]), (a, [sk, sn, sr, sc, sd, se, sf])])
                case first =>
                  as_aux_lemma =>
                    go_wp2_with fail
                    all_goals go_meet
                    all_goals exact ⟨rfl, (by (repeat (first | with_reducible assumption | focus ((with_reducible refine Lw.new' ?_ ?_ ?_); rotate_left; (focus rfl); (focus first | rfl | (simp; done))) | with_reducible refine Lw.alloc ?_ _ | with_reducible refine Lw.drew ?_ | with_reducible refine Lw.drewN ?_ _)))⟩
                case rest =>
                  obtain ⟨rfl, hL⟩ := hcut
                  clear c_q'_0 c_q'_1 l_q' c_p_0 c_p_1 l_p c_g_0 c_g_1 l_g c_f_0 c_f_1 l_f c_b_0 c_b_1 l_b c_a_0 c_a_1 c_a_2 c_a_3 c_a_4 c_a_5 c_a_6 l_a
                  have hB_q' := hL.b (k := q') (l := [k1, k2]) (.head _)
                  have c_q'_0 := hB_q'.cell 0 (k1) rfl
                  have c_q'_1 := hB_q'.cell 1 (k2) rfl
                  have l_q' := hB_q'.lt
                  clear hB_q'
                  have hB_p := hL.b (k := p) (l := [k1, k2]) (.tail _ (.head _))
                  have c_p_0 := hB_p.cell 0 (k1) rfl
                  have c_p_1 := hB_p.cell 1 (k2) rfl
                  have l_p := hB_p.lt
                  clear hB_p
                  have hB_g := hL.b (k := g) (l := [d1, d2]) (.tail _ (.tail _ (.head _)))
                  have c_g_0 := hB_g.cell 0 (d1) rfl
                  have c_g_1 := hB_g.cell 1 (d2) rfl
                  have l_g := hB_g.lt
                  clear hB_g
                  have hB_f := hL.b (k := f) (l := [d1, d2]) (.tail _ (.tail _ (.tail _ (.head _))))
                  have c_f_0 := hB_f.cell 0 (d1) rfl
                  have c_f_1 := hB_f.cell 1 (d2) rfl
                  have l_f := hB_f.lt
                  clear hB_f
                  have hB_b := hL.b (k := b) (l := [x, y]) (.tail _ (.tail _ (.tail _ (.tail _ (.head _)))))
                  have c_b_0 := hB_b.cell 0 (x) rfl
                  have c_b_1 := hB_b.cell 1 (y) rfl
                  have l_b := hB_b.lt
                  clear hB_b
                  have hB_a := hL.b (k := a) (l := [sk, sn, sr, sc, sd, se, sf]) (.tail _ (.tail _ (.tail _ (.tail _ (.tail _ (.head _))))))
                  have c_a_0 := hB_a.cell 0 (sk) rfl
                  have c_a_1 := hB_a.cell 1 (sn) rfl
                  have c_a_2 := hB_a.cell 2 (sr) rfl
                  have c_a_3 := hB_a.cell 3 (sc) rfl
                  have c_a_4 := hB_a.cell 4 (sd) rfl
                  have c_a_5 := hB_a.cell 5 (se) rfl
                  have c_a_6 := hB_a.cell 6 (sf) rfl
                  have l_a := hB_a.lt
                  clear hB_a
                  clear ca cb cc cd ce cf
                  by_cases hv : dc = 0
                  case neg =>
                    go_wp2
                    go_ret
                    exact ⟨rfl, hL.own.below⟩
                  case pos =>
                  subst hv
                  obtain ⟨hs, hd, q, b1, b2, e3, ⟨q0, q1⟩, e4, e5, hq⟩ := stop_law E.out.1 E.out.2
                  have cg : ∀ w : World, Calls Try.prog 72 #[segV sk sn sr sc sd se sf] w fun en w' => en = .returned (p2 (q, 0)) ∧ Below w.heap.size w w' := fun w => by rw [← e3]; exact i_GreatestStop sk sn sr sc sd se sf w
                  have ch : ∀ w : World, Calls Try.prog 68 #[segV sk sn sr sc sd se sf, ivV q q] w fun en w' => en = .returned (p2 (2, 0)) ∧ Below w.heap.size w w' := fun w => by rw [← e4]; exact i_StopVerdict sk sn sr sc sd se sf q q w
                  have ci : ∀ w : World, Calls Try.prog 68 #[segV sk sn sr sc sd se sf, ivV (q + 1) (q + 1)] w fun en w' => en = .returned (p2 (b1, b2)) ∧ Below w.heap.size w w' := fun w => by rw [← e5]; exact i_StopVerdict sk sn sr sc sd se sf (q + 1) (q + 1) w
                  have HS := Lib.hid (And.intro hs hd)
                  have HQ := Lib.hid hq
                  clear e3 e4 e5 hs hd hq E
                  go_upto_region 14 with fail
                  go_cut [17, 18] (fun s17 s18 wx => s17 = .int .i64 q ∧ s18 = .int .i64 0 ∧ Lw w wx [(q', [k1, k2]), (p, [k1, k2]), (g, [d1, d2]), (f, [d1, d2]), (b, [x, y]), (a, [sk, sn, sr, sc, sd, se, sf])])
                  case first =>
                    as_aux_lemma =>
                      go_wp2_with (go_at_call 72; (with_reducible refine (cg _).mono ?_); rintro e w' ⟨rfl, hbel⟩; replace hL : Lw w w' [(q', [k1, k2]), (p, [k1, k2]), (g, [d1, d2]), (f, [d1, d2]), (b, [x, y]), (a, [sk, sn, sr, sc, sd, se, sf])] := Lw.below (by (repeat (first | with_reducible assumption | focus ((with_reducible refine Lw.new' ?_ ?_ ?_); rotate_left; (focus rfl); (focus first | rfl | (simp; done))) | with_reducible refine Lw.alloc ?_ _ | with_reducible refine Lw.drew ?_ | with_reducible refine Lw.drewN ?_ _))) hbel; clear hbel)
                      all_goals go_meet
                      all_goals exact ⟨rfl, rfl, (by (repeat (first | with_reducible assumption | focus ((with_reducible refine Lw.new' ?_ ?_ ?_); rotate_left; (focus rfl); (focus first | rfl | (simp; done))) | with_reducible refine Lw.alloc ?_ _ | with_reducible refine Lw.drew ?_ | with_reducible refine Lw.drewN ?_ _)))⟩
                  case rest =>
                    obtain ⟨rfl, rfl, hL⟩ := hcut
                    clear c_q'_0 c_q'_1 l_q' c_p_0 c_p_1 l_p c_g_0 c_g_1 l_g c_f_0 c_f_1 l_f c_b_0 c_b_1 l_b c_a_0 c_a_1 c_a_2 c_a_3 c_a_4 c_a_5 c_a_6 l_a
                    have hB_q' := hL.b (k := q') (l := [k1, k2]) (.head _)
                    have c_q'_0 := hB_q'.cell 0 (k1) rfl
                    have c_q'_1 := hB_q'.cell 1 (k2) rfl
                    have l_q' := hB_q'.lt
                    clear hB_q'
                    have hB_p := hL.b (k := p) (l := [k1, k2]) (.tail _ (.head _))
                    have c_p_0 := hB_p.cell 0 (k1) rfl
                    have c_p_1 := hB_p.cell 1 (k2) rfl
                    have l_p := hB_p.lt
                    clear hB_p
                    have hB_g := hL.b (k := g) (l := [d1, d2]) (.tail _ (.tail _ (.head _)))
                    have c_g_0 := hB_g.cell 0 (d1) rfl
                    have c_g_1 := hB_g.cell 1 (d2) rfl
                    have l_g := hB_g.lt
                    clear hB_g
                    have hB_f := hL.b (k := f) (l := [d1, d2]) (.tail _ (.tail _ (.tail _ (.head _))))
                    have c_f_0 := hB_f.cell 0 (d1) rfl
                    have c_f_1 := hB_f.cell 1 (d2) rfl
                    have l_f := hB_f.lt
                    clear hB_f
                    have hB_b := hL.b (k := b) (l := [x, y]) (.tail _ (.tail _ (.tail _ (.tail _ (.head _)))))
                    have c_b_0 := hB_b.cell 0 (x) rfl
                    have c_b_1 := hB_b.cell 1 (y) rfl
                    have l_b := hB_b.lt
                    clear hB_b
                    have hB_a := hL.b (k := a) (l := [sk, sn, sr, sc, sd, se, sf]) (.tail _ (.tail _ (.tail _ (.tail _ (.tail _ (.head _))))))
                    have c_a_0 := hB_a.cell 0 (sk) rfl
                    have c_a_1 := hB_a.cell 1 (sn) rfl
                    have c_a_2 := hB_a.cell 2 (sr) rfl
                    have c_a_3 := hB_a.cell 3 (sc) rfl
                    have c_a_4 := hB_a.cell 4 (sd) rfl
                    have c_a_5 := hB_a.cell 5 (se) rfl
                    have c_a_6 := hB_a.cell 6 (sf) rfl
                    have l_a := hB_a.lt
                    clear hB_a
                    go_upto_region 15 with fail
                    go_cut [128] (fun s128 wx => s128 = .bool false ∧ Lw w wx [(q', [k1, k2]), (p, [k1, k2]), (g, [d1, d2]), (f, [d1, d2]), (b, [x, y]), (a, [sk, sn, sr, sc, sd, se, sf])])
                    case first =>
                      as_aux_lemma =>
                        obtain ⟨hs, hd⟩ := HS.out
                        clear HS HQ cg ch ci
                        rcases hs with ⟨rfl, h1⟩ | ⟨rfl, h1, h2⟩ | ⟨rfl, h1⟩
                        all_goals
                          go_wp2
                          go_meet
                          exact ⟨rfl, by (repeat (first | with_reducible assumption | focus ((with_reducible refine Lw.new' ?_ ?_ ?_); rotate_left; (focus rfl); (focus first | rfl | (simp; done))) | with_reducible refine Lw.alloc ?_ _ | with_reducible refine Lw.drew ?_ | with_reducible refine Lw.drewN ?_ _))⟩
                    case rest =>
                    obtain ⟨rfl, hL⟩ := hcut
                    clear c_q'_0 c_q'_1 l_q' c_p_0 c_p_1 l_p c_g_0 c_g_1 l_g c_f_0 c_f_1 l_f c_b_0 c_b_1 l_b c_a_0 c_a_1 c_a_2 c_a_3 c_a_4 c_a_5 c_a_6 l_a
                    have hB_q' := hL.b (k := q') (l := [k1, k2]) (.head _)
                    have c_q'_0 := hB_q'.cell 0 (k1) rfl
                    have c_q'_1 := hB_q'.cell 1 (k2) rfl
                    have l_q' := hB_q'.lt
                    clear hB_q'
                    have hB_p := hL.b (k := p) (l := [k1, k2]) (.tail _ (.head _))
                    have c_p_0 := hB_p.cell 0 (k1) rfl
                    have c_p_1 := hB_p.cell 1 (k2) rfl
                    have l_p := hB_p.lt
                    clear hB_p
                    have hB_g := hL.b (k := g) (l := [d1, d2]) (.tail _ (.tail _ (.head _)))
                    have c_g_0 := hB_g.cell 0 (d1) rfl
                    have c_g_1 := hB_g.cell 1 (d2) rfl
                    have l_g := hB_g.lt
                    clear hB_g
                    have hB_f := hL.b (k := f) (l := [d1, d2]) (.tail _ (.tail _ (.tail _ (.head _))))
                    have c_f_0 := hB_f.cell 0 (d1) rfl
                    have c_f_1 := hB_f.cell 1 (d2) rfl
                    have l_f := hB_f.lt
                    clear hB_f
                    have hB_b := hL.b (k := b) (l := [x, y]) (.tail _ (.tail _ (.tail _ (.tail _ (.head _)))))
                    have c_b_0 := hB_b.cell 0 (x) rfl
                    have c_b_1 := hB_b.cell 1 (y) rfl
                    have l_b := hB_b.lt
                    clear hB_b
                    have hB_a := hL.b (k := a) (l := [sk, sn, sr, sc, sd, se, sf]) (.tail _ (.tail _ (.tail _ (.tail _ (.tail _ (.head _))))))
                    have c_a_0 := hB_a.cell 0 (sk) rfl
                    have c_a_1 := hB_a.cell 1 (sn) rfl
                    have c_a_2 := hB_a.cell 2 (sr) rfl
                    have c_a_3 := hB_a.cell 3 (sc) rfl
                    have c_a_4 := hB_a.cell 4 (sd) rfl
                    have c_a_5 := hB_a.cell 5 (se) rfl
                    have c_a_6 := hB_a.cell 6 (sf) rfl
                    have l_a := hB_a.lt
                    clear hB_a
                    go_upto_region 17 with fail
                    go_cut [19, 20] (fun s19 s20 wx => s19 = .int .i64 2 ∧ s20 = .int .i64 0 ∧ Lw w wx [(q', [k1, k2]), (p, [k1, k2]), (g, [d1, d2]), (f, [d1, d2]), (b, [x, y]), (a, [sk, sn, sr, sc, sd, se, sf])])
                    case first =>
                      as_aux_lemma =>
                        go_wp2_with (go_at_call 68; (with_reducible refine (ch _).mono ?_); rintro e w' ⟨rfl, hbel⟩; replace hL : Lw w w' [(q', [k1, k2]), (p, [k1, k2]), (g, [d1, d2]), (f, [d1, d2]), (b, [x, y]), (a, [sk, sn, sr, sc, sd, se, sf])] := Lw.below (by (repeat (first | with_reducible assumption | focus ((with_reducible refine Lw.new' ?_ ?_ ?_); rotate_left; (focus rfl); (focus first | rfl | (simp; done))) | with_reducible refine Lw.alloc ?_ _ | with_reducible refine Lw.drew ?_ | with_reducible refine Lw.drewN ?_ _))) hbel; clear hbel)
                        all_goals go_meet
                        all_goals exact ⟨rfl, rfl, (by (repeat (first | with_reducible assumption | focus ((with_reducible refine Lw.new' ?_ ?_ ?_); rotate_left; (focus rfl); (focus first | rfl | (simp; done))) | with_reducible refine Lw.alloc ?_ _ | with_reducible refine Lw.drew ?_ | with_reducible refine Lw.drewN ?_ _)))⟩
                    case rest =>
                      obtain ⟨rfl, rfl, hL⟩ := hcut
                      clear c_q'_0 c_q'_1 l_q' c_p_0 c_p_1 l_p c_g_0 c_g_1 l_g c_f_0 c_f_1 l_f c_b_0 c_b_1 l_b c_a_0 c_a_1 c_a_2 c_a_3 c_a_4 c_a_5 c_a_6 l_a
                      have hB_q' := hL.b (k := q') (l := [k1, k2]) (.head _)
                      have c_q'_0 := hB_q'.cell 0 (k1) rfl
                      have c_q'_1 := hB_q'.cell 1 (k2) rfl
                      have l_q' := hB_q'.lt
                      clear hB_q'
                      have hB_p := hL.b (k := p) (l := [k1, k2]) (.tail _ (.head _))
                      have c_p_0 := hB_p.cell 0 (k1) rfl
                      have c_p_1 := hB_p.cell 1 (k2) rfl
                      have l_p := hB_p.lt
                      clear hB_p
                      have hB_g := hL.b (k := g) (l := [d1, d2]) (.tail _ (.tail _ (.head _)))
                      have c_g_0 := hB_g.cell 0 (d1) rfl
                      have c_g_1 := hB_g.cell 1 (d2) rfl
                      have l_g := hB_g.lt
                      clear hB_g
                      have hB_f := hL.b (k := f) (l := [d1, d2]) (.tail _ (.tail _ (.tail _ (.head _))))
                      have c_f_0 := hB_f.cell 0 (d1) rfl
                      have c_f_1 := hB_f.cell 1 (d2) rfl
                      have l_f := hB_f.lt
                      clear hB_f
                      have hB_b := hL.b (k := b) (l := [x, y]) (.tail _ (.tail _ (.tail _ (.tail _ (.head _)))))
                      have c_b_0 := hB_b.cell 0 (x) rfl
                      have c_b_1 := hB_b.cell 1 (y) rfl
                      have l_b := hB_b.lt
                      clear hB_b
                      have hB_a := hL.b (k := a) (l := [sk, sn, sr, sc, sd, se, sf]) (.tail _ (.tail _ (.tail _ (.tail _ (.tail _ (.head _))))))
                      have c_a_0 := hB_a.cell 0 (sk) rfl
                      have c_a_1 := hB_a.cell 1 (sn) rfl
                      have c_a_2 := hB_a.cell 2 (sr) rfl
                      have c_a_3 := hB_a.cell 3 (sc) rfl
                      have c_a_4 := hB_a.cell 4 (sd) rfl
                      have c_a_5 := hB_a.cell 5 (se) rfl
                      have c_a_6 := hB_a.cell 6 (sf) rfl
                      have l_a := hB_a.lt
                      clear hB_a
                      go_upto_region 18 with fail
                      go_cut [21, 22] (fun s21 s22 wx => s21 = .int .i64 b1 ∧ s22 = .int .i64 b2 ∧ Lw w wx [(q', [k1, k2]), (p, [k1, k2]), (g, [d1, d2]), (f, [d1, d2]), (b, [x, y]), (a, [sk, sn, sr, sc, sd, se, sf])])
                      case first =>
                        as_aux_lemma =>
                          go_wp2_with (go_at_call 68; (with_reducible refine (ci _).mono ?_); rintro e w' ⟨rfl, hbel⟩; replace hL : Lw w w' [(q', [k1, k2]), (p, [k1, k2]), (g, [d1, d2]), (f, [d1, d2]), (b, [x, y]), (a, [sk, sn, sr, sc, sd, se, sf])] := Lw.below (by (repeat (first | with_reducible assumption | focus ((with_reducible refine Lw.new' ?_ ?_ ?_); rotate_left; (focus rfl); (focus first | rfl | (simp; done))) | with_reducible refine Lw.alloc ?_ _ | with_reducible refine Lw.drew ?_ | with_reducible refine Lw.drewN ?_ _))) hbel; clear hbel)
                          all_goals go_meet
                          all_goals exact ⟨rfl, rfl, (by (repeat (first | with_reducible assumption | focus ((with_reducible refine Lw.new' ?_ ?_ ?_); rotate_left; (focus rfl); (focus first | rfl | (simp; done))) | with_reducible refine Lw.alloc ?_ _ | with_reducible refine Lw.drew ?_ | with_reducible refine Lw.drewN ?_ _)))⟩
                      case rest =>
                        obtain ⟨rfl, rfl, hL⟩ := hcut
                        clear c_q'_0 c_q'_1 l_q' c_p_0 c_p_1 l_p c_g_0 c_g_1 l_g c_f_0 c_f_1 l_f c_b_0 c_b_1 l_b c_a_0 c_a_1 c_a_2 c_a_3 c_a_4 c_a_5 c_a_6 l_a
                        have hB_q' := hL.b (k := q') (l := [k1, k2]) (.head _)
                        have c_q'_0 := hB_q'.cell 0 (k1) rfl
                        have c_q'_1 := hB_q'.cell 1 (k2) rfl
                        have l_q' := hB_q'.lt
                        clear hB_q'
                        have hB_p := hL.b (k := p) (l := [k1, k2]) (.tail _ (.head _))
                        have c_p_0 := hB_p.cell 0 (k1) rfl
                        have c_p_1 := hB_p.cell 1 (k2) rfl
                        have l_p := hB_p.lt
                        clear hB_p
                        have hB_g := hL.b (k := g) (l := [d1, d2]) (.tail _ (.tail _ (.head _)))
                        have c_g_0 := hB_g.cell 0 (d1) rfl
                        have c_g_1 := hB_g.cell 1 (d2) rfl
                        have l_g := hB_g.lt
                        clear hB_g
                        have hB_f := hL.b (k := f) (l := [d1, d2]) (.tail _ (.tail _ (.tail _ (.head _))))
                        have c_f_0 := hB_f.cell 0 (d1) rfl
                        have c_f_1 := hB_f.cell 1 (d2) rfl
                        have l_f := hB_f.lt
                        clear hB_f
                        have hB_b := hL.b (k := b) (l := [x, y]) (.tail _ (.tail _ (.tail _ (.tail _ (.head _)))))
                        have c_b_0 := hB_b.cell 0 (x) rfl
                        have c_b_1 := hB_b.cell 1 (y) rfl
                        have l_b := hB_b.lt
                        clear hB_b
                        have hB_a := hL.b (k := a) (l := [sk, sn, sr, sc, sd, se, sf]) (.tail _ (.tail _ (.tail _ (.tail _ (.tail _ (.head _))))))
                        have c_a_0 := hB_a.cell 0 (sk) rfl
                        have c_a_1 := hB_a.cell 1 (sn) rfl
                        have c_a_2 := hB_a.cell 2 (sr) rfl
                        have c_a_3 := hB_a.cell 3 (sc) rfl
                        have c_a_4 := hB_a.cell 4 (sd) rfl
                        have c_a_5 := hB_a.cell 5 (se) rfl
                        have c_a_6 := hB_a.cell 6 (sf) rfl
                        have l_a := hB_a.lt
                        clear hB_a
                        clear cg ch ci
                        rcases HQ.out with rfl | ⟨rfl, hb⟩
                        · clear HQ HS
                          go_wp2
                          all_goals go_ret
                          all_goals exact ⟨rfl, hL.own.below⟩
                        · have hb2 : (b1 != 2) = true := by simpa using hb
                          clear HQ HS
                          go_wp2
                          all_goals go_ret
                          all_goals exact ⟨ret_bool (by simp [hb]), hL.own.below⟩

theorem own : ownKnob Try.prog.godebug = none := by kernel_rfl
theorem laidOut : laidOutB Try.prog = true := by kernel_rfl
set_option maxRecDepth 100000 in
theorem lifted (os : Os) (started : os.Started) (H : Type) (enc : TypeId × Value → H) :
    ReturnsInHanded {} Try.checked os 13 .any (Rows.fnStopsSpec.pre6 enc Try.prog Try.f13 Rows.fnStopsRow.domain false) (Rows.fnStopsSpec.post enc Try.prog Try.f13 false true false false) := by
  refine returnsInHanded_of_change (C := Try.checked) own started (by kernel_rfl) Try.func13
    (ChangeSpec.witness6 (enc := enc) (C := Try.checked) false ⟨#[], #[.slice none 0 0], []⟩ 8 (by kernel_rfl) (by kernel_rfl) (by kernel_rfl) (by kernel_rfl)) ?_
  intro W base args ds gs before hval0 hW hcnd _
  have hval : ∀ (j : Nat) t v, Try.f13.params[j]? = some t → args[j]? = some v → Value.okWide Try.prog W .any base t v := hval0
  have hW' := hW
  obtain ⟨p, q, hA0, hV, rfl, hfz, hnd⟩ := hW
  have hA : DataW.TrodAll enc Try.prog W 0 (fun _ => true) true Try.f13.params.toList args.toList ds p := hA0
  rw [Try.params13] at hA hval
  obtain ⟨v0, vs0, d0, ds0, pp0, qq0, hargs, rfl, rfl, h0, rr0⟩ := trodAll_cons hA
  obtain ⟨rfl, rfl, rfl⟩ := trodAll_nil rr0
  obtain rfl : args = #[v0] := by cases args; simp_all
  obtain ⟨rfl, rfl⟩ := trodVars_none hV
  have k0_ := h0
  have lt0_ : ∀ x ∈ pp0, x.block < W.heap.size := by obtain ⟨m, hm⟩ := h0; exact DataW.trod_lt m _ _ _ hm
  obtain ⟨p0, len0, cap0, rfl⟩ := okWide_slice Try.underlying35 (hval 0 35 v0 rfl rfl)
  obtain ⟨z0, r0⟩ := open_row (k := .u8) Try.underlying35 Try.underlying5 (by kernel_rfl) h0
  clear hA0 hval0
  refine (walk  W p0 len0 cap0 z0 r0).mono fun e W' ⟨he, bel⟩ => ?_
  subst he
  exact ⟨_, rfl, _, _, _, [], _, [], hW', trodAll_mk1 (shut_bool Try.underlying4 _), (trodAll_cons_mk (Below.trod laidOut (by kernel_rfl) (of_decide_eq_true (by kernel_rfl)) k0_ bel lt0_) trodAll_mk0), rfl, bel.frame _, fun h => by cases h⟩

theorem over : Rows.fnStopsRow.holds Try.pinned (OpenSpec.ofChange Rows.fnStopsSpec) :=
  OpenClaim.holds_of_wide 13 Try.f13 rfl rfl rfl rfl rfl rfl rfl ⟨rfl, rfl, rfl, rfl, rfl⟩ rfl rfl rfl rfl rfl (by kernel_rfl) Try.func13 (by kernel_rfl)
    (of_decide_eq_true (by kernel_rfl)) (by unfold Func.isWrapper; first | (rw [if_pos (by decide +kernel)]; kernel_rfl) | (rw [if_neg (by decide +kernel)]; exact ⟨rfl, rfl⟩))
    (fun os started H enc _ => lifted os started H enc)

/-- the given statement -/
theorem proved : Rows.FnStopsSaid := over
#print axioms proved
end Go.Proofs.Ytafbmhncmbcpjaa.pFnStops
