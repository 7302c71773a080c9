/- The Go function laws.FnIntervalSets returns true for every input and leaves its arguments as they were; no condition. -/
import Derived.Test.YtafbmhncmbcpjaaRows
import Derived.Test.YtafbmhncmbcpjaaBase
import Derived.Test.YtafbmhncmbcpjaaNum
import Derived.Test.YtafbmhncmbcpjaaIv
import Derived.Test.YtafbmhncmbcpjaaIv2
import Derived.Test.YtafbmhncmbcpjaaList
import Derived.Test.YtafbmhncmbcpjaaDraw
import Derived.Test.YtafbmhncmbcpjaaDraw2
import Derived.Test.YtafbmhncmbcpjaaLawKit
import Derived.Lib.Hide
import Derived.WalkKit
import Derived.WalkSpells
import Derived.WalkLawsBesides
import Derived.ProofKit
import Derived.OpenShut
import Derived.ShutString
import Derived.ChangeOld
import Derived.Below
import Derived.Deep.RegionHeld3
import Derived.Deep.DeepCutAuto
namespace Go.Proofs.Ytafbmhncmbcpjaa.pFnIntervalSets
open Go.ChangeShapes Go.WideShapes Go.ChangeAt Go.RowKit
set_option maxHeartbeats 2000000
set_option linter.unusedVariables false
set_option linter.unusedSimpArgs false

theorem within_of {a b c d : Int} (h1 : isIv a b = true) (h2 : isIv c d = true) (h3 : c ≤ a) (h4 : b ≤ d) : withinIv a b c d = true := by
  unfold withinIv; simp [h1, h2, h3, h4]
theorem hull_law {x y z u : Int} (h1 : isIv x y = true) (h2 : isIv z u = true) : ∃ hl hh, hullIv x y z u = (hl, hh, 0) ∧ withinIv x y hl hh = true ∧ withinIv z u hl hh = true := by
  have g1 := isIv_iff.1 h1
  have g2 := isIv_iff.1 h2
  have h3 : isIv (min x z) (max y u) = true := isIv_iff.2 (by omega)
  refine ⟨min x z, max y u, ?_, within_of h1 h3 (by omega) (by omega), within_of h2 h3 (by omega) (by omega)⟩
  unfold hullIv; rw [if_pos ⟨h1, h2⟩]
theorem cmp_ok {x y z u k : Int} (h : cmpIv x y z u = (k, 0)) : isIv x y = true ∧ isIv z u = true := by
  unfold cmpIv at h
  by_cases c : isIv x y = true ∧ isIv z u = true
  · exact c
  · rw [if_neg c] at h
    simp at h
theorem set_law {x y z u : Int} (h1 : isIv x y = true) (h2 : isIv z u = true) :
    (commonIv x y z u = (0, 0, 4) ∧ cmpIv x y z u = (-1, 0)) ∨ (commonIv x y z u = (0, 0, 4) ∧ cmpIv x y z u = (1, 0)) ∨
    ∃ cl ch, commonIv x y z u = (cl, ch, 0) ∧ cmpIv x y z u = (0, 0) ∧ withinIv cl ch x y = true ∧ withinIv cl ch z u = true := by
  have g1 := isIv_iff.1 h1
  have g2 := isIv_iff.1 h2
  by_cases c1 : y < z
  · left
    refine ⟨?_, ?_⟩
    · unfold commonIv; rw [if_pos ⟨h1, h2⟩, if_neg (show ¬ max x z ≤ min y u by omega)]
    · unfold cmpIv; rw [if_pos ⟨h1, h2⟩, if_pos c1]
  · by_cases c2 : u < x
    · right; left
      refine ⟨?_, ?_⟩
      · unfold commonIv; rw [if_pos ⟨h1, h2⟩, if_neg (show ¬ max x z ≤ min y u by omega)]
      · unfold cmpIv; rw [if_pos ⟨h1, h2⟩, if_neg c1, if_pos c2]
    · right; right
      have h3 : isIv (max x z) (min y u) = true := isIv_iff.2 (by omega)
      refine ⟨max x z, min y u, ?_, ?_, within_of h3 h1 (by omega) (by omega), within_of h3 h2 (by omega) (by omega)⟩
      · unfold commonIv; rw [if_pos ⟨h1, h2⟩, if_pos (show max x z ≤ min y u by omega)]
      · unfold cmpIv; rw [if_pos ⟨h1, h2⟩, if_neg c1, if_neg c2]
set_option maxRecDepth 100000 in set_option maxHeartbeats 20000000 in
theorem walk (w : World) (p0 : Option Addr) (len0 cap0 : Nat) (z0 : List Int) (r0 : IsRow .u8 w p0 len0 cap0 z0) :
    Calls Try.prog 10 #[.slice p0 len0 cap0] w fun e w' => e = .returned (.bool true) ∧ Below w.heap.size w w' := by
  have hin := r0.bytes8
  have hn := hin.1
  clear r0
  rcases Bool.eq_false_or_eq_true (decide (4096 < len0)) with hbig | hbig
  · go_enter Try.func10, Try.ntmps10
    go_wp2_with (go_at_call 21; refine (l_big p0 len0 cap0 _ hn).mono ?_; rintro e w' ⟨rfl, rfl⟩; rw [hbig])
    go_ret
    exact ⟨rfl, Below.refl _ _⟩
  · go_enter Try.func10, Try.ntmps10
    go_upto_region 3 with (go_at_call 21; refine (l_big p0 len0 cap0 _ hn).mono ?_; rintro e w' ⟨rfl, rfl⟩; rw [hbig])
    clear hbig
    go_cut [3, 4] (fun s3 s4 wx => ∃ (a b : Nat) (x y z u : Int), s3 = .pointer (some ⟨a, 0, none⟩) ∧ s4 = .pointer (some ⟨b, 0, none⟩) ∧ a < b ∧ Lw w wx [(b, [z, u]), (a, [x, y])])
    case first =>
      go_wp2_with (go_at_call 49; refine (s_DrawCommonPart _ _ _ _ hin).mono ?_; rintro e w' ⟨x, y, z, u, rfl, hB⟩; have hL := Lw.ofBelow hB)
      go_meet
      exact ⟨_, _, x, y, z, u, rfl, rfl, by simp, by (repeat (first | with_reducible assumption | focus ((with_reducible refine Lw.new' ?_ ?_ ?_); rotate_left; (focus rfl); (focus first | rfl | (simp; done))) | with_reducible refine Lw.alloc ?_ _ | with_reducible refine Lw.drew ?_ | with_reducible refine Lw.drewN ?_ _))⟩
    case rest =>
    obtain ⟨a, b, x, y, z, u, rfl, rfl, oab, hL⟩ := hcut
    clear hin hn
    obtain ⟨c1, c2, cc, e1⟩ : ∃ c1 c2 cc, commonIv x y z u = (c1, c2, cc) := ⟨_, _, _, rfl⟩
    obtain ⟨h1, h2, hc, e2⟩ : ∃ h1 h2 hc, hullIv x y z u = (h1, h2, hc) := ⟨_, _, _, rfl⟩
    obtain ⟨k1, k2, e3⟩ : ∃ k1 k2, cmpIv x y z u = (k1, k2) := ⟨_, _, rfl⟩
    obtain ⟨wab, e4⟩ : ∃ wab, withinIv x y z u = wab := ⟨_, rfl⟩
    have cc1 : ∀ w : World, Calls Try.prog 50 #[ivV x y, ivV z u] w fun en w' => en = .returned (ivT (c1, c2, cc)) ∧ Below w.heap.size w w' := fun w => by rw [← e1]; exact i_CommonPart x y z u w
    have cd : ∀ w : World, Calls Try.prog 51 #[ivV x y, ivV z u] w fun en w' => en = .returned (ivT (c1, c2, cc)) ∧ Below w.heap.size w w' := fun w => by rw [← e1]; exact s_CommonPart x y z u w
    have ch : ∀ w : World, Calls Try.prog 52 #[ivV x y, ivV z u] w fun en w' => en = .returned (ivT (h1, h2, hc)) ∧ Below w.heap.size w w' := fun w => by rw [← e2]; exact i_HullOf x y z u w
    have ci : ∀ w : World, Calls Try.prog 53 #[ivV x y, ivV z u] w fun en w' => en = .returned (ivT (h1, h2, hc)) ∧ Below w.heap.size w w' := fun w => by rw [← e2]; exact s_HullOf x y z u w
    have ck : ∀ w : World, Calls Try.prog 54 #[ivV x y, ivV z u] w fun en w' => en = .returned (p2 (k1, k2)) ∧ Below w.heap.size w w' := fun w => by rw [← e3]; exact i_CompareIntervals x y z u w
    have cl : ∀ w : World, Calls Try.prog 55 #[ivV x y, ivV z u] w fun en w' => en = .returned (p2 (k1, k2)) ∧ Below w.heap.size w w' := fun w => by rw [← e3]; exact s_CompareIntervals x y z u w
    have cw : ∀ w : World, Calls Try.prog 41 #[ivV x y, ivV z u] w fun en w' => en = .returned (.bool wab) ∧ Below w.heap.size w w' := fun w => by rw [← e4]; exact i_IsWithin x y z u w
    have cv : ∀ w : World, Calls Try.prog 56 #[ivV x y, ivV z u] w fun en w' => en = .returned (.bool wab) ∧ Below w.heap.size w w' := fun w => by rw [← e4]; exact s_IsWithin x y z u w
    have E := Lib.hid (And.intro e1 (And.intro e2 e3))
    clear e1 e2 e3 e4
    have hB_b := hL.b (k := b) (l := [z, u]) (.head _)
    have c_b_0 := hB_b.cell 0 (z) rfl
    have c_b_1 := hB_b.cell 1 (u) rfl
    have l_b := hB_b.lt
    clear hB_b
    have hB_a := hL.b (k := a) (l := [x, y]) (.tail _ (.head _))
    have c_a_0 := hB_a.cell 0 (x) rfl
    have c_a_1 := hB_a.cell 1 (y) rfl
    have l_a := hB_a.lt
    clear hB_a
    go_upto_region 4 with fail
    go_cut [5, 6] (fun s5 s6 wx => ∃ c : Nat, s5 = .pointer (some ⟨c, 0, none⟩) ∧ s6 = .int .i64 (cc) ∧ b < c ∧ Lw w wx [(c, [c1, c2]), (b, [z, u]), (a, [x, y])])
    case first =>
      as_aux_lemma =>
        go_wp2_with (go_at_call 50; (with_reducible refine (cc1 _).mono ?_); rintro e w' ⟨rfl, hbel⟩; replace hL : Lw w w' [(b, [z, u]), (a, [x, y])] := Lw.below (by (repeat (first | with_reducible assumption | focus ((with_reducible refine Lw.new' ?_ ?_ ?_); rotate_left; (focus rfl); (focus first | rfl | (simp; done))) | with_reducible refine Lw.alloc ?_ _ | with_reducible refine Lw.drew ?_ | with_reducible refine Lw.drewN ?_ _))) hbel; clear hbel)
        all_goals go_meet
        all_goals exact ⟨_, rfl, rfl, (by first | omega | (simp; omega) | (have := Blk.lt (hL.b (.head _)); simp; omega)), (by (repeat (first | with_reducible assumption | focus ((with_reducible refine Lw.new' ?_ ?_ ?_); rotate_left; (focus rfl); (focus first | rfl | (simp; done))) | with_reducible refine Lw.alloc ?_ _ | with_reducible refine Lw.drew ?_ | with_reducible refine Lw.drewN ?_ _)))⟩
    case rest =>
      obtain ⟨c, rfl, rfl, o_c, hL⟩ := hcut
      clear c_b_0 c_b_1 l_b c_a_0 c_a_1 l_a
      have hB_c := hL.b (k := c) (l := [c1, c2]) (.head _)
      have c_c_0 := hB_c.cell 0 (c1) rfl
      have c_c_1 := hB_c.cell 1 (c2) rfl
      have l_c := hB_c.lt
      clear hB_c
      have hB_b := hL.b (k := b) (l := [z, u]) (.tail _ (.head _))
      have c_b_0 := hB_b.cell 0 (z) rfl
      have c_b_1 := hB_b.cell 1 (u) rfl
      have l_b := hB_b.lt
      clear hB_b
      have hB_a := hL.b (k := a) (l := [x, y]) (.tail _ (.tail _ (.head _)))
      have c_a_0 := hB_a.cell 0 (x) rfl
      have c_a_1 := hB_a.cell 1 (y) rfl
      have l_a := hB_a.lt
      clear hB_a
      go_upto_region 5 with fail
      go_cut [7, 8] (fun s7 s8 wx => ∃ m : Nat, s7 = .pointer (some ⟨m, 0, none⟩) ∧ s8 = .int .i64 (cc) ∧ c < m ∧ Lw w wx [(m, [c1, c2]), (c, [c1, c2]), (b, [z, u]), (a, [x, y])])
      case first =>
        as_aux_lemma =>
          go_wp2_with (go_at_call 51; (with_reducible refine (cd _).mono ?_); rintro e w' ⟨rfl, hbel⟩; replace hL : Lw w w' [(c, [c1, c2]), (b, [z, u]), (a, [x, y])] := Lw.below (by (repeat (first | with_reducible assumption | focus ((with_reducible refine Lw.new' ?_ ?_ ?_); rotate_left; (focus rfl); (focus first | rfl | (simp; done))) | with_reducible refine Lw.alloc ?_ _ | with_reducible refine Lw.drew ?_ | with_reducible refine Lw.drewN ?_ _))) hbel; clear hbel)
          all_goals go_meet
          all_goals exact ⟨_, rfl, rfl, (by first | omega | (simp; omega) | (have := Blk.lt (hL.b (.head _)); simp; omega)), (by (repeat (first | with_reducible assumption | focus ((with_reducible refine Lw.new' ?_ ?_ ?_); rotate_left; (focus rfl); (focus first | rfl | (simp; done))) | with_reducible refine Lw.alloc ?_ _ | with_reducible refine Lw.drew ?_ | with_reducible refine Lw.drewN ?_ _)))⟩
      case rest =>
        obtain ⟨m, rfl, rfl, o_m, hL⟩ := hcut
        clear c_c_0 c_c_1 l_c c_b_0 c_b_1 l_b c_a_0 c_a_1 l_a
        have hB_m := hL.b (k := m) (l := [c1, c2]) (.head _)
        have c_m_0 := hB_m.cell 0 (c1) rfl
        have c_m_1 := hB_m.cell 1 (c2) rfl
        have l_m := hB_m.lt
        clear hB_m
        have hB_c := hL.b (k := c) (l := [c1, c2]) (.tail _ (.head _))
        have c_c_0 := hB_c.cell 0 (c1) rfl
        have c_c_1 := hB_c.cell 1 (c2) rfl
        have l_c := hB_c.lt
        clear hB_c
        have hB_b := hL.b (k := b) (l := [z, u]) (.tail _ (.tail _ (.head _)))
        have c_b_0 := hB_b.cell 0 (z) rfl
        have c_b_1 := hB_b.cell 1 (u) rfl
        have l_b := hB_b.lt
        clear hB_b
        have hB_a := hL.b (k := a) (l := [x, y]) (.tail _ (.tail _ (.tail _ (.head _))))
        have c_a_0 := hB_a.cell 0 (x) rfl
        have c_a_1 := hB_a.cell 1 (y) rfl
        have l_a := hB_a.lt
        clear hB_a
        go_upto_region 6 with fail
        go_cut [9, 10] (fun s9 s10 wx => ∃ h : Nat, s9 = .pointer (some ⟨h, 0, none⟩) ∧ s10 = .int .i64 (hc) ∧ m < h ∧ Lw w wx [(h, [h1, h2]), (m, [c1, c2]), (c, [c1, c2]), (b, [z, u]), (a, [x, y])])
        case first =>
          as_aux_lemma =>
            go_wp2_with (go_at_call 52; (with_reducible refine (ch _).mono ?_); rintro e w' ⟨rfl, hbel⟩; replace hL : Lw w w' [(m, [c1, c2]), (c, [c1, c2]), (b, [z, u]), (a, [x, y])] := Lw.below (by (repeat (first | with_reducible assumption | focus ((with_reducible refine Lw.new' ?_ ?_ ?_); rotate_left; (focus rfl); (focus first | rfl | (simp; done))) | with_reducible refine Lw.alloc ?_ _ | with_reducible refine Lw.drew ?_ | with_reducible refine Lw.drewN ?_ _))) hbel; clear hbel)
            all_goals go_meet
            all_goals exact ⟨_, rfl, rfl, (by first | omega | (simp; omega) | (have := Blk.lt (hL.b (.head _)); simp; omega)), (by (repeat (first | with_reducible assumption | focus ((with_reducible refine Lw.new' ?_ ?_ ?_); rotate_left; (focus rfl); (focus first | rfl | (simp; done))) | with_reducible refine Lw.alloc ?_ _ | with_reducible refine Lw.drew ?_ | with_reducible refine Lw.drewN ?_ _)))⟩
        case rest =>
          obtain ⟨h, rfl, rfl, o_h, hL⟩ := hcut
          clear c_m_0 c_m_1 l_m c_c_0 c_c_1 l_c c_b_0 c_b_1 l_b c_a_0 c_a_1 l_a
          have hB_h := hL.b (k := h) (l := [h1, h2]) (.head _)
          have c_h_0 := hB_h.cell 0 (h1) rfl
          have c_h_1 := hB_h.cell 1 (h2) rfl
          have l_h := hB_h.lt
          clear hB_h
          have hB_m := hL.b (k := m) (l := [c1, c2]) (.tail _ (.head _))
          have c_m_0 := hB_m.cell 0 (c1) rfl
          have c_m_1 := hB_m.cell 1 (c2) rfl
          have l_m := hB_m.lt
          clear hB_m
          have hB_c := hL.b (k := c) (l := [c1, c2]) (.tail _ (.tail _ (.head _)))
          have c_c_0 := hB_c.cell 0 (c1) rfl
          have c_c_1 := hB_c.cell 1 (c2) rfl
          have l_c := hB_c.lt
          clear hB_c
          have hB_b := hL.b (k := b) (l := [z, u]) (.tail _ (.tail _ (.tail _ (.head _))))
          have c_b_0 := hB_b.cell 0 (z) rfl
          have c_b_1 := hB_b.cell 1 (u) rfl
          have l_b := hB_b.lt
          clear hB_b
          have hB_a := hL.b (k := a) (l := [x, y]) (.tail _ (.tail _ (.tail _ (.tail _ (.head _)))))
          have c_a_0 := hB_a.cell 0 (x) rfl
          have c_a_1 := hB_a.cell 1 (y) rfl
          have l_a := hB_a.lt
          clear hB_a
          go_upto_region 7 with fail
          go_cut [11, 12] (fun s11 s12 wx => ∃ r : Nat, s11 = .pointer (some ⟨r, 0, none⟩) ∧ s12 = .int .i64 (hc) ∧ h < r ∧ Lw w wx [(r, [h1, h2]), (h, [h1, h2]), (m, [c1, c2]), (c, [c1, c2]), (b, [z, u]), (a, [x, y])])
          case first =>
            as_aux_lemma =>
              go_wp2_with (go_at_call 53; (with_reducible refine (ci _).mono ?_); rintro e w' ⟨rfl, hbel⟩; replace hL : Lw w w' [(h, [h1, h2]), (m, [c1, c2]), (c, [c1, c2]), (b, [z, u]), (a, [x, y])] := Lw.below (by (repeat (first | with_reducible assumption | focus ((with_reducible refine Lw.new' ?_ ?_ ?_); rotate_left; (focus rfl); (focus first | rfl | (simp; done))) | with_reducible refine Lw.alloc ?_ _ | with_reducible refine Lw.drew ?_ | with_reducible refine Lw.drewN ?_ _))) hbel; clear hbel)
              all_goals go_meet
              all_goals exact ⟨_, rfl, rfl, (by first | omega | (simp; omega) | (have := Blk.lt (hL.b (.head _)); simp; omega)), (by (repeat (first | with_reducible assumption | focus ((with_reducible refine Lw.new' ?_ ?_ ?_); rotate_left; (focus rfl); (focus first | rfl | (simp; done))) | with_reducible refine Lw.alloc ?_ _ | with_reducible refine Lw.drew ?_ | with_reducible refine Lw.drewN ?_ _)))⟩
          case rest =>
            obtain ⟨r, rfl, rfl, o_r, hL⟩ := hcut
            clear c_h_0 c_h_1 l_h c_m_0 c_m_1 l_m c_c_0 c_c_1 l_c c_b_0 c_b_1 l_b c_a_0 c_a_1 l_a
            have hB_r := hL.b (k := r) (l := [h1, h2]) (.head _)
            have c_r_0 := hB_r.cell 0 (h1) rfl
            have c_r_1 := hB_r.cell 1 (h2) rfl
            have l_r := hB_r.lt
            clear hB_r
            have hB_h := hL.b (k := h) (l := [h1, h2]) (.tail _ (.head _))
            have c_h_0 := hB_h.cell 0 (h1) rfl
            have c_h_1 := hB_h.cell 1 (h2) rfl
            have l_h := hB_h.lt
            clear hB_h
            have hB_m := hL.b (k := m) (l := [c1, c2]) (.tail _ (.tail _ (.head _)))
            have c_m_0 := hB_m.cell 0 (c1) rfl
            have c_m_1 := hB_m.cell 1 (c2) rfl
            have l_m := hB_m.lt
            clear hB_m
            have hB_c := hL.b (k := c) (l := [c1, c2]) (.tail _ (.tail _ (.tail _ (.head _))))
            have c_c_0 := hB_c.cell 0 (c1) rfl
            have c_c_1 := hB_c.cell 1 (c2) rfl
            have l_c := hB_c.lt
            clear hB_c
            have hB_b := hL.b (k := b) (l := [z, u]) (.tail _ (.tail _ (.tail _ (.tail _ (.head _)))))
            have c_b_0 := hB_b.cell 0 (z) rfl
            have c_b_1 := hB_b.cell 1 (u) rfl
            have l_b := hB_b.lt
            clear hB_b
            have hB_a := hL.b (k := a) (l := [x, y]) (.tail _ (.tail _ (.tail _ (.tail _ (.tail _ (.head _))))))
            have c_a_0 := hB_a.cell 0 (x) rfl
            have c_a_1 := hB_a.cell 1 (y) rfl
            have l_a := hB_a.lt
            clear hB_a
            go_upto_region 8 with fail
            go_cut [13, 14] (fun s13 s14 wx => s13 = .int .i64 (k1) ∧ s14 = .int .i64 (k2) ∧ Lw w wx [(r, [h1, h2]), (h, [h1, h2]), (m, [c1, c2]), (c, [c1, c2]), (b, [z, u]), (a, [x, y])])
            case first =>
              as_aux_lemma =>
                go_wp2_with (go_at_call 54; (with_reducible refine (ck _).mono ?_); rintro e w' ⟨rfl, hbel⟩; replace hL : Lw w w' [(r, [h1, h2]), (h, [h1, h2]), (m, [c1, c2]), (c, [c1, c2]), (b, [z, u]), (a, [x, y])] := Lw.below (by (repeat (first | with_reducible assumption | focus ((with_reducible refine Lw.new' ?_ ?_ ?_); rotate_left; (focus rfl); (focus first | rfl | (simp; done))) | with_reducible refine Lw.alloc ?_ _ | with_reducible refine Lw.drew ?_ | with_reducible refine Lw.drewN ?_ _))) hbel; clear hbel)
                all_goals go_meet
                all_goals exact ⟨rfl, rfl, (by (repeat (first | with_reducible assumption | focus ((with_reducible refine Lw.new' ?_ ?_ ?_); rotate_left; (focus rfl); (focus first | rfl | (simp; done))) | with_reducible refine Lw.alloc ?_ _ | with_reducible refine Lw.drew ?_ | with_reducible refine Lw.drewN ?_ _)))⟩
            case rest =>
              obtain ⟨rfl, rfl, hL⟩ := hcut
              clear c_r_0 c_r_1 l_r c_h_0 c_h_1 l_h c_m_0 c_m_1 l_m c_c_0 c_c_1 l_c c_b_0 c_b_1 l_b c_a_0 c_a_1 l_a
              have hB_r := hL.b (k := r) (l := [h1, h2]) (.head _)
              have c_r_0 := hB_r.cell 0 (h1) rfl
              have c_r_1 := hB_r.cell 1 (h2) rfl
              have l_r := hB_r.lt
              clear hB_r
              have hB_h := hL.b (k := h) (l := [h1, h2]) (.tail _ (.head _))
              have c_h_0 := hB_h.cell 0 (h1) rfl
              have c_h_1 := hB_h.cell 1 (h2) rfl
              have l_h := hB_h.lt
              clear hB_h
              have hB_m := hL.b (k := m) (l := [c1, c2]) (.tail _ (.tail _ (.head _)))
              have c_m_0 := hB_m.cell 0 (c1) rfl
              have c_m_1 := hB_m.cell 1 (c2) rfl
              have l_m := hB_m.lt
              clear hB_m
              have hB_c := hL.b (k := c) (l := [c1, c2]) (.tail _ (.tail _ (.tail _ (.head _))))
              have c_c_0 := hB_c.cell 0 (c1) rfl
              have c_c_1 := hB_c.cell 1 (c2) rfl
              have l_c := hB_c.lt
              clear hB_c
              have hB_b := hL.b (k := b) (l := [z, u]) (.tail _ (.tail _ (.tail _ (.tail _ (.head _)))))
              have c_b_0 := hB_b.cell 0 (z) rfl
              have c_b_1 := hB_b.cell 1 (u) rfl
              have l_b := hB_b.lt
              clear hB_b
              have hB_a := hL.b (k := a) (l := [x, y]) (.tail _ (.tail _ (.tail _ (.tail _ (.tail _ (.head _))))))
              have c_a_0 := hB_a.cell 0 (x) rfl
              have c_a_1 := hB_a.cell 1 (y) rfl
              have l_a := hB_a.lt
              clear hB_a
              go_upto_region 9 with fail
              go_cut [15, 16] (fun s15 s16 wx => s15 = .int .i64 (k1) ∧ s16 = .int .i64 (k2) ∧ Lw w wx [(r, [h1, h2]), (h, [h1, h2]), (m, [c1, c2]), (c, [c1, c2]), (b, [z, u]), (a, [x, y])])
              case first =>
                as_aux_lemma =>
                  go_wp2_with (go_at_call 55; (with_reducible refine (cl _).mono ?_); rintro e w' ⟨rfl, hbel⟩; replace hL : Lw w w' [(r, [h1, h2]), (h, [h1, h2]), (m, [c1, c2]), (c, [c1, c2]), (b, [z, u]), (a, [x, y])] := Lw.below (by (repeat (first | with_reducible assumption | focus ((with_reducible refine Lw.new' ?_ ?_ ?_); rotate_left; (focus rfl); (focus first | rfl | (simp; done))) | with_reducible refine Lw.alloc ?_ _ | with_reducible refine Lw.drew ?_ | with_reducible refine Lw.drewN ?_ _))) hbel; clear hbel)
                  all_goals go_meet
                  all_goals exact ⟨rfl, rfl, (by (repeat (first | with_reducible assumption | focus ((with_reducible refine Lw.new' ?_ ?_ ?_); rotate_left; (focus rfl); (focus first | rfl | (simp; done))) | with_reducible refine Lw.alloc ?_ _ | with_reducible refine Lw.drew ?_ | with_reducible refine Lw.drewN ?_ _)))⟩
              case rest =>
                obtain ⟨rfl, rfl, hL⟩ := hcut
                clear c_r_0 c_r_1 l_r c_h_0 c_h_1 l_h c_m_0 c_m_1 l_m c_c_0 c_c_1 l_c c_b_0 c_b_1 l_b c_a_0 c_a_1 l_a
                have hB_r := hL.b (k := r) (l := [h1, h2]) (.head _)
                have c_r_0 := hB_r.cell 0 (h1) rfl
                have c_r_1 := hB_r.cell 1 (h2) rfl
                have l_r := hB_r.lt
                clear hB_r
                have hB_h := hL.b (k := h) (l := [h1, h2]) (.tail _ (.head _))
                have c_h_0 := hB_h.cell 0 (h1) rfl
                have c_h_1 := hB_h.cell 1 (h2) rfl
                have l_h := hB_h.lt
                clear hB_h
                have hB_m := hL.b (k := m) (l := [c1, c2]) (.tail _ (.tail _ (.head _)))
                have c_m_0 := hB_m.cell 0 (c1) rfl
                have c_m_1 := hB_m.cell 1 (c2) rfl
                have l_m := hB_m.lt
                clear hB_m
                have hB_c := hL.b (k := c) (l := [c1, c2]) (.tail _ (.tail _ (.tail _ (.head _))))
                have c_c_0 := hB_c.cell 0 (c1) rfl
                have c_c_1 := hB_c.cell 1 (c2) rfl
                have l_c := hB_c.lt
                clear hB_c
                have hB_b := hL.b (k := b) (l := [z, u]) (.tail _ (.tail _ (.tail _ (.tail _ (.head _)))))
                have c_b_0 := hB_b.cell 0 (z) rfl
                have c_b_1 := hB_b.cell 1 (u) rfl
                have l_b := hB_b.lt
                clear hB_b
                have hB_a := hL.b (k := a) (l := [x, y]) (.tail _ (.tail _ (.tail _ (.tail _ (.tail _ (.head _))))))
                have c_a_0 := hB_a.cell 0 (x) rfl
                have c_a_1 := hB_a.cell 1 (y) rfl
                have l_a := hB_a.lt
                clear hB_a
                go_upto_region 10 with fail
                go_cut [96] (fun s96 wx => s96 = .bool false ∧ Lw w wx [(r, [h1, h2]), (h, [h1, h2]), (m, [c1, c2]), (c, [c1, c2]), (b, [z, u]), (a, [x, y])])
                case first =>
                  as_aux_lemma =>
                    go_region_held3 (fun W => W.cell? ⟨r, 0, none⟩ = some (.int .i64 (h1)) ∧ W.cell? ⟨r, 1, none⟩ = some (.int .i64 (h2)) ∧ W.cell? ⟨h, 0, none⟩ = some (.int .i64 (h1)) ∧ W.cell? ⟨h, 1, none⟩ = some (.int .i64 (h2)) ∧ W.cell? ⟨m, 0, none⟩ = some (.int .i64 (c1)) ∧ W.cell? ⟨m, 1, none⟩ = some (.int .i64 (c2)) ∧ W.cell? ⟨c, 0, none⟩ = some (.int .i64 (c1)) ∧ W.cell? ⟨c, 1, none⟩ = some (.int .i64 (c2)) ∧ W.cell? ⟨b, 0, none⟩ = some (.int .i64 (z)) ∧ W.cell? ⟨b, 1, none⟩ = some (.int .i64 (u)) ∧ W.cell? ⟨a, 0, none⟩ = some (.int .i64 (x)) ∧ W.cell? ⟨a, 1, none⟩ = some (.int .i64 (y))) (first | (go_simp; done) | go_keep) (first | (go_at_call 41; (with_reducible refine (cw _).mono ?_); rintro e w' ⟨rfl, hbel⟩; replace hL : Lw w w' [(r, [h1, h2]), (h, [h1, h2]), (m, [c1, c2]), (c, [c1, c2]), (b, [z, u]), (a, [x, y])] := Lw.below (by (repeat (first | with_reducible assumption | focus ((with_reducible refine Lw.new' ?_ ?_ ?_); rotate_left; (focus rfl); (focus first | rfl | (simp; done))) | with_reducible refine Lw.alloc ?_ _ | with_reducible refine Lw.drew ?_ | with_reducible refine Lw.drewN ?_ _))) hbel; clear hbel; (try clear c_r_0 c_r_1 l_r c_h_0 c_h_1 l_h c_m_0 c_m_1 l_m c_c_0 c_c_1 l_c c_b_0 c_b_1 l_b c_a_0 c_a_1 l_a); have hB_r := hL.b (k := r) (l := [h1, h2]) (.head _); have c_r_0 := hB_r.cell 0 (h1) rfl; have c_r_1 := hB_r.cell 1 (h2) rfl; have l_r := hB_r.lt; clear hB_r; have hB_h := hL.b (k := h) (l := [h1, h2]) (.tail _ (.head _)); have c_h_0 := hB_h.cell 0 (h1) rfl; have c_h_1 := hB_h.cell 1 (h2) rfl; have l_h := hB_h.lt; clear hB_h; have hB_m := hL.b (k := m) (l := [c1, c2]) (.tail _ (.tail _ (.head _))); have c_m_0 := hB_m.cell 0 (c1) rfl; have c_m_1 := hB_m.cell 1 (c2) rfl; have l_m := hB_m.lt; clear hB_m; have hB_c := hL.b (k := c) (l := [c1, c2]) (.tail _ (.tail _ (.tail _ (.head _)))); have c_c_0 := hB_c.cell 0 (c1) rfl; have c_c_1 := hB_c.cell 1 (c2) rfl; have l_c := hB_c.lt; clear hB_c; have hB_b := hL.b (k := b) (l := [z, u]) (.tail _ (.tail _ (.tail _ (.tail _ (.head _))))); have c_b_0 := hB_b.cell 0 (z) rfl; have c_b_1 := hB_b.cell 1 (u) rfl; have l_b := hB_b.lt; clear hB_b; have hB_a := hL.b (k := a) (l := [x, y]) (.tail _ (.tail _ (.tail _ (.tail _ (.tail _ (.head _)))))); have c_a_0 := hB_a.cell 0 (x) rfl; have c_a_1 := hB_a.cell 1 (y) rfl; have l_a := hB_a.lt; clear hB_a) | (go_at_call 56; (with_reducible refine (cv _).mono ?_); rintro e w' ⟨rfl, hbel⟩; replace hL : Lw w w' [(r, [h1, h2]), (h, [h1, h2]), (m, [c1, c2]), (c, [c1, c2]), (b, [z, u]), (a, [x, y])] := Lw.below (by (repeat (first | with_reducible assumption | focus ((with_reducible refine Lw.new' ?_ ?_ ?_); rotate_left; (focus rfl); (focus first | rfl | (simp; done))) | with_reducible refine Lw.alloc ?_ _ | with_reducible refine Lw.drew ?_ | with_reducible refine Lw.drewN ?_ _))) hbel; clear hbel; (try clear c_r_0 c_r_1 l_r c_h_0 c_h_1 l_h c_m_0 c_m_1 l_m c_c_0 c_c_1 l_c c_b_0 c_b_1 l_b c_a_0 c_a_1 l_a); have hB_r := hL.b (k := r) (l := [h1, h2]) (.head _); have c_r_0 := hB_r.cell 0 (h1) rfl; have c_r_1 := hB_r.cell 1 (h2) rfl; have l_r := hB_r.lt; clear hB_r; have hB_h := hL.b (k := h) (l := [h1, h2]) (.tail _ (.head _)); have c_h_0 := hB_h.cell 0 (h1) rfl; have c_h_1 := hB_h.cell 1 (h2) rfl; have l_h := hB_h.lt; clear hB_h; have hB_m := hL.b (k := m) (l := [c1, c2]) (.tail _ (.tail _ (.head _))); have c_m_0 := hB_m.cell 0 (c1) rfl; have c_m_1 := hB_m.cell 1 (c2) rfl; have l_m := hB_m.lt; clear hB_m; have hB_c := hL.b (k := c) (l := [c1, c2]) (.tail _ (.tail _ (.tail _ (.head _)))); have c_c_0 := hB_c.cell 0 (c1) rfl; have c_c_1 := hB_c.cell 1 (c2) rfl; have l_c := hB_c.lt; clear hB_c; have hB_b := hL.b (k := b) (l := [z, u]) (.tail _ (.tail _ (.tail _ (.tail _ (.head _))))); have c_b_0 := hB_b.cell 0 (z) rfl; have c_b_1 := hB_b.cell 1 (u) rfl; have l_b := hB_b.lt; clear hB_b; have hB_a := hL.b (k := a) (l := [x, y]) (.tail _ (.tail _ (.tail _ (.tail _ (.tail _ (.head _)))))); have c_a_0 := hB_a.cell 0 (x) rfl; have c_a_1 := hB_a.cell 1 (y) rfl; have l_a := hB_a.lt; clear hB_a))
                    all_goals (go_wp2; go_meet)
                    all_goals exact ⟨rfl, (by (repeat (first | with_reducible assumption | focus ((with_reducible refine Lw.new' ?_ ?_ ?_); rotate_left; (focus rfl); (focus first | rfl | (simp; done))) | with_reducible refine Lw.alloc ?_ _ | with_reducible refine Lw.drew ?_ | with_reducible refine Lw.drewN ?_ _)))⟩
                case rest =>
                  obtain ⟨rfl, hL⟩ := hcut
                  clear c_r_0 c_r_1 l_r c_h_0 c_h_1 l_h c_m_0 c_m_1 l_m c_c_0 c_c_1 l_c c_b_0 c_b_1 l_b c_a_0 c_a_1 l_a
                  have hB_r := hL.b (k := r) (l := [h1, h2]) (.head _)
                  have c_r_0 := hB_r.cell 0 (h1) rfl
                  have c_r_1 := hB_r.cell 1 (h2) rfl
                  have l_r := hB_r.lt
                  clear hB_r
                  have hB_h := hL.b (k := h) (l := [h1, h2]) (.tail _ (.head _))
                  have c_h_0 := hB_h.cell 0 (h1) rfl
                  have c_h_1 := hB_h.cell 1 (h2) rfl
                  have l_h := hB_h.lt
                  clear hB_h
                  have hB_m := hL.b (k := m) (l := [c1, c2]) (.tail _ (.tail _ (.head _)))
                  have c_m_0 := hB_m.cell 0 (c1) rfl
                  have c_m_1 := hB_m.cell 1 (c2) rfl
                  have l_m := hB_m.lt
                  clear hB_m
                  have hB_c := hL.b (k := c) (l := [c1, c2]) (.tail _ (.tail _ (.tail _ (.head _))))
                  have c_c_0 := hB_c.cell 0 (c1) rfl
                  have c_c_1 := hB_c.cell 1 (c2) rfl
                  have l_c := hB_c.lt
                  clear hB_c
                  have hB_b := hL.b (k := b) (l := [z, u]) (.tail _ (.tail _ (.tail _ (.tail _ (.head _)))))
                  have c_b_0 := hB_b.cell 0 (z) rfl
                  have c_b_1 := hB_b.cell 1 (u) rfl
                  have l_b := hB_b.lt
                  clear hB_b
                  have hB_a := hL.b (k := a) (l := [x, y]) (.tail _ (.tail _ (.tail _ (.tail _ (.tail _ (.head _))))))
                  have c_a_0 := hB_a.cell 0 (x) rfl
                  have c_a_1 := hB_a.cell 1 (y) rfl
                  have l_a := hB_a.lt
                  clear hB_a
                  clear cc1 cd ch ci ck cl cw cv
                  by_cases hk : k2 = 0
                  case neg =>
                    go_wp2
                    go_ret
                    exact ⟨rfl, hL.own.below⟩
                  case pos =>
                  subst hk
                  obtain ⟨e1, e2, e3⟩ := E.out
                  obtain ⟨g1, g2⟩ := cmp_ok e3
                  obtain ⟨hl, hh, e4, f1, f2⟩ := hull_law g1 g2
                  rw [e2] at e4
                  simp only [Prod.mk.injEq] at e4
                  obtain ⟨rfl, rfl, rfl⟩ := e4
                  have cf1 : ∀ w : World, Calls Try.prog 41 #[ivV x y, ivV h1 h2] w fun en w' => en = .returned (.bool true) ∧ Below w.heap.size w w' := fun w => by rw [← f1]; exact i_IsWithin x y _ _ w
                  have cf2 : ∀ w : World, Calls Try.prog 41 #[ivV z u, ivV h1 h2] w fun en w' => en = .returned (.bool true) ∧ Below w.heap.size w w' := fun w => by rw [← f2]; exact i_IsWithin z u _ _ w
                  have hs := set_law g1 g2
                  rw [e1, e3] at hs
                  simp only [Prod.mk.injEq] at hs
                  clear e1 e2 e3 f1 f2
                  have hd : (k1 == 0) = (cc == 0) := by rcases hs with ⟨⟨rfl, rfl, rfl⟩, rfl, _⟩ | ⟨⟨rfl, rfl, rfl⟩, rfl, _⟩ | ⟨cl, ch, ⟨rfl, rfl, rfl⟩, ⟨rfl, _⟩, _⟩ <;> rfl
                  have hw : ¬ cc = 0 ∨ (cc = 0 ∧ withinIv c1 c2 x y = true ∧ withinIv c1 c2 z u = true) := by rcases hs with ⟨⟨rfl, rfl, rfl⟩, rfl, _⟩ | ⟨⟨rfl, rfl, rfl⟩, rfl, _⟩ | ⟨cl, ch, ⟨rfl, rfl, rfl⟩, ⟨rfl, _⟩, w1, w2⟩ <;> first | exact .inr ⟨rfl, w1, w2⟩ | exact .inl (by omega)
                  clear hs
                  rcases hw with hc | ⟨rfl, f3, f4⟩
                  · have hd1 : (cc == 0) = false := by simpa using hc
                    rw [hd1] at hd
                    go_upto_region 14 with fail
                    go_cut [115] (fun s115 wx => s115 = .bool false ∧ Lw w wx [(r, [h1, h2]), (h, [h1, h2]), (m, [c1, c2]), (c, [c1, c2]), (b, [z, u]), (a, [x, y])])
                    case first =>
                      as_aux_lemma =>
                        go_wp2_with first | (go_at_call 41; (with_reducible refine (cf1 _).mono ?_); rintro e w' ⟨rfl, hbel⟩; replace hL : Lw w w' [(r, [h1, h2]), (h, [h1, h2]), (m, [c1, c2]), (c, [c1, c2]), (b, [z, u]), (a, [x, y])] := Lw.below (by (repeat (first | with_reducible assumption | focus ((with_reducible refine Lw.new' ?_ ?_ ?_); rotate_left; (focus rfl); (focus first | rfl | (simp; done))) | with_reducible refine Lw.alloc ?_ _ | with_reducible refine Lw.drew ?_ | with_reducible refine Lw.drewN ?_ _))) hbel; clear hbel; (try clear c_r_0 c_r_1 l_r c_h_0 c_h_1 l_h c_m_0 c_m_1 l_m c_c_0 c_c_1 l_c c_b_0 c_b_1 l_b c_a_0 c_a_1 l_a); have hB_r := hL.b (k := r) (l := [h1, h2]) (.head _); have c_r_0 := hB_r.cell 0 (h1) rfl; have c_r_1 := hB_r.cell 1 (h2) rfl; have l_r := hB_r.lt; clear hB_r; have hB_h := hL.b (k := h) (l := [h1, h2]) (.tail _ (.head _)); have c_h_0 := hB_h.cell 0 (h1) rfl; have c_h_1 := hB_h.cell 1 (h2) rfl; have l_h := hB_h.lt; clear hB_h; have hB_m := hL.b (k := m) (l := [c1, c2]) (.tail _ (.tail _ (.head _))); have c_m_0 := hB_m.cell 0 (c1) rfl; have c_m_1 := hB_m.cell 1 (c2) rfl; have l_m := hB_m.lt; clear hB_m; have hB_c := hL.b (k := c) (l := [c1, c2]) (.tail _ (.tail _ (.tail _ (.head _)))); have c_c_0 := hB_c.cell 0 (c1) rfl; have c_c_1 := hB_c.cell 1 (c2) rfl; have l_c := hB_c.lt; clear hB_c; have hB_b := hL.b (k := b) (l := [z, u]) (.tail _ (.tail _ (.tail _ (.tail _ (.head _))))); have c_b_0 := hB_b.cell 0 (z) rfl; have c_b_1 := hB_b.cell 1 (u) rfl; have l_b := hB_b.lt; clear hB_b; have hB_a := hL.b (k := a) (l := [x, y]) (.tail _ (.tail _ (.tail _ (.tail _ (.tail _ (.head _)))))); have c_a_0 := hB_a.cell 0 (x) rfl; have c_a_1 := hB_a.cell 1 (y) rfl; have l_a := hB_a.lt; clear hB_a) | (go_at_call 41; (with_reducible refine (cf2 _).mono ?_); rintro e w' ⟨rfl, hbel⟩; replace hL : Lw w w' [(r, [h1, h2]), (h, [h1, h2]), (m, [c1, c2]), (c, [c1, c2]), (b, [z, u]), (a, [x, y])] := Lw.below (by (repeat (first | with_reducible assumption | focus ((with_reducible refine Lw.new' ?_ ?_ ?_); rotate_left; (focus rfl); (focus first | rfl | (simp; done))) | with_reducible refine Lw.alloc ?_ _ | with_reducible refine Lw.drew ?_ | with_reducible refine Lw.drewN ?_ _))) hbel; clear hbel; (try clear c_r_0 c_r_1 l_r c_h_0 c_h_1 l_h c_m_0 c_m_1 l_m c_c_0 c_c_1 l_c c_b_0 c_b_1 l_b c_a_0 c_a_1 l_a); have hB_r := hL.b (k := r) (l := [h1, h2]) (.head _); have c_r_0 := hB_r.cell 0 (h1) rfl; have c_r_1 := hB_r.cell 1 (h2) rfl; have l_r := hB_r.lt; clear hB_r; have hB_h := hL.b (k := h) (l := [h1, h2]) (.tail _ (.head _)); have c_h_0 := hB_h.cell 0 (h1) rfl; have c_h_1 := hB_h.cell 1 (h2) rfl; have l_h := hB_h.lt; clear hB_h; have hB_m := hL.b (k := m) (l := [c1, c2]) (.tail _ (.tail _ (.head _))); have c_m_0 := hB_m.cell 0 (c1) rfl; have c_m_1 := hB_m.cell 1 (c2) rfl; have l_m := hB_m.lt; clear hB_m; have hB_c := hL.b (k := c) (l := [c1, c2]) (.tail _ (.tail _ (.tail _ (.head _)))); have c_c_0 := hB_c.cell 0 (c1) rfl; have c_c_1 := hB_c.cell 1 (c2) rfl; have l_c := hB_c.lt; clear hB_c; have hB_b := hL.b (k := b) (l := [z, u]) (.tail _ (.tail _ (.tail _ (.tail _ (.head _))))); have c_b_0 := hB_b.cell 0 (z) rfl; have c_b_1 := hB_b.cell 1 (u) rfl; have l_b := hB_b.lt; clear hB_b; have hB_a := hL.b (k := a) (l := [x, y]) (.tail _ (.tail _ (.tail _ (.tail _ (.tail _ (.head _)))))); have c_a_0 := hB_a.cell 0 (x) rfl; have c_a_1 := hB_a.cell 1 (y) rfl; have l_a := hB_a.lt; clear hB_a)
                        all_goals go_meet
                        all_goals exact ⟨rfl, (by (repeat (first | with_reducible assumption | focus ((with_reducible refine Lw.new' ?_ ?_ ?_); rotate_left; (focus rfl); (focus first | rfl | (simp; done))) | with_reducible refine Lw.alloc ?_ _ | with_reducible refine Lw.drew ?_ | with_reducible refine Lw.drewN ?_ _)))⟩
                    case rest =>
                      obtain ⟨rfl, hL⟩ := hcut
                      clear c_r_0 c_r_1 l_r c_h_0 c_h_1 l_h c_m_0 c_m_1 l_m c_c_0 c_c_1 l_c c_b_0 c_b_1 l_b c_a_0 c_a_1 l_a
                      have hB_r := hL.b (k := r) (l := [h1, h2]) (.head _)
                      have c_r_0 := hB_r.cell 0 (h1) rfl
                      have c_r_1 := hB_r.cell 1 (h2) rfl
                      have l_r := hB_r.lt
                      clear hB_r
                      have hB_h := hL.b (k := h) (l := [h1, h2]) (.tail _ (.head _))
                      have c_h_0 := hB_h.cell 0 (h1) rfl
                      have c_h_1 := hB_h.cell 1 (h2) rfl
                      have l_h := hB_h.lt
                      clear hB_h
                      have hB_m := hL.b (k := m) (l := [c1, c2]) (.tail _ (.tail _ (.head _)))
                      have c_m_0 := hB_m.cell 0 (c1) rfl
                      have c_m_1 := hB_m.cell 1 (c2) rfl
                      have l_m := hB_m.lt
                      clear hB_m
                      have hB_c := hL.b (k := c) (l := [c1, c2]) (.tail _ (.tail _ (.tail _ (.head _))))
                      have c_c_0 := hB_c.cell 0 (c1) rfl
                      have c_c_1 := hB_c.cell 1 (c2) rfl
                      have l_c := hB_c.lt
                      clear hB_c
                      have hB_b := hL.b (k := b) (l := [z, u]) (.tail _ (.tail _ (.tail _ (.tail _ (.head _)))))
                      have c_b_0 := hB_b.cell 0 (z) rfl
                      have c_b_1 := hB_b.cell 1 (u) rfl
                      have l_b := hB_b.lt
                      clear hB_b
                      have hB_a := hL.b (k := a) (l := [x, y]) (.tail _ (.tail _ (.tail _ (.tail _ (.tail _ (.head _))))))
                      have c_a_0 := hB_a.cell 0 (x) rfl
                      have c_a_1 := hB_a.cell 1 (y) rfl
                      have l_a := hB_a.lt
                      clear hB_a
                      go_wp2
                      go_ret
                      exact ⟨rfl, hL.own.below⟩
                  · have hd1 : k1 = 0 := by simpa using hd
                    subst hd1
                    have cf3 : ∀ w : World, Calls Try.prog 41 #[ivV c1 c2, ivV x y] w fun en w' => en = .returned (.bool true) ∧ Below w.heap.size w w' := fun w => by rw [← f3]; exact i_IsWithin c1 c2 x y w
                    have cf4 : ∀ w : World, Calls Try.prog 41 #[ivV c1 c2, ivV z u] w fun en w' => en = .returned (.bool true) ∧ Below w.heap.size w w' := fun w => by rw [← f4]; exact i_IsWithin c1 c2 z u w
                    clear f3 f4 hd
                    go_upto_region 14 with fail
                    go_cut [115] (fun s115 wx => s115 = .bool false ∧ Lw w wx [(r, [h1, h2]), (h, [h1, h2]), (m, [c1, c2]), (c, [c1, c2]), (b, [z, u]), (a, [x, y])])
                    case first =>
                      as_aux_lemma =>
                        go_wp2_with first | (go_at_call 41; (with_reducible refine (cf1 _).mono ?_); rintro e w' ⟨rfl, hbel⟩; replace hL : Lw w w' [(r, [h1, h2]), (h, [h1, h2]), (m, [c1, c2]), (c, [c1, c2]), (b, [z, u]), (a, [x, y])] := Lw.below (by (repeat (first | with_reducible assumption | focus ((with_reducible refine Lw.new' ?_ ?_ ?_); rotate_left; (focus rfl); (focus first | rfl | (simp; done))) | with_reducible refine Lw.alloc ?_ _ | with_reducible refine Lw.drew ?_ | with_reducible refine Lw.drewN ?_ _))) hbel; clear hbel; (try clear c_r_0 c_r_1 l_r c_h_0 c_h_1 l_h c_m_0 c_m_1 l_m c_c_0 c_c_1 l_c c_b_0 c_b_1 l_b c_a_0 c_a_1 l_a); have hB_r := hL.b (k := r) (l := [h1, h2]) (.head _); have c_r_0 := hB_r.cell 0 (h1) rfl; have c_r_1 := hB_r.cell 1 (h2) rfl; have l_r := hB_r.lt; clear hB_r; have hB_h := hL.b (k := h) (l := [h1, h2]) (.tail _ (.head _)); have c_h_0 := hB_h.cell 0 (h1) rfl; have c_h_1 := hB_h.cell 1 (h2) rfl; have l_h := hB_h.lt; clear hB_h; have hB_m := hL.b (k := m) (l := [c1, c2]) (.tail _ (.tail _ (.head _))); have c_m_0 := hB_m.cell 0 (c1) rfl; have c_m_1 := hB_m.cell 1 (c2) rfl; have l_m := hB_m.lt; clear hB_m; have hB_c := hL.b (k := c) (l := [c1, c2]) (.tail _ (.tail _ (.tail _ (.head _)))); have c_c_0 := hB_c.cell 0 (c1) rfl; have c_c_1 := hB_c.cell 1 (c2) rfl; have l_c := hB_c.lt; clear hB_c; have hB_b := hL.b (k := b) (l := [z, u]) (.tail _ (.tail _ (.tail _ (.tail _ (.head _))))); have c_b_0 := hB_b.cell 0 (z) rfl; have c_b_1 := hB_b.cell 1 (u) rfl; have l_b := hB_b.lt; clear hB_b; have hB_a := hL.b (k := a) (l := [x, y]) (.tail _ (.tail _ (.tail _ (.tail _ (.tail _ (.head _)))))); have c_a_0 := hB_a.cell 0 (x) rfl; have c_a_1 := hB_a.cell 1 (y) rfl; have l_a := hB_a.lt; clear hB_a) | (go_at_call 41; (with_reducible refine (cf2 _).mono ?_); rintro e w' ⟨rfl, hbel⟩; replace hL : Lw w w' [(r, [h1, h2]), (h, [h1, h2]), (m, [c1, c2]), (c, [c1, c2]), (b, [z, u]), (a, [x, y])] := Lw.below (by (repeat (first | with_reducible assumption | focus ((with_reducible refine Lw.new' ?_ ?_ ?_); rotate_left; (focus rfl); (focus first | rfl | (simp; done))) | with_reducible refine Lw.alloc ?_ _ | with_reducible refine Lw.drew ?_ | with_reducible refine Lw.drewN ?_ _))) hbel; clear hbel; (try clear c_r_0 c_r_1 l_r c_h_0 c_h_1 l_h c_m_0 c_m_1 l_m c_c_0 c_c_1 l_c c_b_0 c_b_1 l_b c_a_0 c_a_1 l_a); have hB_r := hL.b (k := r) (l := [h1, h2]) (.head _); have c_r_0 := hB_r.cell 0 (h1) rfl; have c_r_1 := hB_r.cell 1 (h2) rfl; have l_r := hB_r.lt; clear hB_r; have hB_h := hL.b (k := h) (l := [h1, h2]) (.tail _ (.head _)); have c_h_0 := hB_h.cell 0 (h1) rfl; have c_h_1 := hB_h.cell 1 (h2) rfl; have l_h := hB_h.lt; clear hB_h; have hB_m := hL.b (k := m) (l := [c1, c2]) (.tail _ (.tail _ (.head _))); have c_m_0 := hB_m.cell 0 (c1) rfl; have c_m_1 := hB_m.cell 1 (c2) rfl; have l_m := hB_m.lt; clear hB_m; have hB_c := hL.b (k := c) (l := [c1, c2]) (.tail _ (.tail _ (.tail _ (.head _)))); have c_c_0 := hB_c.cell 0 (c1) rfl; have c_c_1 := hB_c.cell 1 (c2) rfl; have l_c := hB_c.lt; clear hB_c; have hB_b := hL.b (k := b) (l := [z, u]) (.tail _ (.tail _ (.tail _ (.tail _ (.head _))))); have c_b_0 := hB_b.cell 0 (z) rfl; have c_b_1 := hB_b.cell 1 (u) rfl; have l_b := hB_b.lt; clear hB_b; have hB_a := hL.b (k := a) (l := [x, y]) (.tail _ (.tail _ (.tail _ (.tail _ (.tail _ (.head _)))))); have c_a_0 := hB_a.cell 0 (x) rfl; have c_a_1 := hB_a.cell 1 (y) rfl; have l_a := hB_a.lt; clear hB_a)
                        all_goals go_meet
                        all_goals exact ⟨rfl, (by (repeat (first | with_reducible assumption | focus ((with_reducible refine Lw.new' ?_ ?_ ?_); rotate_left; (focus rfl); (focus first | rfl | (simp; done))) | with_reducible refine Lw.alloc ?_ _ | with_reducible refine Lw.drew ?_ | with_reducible refine Lw.drewN ?_ _)))⟩
                    case rest =>
                      obtain ⟨rfl, hL⟩ := hcut
                      clear c_r_0 c_r_1 l_r c_h_0 c_h_1 l_h c_m_0 c_m_1 l_m c_c_0 c_c_1 l_c c_b_0 c_b_1 l_b c_a_0 c_a_1 l_a
                      have hB_r := hL.b (k := r) (l := [h1, h2]) (.head _)
                      have c_r_0 := hB_r.cell 0 (h1) rfl
                      have c_r_1 := hB_r.cell 1 (h2) rfl
                      have l_r := hB_r.lt
                      clear hB_r
                      have hB_h := hL.b (k := h) (l := [h1, h2]) (.tail _ (.head _))
                      have c_h_0 := hB_h.cell 0 (h1) rfl
                      have c_h_1 := hB_h.cell 1 (h2) rfl
                      have l_h := hB_h.lt
                      clear hB_h
                      have hB_m := hL.b (k := m) (l := [c1, c2]) (.tail _ (.tail _ (.head _)))
                      have c_m_0 := hB_m.cell 0 (c1) rfl
                      have c_m_1 := hB_m.cell 1 (c2) rfl
                      have l_m := hB_m.lt
                      clear hB_m
                      have hB_c := hL.b (k := c) (l := [c1, c2]) (.tail _ (.tail _ (.tail _ (.head _))))
                      have c_c_0 := hB_c.cell 0 (c1) rfl
                      have c_c_1 := hB_c.cell 1 (c2) rfl
                      have l_c := hB_c.lt
                      clear hB_c
                      have hB_b := hL.b (k := b) (l := [z, u]) (.tail _ (.tail _ (.tail _ (.tail _ (.head _)))))
                      have c_b_0 := hB_b.cell 0 (z) rfl
                      have c_b_1 := hB_b.cell 1 (u) rfl
                      have l_b := hB_b.lt
                      clear hB_b
                      have hB_a := hL.b (k := a) (l := [x, y]) (.tail _ (.tail _ (.tail _ (.tail _ (.tail _ (.head _))))))
                      have c_a_0 := hB_a.cell 0 (x) rfl
                      have c_a_1 := hB_a.cell 1 (y) rfl
                      have l_a := hB_a.lt
                      clear hB_a
                      go_wp2_with first | (go_at_call 41; (with_reducible refine (cf3 _).mono ?_); rintro e w' ⟨rfl, hbel⟩; replace hL : Lw w w' [(r, [h1, h2]), (h, [h1, h2]), (m, [c1, c2]), (c, [c1, c2]), (b, [z, u]), (a, [x, y])] := Lw.below (by (repeat (first | with_reducible assumption | focus ((with_reducible refine Lw.new' ?_ ?_ ?_); rotate_left; (focus rfl); (focus first | rfl | (simp; done))) | with_reducible refine Lw.alloc ?_ _ | with_reducible refine Lw.drew ?_ | with_reducible refine Lw.drewN ?_ _))) hbel; clear hbel; (try clear c_r_0 c_r_1 l_r c_h_0 c_h_1 l_h c_m_0 c_m_1 l_m c_c_0 c_c_1 l_c c_b_0 c_b_1 l_b c_a_0 c_a_1 l_a); have hB_r := hL.b (k := r) (l := [h1, h2]) (.head _); have c_r_0 := hB_r.cell 0 (h1) rfl; have c_r_1 := hB_r.cell 1 (h2) rfl; have l_r := hB_r.lt; clear hB_r; have hB_h := hL.b (k := h) (l := [h1, h2]) (.tail _ (.head _)); have c_h_0 := hB_h.cell 0 (h1) rfl; have c_h_1 := hB_h.cell 1 (h2) rfl; have l_h := hB_h.lt; clear hB_h; have hB_m := hL.b (k := m) (l := [c1, c2]) (.tail _ (.tail _ (.head _))); have c_m_0 := hB_m.cell 0 (c1) rfl; have c_m_1 := hB_m.cell 1 (c2) rfl; have l_m := hB_m.lt; clear hB_m; have hB_c := hL.b (k := c) (l := [c1, c2]) (.tail _ (.tail _ (.tail _ (.head _)))); have c_c_0 := hB_c.cell 0 (c1) rfl; have c_c_1 := hB_c.cell 1 (c2) rfl; have l_c := hB_c.lt; clear hB_c; have hB_b := hL.b (k := b) (l := [z, u]) (.tail _ (.tail _ (.tail _ (.tail _ (.head _))))); have c_b_0 := hB_b.cell 0 (z) rfl; have c_b_1 := hB_b.cell 1 (u) rfl; have l_b := hB_b.lt; clear hB_b; have hB_a := hL.b (k := a) (l := [x, y]) (.tail _ (.tail _ (.tail _ (.tail _ (.tail _ (.head _)))))); have c_a_0 := hB_a.cell 0 (x) rfl; have c_a_1 := hB_a.cell 1 (y) rfl; have l_a := hB_a.lt; clear hB_a) | (go_at_call 41; (with_reducible refine (cf4 _).mono ?_); rintro e w' ⟨rfl, hbel⟩; replace hL : Lw w w' [(r, [h1, h2]), (h, [h1, h2]), (m, [c1, c2]), (c, [c1, c2]), (b, [z, u]), (a, [x, y])] := Lw.below (by (repeat (first | with_reducible assumption | focus ((with_reducible refine Lw.new' ?_ ?_ ?_); rotate_left; (focus rfl); (focus first | rfl | (simp; done))) | with_reducible refine Lw.alloc ?_ _ | with_reducible refine Lw.drew ?_ | with_reducible refine Lw.drewN ?_ _))) hbel; clear hbel; (try clear c_r_0 c_r_1 l_r c_h_0 c_h_1 l_h c_m_0 c_m_1 l_m c_c_0 c_c_1 l_c c_b_0 c_b_1 l_b c_a_0 c_a_1 l_a); have hB_r := hL.b (k := r) (l := [h1, h2]) (.head _); have c_r_0 := hB_r.cell 0 (h1) rfl; have c_r_1 := hB_r.cell 1 (h2) rfl; have l_r := hB_r.lt; clear hB_r; have hB_h := hL.b (k := h) (l := [h1, h2]) (.tail _ (.head _)); have c_h_0 := hB_h.cell 0 (h1) rfl; have c_h_1 := hB_h.cell 1 (h2) rfl; have l_h := hB_h.lt; clear hB_h; have hB_m := hL.b (k := m) (l := [c1, c2]) (.tail _ (.tail _ (.head _))); have c_m_0 := hB_m.cell 0 (c1) rfl; have c_m_1 := hB_m.cell 1 (c2) rfl; have l_m := hB_m.lt; clear hB_m; have hB_c := hL.b (k := c) (l := [c1, c2]) (.tail _ (.tail _ (.tail _ (.head _)))); have c_c_0 := hB_c.cell 0 (c1) rfl; have c_c_1 := hB_c.cell 1 (c2) rfl; have l_c := hB_c.lt; clear hB_c; have hB_b := hL.b (k := b) (l := [z, u]) (.tail _ (.tail _ (.tail _ (.tail _ (.head _))))); have c_b_0 := hB_b.cell 0 (z) rfl; have c_b_1 := hB_b.cell 1 (u) rfl; have l_b := hB_b.lt; clear hB_b; have hB_a := hL.b (k := a) (l := [x, y]) (.tail _ (.tail _ (.tail _ (.tail _ (.tail _ (.head _)))))); have c_a_0 := hB_a.cell 0 (x) rfl; have c_a_1 := hB_a.cell 1 (y) rfl; have l_a := hB_a.lt; clear hB_a)
                      go_ret
                      exact ⟨rfl, hL.own.below⟩

theorem own : ownKnob Try.prog.godebug = none := by kernel_rfl
theorem laidOut : laidOutB Try.prog = true := by kernel_rfl
set_option maxRecDepth 100000 in
theorem lifted (os : Os) (started : os.Started) (H : Type) (enc : TypeId × Value → H) :
    ReturnsInHanded {} Try.checked os 10 .any (Rows.fnIntervalSetsSpec.pre6 enc Try.prog Try.f10 Rows.fnIntervalSetsRow.domain false) (Rows.fnIntervalSetsSpec.post enc Try.prog Try.f10 false true false false) := by
  refine returnsInHanded_of_change (C := Try.checked) own started (by kernel_rfl) Try.func10
    (ChangeSpec.witness6 (enc := enc) (C := Try.checked) false ⟨#[], #[.slice none 0 0], []⟩ 8 (by kernel_rfl) (by kernel_rfl) (by kernel_rfl) (by kernel_rfl)) ?_
  intro W base args ds gs before hval0 hW hcnd _
  have hval : ∀ (j : Nat) t v, Try.f10.params[j]? = some t → args[j]? = some v → Value.okWide Try.prog W .any base t v := hval0
  have hW' := hW
  obtain ⟨p, q, hA0, hV, rfl, hfz, hnd⟩ := hW
  have hA : DataW.TrodAll enc Try.prog W 0 (fun _ => true) true Try.f10.params.toList args.toList ds p := hA0
  rw [Try.params10] at hA hval
  obtain ⟨v0, vs0, d0, ds0, pp0, qq0, hargs, rfl, rfl, h0, rr0⟩ := trodAll_cons hA
  obtain ⟨rfl, rfl, rfl⟩ := trodAll_nil rr0
  obtain rfl : args = #[v0] := by cases args; simp_all
  obtain ⟨rfl, rfl⟩ := trodVars_none hV
  have k0_ := h0
  have lt0_ : ∀ x ∈ pp0, x.block < W.heap.size := by obtain ⟨m, hm⟩ := h0; exact DataW.trod_lt m _ _ _ hm
  obtain ⟨p0, len0, cap0, rfl⟩ := okWide_slice Try.underlying35 (hval 0 35 v0 rfl rfl)
  obtain ⟨z0, r0⟩ := open_row (k := .u8) Try.underlying35 Try.underlying5 (by kernel_rfl) h0
  clear hA0 hval0
  refine (walk  W p0 len0 cap0 z0 r0).mono fun e W' ⟨he, bel⟩ => ?_
  subst he
  exact ⟨_, rfl, _, _, _, [], _, [], hW', trodAll_mk1 (shut_bool Try.underlying4 _), (trodAll_cons_mk (Below.trod laidOut (by kernel_rfl) (of_decide_eq_true (by kernel_rfl)) k0_ bel lt0_) trodAll_mk0), rfl, bel.frame _, fun h => by cases h⟩

theorem over : Rows.fnIntervalSetsRow.holds Try.pinned (OpenSpec.ofChange Rows.fnIntervalSetsSpec) :=
  OpenClaim.holds_of_wide 10 Try.f10 rfl rfl rfl rfl rfl rfl rfl ⟨rfl, rfl, rfl, rfl, rfl⟩ rfl rfl rfl rfl rfl (by kernel_rfl) Try.func10 (by kernel_rfl)
    (of_decide_eq_true (by kernel_rfl)) (by unfold Func.isWrapper; first | (rw [if_pos (by decide +kernel)]; kernel_rfl) | (rw [if_neg (by decide +kernel)]; exact ⟨rfl, rfl⟩))
    (fun os started H enc _ => lifted os started H enc)

/-- the given statement -/
theorem proved : Rows.FnIntervalSetsSaid := over
#print axioms proved
end Go.Proofs.Ytafbmhncmbcpjaa.pFnIntervalSets
