/- The Go function laws.FnEnergyPasses returns true for every input and leaves its arguments as they were; no condition. -/
import Derived.Test.YtafbmhncmbcpjaaRows
import Derived.Test.YtafbmhncmbcpjaaBase
import Derived.Test.YtafbmhncmbcpjaaNum
import Derived.Test.YtafbmhncmbcpjaaIv
import Derived.Test.YtafbmhncmbcpjaaIv2
import Derived.Test.YtafbmhncmbcpjaaSeg
import Derived.Test.YtafbmhncmbcpjaaEn
import Derived.Test.YtafbmhncmbcpjaaEn2
import Derived.Test.YtafbmhncmbcpjaaPass
import Derived.Test.YtafbmhncmbcpjaaStop2
import Derived.Test.YtafbmhncmbcpjaaList
import Derived.Test.YtafbmhncmbcpjaaDraw
import Derived.Test.YtafbmhncmbcpjaaDraw2
import Derived.Test.YtafbmhncmbcpjaaDraw3
import Derived.Test.YtafbmhncmbcpjaaDraw4
import Derived.Test.YtafbmhncmbcpjaaLawKit
import Derived.Lib.Hide
import Derived.WalkKit
import Derived.WalkSpells
import Derived.WalkLawsBesides
import Derived.ProofKit
import Derived.OpenShut
import Derived.ShutString
import Derived.ChangeOld
import Derived.Below
import Derived.Deep.RegionHeld3
import Derived.Deep.DeepCutAuto
namespace Go.Proofs.Ytafbmhncmbcpjaa.pFnEnergyPasses
open Go.ChangeShapes Go.WideShapes Go.ChangeAt Go.RowKit
set_option maxHeartbeats 2000000
set_option linter.unusedVariables false
set_option linter.unusedSimpArgs false

theorem pass_law {sk sn sr sc sd se sf x y v : Int} (h : passV sk sn sr sc sd se sf x y = (v, 0)) :
    ∃ cl ch, changeR sk sn sr sc sd se sf = (cl, ch, 0) ∧ (-10000000000 ≤ cl ∧ cl ≤ ch ∧ ch ≤ 10000000000) ∧ (0 ≤ x ∧ x ≤ y ∧ y ≤ 10000000000) ∧
      ((enAfter sk sn sr sc sd se sf x y = (0, 0, 5) ∧ ¬ v = 2) ∨ (enAfter sk sn sr sc sd se sf x y = (0, 0, 3) ∧ v = 2) ∨
       (enAfter sk sn sr sc sd se sf x y = (x + cl, y + ch, 0) ∧ v = 2 ∧ (enAfter sk sn sr sc sd se sf x x = (0, 0, 3) ∨ enAfter sk sn sr sc sd se sf x x = (x + cl, x + ch, 0)))) := by
  by_cases c : segOk sk sn sr sc sd se sf = true ∧ isEn x y = true
  · have hb := segOk_bd c.1
    have he := isEn_iff.1 c.2
    have p1 := ch_bd (n := sn) (r := sr) (d := sd) (by omega) (by omega) (by omega)
    have p2 := ch_bd (n := sn) (r := sr) (d := sc) (by omega) (by omega) (by omega)
    have p3 := ch_le (n := sn) (r := sr) (c := sc) (d := sd) (by omega) (by omega)
    have ex : segOk sk sn sr sc sd se sf = true ∧ isEn x x = true := ⟨c.1, isEn_iff.2 (by omega)⟩
    rw [← chHi_eq] at p2
    unfold passV at h
    rw [if_pos c] at h
    refine ⟨chLo sn sr sd, chHi sn sr sc, by unfold changeR; rw [if_pos c.1], by omega, by omega, ?_⟩
    unfold enAfter
    rw [if_pos c, if_pos ex]
    generalize chLo sn sr sd = cl at *
    generalize chHi sn sr sc = ch at *
    unfold enCheck
    by_cases h1 : 0 ≤ x + cl
    · rw [if_pos h1] at h
      simp only [Prod.mk.injEq, and_true] at h
      by_cases h2 : 10000000000 < y + ch
      · right; left
        rw [if_neg (show ¬ x + cl < 0 by omega), if_pos h2]
        exact ⟨rfl, h.symm⟩
      · right; right
        refine ⟨?_, h.symm, ?_⟩
        · rw [if_neg (show ¬ x + cl < 0 by omega), if_neg h2]
        · rw [if_neg (show ¬ x + cl < 0 by omega)]
          by_cases h3 : 10000000000 < x + ch
          · left; rw [if_pos h3]
          · right; rw [if_neg h3]
    · left
      refine ⟨?_, ?_⟩
      · rw [if_pos (show x + cl < 0 by omega)]
      · rw [if_neg h1] at h
        by_cases h2 : y + ch < 0
        · rw [if_pos h2] at h; simp only [Prod.mk.injEq, and_true] at h; omega
        · rw [if_neg h2] at h; simp only [Prod.mk.injEq, and_true] at h; omega
  · unfold passV at h
    rw [if_neg c] at h
    simp at h
set_option maxRecDepth 100000 in set_option maxHeartbeats 20000000 in
theorem walk (w : World) (p0 : Option Addr) (len0 cap0 : Nat) (z0 : List Int) (r0 : IsRow .u8 w p0 len0 cap0 z0) :
    Calls Try.prog 12 #[.slice p0 len0 cap0] w fun e w' => e = .returned (.bool true) ∧ Below w.heap.size w w' := by
  have hin := r0.bytes8
  have hn := hin.1
  clear r0
  rcases Bool.eq_false_or_eq_true (decide (4096 < len0)) with hbig | hbig
  · go_enter Try.func12, Try.ntmps12
    go_wp2_with (go_at_call 21; refine (l_big p0 len0 cap0 _ hn).mono ?_; rintro e w' ⟨rfl, rfl⟩; rw [hbig])
    go_ret
    exact ⟨rfl, Below.refl _ _⟩
  · go_enter Try.func12, Try.ntmps12
    go_upto_region 3 with (go_at_call 21; refine (l_big p0 len0 cap0 _ hn).mono ?_; rintro e w' ⟨rfl, rfl⟩; rw [hbig])
    clear hbig
    go_cut [3, 4] (fun s3 s4 wx => ∃ (a b : Nat) (sk sn sr sc sd se sf x y : Int), s3 = .pointer (some ⟨a, 0, none⟩) ∧ s4 = .pointer (some ⟨b, 0, none⟩) ∧ w.heap.size ≤ a ∧ a < b ∧ Lw w wx [(b, [x, y]), (a, [sk, sn, sr, sc, sd, se, sf])])
    case first =>
      as_aux_lemma =>
        go_wp2_with (go_at_call 63; refine (s_DrawEnergyAfter _ _ _ _ hin).mono ?_; rintro e w' ⟨sk, sn, sr, sc, sd, se, sf, x, y, rfl, hB⟩; have hL := Lw.ofBelow hB)
        go_meet
        exact ⟨_, _, sk, sn, sr, sc, sd, se, sf, x, y, rfl, rfl, hB.size, by simp, by (repeat (first | with_reducible assumption | focus ((with_reducible refine Lw.new' ?_ ?_ ?_); rotate_left; (focus rfl); (focus first | rfl | (simp; done))) | with_reducible refine Lw.alloc ?_ _ | with_reducible refine Lw.drew ?_ | with_reducible refine Lw.drewN ?_ _))⟩
    case rest =>
    obtain ⟨a, b, sk, sn, sr, sc, sd, se, sf, x, y, rfl, rfl, oo0, oo1, hL⟩ := hcut
    clear hn
    obtain ⟨y1, y2, yc, e1⟩ : ∃ y1 y2 yc, enAfter sk sn sr sc sd se sf x y = (y1, y2, yc) := ⟨_, _, _, rfl⟩
    obtain ⟨v1, v2, e2⟩ : ∃ v1 v2, passV sk sn sr sc sd se sf x y = (v1, v2) := ⟨_, _, rfl⟩
    have ca : ∀ w : World, Calls Try.prog 17 #[segV sk sn sr sc sd se sf, ivV x y] w fun en w' => en = .returned (ivT (y1, y2, yc)) ∧ Below w.heap.size w w' := fun w => by rw [← e1]; exact i_EnergyAfter sk sn sr sc sd se sf x y w
    have cb : ∀ w : World, Calls Try.prog 14 #[segV sk sn sr sc sd se sf, ivV x y] w fun en w' => en = .returned (ivT (y1, y2, yc)) ∧ Below w.heap.size w w' := fun w => by rw [← e1]; exact s_EnergyAfter sk sn sr sc sd se sf x y w
    have cc : ∀ w : World, Calls Try.prog 64 #[segV sk sn sr sc sd se sf, ivV x y] w fun en w' => en = .returned (p2 (v1, v2)) ∧ Below w.heap.size w w' := fun w => by rw [← e2]; exact i_PassVerdict sk sn sr sc sd se sf x y w
    have cd : ∀ w : World, Calls Try.prog 65 #[segV sk sn sr sc sd se sf, ivV x y] w fun en w' => en = .returned (p2 (v1, v2)) ∧ Below w.heap.size w w' := fun w => by rw [← e2]; exact s_PassVerdict sk sn sr sc sd se sf x y w
    have E := Lib.hid (And.intro e1 e2)
    clear e1 e2 hin
    have hB_b := hL.b (k := b) (l := [x, y]) (.head _)
    have c_b_0 := hB_b.cell 0 (x) rfl
    have c_b_1 := hB_b.cell 1 (y) rfl
    have l_b := hB_b.lt
    clear hB_b
    have hB_a := hL.b (k := a) (l := [sk, sn, sr, sc, sd, se, sf]) (.tail _ (.head _))
    have c_a_0 := hB_a.cell 0 (sk) rfl
    have c_a_1 := hB_a.cell 1 (sn) rfl
    have c_a_2 := hB_a.cell 2 (sr) rfl
    have c_a_3 := hB_a.cell 3 (sc) rfl
    have c_a_4 := hB_a.cell 4 (sd) rfl
    have c_a_5 := hB_a.cell 5 (se) rfl
    have c_a_6 := hB_a.cell 6 (sf) rfl
    have l_a := hB_a.lt
    clear hB_a
    go_upto_region 4 with fail
    go_cut [5, 6] (fun s5 s6 wx => ∃ f : Nat, s5 = .pointer (some ⟨f, 0, none⟩) ∧ s6 = .int .i64 yc ∧ b < f ∧ Lw w wx [(f, [y1, y2]), (b, [x, y]), (a, [sk, sn, sr, sc, sd, se, sf])])
    case first =>
      as_aux_lemma =>
        go_wp2_with (go_at_call 17; (with_reducible refine (ca _).mono ?_); rintro e w' ⟨rfl, hbel⟩; replace hL : Lw w w' [(b, [x, y]), (a, [sk, sn, sr, sc, sd, se, sf])] := Lw.below (by (repeat (first | with_reducible assumption | focus ((with_reducible refine Lw.new' ?_ ?_ ?_); rotate_left; (focus rfl); (focus first | rfl | (simp; done))) | with_reducible refine Lw.alloc ?_ _ | with_reducible refine Lw.drew ?_ | with_reducible refine Lw.drewN ?_ _))) hbel; clear hbel)
        all_goals go_meet
        all_goals exact ⟨_, rfl, rfl, (by first | omega | (simp; omega) | (have := Blk.lt (hL.b (.head _)); simp; omega)), (by (repeat (first | with_reducible assumption | focus ((with_reducible refine Lw.new' ?_ ?_ ?_); rotate_left; (focus rfl); (focus first | rfl | (simp; done))) | with_reducible refine Lw.alloc ?_ _ | with_reducible refine Lw.drew ?_ | with_reducible refine Lw.drewN ?_ _)))⟩
    case rest =>
      obtain ⟨f, rfl, rfl, o_f, hL⟩ := hcut
      clear c_b_0 c_b_1 l_b c_a_0 c_a_1 c_a_2 c_a_3 c_a_4 c_a_5 c_a_6 l_a
      have hB_f := hL.b (k := f) (l := [y1, y2]) (.head _)
      have c_f_0 := hB_f.cell 0 (y1) rfl
      have c_f_1 := hB_f.cell 1 (y2) rfl
      have l_f := hB_f.lt
      clear hB_f
      have hB_b := hL.b (k := b) (l := [x, y]) (.tail _ (.head _))
      have c_b_0 := hB_b.cell 0 (x) rfl
      have c_b_1 := hB_b.cell 1 (y) rfl
      have l_b := hB_b.lt
      clear hB_b
      have hB_a := hL.b (k := a) (l := [sk, sn, sr, sc, sd, se, sf]) (.tail _ (.tail _ (.head _)))
      have c_a_0 := hB_a.cell 0 (sk) rfl
      have c_a_1 := hB_a.cell 1 (sn) rfl
      have c_a_2 := hB_a.cell 2 (sr) rfl
      have c_a_3 := hB_a.cell 3 (sc) rfl
      have c_a_4 := hB_a.cell 4 (sd) rfl
      have c_a_5 := hB_a.cell 5 (se) rfl
      have c_a_6 := hB_a.cell 6 (sf) rfl
      have l_a := hB_a.lt
      clear hB_a
      go_upto_region 5 with fail
      go_cut [7, 8] (fun s7 s8 wx => ∃ g : Nat, s7 = .pointer (some ⟨g, 0, none⟩) ∧ s8 = .int .i64 yc ∧ f < g ∧ Lw w wx [(g, [y1, y2]), (f, [y1, y2]), (b, [x, y]), (a, [sk, sn, sr, sc, sd, se, sf])])
      case first =>
        as_aux_lemma =>
          go_wp2_with (go_at_call 14; (with_reducible refine (cb _).mono ?_); rintro e w' ⟨rfl, hbel⟩; replace hL : Lw w w' [(f, [y1, y2]), (b, [x, y]), (a, [sk, sn, sr, sc, sd, se, sf])] := Lw.below (by (repeat (first | with_reducible assumption | focus ((with_reducible refine Lw.new' ?_ ?_ ?_); rotate_left; (focus rfl); (focus first | rfl | (simp; done))) | with_reducible refine Lw.alloc ?_ _ | with_reducible refine Lw.drew ?_ | with_reducible refine Lw.drewN ?_ _))) hbel; clear hbel)
          all_goals go_meet
          all_goals exact ⟨_, rfl, rfl, (by first | omega | (simp; omega) | (have := Blk.lt (hL.b (.head _)); simp; omega)), (by (repeat (first | with_reducible assumption | focus ((with_reducible refine Lw.new' ?_ ?_ ?_); rotate_left; (focus rfl); (focus first | rfl | (simp; done))) | with_reducible refine Lw.alloc ?_ _ | with_reducible refine Lw.drew ?_ | with_reducible refine Lw.drewN ?_ _)))⟩
      case rest =>
        obtain ⟨g, rfl, rfl, o_g, hL⟩ := hcut
        clear c_f_0 c_f_1 l_f c_b_0 c_b_1 l_b c_a_0 c_a_1 c_a_2 c_a_3 c_a_4 c_a_5 c_a_6 l_a
        have hB_g := hL.b (k := g) (l := [y1, y2]) (.head _)
        have c_g_0 := hB_g.cell 0 (y1) rfl
        have c_g_1 := hB_g.cell 1 (y2) rfl
        have l_g := hB_g.lt
        clear hB_g
        have hB_f := hL.b (k := f) (l := [y1, y2]) (.tail _ (.head _))
        have c_f_0 := hB_f.cell 0 (y1) rfl
        have c_f_1 := hB_f.cell 1 (y2) rfl
        have l_f := hB_f.lt
        clear hB_f
        have hB_b := hL.b (k := b) (l := [x, y]) (.tail _ (.tail _ (.head _)))
        have c_b_0 := hB_b.cell 0 (x) rfl
        have c_b_1 := hB_b.cell 1 (y) rfl
        have l_b := hB_b.lt
        clear hB_b
        have hB_a := hL.b (k := a) (l := [sk, sn, sr, sc, sd, se, sf]) (.tail _ (.tail _ (.tail _ (.head _))))
        have c_a_0 := hB_a.cell 0 (sk) rfl
        have c_a_1 := hB_a.cell 1 (sn) rfl
        have c_a_2 := hB_a.cell 2 (sr) rfl
        have c_a_3 := hB_a.cell 3 (sc) rfl
        have c_a_4 := hB_a.cell 4 (sd) rfl
        have c_a_5 := hB_a.cell 5 (se) rfl
        have c_a_6 := hB_a.cell 6 (sf) rfl
        have l_a := hB_a.lt
        clear hB_a
        go_upto_region 6 with fail
        go_cut [9, 10] (fun s9 s10 wx => s9 = .int .i64 v1 ∧ s10 = .int .i64 v2 ∧ Lw w wx [(g, [y1, y2]), (f, [y1, y2]), (b, [x, y]), (a, [sk, sn, sr, sc, sd, se, sf])])
        case first =>
          as_aux_lemma =>
            go_wp2_with (go_at_call 64; (with_reducible refine (cc _).mono ?_); rintro e w' ⟨rfl, hbel⟩; replace hL : Lw w w' [(g, [y1, y2]), (f, [y1, y2]), (b, [x, y]), (a, [sk, sn, sr, sc, sd, se, sf])] := Lw.below (by (repeat (first | with_reducible assumption | focus ((with_reducible refine Lw.new' ?_ ?_ ?_); rotate_left; (focus rfl); (focus first | rfl | (simp; done))) | with_reducible refine Lw.alloc ?_ _ | with_reducible refine Lw.drew ?_ | with_reducible refine Lw.drewN ?_ _))) hbel; clear hbel)
            all_goals go_meet
            all_goals exact ⟨rfl, rfl, (by (repeat (first | with_reducible assumption | focus ((with_reducible refine Lw.new' ?_ ?_ ?_); rotate_left; (focus rfl); (focus first | rfl | (simp; done))) | with_reducible refine Lw.alloc ?_ _ | with_reducible refine Lw.drew ?_ | with_reducible refine Lw.drewN ?_ _)))⟩
        case rest =>
          obtain ⟨rfl, rfl, hL⟩ := hcut
          clear c_g_0 c_g_1 l_g c_f_0 c_f_1 l_f c_b_0 c_b_1 l_b c_a_0 c_a_1 c_a_2 c_a_3 c_a_4 c_a_5 c_a_6 l_a
          have hB_g := hL.b (k := g) (l := [y1, y2]) (.head _)
          have c_g_0 := hB_g.cell 0 (y1) rfl
          have c_g_1 := hB_g.cell 1 (y2) rfl
          have l_g := hB_g.lt
          clear hB_g
          have hB_f := hL.b (k := f) (l := [y1, y2]) (.tail _ (.head _))
          have c_f_0 := hB_f.cell 0 (y1) rfl
          have c_f_1 := hB_f.cell 1 (y2) rfl
          have l_f := hB_f.lt
          clear hB_f
          have hB_b := hL.b (k := b) (l := [x, y]) (.tail _ (.tail _ (.head _)))
          have c_b_0 := hB_b.cell 0 (x) rfl
          have c_b_1 := hB_b.cell 1 (y) rfl
          have l_b := hB_b.lt
          clear hB_b
          have hB_a := hL.b (k := a) (l := [sk, sn, sr, sc, sd, se, sf]) (.tail _ (.tail _ (.tail _ (.head _))))
          have c_a_0 := hB_a.cell 0 (sk) rfl
          have c_a_1 := hB_a.cell 1 (sn) rfl
          have c_a_2 := hB_a.cell 2 (sr) rfl
          have c_a_3 := hB_a.cell 3 (sc) rfl
          have c_a_4 := hB_a.cell 4 (sd) rfl
          have c_a_5 := hB_a.cell 5 (se) rfl
          have c_a_6 := hB_a.cell 6 (sf) rfl
          have l_a := hB_a.lt
          clear hB_a
          go_upto_region 7 with fail
          go_cut [11, 12] (fun s11 s12 wx => s11 = .int .i64 v1 ∧ s12 = .int .i64 v2 ∧ Lw w wx [(g, [y1, y2]), (f, [y1, y2]), (b, [x, y]), (a, [sk, sn, sr, sc, sd, se, sf])])
          case first =>
            as_aux_lemma =>
              go_wp2_with (go_at_call 65; (with_reducible refine (cd _).mono ?_); rintro e w' ⟨rfl, hbel⟩; replace hL : Lw w w' [(g, [y1, y2]), (f, [y1, y2]), (b, [x, y]), (a, [sk, sn, sr, sc, sd, se, sf])] := Lw.below (by (repeat (first | with_reducible assumption | focus ((with_reducible refine Lw.new' ?_ ?_ ?_); rotate_left; (focus rfl); (focus first | rfl | (simp; done))) | with_reducible refine Lw.alloc ?_ _ | with_reducible refine Lw.drew ?_ | with_reducible refine Lw.drewN ?_ _))) hbel; clear hbel)
              all_goals go_meet
              all_goals exact ⟨rfl, rfl, (by (repeat (first | with_reducible assumption | focus ((with_reducible refine Lw.new' ?_ ?_ ?_); rotate_left; (focus rfl); (focus first | rfl | (simp; done))) | with_reducible refine Lw.alloc ?_ _ | with_reducible refine Lw.drew ?_ | with_reducible refine Lw.drewN ?_ _)))⟩
          case rest =>
            obtain ⟨rfl, rfl, hL⟩ := hcut
            clear c_g_0 c_g_1 l_g c_f_0 c_f_1 l_f c_b_0 c_b_1 l_b c_a_0 c_a_1 c_a_2 c_a_3 c_a_4 c_a_5 c_a_6 l_a
            have hB_g := hL.b (k := g) (l := [y1, y2]) (.head _)
            have c_g_0 := hB_g.cell 0 (y1) rfl
            have c_g_1 := hB_g.cell 1 (y2) rfl
            have l_g := hB_g.lt
            clear hB_g
            have hB_f := hL.b (k := f) (l := [y1, y2]) (.tail _ (.head _))
            have c_f_0 := hB_f.cell 0 (y1) rfl
            have c_f_1 := hB_f.cell 1 (y2) rfl
            have l_f := hB_f.lt
            clear hB_f
            have hB_b := hL.b (k := b) (l := [x, y]) (.tail _ (.tail _ (.head _)))
            have c_b_0 := hB_b.cell 0 (x) rfl
            have c_b_1 := hB_b.cell 1 (y) rfl
            have l_b := hB_b.lt
            clear hB_b
            have hB_a := hL.b (k := a) (l := [sk, sn, sr, sc, sd, se, sf]) (.tail _ (.tail _ (.tail _ (.head _))))
            have c_a_0 := hB_a.cell 0 (sk) rfl
            have c_a_1 := hB_a.cell 1 (sn) rfl
            have c_a_2 := hB_a.cell 2 (sr) rfl
            have c_a_3 := hB_a.cell 3 (sc) rfl
            have c_a_4 := hB_a.cell 4 (sd) rfl
            have c_a_5 := hB_a.cell 5 (se) rfl
            have c_a_6 := hB_a.cell 6 (sf) rfl
            have l_a := hB_a.lt
            clear hB_a
            go_upto_region 8 with fail
            go_cut [65] (fun s65 wx => s65 = .bool false ∧ Lw w wx [(g, [y1, y2]), (f, [y1, y2]), (b, [x, y]), (a, [sk, sn, sr, sc, sd, se, sf])])
            case first =>
              as_aux_lemma =>
                go_wp2_with fail
                all_goals go_meet
                all_goals exact ⟨rfl, (by (repeat (first | with_reducible assumption | focus ((with_reducible refine Lw.new' ?_ ?_ ?_); rotate_left; (focus rfl); (focus first | rfl | (simp; done))) | with_reducible refine Lw.alloc ?_ _ | with_reducible refine Lw.drew ?_ | with_reducible refine Lw.drewN ?_ _)))⟩
            case rest =>
              obtain ⟨rfl, hL⟩ := hcut
              clear c_g_0 c_g_1 l_g c_f_0 c_f_1 l_f c_b_0 c_b_1 l_b c_a_0 c_a_1 c_a_2 c_a_3 c_a_4 c_a_5 c_a_6 l_a
              have hB_g := hL.b (k := g) (l := [y1, y2]) (.head _)
              have c_g_0 := hB_g.cell 0 (y1) rfl
              have c_g_1 := hB_g.cell 1 (y2) rfl
              have l_g := hB_g.lt
              clear hB_g
              have hB_f := hL.b (k := f) (l := [y1, y2]) (.tail _ (.head _))
              have c_f_0 := hB_f.cell 0 (y1) rfl
              have c_f_1 := hB_f.cell 1 (y2) rfl
              have l_f := hB_f.lt
              clear hB_f
              have hB_b := hL.b (k := b) (l := [x, y]) (.tail _ (.tail _ (.head _)))
              have c_b_0 := hB_b.cell 0 (x) rfl
              have c_b_1 := hB_b.cell 1 (y) rfl
              have l_b := hB_b.lt
              clear hB_b
              have hB_a := hL.b (k := a) (l := [sk, sn, sr, sc, sd, se, sf]) (.tail _ (.tail _ (.tail _ (.head _))))
              have c_a_0 := hB_a.cell 0 (sk) rfl
              have c_a_1 := hB_a.cell 1 (sn) rfl
              have c_a_2 := hB_a.cell 2 (sr) rfl
              have c_a_3 := hB_a.cell 3 (sc) rfl
              have c_a_4 := hB_a.cell 4 (sd) rfl
              have c_a_5 := hB_a.cell 5 (se) rfl
              have c_a_6 := hB_a.cell 6 (sf) rfl
              have l_a := hB_a.lt
              clear hB_a
              clear ca cb cc cd
              by_cases hv : v2 = 0
              case neg =>
                go_wp2
                go_ret
                exact ⟨rfl, hL.own.below⟩
              case pos =>
              subst hv
              obtain ⟨cl, ch, e3, ⟨b1, b2, b3⟩, ⟨b4, b5, b6⟩, hs⟩ := pass_law E.out.2
              rw [E.out.1] at hs
              simp only [Prod.mk.injEq] at hs
              have cg : ∀ w : World, Calls Try.prog 66 #[segV sk sn sr sc sd se sf] w fun en w' => en = .returned (ivT (cl, ch, 0)) ∧ Below w.heap.size w w' := fun w => by rw [← e3]; exact i_ChangeOf sk sn sr sc sd se sf w
              have HS := Lib.hid hs
              clear e3 hs
              go_upto_region 12 with fail
              go_cut [13, 14] (fun s13 s14 wx => ∃ t : Nat, s13 = .pointer (some ⟨t, 0, none⟩) ∧ s14 = .int .i64 0 ∧ g < t ∧ Lw w wx [(t, [cl, ch]), (g, [y1, y2]), (f, [y1, y2]), (b, [x, y]), (a, [sk, sn, sr, sc, sd, se, sf])])
              case first =>
                as_aux_lemma =>
                  go_wp2_with (go_at_call 66; (with_reducible refine (cg _).mono ?_); rintro e w' ⟨rfl, hbel⟩; replace hL : Lw w w' [(g, [y1, y2]), (f, [y1, y2]), (b, [x, y]), (a, [sk, sn, sr, sc, sd, se, sf])] := Lw.below (by (repeat (first | with_reducible assumption | focus ((with_reducible refine Lw.new' ?_ ?_ ?_); rotate_left; (focus rfl); (focus first | rfl | (simp; done))) | with_reducible refine Lw.alloc ?_ _ | with_reducible refine Lw.drew ?_ | with_reducible refine Lw.drewN ?_ _))) hbel; clear hbel)
                  all_goals go_meet
                  all_goals exact ⟨_, rfl, rfl, (by first | omega | (simp; omega) | (have := Blk.lt (hL.b (.head _)); simp; omega)), (by (repeat (first | with_reducible assumption | focus ((with_reducible refine Lw.new' ?_ ?_ ?_); rotate_left; (focus rfl); (focus first | rfl | (simp; done))) | with_reducible refine Lw.alloc ?_ _ | with_reducible refine Lw.drew ?_ | with_reducible refine Lw.drewN ?_ _)))⟩
              case rest =>
                obtain ⟨t, rfl, rfl, o_t, hL⟩ := hcut
                clear c_g_0 c_g_1 l_g c_f_0 c_f_1 l_f c_b_0 c_b_1 l_b c_a_0 c_a_1 c_a_2 c_a_3 c_a_4 c_a_5 c_a_6 l_a
                have hB_t := hL.b (k := t) (l := [cl, ch]) (.head _)
                have c_t_0 := hB_t.cell 0 (cl) rfl
                have c_t_1 := hB_t.cell 1 (ch) rfl
                have l_t := hB_t.lt
                clear hB_t
                have hB_g := hL.b (k := g) (l := [y1, y2]) (.tail _ (.head _))
                have c_g_0 := hB_g.cell 0 (y1) rfl
                have c_g_1 := hB_g.cell 1 (y2) rfl
                have l_g := hB_g.lt
                clear hB_g
                have hB_f := hL.b (k := f) (l := [y1, y2]) (.tail _ (.tail _ (.head _)))
                have c_f_0 := hB_f.cell 0 (y1) rfl
                have c_f_1 := hB_f.cell 1 (y2) rfl
                have l_f := hB_f.lt
                clear hB_f
                have hB_b := hL.b (k := b) (l := [x, y]) (.tail _ (.tail _ (.tail _ (.head _))))
                have c_b_0 := hB_b.cell 0 (x) rfl
                have c_b_1 := hB_b.cell 1 (y) rfl
                have l_b := hB_b.lt
                clear hB_b
                have hB_a := hL.b (k := a) (l := [sk, sn, sr, sc, sd, se, sf]) (.tail _ (.tail _ (.tail _ (.tail _ (.head _)))))
                have c_a_0 := hB_a.cell 0 (sk) rfl
                have c_a_1 := hB_a.cell 1 (sn) rfl
                have c_a_2 := hB_a.cell 2 (sr) rfl
                have c_a_3 := hB_a.cell 3 (sc) rfl
                have c_a_4 := hB_a.cell 4 (sd) rfl
                have c_a_5 := hB_a.cell 5 (se) rfl
                have c_a_6 := hB_a.cell 6 (sf) rfl
                have l_a := hB_a.lt
                clear hB_a
                rcases HS.out with ⟨⟨rfl, rfl, rfl⟩, hv⟩ | ⟨⟨rfl, rfl, rfl⟩, rfl⟩ | ⟨⟨rfl, rfl, rfl⟩, rfl, hz⟩
                · have hv1 : (v1 == 2) = false := by simpa using hv
                  clear HS E hv
                  go_wp2
                  go_ret
                  exact ⟨rfl, hL.own.below⟩
                · clear HS E
                  go_wp2
                  go_ret
                  exact ⟨rfl, hL.own.below⟩
                · clear HS E
                  rcases hz with hz | hz
                  · have cz : ∀ w : World, Calls Try.prog 17 #[segV sk sn sr sc sd se sf, ivV x x] w fun en w' => en = .returned (ivT (0, 0, 3)) ∧ Below w.heap.size w w' := fun w => by rw [← hz]; exact i_EnergyAfter sk sn sr sc sd se sf x x w
                    clear hz
                    go_upto_region 17 with fail
                    go_cut [15, 16] (fun s15 s16 wx => ∃ z : Nat, s15 = .pointer (some ⟨z, 0, none⟩) ∧ s16 = .int .i64 3 ∧ t < z ∧ Lw w wx [(z, [0, 0]), (t, [cl, ch]), (g, [x + cl, y + ch]), (f, [x + cl, y + ch]), (b, [x, y]), (a, [sk, sn, sr, sc, sd, se, sf])])
                    case first =>
                      as_aux_lemma =>
                        go_wp2_with (go_at_call 17; (with_reducible refine (cz _).mono ?_); rintro e w' ⟨rfl, hbel⟩; replace hL : Lw w w' [(t, [cl, ch]), (g, [x + cl, y + ch]), (f, [x + cl, y + ch]), (b, [x, y]), (a, [sk, sn, sr, sc, sd, se, sf])] := Lw.below (by (repeat (first | with_reducible assumption | focus ((with_reducible refine Lw.new' ?_ ?_ ?_); rotate_left; (focus rfl); (focus first | rfl | (simp; done))) | with_reducible refine Lw.alloc ?_ _ | with_reducible refine Lw.drew ?_ | with_reducible refine Lw.drewN ?_ _))) hbel; clear hbel)
                        all_goals go_meet
                        all_goals exact ⟨_, rfl, rfl, (by first | omega | (simp; omega) | (have := Blk.lt (hL.b (.head _)); simp; omega)), (by (repeat (first | with_reducible assumption | focus ((with_reducible refine Lw.new' ?_ ?_ ?_); rotate_left; (focus rfl); (focus first | rfl | (simp; done))) | with_reducible refine Lw.alloc ?_ _ | with_reducible refine Lw.drew ?_ | with_reducible refine Lw.drewN ?_ _)))⟩
                    case rest =>
                      obtain ⟨z, rfl, rfl, o_z, hL⟩ := hcut
                      clear c_t_0 c_t_1 l_t c_g_0 c_g_1 l_g c_f_0 c_f_1 l_f c_b_0 c_b_1 l_b c_a_0 c_a_1 c_a_2 c_a_3 c_a_4 c_a_5 c_a_6 l_a
                      have hB_z := hL.b (k := z) (l := [0, 0]) (.head _)
                      have c_z_0 := hB_z.cell 0 (0) rfl
                      have c_z_1 := hB_z.cell 1 (0) rfl
                      have l_z := hB_z.lt
                      clear hB_z
                      have hB_t := hL.b (k := t) (l := [cl, ch]) (.tail _ (.head _))
                      have c_t_0 := hB_t.cell 0 (cl) rfl
                      have c_t_1 := hB_t.cell 1 (ch) rfl
                      have l_t := hB_t.lt
                      clear hB_t
                      have hB_g := hL.b (k := g) (l := [x + cl, y + ch]) (.tail _ (.tail _ (.head _)))
                      have c_g_0 := hB_g.cell 0 (x + cl) rfl
                      have c_g_1 := hB_g.cell 1 (y + ch) rfl
                      have l_g := hB_g.lt
                      clear hB_g
                      have hB_f := hL.b (k := f) (l := [x + cl, y + ch]) (.tail _ (.tail _ (.tail _ (.head _))))
                      have c_f_0 := hB_f.cell 0 (x + cl) rfl
                      have c_f_1 := hB_f.cell 1 (y + ch) rfl
                      have l_f := hB_f.lt
                      clear hB_f
                      have hB_b := hL.b (k := b) (l := [x, y]) (.tail _ (.tail _ (.tail _ (.tail _ (.head _)))))
                      have c_b_0 := hB_b.cell 0 (x) rfl
                      have c_b_1 := hB_b.cell 1 (y) rfl
                      have l_b := hB_b.lt
                      clear hB_b
                      have hB_a := hL.b (k := a) (l := [sk, sn, sr, sc, sd, se, sf]) (.tail _ (.tail _ (.tail _ (.tail _ (.tail _ (.head _))))))
                      have c_a_0 := hB_a.cell 0 (sk) rfl
                      have c_a_1 := hB_a.cell 1 (sn) rfl
                      have c_a_2 := hB_a.cell 2 (sr) rfl
                      have c_a_3 := hB_a.cell 3 (sc) rfl
                      have c_a_4 := hB_a.cell 4 (sd) rfl
                      have c_a_5 := hB_a.cell 5 (se) rfl
                      have c_a_6 := hB_a.cell 6 (sf) rfl
                      have l_a := hB_a.lt
                      clear hB_a
                      go_wp2
                      go_ret
                      exact ⟨rfl, hL.own.below⟩
                  · have cz : ∀ w : World, Calls Try.prog 17 #[segV sk sn sr sc sd se sf, ivV x x] w fun en w' => en = .returned (ivT (x + cl, x + ch, 0)) ∧ Below w.heap.size w w' := fun w => by rw [← hz]; exact i_EnergyAfter sk sn sr sc sd se sf x x w
                    clear hz
                    go_upto_region 17 with fail
                    go_cut [15, 16] (fun s15 s16 wx => ∃ z : Nat, s15 = .pointer (some ⟨z, 0, none⟩) ∧ s16 = .int .i64 0 ∧ t < z ∧ Lw w wx [(z, [x + cl, x + ch]), (t, [cl, ch]), (g, [x + cl, y + ch]), (f, [x + cl, y + ch]), (b, [x, y]), (a, [sk, sn, sr, sc, sd, se, sf])])
                    case first =>
                      as_aux_lemma =>
                        go_wp2_with (go_at_call 17; (with_reducible refine (cz _).mono ?_); rintro e w' ⟨rfl, hbel⟩; replace hL : Lw w w' [(t, [cl, ch]), (g, [x + cl, y + ch]), (f, [x + cl, y + ch]), (b, [x, y]), (a, [sk, sn, sr, sc, sd, se, sf])] := Lw.below (by (repeat (first | with_reducible assumption | focus ((with_reducible refine Lw.new' ?_ ?_ ?_); rotate_left; (focus rfl); (focus first | rfl | (simp; done))) | with_reducible refine Lw.alloc ?_ _ | with_reducible refine Lw.drew ?_ | with_reducible refine Lw.drewN ?_ _))) hbel; clear hbel)
                        all_goals go_meet
                        all_goals exact ⟨_, rfl, rfl, (by first | omega | (simp; omega) | (have := Blk.lt (hL.b (.head _)); simp; omega)), (by (repeat (first | with_reducible assumption | focus ((with_reducible refine Lw.new' ?_ ?_ ?_); rotate_left; (focus rfl); (focus first | rfl | (simp; done))) | with_reducible refine Lw.alloc ?_ _ | with_reducible refine Lw.drew ?_ | with_reducible refine Lw.drewN ?_ _)))⟩
                    case rest =>
                      obtain ⟨z, rfl, rfl, o_z, hL⟩ := hcut
                      clear c_t_0 c_t_1 l_t c_g_0 c_g_1 l_g c_f_0 c_f_1 l_f c_b_0 c_b_1 l_b c_a_0 c_a_1 c_a_2 c_a_3 c_a_4 c_a_5 c_a_6 l_a
                      have hB_z := hL.b (k := z) (l := [x + cl, x + ch]) (.head _)
                      have c_z_0 := hB_z.cell 0 (x + cl) rfl
                      have c_z_1 := hB_z.cell 1 (x + ch) rfl
                      have l_z := hB_z.lt
                      clear hB_z
                      have hB_t := hL.b (k := t) (l := [cl, ch]) (.tail _ (.head _))
                      have c_t_0 := hB_t.cell 0 (cl) rfl
                      have c_t_1 := hB_t.cell 1 (ch) rfl
                      have l_t := hB_t.lt
                      clear hB_t
                      have hB_g := hL.b (k := g) (l := [x + cl, y + ch]) (.tail _ (.tail _ (.head _)))
                      have c_g_0 := hB_g.cell 0 (x + cl) rfl
                      have c_g_1 := hB_g.cell 1 (y + ch) rfl
                      have l_g := hB_g.lt
                      clear hB_g
                      have hB_f := hL.b (k := f) (l := [x + cl, y + ch]) (.tail _ (.tail _ (.tail _ (.head _))))
                      have c_f_0 := hB_f.cell 0 (x + cl) rfl
                      have c_f_1 := hB_f.cell 1 (y + ch) rfl
                      have l_f := hB_f.lt
                      clear hB_f
                      have hB_b := hL.b (k := b) (l := [x, y]) (.tail _ (.tail _ (.tail _ (.tail _ (.head _)))))
                      have c_b_0 := hB_b.cell 0 (x) rfl
                      have c_b_1 := hB_b.cell 1 (y) rfl
                      have l_b := hB_b.lt
                      clear hB_b
                      have hB_a := hL.b (k := a) (l := [sk, sn, sr, sc, sd, se, sf]) (.tail _ (.tail _ (.tail _ (.tail _ (.tail _ (.head _))))))
                      have c_a_0 := hB_a.cell 0 (sk) rfl
                      have c_a_1 := hB_a.cell 1 (sn) rfl
                      have c_a_2 := hB_a.cell 2 (sr) rfl
                      have c_a_3 := hB_a.cell 3 (sc) rfl
                      have c_a_4 := hB_a.cell 4 (sd) rfl
                      have c_a_5 := hB_a.cell 5 (se) rfl
                      have c_a_6 := hB_a.cell 6 (sf) rfl
                      have l_a := hB_a.lt
                      clear hB_a
                      go_wp2
                      go_ret
                      exact ⟨rfl, hL.own.below⟩

theorem own : ownKnob Try.prog.godebug = none := by kernel_rfl
theorem laidOut : laidOutB Try.prog = true := by kernel_rfl
set_option maxRecDepth 100000 in
theorem lifted (os : Os) (started : os.Started) (H : Type) (enc : TypeId × Value → H) :
    ReturnsInHanded {} Try.checked os 12 .any (Rows.fnEnergyPassesSpec.pre6 enc Try.prog Try.f12 Rows.fnEnergyPassesRow.domain false) (Rows.fnEnergyPassesSpec.post enc Try.prog Try.f12 false true false false) := by
  refine returnsInHanded_of_change (C := Try.checked) own started (by kernel_rfl) Try.func12
    (ChangeSpec.witness6 (enc := enc) (C := Try.checked) false ⟨#[], #[.slice none 0 0], []⟩ 8 (by kernel_rfl) (by kernel_rfl) (by kernel_rfl) (by kernel_rfl)) ?_
  intro W base args ds gs before hval0 hW hcnd _
  have hval : ∀ (j : Nat) t v, Try.f12.params[j]? = some t → args[j]? = some v → Value.okWide Try.prog W .any base t v := hval0
  have hW' := hW
  obtain ⟨p, q, hA0, hV, rfl, hfz, hnd⟩ := hW
  have hA : DataW.TrodAll enc Try.prog W 0 (fun _ => true) true Try.f12.params.toList args.toList ds p := hA0
  rw [Try.params12] at hA hval
  obtain ⟨v0, vs0, d0, ds0, pp0, qq0, hargs, rfl, rfl, h0, rr0⟩ := trodAll_cons hA
  obtain ⟨rfl, rfl, rfl⟩ := trodAll_nil rr0
  obtain rfl : args = #[v0] := by cases args; simp_all
  obtain ⟨rfl, rfl⟩ := trodVars_none hV
  have k0_ := h0
  have lt0_ : ∀ x ∈ pp0, x.block < W.heap.size := by obtain ⟨m, hm⟩ := h0; exact DataW.trod_lt m _ _ _ hm
  obtain ⟨p0, len0, cap0, rfl⟩ := okWide_slice Try.underlying35 (hval 0 35 v0 rfl rfl)
  obtain ⟨z0, r0⟩ := open_row (k := .u8) Try.underlying35 Try.underlying5 (by kernel_rfl) h0
  clear hA0 hval0
  refine (walk  W p0 len0 cap0 z0 r0).mono fun e W' ⟨he, bel⟩ => ?_
  subst he
  exact ⟨_, rfl, _, _, _, [], _, [], hW', trodAll_mk1 (shut_bool Try.underlying4 _), (trodAll_cons_mk (Below.trod laidOut (by kernel_rfl) (of_decide_eq_true (by kernel_rfl)) k0_ bel lt0_) trodAll_mk0), rfl, bel.frame _, fun h => by cases h⟩

theorem over : Rows.fnEnergyPassesRow.holds Try.pinned (OpenSpec.ofChange Rows.fnEnergyPassesSpec) :=
  OpenClaim.holds_of_wide 12 Try.f12 rfl rfl rfl rfl rfl rfl rfl ⟨rfl, rfl, rfl, rfl, rfl⟩ rfl rfl rfl rfl rfl (by kernel_rfl) Try.func12 (by kernel_rfl)
    (of_decide_eq_true (by kernel_rfl)) (by unfold Func.isWrapper; first | (rw [if_pos (by decide +kernel)]; kernel_rfl) | (rw [if_neg (by decide +kernel)]; exact ⟨rfl, rfl⟩))
    (fun os started H enc _ => lifted os started H enc)

/-- the given statement -/
theorem proved : Rows.FnEnergyPassesSaid := over
#print axioms proved
end Go.Proofs.Ytafbmhncmbcpjaa.pFnEnergyPasses
