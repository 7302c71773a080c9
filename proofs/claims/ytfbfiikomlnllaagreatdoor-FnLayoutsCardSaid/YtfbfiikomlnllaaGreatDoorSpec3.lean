/- Contracts and lemmas for the proofs of this seat: Spec3. -/
import Derived.Test.YtfbfiikomlnllaaGreatDoorBase
import Derived.Test.YtfbfiikomlnllaaGreatDoorNum
import Derived.Test.YtfbfiikomlnllaaGreatDoorList
import Derived.Test.YtfbfiikomlnllaaGreatDoorSeg
import Derived.Test.YtfbfiikomlnllaaGreatDoorLay
import Derived.Test.YtfbfiikomlnllaaGreatDoorLay2
import Derived.Test.YtfbfiikomlnllaaGreatDoorLay3
import Derived.Test.YtfbfiikomlnllaaGreatDoorLay15
import Derived.Test.YtfbfiikomlnllaaGreatDoorShelf
import Derived.Test.YtfbfiikomlnllaaGreatDoorText1
import Derived.Test.YtfbfiikomlnllaaGreatDoorTextLaw
import Derived.Test.YtfbfiikomlnllaaGreatDoorText2
import Derived.Test.YtfbfiikomlnllaaGreatDoorLayText
import Derived.Test.YtfbfiikomlnllaaGreatDoorRangeB
import Derived.Test.YtfbfiikomlnllaaGreatDoorLines
import Derived.Test.YtfbfiikomlnllaaGreatDoorRead1
import Derived.Test.YtfbfiikomlnllaaGreatDoorRead2
import Derived.Test.YtfbfiikomlnllaaGreatDoorReadLaw
import Derived.Test.YtfbfiikomlnllaaGreatDoorReadSpec
import Derived.Test.YtfbfiikomlnllaaGreatDoorSpec1
import Derived.Test.YtfbfiikomlnllaaGreatDoorSpec2
import Derived.Lib.Hide
import Derived.BigQuiet
import Derived.Deep.QuietTactic
import Derived.Deep.OwnRows
import Derived.Deep.LoopGhost
import Derived.Deep.RegionHeld3
import Derived.Deep.DeepCutAuto
import Derived.StillTailTactics
import Derived.WalkSpells
import Derived.WalkLawsBesides
import Derived.Lib.SplitLaws
namespace Go.Proofs.YtfbfiikomlnllaaGreatDoor
open Go.RowKit Go.Deep Go.Lib
set_option maxHeartbeats 2000000
set_option linter.unusedVariables false
set_option linter.unusedSimpArgs false

-- (6)
/-- what a reading of a line hands back -/
def LineQ (o : Option Seg) (e : Ending) : Prop := match o with
  | some s => e = .returned (.tuple #[segV s.k s.n s.r s.c s.d s.e s.f, .bool true])
  | none => e = .returned (.tuple #[segV 0 0 0 0 0 0 0, .bool false])
theorem lineS_of {x k0 : List UInt8} {r : List (List UInt8)} (h : wordsOf x = k0 :: r) : rdLineS x = match rdsS r with
    | some [a, b, c, d, e, f] => if 0 ≤ kidx k0 then some ⟨kidx k0, a, b, c, d, e, f⟩ else none
    | _ => none := by unfold rdLineS; rw [h]; rfl
theorem line_short {x k0 : List UInt8} {r : List (List UInt8)} (h : wordsOf x = k0 :: r) (hb : rdsS r = none) : rdLineS x = none := by rw [lineS_of h, hb]
theorem line_six {x k0 : List UInt8} {r : List (List UInt8)} {ys : List Int} (h : wordsOf x = k0 :: r) (hb : rdsS r = some ys) (h6 : ys.length ≠ 6) : rdLineS x = none := by
  rw [lineS_of h, hb]
  rcases ys with _ | ⟨a, _ | ⟨b, _ | ⟨c, _ | ⟨d, _ | ⟨e, _ | ⟨f, _ | ⟨g, r⟩⟩⟩⟩⟩⟩⟩ <;> first | rfl | (exact absurd rfl h6)
theorem line_no {x k0 : List UInt8} {r : List (List UInt8)} (h : wordsOf x = k0 :: r) (hk : ∀ k, k < 5 → kw k ≠ k0) : rdLineS x = none := by
  have hn : ¬ 0 ≤ kidx k0 := fun h0 => by
    obtain ⟨k, hk5, e⟩ := kidx_mem h0
    exact hk k hk5 e.symm
  rw [lineS_of h]
  split
  · rw [if_neg hn]
  · rfl
theorem line_yes {x k0 : List UInt8} {r : List (List UInt8)} {a b c d e f : Int} {k : Nat} (h : wordsOf x = k0 :: r) (hb : rdsS r = some [a, b, c, d, e, f]) (hk : k < 5) (he : kw k = k0) : rdLineS x = some ⟨k, a, b, c, d, e, f⟩ := by
  have hkk : kidx k0 = k := by
    have := kidx_kw (k := (k : Int)) (by omega) (by omega)
    rwa [Int.toNat_natCast, he] at this
  rw [lineS_of h, hb]
  simp only [hkk]
  rw [if_pos (by omega)]

set_option maxRecDepth 100000 in
theorem s_l03Segment (x : List UInt8) (hx : x.length ≤ 1048576) (w : World) : Calls Tryz.prog 19 #[strV x] w fun e w' => LineQ (rdLineS x) e ∧ Below w.heap.size w w' := by
  obtain ⟨k0, r, hkr⟩ : ∃ k0 r, wordsOf x = k0 :: r := by
    have h := (words_len x).1
    cases hh : wordsOf x with
    | nil => rw [hh] at h; simp at h
    | cons a b => exact ⟨a, b, rfl⟩
  have hrl : r.length ≤ 1048577 := by
    have := words_count x
    rw [hkr, List.length_cons] at this
    omega
  have hrm : ∀ z ∈ r, z.length ≤ 1048576 := fun z hz => by
    have := words_mem (z := x) (x := z) (by rw [hkr]; exact List.mem_cons_of_mem _ hz)
    omega
  have HKR := Lib.hid hkr
  have HRM := Lib.hid hrm
  obtain ⟨W0, hW0⟩ : ∃ W0, W0 = w.alloc (Obj.cells #[.int .i64 0, .int .i64 0, .int .i64 0, .int .i64 0, .int .i64 0, .int .i64 0, .int .i64 0] 41) := ⟨_, rfl⟩
  have O0 : Hid (Own (w.alloc (Obj.cells #[.int .i64 0, .int .i64 0, .int .i64 0, .int .i64 0, .int .i64 0, .int .i64 0, .int .i64 0] 41)) W0) := by rw [hW0]; exact Own.start _
  have CS : Hid (Calls Tryz.prog 18 #[strV x, .int .u8 32] W0 fun e w' => SplQ W0 (k0 :: r) e w' ∧ Below W0.heap.size W0 w') := by
    have := s_l01Split x hx 32 W0
    rw [show split x [32] = k0 :: r from hkr] at this
    exact this
  clear hkr hrm
  go_enter Tryz.func19, Tryz.ntmps19
  go_wp2_with fail
  rw [← hW0]
  refine CS.out.mono ?_
  rintro e W2 ⟨⟨g, cp, hgW, rfl, hcp, hcm, hS⟩, hbS⟩
  have O2 := Lib.hid (O0.out.join hbS)
  have hgl : g < W2.heap.size := by
    obtain ⟨b, off, e, hl, _⟩ := hS.2 (by simp)
    cases e
    exact hl
  have S1 : Hid (Strs W2 (some ⟨g, 1, none⟩) r.length r) := by
    refine ⟨rfl, fun hn => ⟨g, 1, rfl, hgl, fun i hi => ?_⟩⟩
    obtain ⟨b, off, e, hl, hc⟩ := hS.2 (by simp)
    cases e
    have := hc (i + 1) (by simp; omega)
    rw [Nat.zero_add] at this
    rw [Nat.add_comm 1 i, this]
    simp
  have c0 : W2.cell? ⟨g, 0, none⟩ = some (strV k0) := by
    obtain ⟨b, off, e, hl, hc⟩ := hS.2 (by simp)
    cases e
    have := hc 0 (by simp)
    rw [this]
    rfl
  have hlr : ((k0 :: r).length : Int) = (r.length : Int) + 1 := by simp
  have hl1 : (1 : Int) ≤ (r.length : Int) + 1 := by omega
  rw [List.length_cons] at hcp
  have hcpi : (r.length : Int) + 1 ≤ (cp : Int) := by omega
  have C0 := Lib.hid c0
  have HG := Lib.hid hgW
  clear hS hbS c0 hgW hW0
  have hcp0 : ¬ (cp : Int) < 1 := by omega
  by_cases hc1 : cp = 1
  case' pos =>
    obtain rfl : r = [] := List.eq_nil_of_length_eq_zero (by omega)
    subst hc1
    have CX : Hid (Calls Tryz.prog 37 #[.slice (some ⟨g, 0, none⟩) 0 0] W2 fun e w' => NumsQ 2 W2 (rdsS []) e w' ∧ Below W2.heap.size W2 w') := Lib.hid (s_l01Numbers (some ⟨g, 0, none⟩) 0 0 [] W2 ⟨rfl, fun h => absurd h (Nat.lt_irrefl _)⟩ (by omega) (fun _ h => by cases h))
    obtain ⟨r, hr⟩ : ∃ r : List (List UInt8), r = [] := ⟨_, rfl⟩
    rw [← hr] at CX HKR
    clear hr
  case' neg =>
    have CX := Lib.hid (s_l01Numbers (some ⟨g, 1, none⟩) r.length (cp - 1) r W2 S1.out hrl HRM.out)
  all_goals
    clear S1 HRM
    go_wp2_with fail
    refine CX.out.mono ?_
    rintro e W3 ⟨hN, hb3⟩
    have O3 := Lib.hid (O2.out.join hb3)
    have C03 := Lib.hid (((below_box (k := g) hb3 hgl).1 0).trans C0.out)
    have hl3 := hb3.size
    have BX : Hid (W3.heap[w.heap.size]? = some (.cells #[.int .i64 0, .int .i64 0, .int .i64 0, .int .i64 0, .int .i64 0, .int .i64 0, .int .i64 0] 41 (0, 0))) := (O3.out.block w.heap.size (by simp)).trans (World.alloc_heap_new w _)
    have OW := Lib.hid (bto (balloc (Below.refl _ _) _) O3.out.below)
    clear hb3 CX CS O2 O0
    cases hR : rdsS r with
    | none =>
      rw [hR] at hN
      have HB := Lib.hid (line_short HKR.out hR)
      clear hR
      replace hN : e = .returned (.tuple #[.slice none 0 0, .bool false]) := hN
      subst hN
      have fz : ∀ j, W3.frozen? ⟨w.heap.size, j, none⟩ = false := fun j => by simp only [World.frozen?, BX.out]; simp
      have cz : ∀ j, j < 7 → W3.cell? ⟨w.heap.size, j, none⟩ = some (.int .i64 0) := fun j hj => by
        simp only [World.cell?, BX.out]
        have : j = 0 ∨ j = 1 ∨ j = 2 ∨ j = 3 ∨ j = 4 ∨ j = 5 ∨ j = 6 := by omega
        rcases this with rfl | rfl | rfl | rfl | rfl | rfl | rfl <;> rfl
      go_wp2_with fail
      refine bodyPost_ret (v := .tuple #[segV 0 0 0 0 0 0 0, .bool false]) (by simp [results, Tryz.results19, go_sem, *]) rfl ⟨by rw [HB.out]; exact rfl, (bset (bset (bset (bset (bset (bset (bset OW.out (Nat.le_refl _) _) (Nat.le_refl _) _) (Nat.le_refl _) _) (Nat.le_refl _) _) (Nat.le_refl _) _) (Nat.le_refl _) _) (Nat.le_refl _) _)⟩
    | some ys =>
      rw [hR] at hN
      obtain ⟨q', c', hN, hq⟩ := hN
      subst hN
      by_cases h6 : ys.length = 6
      · have CELL : ∀ i, i < 6 → ∃ g2, q' = some ⟨g2, 0, none⟩ ∧ W3.cell? ⟨g2, i, none⟩ = some (.int .i64 (ys.getD i 0)) := fun i hi => by
          obtain ⟨g2, e, hrow⟩ := hq.2.2 (by omega)
          exact ⟨g2, e, hrow.cell (by omega)⟩
        obtain ⟨a, b, c, d, e, f, rfl⟩ : ∃ a b c d e f, ys = [a, b, c, d, e, f] := by
          rcases ys with _ | ⟨a, _ | ⟨b, _ | ⟨c, _ | ⟨d, _ | ⟨e, _ | ⟨f, _ | ⟨g, r⟩⟩⟩⟩⟩⟩⟩ <;> first | exact ⟨_, _, _, _, _, _, rfl⟩ | (exact absurd h6 (by simp))
        obtain ⟨g2, rfl, q0⟩ := CELL 0 (by omega)
        obtain ⟨g2', e1, q1⟩ := CELL 1 (by omega); cases e1
        obtain ⟨g2', e1, q2⟩ := CELL 2 (by omega); cases e1
        obtain ⟨g2', e1, q3⟩ := CELL 3 (by omega); cases e1
        obtain ⟨g2', e1, q4⟩ := CELL 4 (by omega); cases e1
        obtain ⟨g2', e1, q5⟩ := CELL 5 (by omega); cases e1
        have hg2 := (hq.2.1 _ rfl).2
        clear CELL hq h6
        simp only [List.getD_cons_zero, List.getD_cons_succ] at q0 q1 q2 q3 q4 q5
        have hgW2 : g < W3.heap.size := Nat.lt_of_lt_of_le hgl hl3
        have HRR := Lib.hid hR
        clear hR hgl hl3
        go_wp2_with fail
        go_loopw [7] (fun i wr => ∃ j : Nat, j ≤ 5 ∧ i = .int .i64 j ∧ (∀ k, k < j → kw k ≠ k0) ∧ Own W3 wr) (fun i _ => (5 - RowKit.intOf i).toNat)
        case atStart => exact ⟨0, by omega, rfl, fun k hk => absurd hk (Nat.not_lt_zero _), Own.start _⟩
        case round =>
          obtain ⟨j, hj, rfl, hne, hown⟩ := hrel
          obtain ⟨wB, rfl⟩ : ∃ wB : World, wB = wr := ⟨_, rfl⟩
          have HO := Lib.hid hown
          have HNE := Lib.hid hne
          have cB := ((below_box (k := g) hown.below hgW2).1 0).trans C03.out
          have lB : g < wB.heap.size := World.block_lt_of_cell? wB _ cB
          clear hown hne
          by_cases hlt : j < 5
          · have CK := Lib.hid (s_l03Kinds j hlt)
            have hji : (j : Int) < 5 := by omega
            obtain ⟨K, hK⟩ : ∃ K, kw j = K := ⟨_, rfl⟩
            rw [hK] at CK
            have HK := Lib.hid hK
            clear hK
            by_cases hkk : K = k0
            · subst hkk
              go_upto_region 8 with fail
              go_region_with (go_at_call 38; refine (CK.out _).mono ?_; rintro e w5 ⟨g5, rfl, hc5, hb5⟩; have ck5 : w5.cell? ⟨g, 0, none⟩ = some (strV K) := ((below_box (k := g) hb5 lB).1 0).trans cB; first | (have O5 := Lib.hid (HO.out.drew.join hb5)) | (have O5 := Lib.hid (HO.out.join hb5)); clear hb5)
              all_goals
                have HLY := Lib.hid (line_yes HKR.out HRR.out hlt HK.out)
                have kq := (below_box (k := g2) O5.out.below hg2).1
                have e0 := (kq 0).trans q0
                have e1 := (kq 1).trans q1
                have e2 := (kq 2).trans q2
                have e3 := (kq 3).trans q3
                have e4 := (kq 4).trans q4
                have e5 := (kq 5).trans q5
                have hB3 : w.heap.size < W3.heap.size := (Array.getElem?_eq_some_iff.1 BX.out).1
                have BX5 := (O5.out.below.block w.heap.size hB3).trans BX.out
                have BB := Lib.hid (bto OW.out O5.out.below)
                have fz : ∀ j, w5.frozen? ⟨w.heap.size, j, none⟩ = false := fun j => by simp only [World.frozen?, BX5]; simp
                have cz : ∀ j, j < 7 → w5.cell? ⟨w.heap.size, j, none⟩ = some (.int .i64 0) := fun j hj => by
                  simp only [World.cell?, BX5]
                  have : j = 0 ∨ j = 1 ∨ j = 2 ∨ j = 3 ∨ j = 4 ∨ j = 5 ∨ j = 6 := by omega
                  rcases this with rfl | rfl | rfl | rfl | rfl | rfl | rfl <;> rfl
                clear kq q0 q1 q2 q3 q4 q5 BX5 O5
                go_wp2
                go_still_tail 22, (by kernel_rfl)
                change wpList _ _ _ _ _ w5.drew
                go_wp2
                refine bodyPost_ret (v := .tuple #[segV (j : Int) a b c d e f, .bool true]) (by simp [results, Tryz.results19, go_sem, *]) rfl ⟨by rw [HLY.out]; exact rfl, ?_⟩
                exact Below.drew (bset (bset (bset (bset (bset (bset (bset BB.out (Nat.le_refl _) _) (Nat.le_refl _) _) (Nat.le_refl _) _) (Nat.le_refl _) _) (Nat.le_refl _) _) (Nat.le_refl _) _) (Nat.le_refl _) _)
            · have hkk2 : (K == k0) = false := by simpa using hkk
              go_upto_region 8 with fail
              go_region_with (go_at_call 38; refine (CK.out _).mono ?_; rintro e w5 ⟨g5, rfl, hc5, hb5⟩; have ck5 : w5.cell? ⟨g, 0, none⟩ = some (strV k0) := ((below_box (k := g) hb5 lB).1 0).trans cB; first | (have O5 := Lib.hid (HO.out.drew.join hb5)) | (have O5 := Lib.hid (HO.out.join hb5)); clear hb5)
              all_goals
                go_wp2
                go_roundw
                case rel => exact ⟨j + 1, by omega, by go_num, fun k hk => by
                  rcases Nat.lt_succ_iff_lt_or_eq.1 hk with hk | rfl
                  · exact HNE.out k hk
                  · rw [HK.out]; exact hkk, O5.out⟩
                case measure => simp [RowKit.intOf]; omega
          · obtain rfl : j = 5 := by omega
            have HLN := Lib.hid (line_no HKR.out HNE.out)
            have hB3 : w.heap.size < W3.heap.size := (Array.getElem?_eq_some_iff.1 BX.out).1
            have BX5 := (HO.out.below.block w.heap.size hB3).trans BX.out
            have BB := Lib.hid (bto OW.out HO.out.below)
            have fz : ∀ j, wB.frozen? ⟨w.heap.size, j, none⟩ = false := fun j => by simp only [World.frozen?, BX5]; simp
            have cz : ∀ j, j < 7 → wB.cell? ⟨w.heap.size, j, none⟩ = some (.int .i64 0) := fun j hj => by
              simp only [World.cell?, BX5]
              have : j = 0 ∨ j = 1 ∨ j = 2 ∨ j = 3 ∨ j = 4 ∨ j = 5 ∨ j = 6 := by omega
              rcases this with rfl | rfl | rfl | rfl | rfl | rfl | rfl <;> rfl
            clear BX5 q0 q1 q2 q3 q4 q5 cB
            go_wp2
            refine bodyPost_ret (v := .tuple #[segV 0 0 0 0 0 0 0, .bool false]) (by simp [results, Tryz.results19, go_sem, *]) rfl ⟨by rw [HLN.out]; exact rfl, (bset (bset (bset (bset (bset (bset (bset BB.out (Nat.le_refl _) _) (Nat.le_refl _) _) (Nat.le_refl _) _) (Nat.le_refl _) _) (Nat.le_refl _) _) (Nat.le_refl _) _) (Nat.le_refl _) _)⟩
      · have HB := Lib.hid (line_six HKR.out hR h6)
        have h6c : ¬ ((ys.length : Nat) : Int) = 6 := by omega
        have fz : ∀ j, W3.frozen? ⟨w.heap.size, j, none⟩ = false := fun j => by simp only [World.frozen?, BX.out]; simp
        have cz : ∀ j, j < 7 → W3.cell? ⟨w.heap.size, j, none⟩ = some (.int .i64 0) := fun j hj => by
          simp only [World.cell?, BX.out]
          have : j = 0 ∨ j = 1 ∨ j = 2 ∨ j = 3 ∨ j = 4 ∨ j = 5 ∨ j = 6 := by omega
          rcases this with rfl | rfl | rfl | rfl | rfl | rfl | rfl <;> rfl
        clear hR hq h6
        go_wp2_with fail
        refine bodyPost_ret (v := .tuple #[segV 0 0 0 0 0 0 0, .bool false]) (by simp [results, Tryz.results19, go_sem, *]) rfl ⟨by rw [HB.out]; exact rfl, (bset (bset (bset (bset (bset (bset (bset OW.out (Nat.le_refl _) _) (Nat.le_refl _) _) (Nat.le_refl _) _) (Nat.le_refl _) _) (Nat.le_refl _) _) (Nat.le_refl _) _) (Nat.le_refl _) _)⟩

end Go.Proofs.YtfbfiikomlnllaaGreatDoor
