/- Contracts and lemmas for the proofs of this seat: Spec4. -/
import Derived.Test.YtfbfiikomlnllaaGreatDoorBase
import Derived.Test.YtfbfiikomlnllaaGreatDoorNum
import Derived.Test.YtfbfiikomlnllaaGreatDoorList
import Derived.Test.YtfbfiikomlnllaaGreatDoorSeg
import Derived.Test.YtfbfiikomlnllaaGreatDoorLay
import Derived.Test.YtfbfiikomlnllaaGreatDoorLay2
import Derived.Test.YtfbfiikomlnllaaGreatDoorLay3
import Derived.Test.YtfbfiikomlnllaaGreatDoorLay15
import Derived.Test.YtfbfiikomlnllaaGreatDoorShelf
import Derived.Test.YtfbfiikomlnllaaGreatDoorText1
import Derived.Test.YtfbfiikomlnllaaGreatDoorTextLaw
import Derived.Test.YtfbfiikomlnllaaGreatDoorText2
import Derived.Test.YtfbfiikomlnllaaGreatDoorLayText
import Derived.Test.YtfbfiikomlnllaaGreatDoorRangeB
import Derived.Test.YtfbfiikomlnllaaGreatDoorLines
import Derived.Test.YtfbfiikomlnllaaGreatDoorRead1
import Derived.Test.YtfbfiikomlnllaaGreatDoorRead2
import Derived.Test.YtfbfiikomlnllaaGreatDoorReadLaw
import Derived.Test.YtfbfiikomlnllaaGreatDoorReadSpec
import Derived.Test.YtfbfiikomlnllaaGreatDoorSpec1
import Derived.Test.YtfbfiikomlnllaaGreatDoorSpec2
import Derived.Test.YtfbfiikomlnllaaGreatDoorSpec3
import Derived.Lib.Hide
import Derived.BigQuiet
import Derived.Deep.QuietTactic
import Derived.Deep.OwnRows
import Derived.Deep.LoopGhost
import Derived.Deep.RegionHeld3
import Derived.Deep.DeepCutAuto
import Derived.StillTailTactics
import Derived.WalkSpells
import Derived.WalkLawsBesides
import Derived.Lib.SplitLaws
namespace Go.Proofs.YtfbfiikomlnllaaGreatDoor
open Go.RowKit Go.Deep Go.Lib
set_option maxHeartbeats 2000000
set_option linter.unusedVariables false
set_option linter.unusedSimpArgs false

-- (6)
theorem rdLsS_snoc : ∀ (ws : List (List UInt8)) (z : List UInt8), rdLsS (ws ++ [z]) = match rdLsS ws, rdLineS z with
    | some ys, some x => some (ys ++ [x])
    | _, _ => none
  | [], z => by
    simp only [List.nil_append, rdLsS]
    cases rdLineS z <;> rfl
  | a :: r, z => by
    simp only [List.cons_append, rdLsS, rdLsS_snoc r z]
    cases rdLineS a <;> cases rdLsS r <;> cases rdLineS z <;> rfl
theorem rdLsS_len : ∀ {ws : List (List UInt8)} {zs : List Seg}, rdLsS ws = some zs → zs.length = ws.length
  | [], zs, h => by simp only [rdLsS, Option.some.injEq] at h; subst h; rfl
  | z :: r, zs, h => by
    simp only [rdLsS] at h
    split at h
    · rename_i x ys' h1 h2
      cases h
      simp [rdLsS_len h2]
    · cases h
theorem rdLsS_bad {ws : List (List UInt8)} {k : Nat} (hk : k < ws.length) (h : rdLineS (ws.getD k []) = none) : rdLsS ws = none := by
  induction ws generalizing k with
  | nil => simp at hk
  | cons a r ih =>
    simp only [rdLsS]
    cases k with
    | zero =>
      have : rdLineS a = none := by simpa using h
      rw [this]
    | succ k =>
      rw [ih (k := k) (by simpa using hk) (by simpa using h)]
      cases rdLineS a <;> rfl
theorem take_dropLast {ls : List (List UInt8)} {j : Nat} (h : j + 1 = ls.length) : ls.take j = ls.dropLast := by
  rw [List.dropLast_eq_take]
  congr 1
  omega
theorem bad_line {ls : List (List UInt8)} {j : Nat} (h : j + 1 < ls.length) (hb : rdLineS (ls.getD j []) = none) : rdLsS ls.dropLast = none := by
  refine rdLsS_bad (k := j) (by rw [List.length_dropLast]; omega) ?_
  rw [← hb]
  congr 1
  rw [List.getD_eq_getElem?_getD, List.getD_eq_getElem?_getD, List.getElem?_dropLast, if_pos (by omega)]
theorem last_line {ls : List (List UInt8)} {j : Nat} (h : j + 1 = ls.length) : ls.getLast? = some (ls.getD j []) := by
  rw [List.getLast?_eq_getElem?, List.getD_eq_getElem?_getD, show ls.length - 1 = j by omega, List.getElem?_eq_getElem (by omega)]
  rfl
theorem riS_bad {s : List UInt8} (h : rdLsS (split s [10]).dropLast = none) : riS s = none := by unfold riS; rw [h]
theorem riS_of {s : List UInt8} {zs : List Seg} {z : List UInt8} (h : rdLsS (split s [10]).dropLast = some zs) (hl : (split s [10]).getLast? = some z) : riS s = if layOk zs = true ∧ z = [] then some zs else none := by
  unfold riS
  rw [h, hl]
  simp only [Option.some.injEq]
theorem split_len (s : List UInt8) : 0 < (split s [10]).length ∧ (split s [10]).length ≤ s.length + 1 := by
  have h1 := splitB_data ⟨#[10]⟩ 0 (countB ⟨s.toArray⟩ ⟨#[10]⟩) ⟨s.toArray⟩
  have h2 : split s [10] = (splitB ⟨#[10]⟩ 0 (countB ⟨s.toArray⟩ ⟨#[10]⟩) ⟨s.toArray⟩).map (·.data.toList) := by rw [h1]; rfl
  have h3 : (split s [10]).length = countB ⟨s.toArray⟩ ⟨#[10]⟩ + 1 := by
    rw [h2, List.length_map]
    exact splitB_all ⟨#[10]⟩ (by decide) 0 _ _ rfl
  have := countB_le ⟨#[10]⟩ (by decide) s.length ⟨s.toArray⟩ (Nat.le_refl _)
  have h4 : (⟨s.toArray⟩ : ByteArray).size = s.length := rfl
  omega
theorem split_mem {s x : List UInt8} (h : x ∈ split s [10]) : x.length ≤ s.length := splitK_mem [10] _ _ _ h

set_option maxRecDepth 100000 in
theorem s_ReadLayout (s : List UInt8) (hs : s.length ≤ 1048576) (w : World) : Calls Tryz.prog 5 #[strV s] w fun e w' => LayQ 41 w (riS s) e w' ∧ Below w.heap.size w w' := by
  obtain ⟨i0, hi, hz0, hz1, hz2⟩ := info_parts (P := Tryz.prog) (e := 41) (z := segV 0 0 0 0 0 0 0) (size := 7) (bytes := 56) (by kernel_rfl)
  obtain ⟨hlp, hlm⟩ := split_len s
  have hmem : ∀ z ∈ split s [10], z.length ≤ 1048576 := fun z hz => Nat.le_trans (split_mem hz) hs
  have RB : Hid (rdLsS (split s [10]).dropLast = none → riS s = none) := riS_bad
  have RO : Hid (∀ zs z, rdLsS (split s [10]).dropLast = some zs → (split s [10]).getLast? = some z → riS s = if layOk zs = true ∧ z = [] then some zs else none) := fun _ _ => riS_of
  obtain ⟨W0, hW0⟩ : ∃ W0, W0 = w.alloc (Obj.cells #[.slice none 0 0] 24) := ⟨_, rfl⟩
  have O0 : Hid (Own (w.alloc (Obj.cells #[.slice none 0 0] 24)) W0) := by rw [hW0]; exact Own.start _
  have CS := Lib.hid (s_l01Split s hs 10 W0)
  obtain ⟨ls, hls⟩ : ∃ ls, split s [10] = ls := ⟨_, rfl⟩
  rw [hls] at hlp hlm hmem RB RO CS
  have HM := Lib.hid hmem
  clear hls hmem
  go_enter Tryz.func5, Tryz.ntmps5
  go_wp2_with fail
  rw [← hW0]
  refine CS.out.mono ?_
  rintro e W2 ⟨⟨g, cp, hgW, rfl, hcp, hcm, hS⟩, hbS⟩
  have O2 := Lib.hid (O0.out.join hbS)
  have HS := Lib.hid hS
  have BX : Hid (W2.heap[w.heap.size]? = some (.cells #[.slice none 0 0] 24 (0, 0))) := (O2.out.block w.heap.size (by simp)).trans (World.alloc_heap_new w _)
  have OW := Lib.hid (bto (balloc (Below.refl _ _) _) O2.out.below)
  have hB2 : w.heap.size < W2.heap.size := (Array.getElem?_eq_some_iff.1 BX.out).1
  clear hS hbS hgW hW0 CS O0 O2
  go_wp2
  go_loopw [5, 6] (fun v i wr => ∃ (j : Nat) (zs : List Seg), j + 1 ≤ ls.length ∧ i = .int .i64 j ∧ rdLsS (ls.take j) = some zs ∧ (∃ v0 : Value, v0 = v ∧ wr.ownsRow W2.heap.size 41 7 v0 zs.length (rowV (segF zs) (zs.length * 7))) ∧ Own W2 wr) (fun _ i _ => (ls.length - RowKit.intOf i).toNat)
  case atStart => exact ⟨0, [], hlp, rfl, rfl, ⟨_, rfl, own_emptyS _ _ _⟩, (Own.start _).alloc _⟩
  case round =>
    obtain ⟨j, zs, hj, rfl, hzs, ⟨v, rfl, how⟩, hown⟩ := hrel
    obtain ⟨wB, rfl⟩ : ∃ wB : World, wB = wr := ⟨_, rfl⟩
    have HO := Lib.hid hown
    have HOWN := Lib.hid how
    have HZS := Lib.hid hzs
    have hlen : zs.length = j := by rw [rdLsS_len hzs, List.length_take]; omega
    have hlW := hown.le
    obtain ⟨b, off, hbo, hlb, hc⟩ := (HS.out.keep hown).2 (by omega)
    cases hbo
    have hcj := hc j (by omega)
    rw [Nat.zero_add] at hcj
    have hzm : (ls.getD j []).length ≤ 1048576 := HM.out _ (by rw [List.getD_eq_getElem?_getD, List.getElem?_eq_getElem (by omega)]; exact List.getElem_mem _)
    have hB3 := (hown.below.block w.heap.size hB2).trans BX.out
    have fz : wB.frozen? ⟨w.heap.size, 0, none⟩ = false := by simp only [World.frozen?, hB3]; simp
    have cz : wB.cell? ⟨w.heap.size, 0, none⟩ = some (.slice none 0 0) := by simp only [World.cell?, hB3]; simp
    have LB := Lib.hid hlb
    clear hc hB3 hown how hzs
    by_cases hlt : j + 1 < ls.length
    · have hsn := take_snocW (ws := ls) (k := j) (by omega)
      have hbad : rdLineS (ls.getD j []) = none → rdLsS ls.dropLast = none := bad_line hlt
      obtain ⟨z, hz⟩ : ∃ z, ls.getD j [] = z := ⟨_, rfl⟩
      rw [hz] at hcj hsn hzm hbad
      have HSN := Lib.hid hsn
      have HBD := Lib.hid hbad
      have CL := Lib.hid (s_l03Segment z hzm wB)
      have hji : (j : Int) + 1 < (ls.length : Int) := by omega
      clear hz hsn hbad
      go_wp2_with fail
      refine CL.out.mono ?_
      rintro e w4 ⟨hQ, hb4⟩
      have O4 := Lib.hid (HO.out.join hb4)
      have W4 := Lib.hid (how_keep' HOWN.out hb4)
      have hsz4 := hb4.size
      have hB3 := (O4.out.below.block w.heap.size hB2).trans BX.out
      have BB := Lib.hid (bto OW.out O4.out.below)
      clear hb4 fz cz CL
      cases hR : rdLineS z with
      | none =>
        rw [hR] at hQ
        have hQ2 : e = .returned (.tuple #[segV 0 0 0 0 0 0 0, .bool false]) := hQ
        subst hQ2
        have HN := Lib.hid (RB.out (HBD.out hR))
        have fz : w4.frozen? ⟨w.heap.size, 0, none⟩ = false := by simp only [World.frozen?, hB3]; simp
        have cz : w4.cell? ⟨w.heap.size, 0, none⟩ = some (.slice none 0 0) := by simp only [World.cell?, hB3]; simp
        have lz : w.heap.size < w4.heap.size := Nat.lt_of_lt_of_le (Nat.lt_of_lt_of_le hB2 hlW) hsz4
        clear hR hQ hB3
        go_wp2_with fail
        refine bodyPost_ret (v := .tuple #[.agg #[.slice none 0 0], .bool false]) (by simp [results, Tryz.results5, go_sem, *]) rfl ⟨by rw [HN.out]; exact rfl, balloc (bset BB.out (by simp) _) _⟩
      | some sg1 =>
        rw [hR] at hQ
        obtain ⟨x0, x1, x2, x3, x4, x5, x6⟩ := sg1
        have hQ2 : e = .returned (.tuple #[segV x0 x1 x2 x3 x4 x5 x6, .bool true]) := hQ
        subst hQ2
        have HRR := Lib.hid hR
        clear hR hQ hB3
        go_wp2_with (at_builtin; refine wpList_append_k _ rfl _ _ 22 rfl W2.heap.size 41 i0 (segV 0 0 0 0 0 0 0) 7 56 Tryz.underlying22 hi hz0 hz1 hz2 rfl (by decide) _ _ _ rfl ((W4.out.alloc _).alloc _) ⟨w4.heap.size + 1, 0, none⟩ 1 1 [.int .i64 x0, .int .i64 x1, .int .i64 x2, .int .i64 x3, .int .i64 x4, .int .i64 x5, .int .i64 x6] rfl rfl (fun q u hq => by have := sgnews (w4.alloc (Obj.cells #[.int .i64 x0, .int .i64 x1, .int .i64 x2, .int .i64 x3, .int .i64 x4, .int .i64 x5, .int .i64 x6] 41)) x0 x1 x2 x3 x4 x5 x6 41 q u hq; rwa [World.size_alloc] at this) (by simp [Value.oneCell']) (by decide) (by unfold maxLen; omega) (by omega) (by simp; omega) ?_; intro g2 c2 w1 hown1 hbel hkp hfar hsz1; have HOWN1 := Lib.hid hown1; have HBEL := Lib.hid hbel; clear hown1 hbel hkp hfar)
        go_roundw
        case rel => exact ⟨j + 1, zs ++ [⟨x0, x1, x2, x3, x4, x5, x6⟩], by omega, by go_num, by rw [HSN.out, rdLsS_snoc, HZS.out, HRR.out], ⟨_, rfl, by
          have h := HOWN1.out
          rw [segF_snoc zs ⟨x0, x1, x2, x3, x4, x5, x6⟩] at h
          simpa [hlen] using h⟩, Below.trans ((O4.out.alloc _).alloc _).below (HBEL.out.mono (Nat.le_refl _))⟩
        case measure => simp [RowKit.intOf]; omega
    · have hj1 : j + 1 = ls.length := by omega
      have hri := RO.out zs (ls.getD j []) (by rw [← take_dropLast hj1]; exact HZS.out) (last_line hj1)
      obtain ⟨z, hz⟩ : ∃ z, ls.getD j [] = z := ⟨_, rfl⟩
      rw [hz] at hcj hzm hri
      obtain ⟨q, c, rfl, hQ⟩ := ownQ_of_own HOWN.out (by omega)
      have hji : (ls.length : Int) = (j : Int) + 1 := by omega
      have hlj : ls.length - 1 = j := by omega
      have lz : w.heap.size < wB.heap.size := by omega
      have HQ := Lib.hid hQ
      have HRI := Lib.hid hri
      have BB := Lib.hid (bto OW.out HO.out.below)
      clear hz hri hQ
      by_cases hze : z = []
      · subst hze
        have hz1 : (([] : List UInt8) == []) = true := rfl
        have CI := Lib.hid (fun W (h : Segs W q zs.length zs) => s_IsLayout q zs.length c zs W h)
        rw [hlen] at CI
        have SG := Lib.hid (segs_own HQ.out)
        have S1 : Hid (Segs (wB.alloc (Obj.cells #[.slice q zs.length c] 24)) q zs.length zs) := SG.out.keep ((Below.refl _ _).alloc (Nat.le_refl _) _)
        rw [hlen] at S1
        rcases Bool.eq_false_or_eq_true (layOk zs) with hl | hl
        · have HN := Lib.hid (show riS s = some zs by rw [HRI.out, if_pos ⟨hl, rfl⟩])
          rw [hl] at CI
          go_wp2_with fail
          refine (CI.out _ S1.out).mono ?_
          rintro e w6 ⟨rfl, hb6⟩
          have k9 := (below_box (k := wB.heap.size) hb6 (by simp)).1 0
          have c9 : w6.cell? ⟨wB.heap.size, 0, none⟩ = some (.slice q j c) := by rw [k9]; go_simp
          obtain ⟨kc, kf, kl⟩ := below_box (k := w.heap.size) hb6 (by simp; omega)
          have cz6 : w6.cell? ⟨w.heap.size, 0, none⟩ = some (.slice none 0 0) := by rw [kc 0]; go_simp
          have fz6 : w6.frozen? ⟨w.heap.size, 0, none⟩ = false := by rw [kf 0]; go_simp
          have HB6 := Lib.hid hb6
          clear k9 kc kf hb6 CI S1 SG
          go_wp2_with fail
          refine bodyPost_ret (v := .tuple #[.agg #[.slice q j c], .bool true]) (by simp [results, Tryz.results5, go_sem, *]) rfl ⟨?_, ?_⟩
          · rw [HN.out]
            refine ⟨q, c, by rw [hlen], ?_⟩
            refine ownQ_move HQ.out (Nat.le_of_lt hB2) ?_ ?_
            · have := HB6.out.size
              simp at this ⊢
              omega
            · intro k c' t' f' hk hkk
              have hkl := (Array.getElem?_eq_some_iff.1 hkk).1
              refine (Below.heap_setCell w6 ⟨w.heap.size, 0, none⟩ _ k (by show k ≠ w.heap.size; omega)).trans ?_
              exact (HB6.out.block k (by simp; omega)).trans (Below.heap_alloc _ _ _ hkl)
          · exact bset (bto (balloc BB.out _) HB6.out) (by simp) _
        · have HN := Lib.hid (show riS s = none by rw [HRI.out, if_neg (by rw [hl]; simp)])
          rw [hl] at CI
          go_wp2_with fail
          refine (CI.out _ S1.out).mono ?_
          rintro e w6 ⟨rfl, hb6⟩
          have k9 := (below_box (k := wB.heap.size) hb6 (by simp)).1 0
          have c9 : w6.cell? ⟨wB.heap.size, 0, none⟩ = some (.slice q j c) := by rw [k9]; go_simp
          obtain ⟨kc, kf, kl⟩ := below_box (k := w.heap.size) hb6 (by simp; omega)
          have cz6 : w6.cell? ⟨w.heap.size, 0, none⟩ = some (.slice none 0 0) := by rw [kc 0]; go_simp
          have fz6 : w6.frozen? ⟨w.heap.size, 0, none⟩ = false := by rw [kf 0]; go_simp
          have HB6 := Lib.hid hb6
          clear k9 kc kf hb6 CI S1 SG
          go_wp2_with fail
          refine bodyPost_ret (v := .tuple #[.agg #[.slice none 0 0], .bool false]) (by simp [results, Tryz.results5, go_sem, *]) rfl ⟨by rw [HN.out]; exact rfl, ?_⟩
          exact bset (bto (balloc BB.out _) HB6.out) (by simp) _
      · have HN := Lib.hid (show riS s = none by rw [HRI.out, if_neg (fun h => hze h.2)])
        have hz1 : (z == []) = false := by simpa using hze
        go_wp2_with fail
        refine bodyPost_ret (v := .tuple #[.agg #[.slice none 0 0], .bool false]) (by simp [results, Tryz.results5, go_sem, *]) rfl ⟨by rw [HN.out]; exact rfl, ?_⟩
        exact balloc (bset BB.out (by simp) _) _

end Go.Proofs.YtfbfiikomlnllaaGreatDoor
