/- Contracts and lemmas for the proofs of this seat: RDraw. -/
import Derived.Test.YtfbfiikomlnllaaGreatDoorLDraw2
import Derived.Test.YtfbfiikomlnllaaGreatDoorLDraw
import Derived.Test.YtfbfiikomlnllaaGreatDoorDRow
import Derived.Test.YtfbfiikomlnllaaGreatDoorDraw3
import Derived.Test.YtfbfiikomlnllaaGreatDoorDraw2
import Derived.Test.YtfbfiikomlnllaaGreatDoorDraw
import Derived.Test.YtfbfiikomlnllaaGreatDoorBase
import Derived.Test.YtfbfiikomlnllaaGreatDoorNum
import Derived.Test.YtfbfiikomlnllaaGreatDoorIv
import Derived.Test.YtfbfiikomlnllaaGreatDoorList
import Derived.Test.YtfbfiikomlnllaaGreatDoorSeg
import Derived.Test.YtfbfiikomlnllaaGreatDoorLay
import Derived.Test.YtfbfiikomlnllaaGreatDoorLay2
import Derived.Test.YtfbfiikomlnllaaGreatDoorLay3
import Derived.Test.YtfbfiikomlnllaaGreatDoorShelf
import Derived.Test.YtfbfiikomlnllaaGreatDoorText1
import Derived.Test.YtfbfiikomlnllaaGreatDoorLayText
import Derived.Test.YtfbfiikomlnllaaGreatDoorText3
import Derived.Test.YtfbfiikomlnllaaGreatDoorRead2
import Derived.Lib.Hide
import Derived.BigQuiet
import Derived.Deep.QuietTactic
import Derived.Deep.OwnRows
import Derived.Deep.LoopGhost
import Derived.OneCell
import Derived.Lib.SmallJoins
import Derived.Lib.LaidTab
import Derived.StillTailTactics
import Derived.WalkSpells
import Derived.WalkLawsBesides
import Derived.RangeFuncBox
import Derived.Deep.RegionHeld3
import Derived.Deep.DeepCutAuto
namespace Go.Proofs.YtfbfiikomlnllaaGreatDoor
open Go.RowKit Go.Deep Go.Lib
set_option maxHeartbeats 2000000
set_option linter.unusedVariables false
set_option linter.unusedSimpArgs false

set_option maxRecDepth 100000 in
theorem s_DrawLayoutText (p : Option Addr) (n cap : Nat) (w : World) (hin : Bytes w p n) :
    Calls Tryz.prog 11 #[.slice p n cap] w fun e w' => ∃ q m c zs, e = .returned (.agg #[.slice q m c]) ∧ (m ≤ 1000 ∧ m ≤ c) ∧ Segs w' q m zs ∧ Below w.heap.size w w' := by
  have CF := Lib.hid (s_l01From p n cap (w.alloc (Obj.cells #[.slice none 0 0] 24)) (Bytes.keep hin (balloc (Below.refl _ _) _)))
  clear hin
  go_enter Tryz.func11, Tryz.ntmps11
  go_wp2_with fail
  refine CF.out.mono ?_
  rintro e w1 ⟨rfl, hS, hB⟩
  obtain ⟨b, hb⟩ : ∃ b, b = (w.alloc (Obj.cells #[.slice none 0 0] 24)).heap.size := ⟨_, rfl⟩
  rw [← hb] at hS ⊢
  rw [World.size_alloc] at hb
  have HBQ := Lib.hid hb
  clear hb
  obtain ⟨k1, f1, l1⟩ := below_box (k := w.heap.size) hB (by simp)
  have O1 : Hid (Own w w1) := Own.join (Own.alloc (Own.start w) (Obj.cells #[.slice none 0 0] 24)) hB
  have CD := Lib.hid (s_l03Draw b p n cap w1 hS)
  clear CF hS hB
  go_wp2_with fail
  refine CD.out.mono ?_
  rintro e w2 ⟨q, m, c, zs, rfl, hmc, hSg, hq, hSr, hO⟩
  obtain ⟨k2, f2⟩ := hO.box (k := w.heap.size) (by have := HBQ.out; omega) l1
  have cz : w2.cell? ⟨w.heap.size, 0, none⟩ = some (.slice none 0 0) := by rw [k2 0, k1 0]; go_simp
  have fz : w2.frozen? ⟨w.heap.size, 0, none⟩ = false := by rw [f2 0, f1 0]; go_simp
  have B2 := Lib.hid (hO.below (show Below w.heap.size w w1 from O1.out) (by have := HBQ.out; omega))
  have S2 := Lib.hid (hSg.only (b := w.heap.size) (Only.setCell (Only.refl _ w2) (p := ⟨w.heap.size, 0, none⟩) (Or.inl rfl) (.slice q m c)) (fun _ g o e => by have := hq g o e; omega))
  have HMC := Lib.hid hmc
  clear k1 f1 k2 f2 hSg hSr hO CD O1 hmc
  go_wp2_with fail
  refine bodyPost_ret (v := .agg #[.slice q m c]) (by simp [results, Tryz.results11, go_sem, *]) rfl ?_
  refine ⟨q, m, c, zs, rfl, HMC.out, ?_, ?_⟩
  · exact S2.out
  · exact bset B2.out (by simp) _

theorem layTR_len (zs : List Seg) : (layTR zs).length ≤ 2352 := by
  unfold layTR
  by_cases hl : layOk zs = true
  · rw [if_pos hl]
    have h := layOk_iff.1 hl
    have h2 := layK_len (zs := zs) (k := zs.length) (fun i hi => h.2.2.1 i hi)
    have h3 := h.2.1
    unfold layT
    omega
  · rw [if_neg hl]; simp

set_option maxRecDepth 100000 in
theorem l_likeLayouts9 (p q : Option Addr) (n c1 c2 : Nat) (zs : List Seg) (w : World) (hp : Segs w p n zs) (hq : Segs w q n zs) :
    Calls Tryz.prog 17 #[.agg #[.slice p n c1], .agg #[.slice q n c2]] w fun en w' => en = .returned (.bool true) ∧ Below w.heap.size w w' := by
  have hn := hp.2.1
  unfold maxLen at hn
  obtain ⟨W0, hW0⟩ : ∃ W0, W0 = (w.alloc (Obj.cells #[.slice p n c1] 24)).alloc (Obj.cells #[.slice q n c2] 24) := ⟨_, rfl⟩
  have hb : Below w.heap.size w W0 := by rw [hW0]; exact balloc (balloc (Below.refl _ _) _) _
  have Hp := Lib.hid (hp.keep hb)
  have Hq := Lib.hid (hq.keep hb)
  have HB := Lib.hid hb
  have x0 : W0.cell? ⟨w.heap.size, 0, none⟩ = some (.slice p n c1) := by rw [hW0]; go_simp
  have x1 : W0.cell? ⟨w.heap.size + 1, 0, none⟩ = some (.slice q n c2) := by rw [hW0]; go_simp
  have hs0 : w.heap.size + 1 < W0.heap.size := World.block_lt_of_cell? W0 _ x1
  clear hp hq hb
  go_enter Tryz.func17, Tryz.ntmps17
  go_wp2_with fail
  rw [← hW0]
  clear hW0
  go_loopw [5] (fun i wr => ∃ k : Nat, k ≤ n ∧ i = .int .i64 k ∧ Own W0 wr) (fun i _ => n - (RowKit.intOf i).toNat)
  case atStart => exact ⟨0, Nat.zero_le _, rfl, Own.start _⟩
  case round =>
    obtain ⟨k, hk, rfl, hown⟩ := hrel
    obtain ⟨wA, rfl⟩ : ∃ wA : World, wA = wr := ⟨_, rfl⟩
    have y0 := ((below_box (k := w.heap.size) hown.below (by omega)).1 0).trans x0
    have y1 := ((below_box (k := w.heap.size + 1) hown.below (by omega)).1 0).trans x1
    have hl0 := World.block_lt_of_cell? wA _ y0
    have hl1 := World.block_lt_of_cell? wA _ y1
    have HO := Lib.hid hown
    by_cases hlt : k < n
    · obtain ⟨b, off, rfl, hlb, hc⟩ := (Hp.out.own hown).2.2 (by omega)
      obtain ⟨b2, off2, rfl, hlb2, hc2⟩ := (Hq.out.own hown).2.2 (by omega)
      obtain ⟨c0, c1, c2, c3, c4, c5, c6⟩ := hc k hlt
      obtain ⟨d0, d1, d2, d3, d4, d5, d6⟩ := hc2 k hlt
      have hlen : (k : Int) < n := by omega
      obtain ⟨s, hs⟩ : ∃ s, s = sg zs k := ⟨_, rfl⟩
      rw [← hs] at c0 c1 c2 c3 c4 c5 c6 d0 d1 d2 d3 d4 d5 d6
      clear hc hc2 hown hs
      go_wp2
      go_quiet (fail)
      go_wp2
      go_roundw
      case rel => exact ⟨k + 1, by omega, by go_num, HO.out.drewN _⟩
      case measure => simp [RowKit.intOf]; omega
    · obtain rfl : k = n := by omega
      clear hown
      go_wp2
      go_ret
      exact ⟨rfl, bto HB.out HO.out.below⟩

end Go.Proofs.YtfbfiikomlnllaaGreatDoor
