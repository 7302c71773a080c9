/- Contracts and lemmas for the proofs of this seat: RDraw2. -/
import Derived.Test.YtfbfiikomlnllaaGreatDoorRDamage
import Derived.Test.YtfbfiikomlnllaaGreatDoorRDraw
import Derived.Test.YtfbfiikomlnllaaGreatDoorLDraw2
import Derived.Test.YtfbfiikomlnllaaGreatDoorLDraw
import Derived.Test.YtfbfiikomlnllaaGreatDoorDRow
import Derived.Test.YtfbfiikomlnllaaGreatDoorDraw3
import Derived.Test.YtfbfiikomlnllaaGreatDoorDraw2
import Derived.Test.YtfbfiikomlnllaaGreatDoorDraw
import Derived.Test.YtfbfiikomlnllaaGreatDoorBase
import Derived.Test.YtfbfiikomlnllaaGreatDoorNum
import Derived.Test.YtfbfiikomlnllaaGreatDoorIv
import Derived.Test.YtfbfiikomlnllaaGreatDoorList
import Derived.Test.YtfbfiikomlnllaaGreatDoorSeg
import Derived.Test.YtfbfiikomlnllaaGreatDoorLay
import Derived.Test.YtfbfiikomlnllaaGreatDoorLay2
import Derived.Test.YtfbfiikomlnllaaGreatDoorLay3
import Derived.Test.YtfbfiikomlnllaaGreatDoorShelf
import Derived.Test.YtfbfiikomlnllaaGreatDoorText1
import Derived.Test.YtfbfiikomlnllaaGreatDoorLayText
import Derived.Test.YtfbfiikomlnllaaGreatDoorText3
import Derived.Test.YtfbfiikomlnllaaGreatDoorRead2
import Derived.Lib.Hide
import Derived.BigQuiet
import Derived.Deep.QuietTactic
import Derived.Deep.OwnRows
import Derived.Deep.LoopGhost
import Derived.OneCell
import Derived.Lib.SmallJoins
import Derived.Lib.LaidTab
import Derived.StillTailTactics
import Derived.WalkSpells
import Derived.WalkLawsBesides
import Derived.RangeFuncBox
import Derived.Deep.RegionHeld3
import Derived.Deep.DeepCutAuto
namespace Go.Proofs.YtfbfiikomlnllaaGreatDoor
open Go.RowKit Go.Deep Go.Lib
set_option maxHeartbeats 2000000
set_option linter.unusedVariables false
set_option linter.unusedSimpArgs false

set_option maxRecDepth 100000 in
theorem s_DrawReadLayout (p : Option Addr) (n cap : Nat) (w : World) (hin : Bytes w p n) :
    Calls Tryz.prog 13 #[.slice p n cap] w fun e w' => ∃ l : List UInt8, e = .returned (strV l) ∧ l.length ≤ 1048576 ∧ Below w.heap.size w w' := by
  have CF := Lib.hid (s_l01From p n cap w hin)
  clear hin
  go_enter Tryz.func13, Tryz.ntmps13
  go_wp2_with fail
  refine CF.out.mono ?_
  rintro e w1 ⟨rfl, hS, hB⟩
  have O1 := Lib.hid (Own.join (Own.start w) hB)
  obtain ⟨b, hb⟩ : ∃ b, b = w.heap.size := ⟨_, rfl⟩
  rw [← hb] at hS ⊢
  have HBQ := Lib.hid hb
  clear hb
  have CD := Lib.hid (s_l03Draw b p n cap w1 hS)
  clear CF hS hB
  go_wp2_with fail
  refine CD.out.mono ?_
  rintro e w2 ⟨q, m, c, zs, rfl, hmc, hSg, hq, hSr, hO⟩
  have B2 := Lib.hid (hO.below (show Below w.heap.size w w1 from O1.out) (by have := HBQ.out; omega))
  have CL := Lib.hid (s_LayoutText q m c zs w2 hSg)
  have SR := Lib.hid hSr
  have hl := layTR_len zs
  obtain ⟨t, ht⟩ : ∃ t, layTR zs = t := ⟨_, rfl⟩
  rw [ht] at CL hl
  have HMC := Lib.hid hmc
  clear hSg hSr hO CD O1 hmc ht hq
  go_wp2_with fail
  refine CL.out.mono ?_
  rintro e w3 ⟨rfl, hb3⟩
  have B3 := Lib.hid (Own.join (show Own w w2 from B2.out) hb3)
  have SR3 := SR.out.keep hb3
  have CN := Lib.hid (s_l01Next b 3 p n cap w3 SR3)
  clear hb3 CL SR SR3
  go_wp2_with fail
  refine CN.out.mono ?_
  rintro e w4 ⟨x, rfl, h0, h1, h2, hS, hO⟩
  have B4 := Lib.hid (hO.below (show Below w.heap.size w w3 from B3.out) (by have := HBQ.out; omega))
  have CG := Lib.hid (s_l01DamageN 2352 (by omega) b p n cap t hl w4 hS)
  clear hO hS h1 h2 CN B3 B2
  by_cases hx : x = 0
  · subst hx
    go_wp2_with fail
    refine CG.out.mono ?_
    rintro e w5 ⟨r, rfl, hr, hO⟩
    have B5 := Lib.hid (hO.below (show Below w.heap.size w w4 from B4.out) (by have := HBQ.out; omega))
    have HR := Lib.hid hr
    clear hO hr
    go_wp2_with fail
    go_ret
    exact ⟨r, rfl, by have := HR.out; omega, B5.out⟩
  · have hx1 : (x == 0) = false := by simpa using hx
    have HT := Lib.hid hl
    go_wp2_with fail
    go_ret
    exact ⟨t, rfl, by omega, B4.out⟩

end Go.Proofs.YtfbfiikomlnllaaGreatDoor
