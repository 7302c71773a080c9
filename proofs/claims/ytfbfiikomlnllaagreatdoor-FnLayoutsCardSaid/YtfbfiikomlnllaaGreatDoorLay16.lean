/- Contracts and lemmas for the proofs of this seat: Lay16. -/
import Derived.Test.YtfbfiikomlnllaaGreatDoorBase
import Derived.Test.YtfbfiikomlnllaaGreatDoorNum
import Derived.Test.YtfbfiikomlnllaaGreatDoorIv
import Derived.Test.YtfbfiikomlnllaaGreatDoorIv2
import Derived.Test.YtfbfiikomlnllaaGreatDoorDiv
import Derived.Test.YtfbfiikomlnllaaGreatDoorRoot
import Derived.Test.YtfbfiikomlnllaaGreatDoorEn
import Derived.Test.YtfbfiikomlnllaaGreatDoorSeg
import Derived.Test.YtfbfiikomlnllaaGreatDoorList
import Derived.Test.YtfbfiikomlnllaaGreatDoorLay
import Derived.Test.YtfbfiikomlnllaaGreatDoorLay2
import Derived.Test.YtfbfiikomlnllaaGreatDoorLay3
import Derived.Test.YtfbfiikomlnllaaGreatDoorLay12
import Derived.Test.YtfbfiikomlnllaaGreatDoorLay13
import Derived.Test.YtfbfiikomlnllaaGreatDoorLay15
import Derived.Lib.Hide
import Derived.BigQuiet
import Derived.Deep.QuietTactic
import Derived.Deep.OwnRows
import Derived.Deep.LoopGhost
import Derived.Deep.RegionHeld3
import Derived.Deep.DeepCutAuto
import Derived.StillTailTactics
import Derived.Deep.AppendLies
import Derived.Deep.DrawnRows
import Derived.Outline
namespace Go.Proofs.YtfbfiikomlnllaaGreatDoor
open Go.RowKit Go.Deep
set_option maxHeartbeats 2000000
set_option linter.unusedVariables false
set_option linter.unusedSimpArgs false

attribute [local go_sem] lt_2 lt_3 lt_4 lt_5 lt_6 fld_lo fld_hi
theorem chg_size {q : Option Addr} {w w' : World} (h : Chg q w w') : w.heap.size ≤ w'.heap.size := h.size
theorem setsize (w : World) (a : Addr) (v : Value) : (w.setCell a v).heap.size = w.heap.size := by simp [World.setCell]

theorem upd_l_markSegmentS {f : Nat → Int} {k j : Nat} (i : Nat) :
    (if i = j * 7 + 6 then ((k : Int) + (j : Int) * 7 + 1 + 1 + 1 + 1 + 1 + 1) else (if i = j * 7 + 5 then ((k : Int) + (j : Int) * 7 + 1 + 1 + 1 + 1 + 1) else (if i = j * 7 + 4 then ((k : Int) + (j : Int) * 7 + 1 + 1 + 1 + 1) else (if i = j * 7 + 3 then ((k : Int) + (j : Int) * 7 + 1 + 1 + 1) else (if i = j * 7 + 2 then ((k : Int) + (j : Int) * 7 + 1 + 1) else (if i = j * 7 + 1 then ((k : Int) + (j : Int) * 7 + 1) else (if i = j * 7 then ((k : Int) + (j : Int) * 7) else (if i < j * 7 then ((k + i : Nat) : Int) else f i)))))))) = (if i < (j + 1) * 7 then ((k + i : Nat) : Int) else f i) := by
  by_cases e6 : i = j * 7 + 6
  · rw [if_pos e6, if_pos (by omega)]; omega
  by_cases e5 : i = j * 7 + 5
  · rw [if_neg e6]; rw [if_pos e5, if_pos (by omega)]; omega
  by_cases e4 : i = j * 7 + 4
  · rw [if_neg e6]; rw [if_neg e5]; rw [if_pos e4, if_pos (by omega)]; omega
  by_cases e3 : i = j * 7 + 3
  · rw [if_neg e6]; rw [if_neg e5]; rw [if_neg e4]; rw [if_pos e3, if_pos (by omega)]; omega
  by_cases e2 : i = j * 7 + 2
  · rw [if_neg e6]; rw [if_neg e5]; rw [if_neg e4]; rw [if_neg e3]; rw [if_pos e2, if_pos (by omega)]; omega
  by_cases e1 : i = j * 7 + 1
  · rw [if_neg e6]; rw [if_neg e5]; rw [if_neg e4]; rw [if_neg e3]; rw [if_neg e2]; rw [if_pos e1, if_pos (by omega)]; omega
  by_cases e0 : i = j * 7
  · rw [if_neg e6]; rw [if_neg e5]; rw [if_neg e4]; rw [if_neg e3]; rw [if_neg e2]; rw [if_neg e1]; rw [if_pos e0, if_pos (by omega)]; omega
  by_cases c : i < j * 7
  · rw [if_neg e6, if_neg e5, if_neg e4, if_neg e3, if_neg e2, if_neg e1, if_neg e0, if_pos c, if_pos (by omega)]
  · rw [if_neg e6, if_neg e5, if_neg e4, if_neg e3, if_neg e2, if_neg e1, if_neg e0, if_neg c, if_neg (by omega)]
set_option maxRecDepth 100000 in
theorem l_markSegmentS (q : Option Addr) (n c : Nat) (f : Nat → Int) (B : Nat) (k : Nat) (hk : k ≤ 1000000000) (w : World) (h : OwnQ 41 7 B w q n f) :
    Calls Tryz.prog 27 #[.slice q n c, .int .i64 k] w fun e w' => e = .returned (.int .i64 ((k + n * 7 : Nat) : Int)) ∧ OwnQ 41 7 B w' q n (fun i => ((k + i : Nat) : Int)) ∧ Chg q w w' := by
  have hn := h.1
  have H := Lib.hid h
  clear h
  go_enter Tryz.func27, Tryz.ntmps27
  go_wp2
  go_loopw [1, 5] (fun a i wr => ∃ j : Nat, j ≤ n ∧ i = .int .i64 j ∧ a = .int .i64 ((k + j * 7 : Nat) : Int) ∧ OwnQ 41 7 B wr q n (fun i => if i < j * 7 then ((k + i : Nat) : Int) else f i) ∧ Chg q w wr) (fun _ i _ => (n - intOf i).toNat)
  case atStart => exact ⟨0, Nat.zero_le _, rfl, rfl, H.out.congr (fun i _ => by simp), Chg.refl _ _⟩
  case round =>
    obtain ⟨j, hj, rfl, rfl, hq, hc⟩ := hrel
    obtain ⟨wA, rfl⟩ : ∃ wA : World, wA = wr := ⟨_, rfl⟩
    have HC := Lib.hid hc
    have HQ := Lib.hid hq
    by_cases hlt : j < n
    · have hji : (j : Int) < (n : Int) := by omega
      obtain ⟨h1, h2, h3⟩ := hq
      obtain ⟨g, rfl, hr⟩ := h3 (by omega)
      have hcl0 := hr.cell (i := j * 7) (by omega)
      have hcl1 := hr.cell (i := j * 7 + 1) (by omega)
      have hcl2 := hr.cell (i := j * 7 + 2) (by omega)
      have hcl3 := hr.cell (i := j * 7 + 3) (by omega)
      have hcl4 := hr.cell (i := j * 7 + 4) (by omega)
      have hcl5 := hr.cell (i := j * 7 + 5) (by omega)
      have hcl6 := hr.cell (i := j * 7 + 6) (by omega)
      have hfr := hr.frozen
      have HS := Lib.hid (((((((hr.set (j * 7) ((k : Int) + (j : Int) * 7)).set (j * 7 + 1) ((k : Int) + (j : Int) * 7 + 1)).set (j * 7 + 2) ((k : Int) + (j : Int) * 7 + 1 + 1)).set (j * 7 + 3) ((k : Int) + (j : Int) * 7 + 1 + 1 + 1)).set (j * 7 + 4) ((k : Int) + (j : Int) * 7 + 1 + 1 + 1 + 1)).set (j * 7 + 5) ((k : Int) + (j : Int) * 7 + 1 + 1 + 1 + 1 + 1)).set (j * 7 + 6) ((k : Int) + (j : Int) * 7 + 1 + 1 + 1 + 1 + 1 + 1))
      clear hc hr h1 h2 h3
      go_wp2
      go_roundw
      case rel =>
        refine ⟨j + 1, by omega, by go_num, by go_num, ⟨by omega, fun a ha => ?_, fun _ => ⟨g, rfl, ?_⟩⟩, ?_⟩
        · simp only [setsize]; exact HQ.out.2.1 a ha
        · exact RowC.congr HS.out (fun i hi => upd_l_markSegmentS (f := f) (k := k) (j := j) i)
        · exact (((((((HC.out.setCell _ _).setCell _ _).setCell _ _).setCell _ _).setCell _ _).setCell _ _).setCell _ _)
      case measure => simp [intOf]; omega
    · obtain rfl : j = n := by omega
      clear hc hq
      go_wp2
      go_ret
      exact ⟨rfl, HQ.out.congr (fun i hi => by rw [if_pos (by omega)]), HC.out⟩

theorem l_markLayout (q : Option Addr) (n c : Nat) (f : Nat → Int) (B : Nat) (k : Nat) (hk : k ≤ 1000000000) (w : World) (h : OwnQ 41 7 B w q n f) :
    Calls Tryz.prog 8 #[.agg #[.slice q n c], .int .i64 k] w fun e w' => e = .returned (.int .i64 ((k + n * 7 : Nat) : Int)) ∧ Chg q w w' := by
  have HC := Lib.hid (l_markSegmentS q n c f B k hk (w.alloc (Obj.cells #[.slice q n c] 24)) (h.keep ((Below.refl _ _).alloc (Nat.le_refl _) _)))
  clear h
  go_enter Tryz.func8, Tryz.ntmps8
  go_wp2_with fail
  refine HC.out.mono ?_
  rintro e w' ⟨rfl, _, hc⟩
  have HX := Lib.hid ((Chg.of_below ((Below.refl _ _).alloc (Nat.le_refl _) _)).trans hc)
  clear hc
  go_wp2
  go_ret
  exact ⟨rfl, HX.out⟩

theorem l_markLayout1 (q : Option Addr) (n c : Nat) (f : Nat → Int) (B : Nat) (w : World) (h : OwnQ 41 7 B w q n f) :
    Calls Tryz.prog 8 #[.agg #[.slice q n c], .int .i64 1] w fun e w' => e = .returned (.int .i64 ((1 + n * 7 : Nat) : Int)) ∧ Chg q w w' := l_markLayout q n c f B 1 (by omega) w h

theorem ownQ_of_rowI {t : TypeId} {B : Nat} {w : World} {g n : Nat} {zs : List Int} (h : w.rowIs g t n (fun i => .int .i64 (zs.getD i 0))) (hB : B ≤ g) (hn : n ≤ 16777216) : OwnQ t 1 B w (some ⟨g, 0, none⟩) n (fun i => zs.getD i 0) := by
  have hl := h.lt
  refine ⟨hn, fun a ha => by simp only [Option.some.injEq] at ha; subst ha; exact ⟨hB, hl⟩, fun _ => ⟨g, rfl, ?_⟩⟩
  obtain ⟨cur, h1, h2, h3⟩ := h
  exact ⟨cur, h1, by omega, fun i hi => h3 i (by omega)⟩

end Go.Proofs.YtfbfiikomlnllaaGreatDoor
