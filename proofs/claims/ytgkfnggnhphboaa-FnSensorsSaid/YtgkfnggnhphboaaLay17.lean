/- Contracts and lemmas for the proofs of this seat: Lay17. -/
import Derived.Test.YtgkfnggnhphboaaBase
import Derived.Test.YtgkfnggnhphboaaNum
import Derived.Test.YtgkfnggnhphboaaIv
import Derived.Test.YtgkfnggnhphboaaIv2
import Derived.Test.YtgkfnggnhphboaaDiv
import Derived.Test.YtgkfnggnhphboaaRoot
import Derived.Test.YtgkfnggnhphboaaEn
import Derived.Test.YtgkfnggnhphboaaSeg
import Derived.Test.YtgkfnggnhphboaaList
import Derived.Test.YtgkfnggnhphboaaLay
import Derived.Test.YtgkfnggnhphboaaLay2
import Derived.Test.YtgkfnggnhphboaaLay3
import Derived.Test.YtgkfnggnhphboaaLay12
import Derived.Test.YtgkfnggnhphboaaLay13
import Derived.Test.YtgkfnggnhphboaaLay15
import Derived.Test.YtgkfnggnhphboaaLay16
import Derived.Lib.Hide
import Derived.BigQuiet
import Derived.Deep.QuietTactic
import Derived.Deep.OwnRows
import Derived.Deep.LoopGhost
import Derived.Deep.RegionHeld3
import Derived.Deep.DeepCutAuto
import Derived.StillTailTactics
import Derived.Deep.AppendLies
import Derived.Deep.DrawnRows
import Derived.Outline
namespace Go.Proofs.Ytgkfnggnhphboaa
open Go.RowKit Go.Deep
set_option maxHeartbeats 2000000
set_option linter.unusedVariables false
set_option linter.unusedSimpArgs false

attribute [local go_sem] lt_2 lt_3 lt_4 lt_5 lt_6 fld_lo fld_hi
theorem one_news0 (w : World) (v : Value) (t : TypeId) : ∀ j u, [v][j]? = some u → (w.alloc (.cells #[v] t)).cell? ((⟨w.heap.size, 0, none⟩ : Addr).add j) = some u := one_news w v t
set_option maxRecDepth 100000 in
theorem s_l03Starts (p : Option Addr) (n cap : Nat) (zs : List Seg) (w : World) (hin : Segs w p n zs) (hn : n ≤ 1048576) (hA : AllOk zs n) :
    Calls Try.prog 69 #[.agg #[.slice p n cap]] w fun e w' => ∃ v, e = .returned v ∧ w'.ownsRow (w.heap.size + 1) 2 1 v n (rowV (preN zs) n) ∧ Below w.heap.size w w' := by
  obtain ⟨i0, hi, hz0, hz1, hz2⟩ := info_parts (P := Try.prog) (e := 2) (z := .int .i64 0) (size := 1) (bytes := 8) (by kernel_rfl)
  have HIN' : Hid (Segs (w.alloc (Obj.cells #[.slice p n cap] 26)) p n zs) := (hin.alloc _); have h0 := Own.start (w.alloc (Obj.cells #[.slice p n cap] 26)); clear hin
  have HA := Lib.hid hA
  clear hA
  have hown0 : ((w.alloc (Obj.cells #[.slice p n cap] 26)).alloc (Obj.cells #[] 2)).ownsRow (w.heap.size + 1) 2 1 (.slice (some ⟨w.heap.size + 1, 0, none⟩) 0 0) 0 (rowV (preN zs) 0) :=
    ⟨rfl, .inr ⟨w.heap.size + 1, 0, #[], rfl, Nat.le_refl _, alloc2_new _ _ _, Nat.le_refl _, Nat.zero_le _, rfl, rfl⟩⟩
  have HOW := Lib.hid hown0
  clear hown0
  go_enter Try.func69, Try.ntmps69
  go_wp2
  go_loopw [3, 4, 5] (fun v a i wr => ∃ j : Nat, j ≤ n ∧ i = .int .i64 j ∧ a = .int .i64 (preN zs j) ∧ (∃ v0 : Value, v0 = v ∧ wr.ownsRow (w.heap.size + 1) 2 1 v0 j (rowV (preN zs) j)) ∧ Own (w.alloc (Obj.cells #[.slice p n cap] 26)) wr) (fun _ _ i _ => (n - intOf i).toNat)
  case atStart => exact ⟨0, Nat.zero_le _, rfl, rfl, ⟨_, rfl, HOW.out⟩, h0.alloc _⟩
  case round =>
    obtain ⟨j, hj, rfl, rfl, ⟨v, rfl, how⟩, hown⟩ := hrel
    obtain ⟨wA, rfl⟩ : ∃ wA : World, wA = wr := ⟨_, rfl⟩
    have HO := Lib.hid hown
    have HOWN := Lib.hid how
    obtain ⟨hbx, hbf, hbl⟩ := below_box (k := w.heap.size) hown.below (by simp)
    have hbx := hbx 0
    simp at hbx
    by_cases hlt : j < n
    · have hji : (j : Int) < (n : Int) := by omega
      obtain ⟨b, off, rfl, hlb0, hc0⟩ := HIN'.out.2.2 (by omega)
      have hc := fun i hi => (hc0 i hi).keep (hown.below.block b hlb0)
      rw [World.size_alloc] at hlb0
      have hlb : b < wA.heap.size := by omega
      obtain ⟨-, c1, -, -, -, -, -⟩ := hc j hlt
      have b1 := preN_bd (zs := zs) (k := j) (fun i hi => HA.out i (by omega))
      have b2 := ok_bd (HA.out j hlt)
      have HN := Lib.hid (show preN zs (j + 1) = preN zs j + (sg zs j).n from rfl)
      obtain ⟨x, hx⟩ : ∃ x, x = preN zs j := ⟨_, rfl⟩
      have HX := Lib.hid hx
      rw [← hx] at b1 HN ⊢
      generalize (sg zs j).n = z at *
      clear hc hc0 hown hbf how hx
      go_wp2_with (at_builtin; refine wpList_append_k _ rfl _ _ 40 rfl (w.heap.size + 1) 2 i0 (.int .i64 0) 1 8 Try.underlying40 hi hz0 hz1 hz2 rfl (by decide) _ _ _ rfl (HOWN.out.alloc _) ⟨wA.heap.size, 0, none⟩ 1 1 [.int .i64 x] rfl rfl (one_news _ _ _) (by simp [Value.oneCell']) (by decide) (by unfold maxLen; omega) (by omega) (by simp; omega) ?_; intro g2 c2 w1 hown1 hbel hkp hfar hsz1; have hkb : w1.cell? ⟨b, off + j * 7 + 1, none⟩ = some (.int .i64 z) := (hbel.cell (p := ⟨b, off + j * 7 + 1, none⟩) hlb0).trans (by go_simp); have hkx : w1.cell? ⟨w.heap.size, 0, none⟩ = some (.slice (some ⟨b, off, none⟩) n cap) := (hbel.cell (p := ⟨w.heap.size, 0, none⟩) (Nat.lt_succ_self _)).trans (by go_simp); have HOWN1 := Lib.hid hown1; have HBEL := Lib.hid hbel; clear hown1 hbel hkp hfar)
      go_roundw
      case rel => exact ⟨j + 1, by omega, by go_num, by rw [HN.out], ⟨_, rfl, by have h := HOWN1.out; rw [HX.out, rowV_snoc] at h; exact h⟩, Below.trans (HO.out.alloc _).below (HBEL.out.mono (Nat.le_of_eq (World.size_alloc _ _)))⟩
      case measure => simp [intOf]; omega
    · obtain rfl : j = n := by omega
      clear hown hbf how
      go_wp2
      go_ret
      exact ⟨v, rfl, HOWN.out, bto (balloc (Below.refl _ _) _) HO.out.below⟩

theorem ownQ_drop1 {w : World} {B B' : Nat} {t : TypeId} {g c n : Nat} {f : Nat → Int} (h : w.ownsRow B t 1 (.slice (some ⟨g, 0, none⟩) (n + 1) c) (n + 1) (rowV f (n + 1))) (hn : n ≤ 1048576) (hB' : B' ≤ B) : OwnQ t 1 B' w (some ⟨g, 0, none⟩) n f := by
  obtain ⟨q, c', hv, h1, h2, h3⟩ := ownQ_of_own (sz := 1) (f := f) (n := n + 1) (by simpa using h) (by omega)
  simp only [Value.slice.injEq] at hv
  obtain ⟨rfl, -, -⟩ := hv
  refine ⟨by omega, fun a ha => ⟨by have := (h2 a ha).1; omega, (h2 a ha).2⟩, fun _ => ?_⟩
  obtain ⟨g', e, cur, r1, r2, r3⟩ := h3 (by omega)
  exact ⟨g', e, cur, r1, by omega, fun i hi => r3 i (by omega)⟩
def Starts (zs : List Seg) (t : TypeId) (n : Nat) (w : World) (e : Ending) (w' : World) : Prop :=
  ∃ q c, (if layOk zs = true then e = .returned (.tuple #[.slice q n c, .int .i64 0]) ∧ OwnQ t 1 w.heap.size w' q n (preN zs) else e = .returned (.tuple #[.slice none 0 0, .int .i64 1])) ∧ Below w.heap.size w w'

set_option maxRecDepth 100000 in
theorem i_SegmentStarts (p : Option Addr) (n cap : Nat) (zs : List Seg) (w : World) (hin : Segs w p n zs) (hn : n ≤ 1048576) :
    Calls Try.prog 19 #[.agg #[.slice p n cap]] w (Starts zs 2 n w) := by
  have hz := hin.1
  have HIN' : Hid (Segs (w.alloc (Obj.cells #[.slice p n cap] 26)) p n zs) := (hin.alloc _); have h0 := Own.start (w.alloc (Obj.cells #[.slice p n cap] 26)); clear hin
  rcases Bool.eq_false_or_eq_true (layOk zs) with hl | hl
  · have HL := Lib.hid (layOk_iff.1 hl)
    have HA : Hid (AllOk zs n) := fun i hi => HL.out.2.2.1 i (by omega)
    have HLL := Lib.hid hl
    clear hz
    go_enter Try.func19, Try.ntmps19
    go_upto_region 3 with (go_at_call 58; refine (i_IsLayout p n cap zs _ ?_ hn).mono ?_; (focus (exact HIN'.out.own (by first | assumption | exact Own.alloc (by assumption) _ | exact Own.drew (by assumption) | exact Own.drew (Own.alloc (by assumption) _)))); rintro e w' ⟨rfl, hb⟩; obtain ⟨hc0, hf0, hl0⟩ := below_box (k := w.heap.size) hb (by first | omega | (simp; done) | (simp; omega)); replace hb := Own.join (by first | assumption | exact Own.alloc (by assumption) _ | exact Own.drew (by assumption) | exact Own.drew (Own.alloc (by assumption) _) | exact Own.alloc (Own.alloc (by assumption) _) _ | exact Own.alloc (Own.alloc (Own.alloc (by assumption) _) _) _ | exact Own.drewN (by assumption) _ | exact Own.drew (Own.start _) | exact Own.drewN (Own.start _) _ | exact Own.start _) hb)
    have hO : Own (w.alloc (Obj.cells #[.slice p n cap] 26)) w' := by assumption
    have hx : w'.cell? ⟨w.heap.size, 0, none⟩ = some (.slice p n cap) := by rw [hc0 0]; go_simp
    generalize w' = wA at *
    clear hc0 hf0 hb
    go_region_with (first | (go_at_call 75; refine (i_starts p n cap zs _ (HIN'.out.own hO.drew) hn HA.out).mono ?_; rintro e w' ⟨g, c, rfl, how, hb⟩; have hbx := (below_box (k := w.heap.size) hb hl0).1 0; have hnc : n ≤ c := (by obtain ⟨-, h⟩ := how; rcases h with ⟨h, _⟩ | ⟨g', cap', cur, hv, _, _, hnc, _⟩; cases h; cases hv; omega); have hnci : (n : Int) ≤ (c : Int) := (by omega); have HOWN := Lib.hid how; have HB := Lib.hid (hO.drew.join hb); clear hb how))
    all_goals (go_wp2; go_ret2)
    all_goals (refine ⟨some ⟨g, 0, none⟩, c, ?_, bto (balloc (Below.refl _ _) _) HB.out.below⟩; rw [if_pos HLL.out]; exact ⟨rfl, ownQ_drop1 HOWN.out hn (by have := hO.le; rw [World.size_alloc] at this; simp; omega)⟩)
  · have HLL := Lib.hid hl
    clear hz
    go_enter Try.func19, Try.ntmps19
    go_wp2_with (go_at_call 58; refine (i_IsLayout p n cap zs _ ?_ hn).mono ?_; (focus (exact HIN'.out.own (by first | assumption | exact Own.alloc (by assumption) _ | exact Own.drew (by assumption) | exact Own.drew (Own.alloc (by assumption) _)))); rintro e w' ⟨rfl, hb⟩; obtain ⟨hc0, hf0, hl0⟩ := below_box (k := w.heap.size) hb (by first | omega | (simp; done) | (simp; omega)); replace hb := Own.join (by first | assumption | exact Own.alloc (by assumption) _ | exact Own.drew (by assumption) | exact Own.drew (Own.alloc (by assumption) _) | exact Own.alloc (Own.alloc (by assumption) _) _ | exact Own.alloc (Own.alloc (Own.alloc (by assumption) _) _) _ | exact Own.drewN (by assumption) _ | exact Own.drew (Own.start _) | exact Own.drewN (Own.start _) _ | exact Own.start _) hb)
    go_ret2
    exact ⟨none, 0, by rw [if_neg (by rw [HLL.out]; simp)]; rfl, by repeat (first | exact Below.refl _ _ | refine balloc ?_ _ | refine Below.drew ?_ | refine bdrewN ?_ _ | refine bto ?_ (Own.below (by assumption)) | refine bset ?_ (by first | (simp; done) | (simp; omega) | exact Own.le_w (by assumption) (by first | (simp; done) | (simp; omega))) _)⟩

end Go.Proofs.Ytgkfnggnhphboaa
