/- The Go function laws.FnHeights returns true for every input and leaves its arguments as they were; no condition. -/
import Derived.Test.YtgkfnggnhphboaaRows
import Derived.Test.YtgkfnggnhphboaaBase
import Derived.Test.YtgkfnggnhphboaaNum
import Derived.Test.YtgkfnggnhphboaaDraw
import Derived.Test.YtgkfnggnhphboaaLawKit
import Derived.Test.YtgkfnggnhphboaaDice
import Derived.Test.YtgkfnggnhphboaaList
import Derived.Test.YtgkfnggnhphboaaSeg
import Derived.Test.YtgkfnggnhphboaaLay
import Derived.Test.YtgkfnggnhphboaaLay2
import Derived.Test.YtgkfnggnhphboaaLay3
import Derived.Test.YtgkfnggnhphboaaLay4
import Derived.Test.YtgkfnggnhphboaaLay5
import Derived.Test.YtgkfnggnhphboaaLay6
import Derived.Test.YtgkfnggnhphboaaLay7
import Derived.Test.YtgkfnggnhphboaaLay12
import Derived.Test.YtgkfnggnhphboaaLay13
import Derived.Test.YtgkfnggnhphboaaLay14
import Derived.Test.YtgkfnggnhphboaaLDraw
import Derived.Test.YtgkfnggnhphboaaLDraw2
import Derived.Test.YtgkfnggnhphboaaLDraw3
import Derived.Test.YtgkfnggnhphboaaLDraw4
import Derived.Test.YtgkfnggnhphboaaLPlain
import Derived.Test.YtgkfnggnhphboaaLLaw
import Derived.Lib.Hide
import Derived.WalkKit
import Derived.WalkSpells
import Derived.WalkLawsBesides
import Derived.ProofKit
import Derived.OpenShut
import Derived.ShutString
import Derived.ChangeOld
import Derived.Below
import Derived.Deep.RegionHeld3
import Derived.Deep.DeepCutAuto
namespace Go.Proofs.Ytgkfnggnhphboaa.pFnHeights
open Go.ChangeShapes Go.WideShapes Go.ChangeAt Go.RowKit
set_option maxHeartbeats 2000000
set_option linter.unusedVariables false
set_option linter.unusedSimpArgs false

set_option maxRecDepth 100000 in set_option maxHeartbeats 8000000 in
theorem walk (w : World) (p0 : Option Addr) (len0 cap0 : Nat) (z0 : List Int) (r0 : IsRow .u8 w p0 len0 cap0 z0) :
    Calls Try.prog 6 #[.slice p0 len0 cap0] w fun e w' => e = .returned (.bool true) ∧ Below w.heap.size w w' := by
  have hin := r0.bytes8
  have hn := hin.1
  clear r0
  rcases Bool.eq_false_or_eq_true (decide (4096 < len0)) with hbig | hbig
  · go_enter Try.func6, Try.ntmps6
    go_wp2_with (go_at_call 11; refine (l_big p0 len0 cap0 _ hn).mono ?_; rintro e w' ⟨rfl, rfl⟩; rw [hbig])
    go_ret
    exact ⟨rfl, Below.refl _ _⟩
  · go_enter Try.func6, Try.ntmps6
    go_wp2_with (go_at_call 11; refine (l_big p0 len0 cap0 _ hn).mono ?_; rintro e w' ⟨rfl, rfl⟩; rw [hbig])
    clear hbig
    refine (s_DrawHeightAt _ _ _ _ hin).mono ?_
    rintro e w1 ⟨q, m, c, zs, x, rfl, hm, hmc, hS, -, hb⟩
    have hm' : m ≤ 1048576 := by omega
    obtain ⟨v, d, e1⟩ : ∃ v d, hgtR zs x = (v, d) := ⟨_, _, rfl⟩
    have ci : ∀ w, Segs w q m zs → Calls Try.prog 30 #[.agg #[.slice q m c], .int .i64 x] w fun en w' => en = .returned (p2 (v, d)) ∧ Below w.heap.size w w' := fun w h => by rw [← e1]; exact i_HeightAt q m c zs x w h hm' hmc
    have cs : ∀ w, Segs w q m zs → Calls Try.prog 31 #[.agg #[.slice q m c], .int .i64 x] w fun en w' => en = .returned (p2 (v, d)) ∧ Below w.heap.size w w' := fun w h => by rw [← e1]; exact s_HeightAt q m c zs x w h
    have hz := hS.1
    have L := Lb.new (c := c) hS
    have O := Own.alloc hb (Obj.cells #[.slice q m c] 26)
    have CI := Lib.hid ci
    have CS := Lib.hid cs
    have E1 := Lib.hid e1
    clear ci cs hS hb hn hin e1
    go_wp2_with fail
    refine (CI.out _ L.seg).mono ?_
    rintro e w2 ⟨rfl, hb⟩
    replace O := O.join hb; replace L := L.keep hb; (try clear c_L l_L); have c_L := L.cell; have l_L := L.lt; clear hb
    go_wp2_with fail
    refine (CS.out _ L.seg).mono ?_
    rintro e w3 ⟨rfl, hb⟩
    replace O := O.join hb; replace L := L.keep hb; (try clear c_L l_L); have c_L := L.cell; have l_L := L.lt; clear hb
    by_cases h0 : d = 0
    · subst h0
      obtain ⟨j, es, hj, eh, hlo, hhi⟩ := hgtR_ok E1.out rfl
      obtain ⟨hl, hx, -⟩ := segR_ok es rfl
      have hA := (lay_bd (layOk_iff.1 hl)).1
      have hT := (lay_bd (layOk_iff.1 hl)).2
      have hok := (ok_bd (hA j hj)).2.2.1
      have hp := preN_bd (zs := zs) (k := j) (fun i hi => hA i (by omega))
      have hr := preR_bd (zs := zs) (k := j) (fun i hi => hA i (by omega))
      have hj24 := (layOk_iff.1 hl).2.1
      have ki : ∀ w, Segs w q m zs → Calls Try.prog 17 #[.agg #[.slice q m c], .int .i64 x] w fun en w' => en = .returned (p3 ((j : Int), x - preN zs j, 0)) ∧ Below w.heap.size w w' := fun w h => by rw [← es]; exact i_SegmentAt q m c zs x w h hm'
      have ks : ∀ w, Segs w q m zs → Calls Try.prog 18 #[.agg #[.slice q m c], .int .i64 x] w fun en w' => en = .returned (p3 ((j : Int), x - preN zs j, 0)) ∧ Below w.heap.size w w' := fun w h => by rw [← es]; exact s_SegmentAt q m c zs x w h
      have kh : ∀ w, Segs w q m zs → Calls Try.prog 30 #[.agg #[.slice q m c], .int .i64 (x - (x - preN zs j))] w fun en w' => en = .returned (p2 (preR zs j, 0)) ∧ Below w.heap.size w w' := fun w h => by rw [← eh]; exact i_HeightAt q m c zs _ w h hm' hmc
      have hjm : j < m := by omega
      have KI := Lib.hid ki
      have KS := Lib.hid ks
      have KH := Lib.hid kh
      have HB := Lib.hid (And.intro hlo hhi)
      clear ki ks kh hlo hhi es eh hA hl hz
      obtain ⟨o, ho⟩ : ∃ o, x - preN zs j = o := ⟨_, rfl⟩
      have ho1 : -1000000000 ≤ o ∧ o ≤ 1000000000 := by omega
      rw [ho] at KI KS KH
      clear ho
      go_wp2_with fail
      refine (KI.out _ L.seg).mono ?_
      rintro e w4 ⟨rfl, hb⟩
      replace O := O.join hb; replace L := L.keep hb; (try clear c_L l_L); have c_L := L.cell; have l_L := L.lt; clear hb
      go_wp2_with fail
      refine (KS.out _ L.seg).mono ?_
      rintro e w5 ⟨rfl, hb⟩
      replace O := O.join hb; replace L := L.keep hb; (try clear c_L l_L); have c_L := L.cell; have l_L := L.lt; clear hb
      go_wp2_with fail
      refine (KH.out _ L.seg).mono ?_
      rintro e w6 ⟨rfl, hb⟩
      replace O := O.join hb; replace L := L.keep hb; (try clear c_L l_L); have c_L := L.cell; have l_L := L.lt; clear hb
      obtain ⟨gb, off, rfl, -, hc⟩ := L.seg.2.2 (by omega)
      obtain ⟨g0, g1, g2, g3, g4, g5, g6⟩ := hc j hjm
      have hj0 : (j : Int) < m := by omega
      have OO := Lib.hid O
      generalize preR zs j = B at *
      generalize (sg zs j).k = k0 at *
      generalize (sg zs j).n = k1 at *
      generalize (sg zs j).r = k2 at *
      generalize (sg zs j).c = k3 at *
      generalize (sg zs j).d = k4 at *
      generalize (sg zs j).e = k5 at *
      generalize (sg zs j).f = k6 at *
      clear L O hc
      have hb0 := HB.out
      rcases (show k2 < 0 ∨ k2 = 0 ∨ 0 < k2 by omega) with hk | hk | hk
      · have a1 : B + k2 ≤ v := by omega
        have a2 : v ≤ B := by omega
        have a3 : B + k2 < B := by omega
        have a4 : ¬ B < B + k2 := by omega
        clear hb0
        go_wp2_with fail
        go_ret
        exact ⟨rfl, (OO.out.alloc _).below⟩
      · subst hk
        have a1 : v = B := by omega
        subst a1
        clear hb0
        go_wp2_with fail
        go_ret
        exact ⟨rfl, (OO.out.alloc _).below⟩
      · have a1 : B ≤ v := by omega
        have a2 : v ≤ B + k2 := by omega
        have a3 : B < B + k2 := by omega
        have a4 : ¬ B + k2 < B := by omega
        clear hb0
        go_wp2_with fail
        go_ret
        exact ⟨rfl, (OO.out.alloc _).below⟩
    · have hd : (d == 0) = false := by simpa using h0
      have hd' : (d != 0) = true := by simpa using h0
      have OO := Lib.hid O
      clear L O
      go_wp2_with fail
      go_ret
      exact ⟨rfl, OO.out.below⟩

theorem own : ownKnob Try.prog.godebug = none := by kernel_rfl
theorem laidOut : laidOutB Try.prog = true := by kernel_rfl
set_option maxRecDepth 100000 in
theorem lifted (os : Os) (started : os.Started) (H : Type) (enc : TypeId × Value → H) :
    ReturnsInHanded {} Try.checked os 6 .any (Rows.fnHeightsSpec.pre6 enc Try.prog Try.f6 Rows.fnHeightsRow.domain false) (Rows.fnHeightsSpec.post enc Try.prog Try.f6 false true false false) := by
  refine returnsInHanded_of_change (C := Try.checked) own started (by kernel_rfl) Try.func6
    (ChangeSpec.witness6 (enc := enc) (C := Try.checked) false ⟨#[], #[.slice none 0 0], []⟩ 8 (by kernel_rfl) (by kernel_rfl) (by kernel_rfl) (by kernel_rfl)) ?_
  intro W base args ds gs before hval0 hW hcnd _
  have hval : ∀ (j : Nat) t v, Try.f6.params[j]? = some t → args[j]? = some v → Value.okWide Try.prog W .any base t v := hval0
  have hW' := hW
  obtain ⟨p, q, hA0, hV, rfl, hfz, hnd⟩ := hW
  have hA : DataW.TrodAll enc Try.prog W 0 (fun _ => true) true Try.f6.params.toList args.toList ds p := hA0
  rw [Try.params6] at hA hval
  obtain ⟨v0, vs0, d0, ds0, pp0, qq0, hargs, rfl, rfl, h0, rr0⟩ := trodAll_cons hA
  obtain ⟨rfl, rfl, rfl⟩ := trodAll_nil rr0
  obtain rfl : args = #[v0] := by cases args; simp_all
  obtain ⟨rfl, rfl⟩ := trodVars_none hV
  have k0_ := h0
  have lt0_ : ∀ x ∈ pp0, x.block < W.heap.size := by obtain ⟨m, hm⟩ := h0; exact DataW.trod_lt m _ _ _ hm
  obtain ⟨p0, len0, cap0, rfl⟩ := okWide_slice Try.underlying22 (hval 0 22 v0 rfl rfl)
  obtain ⟨z0, r0⟩ := open_row (k := .u8) Try.underlying22 Try.underlying5 (by kernel_rfl) h0
  clear hA0 hval0
  refine (walk  W p0 len0 cap0 z0 r0).mono fun e W' ⟨he, bel⟩ => ?_
  subst he
  exact ⟨_, rfl, _, _, _, [], _, [], hW', trodAll_mk1 (shut_bool Try.underlying4 _), (trodAll_cons_mk (Below.trod laidOut (by kernel_rfl) (of_decide_eq_true (by kernel_rfl)) k0_ bel lt0_) trodAll_mk0), rfl, bel.frame _, fun h => by cases h⟩

theorem over : Rows.fnHeightsRow.holds Try.pinned (OpenSpec.ofChange Rows.fnHeightsSpec) :=
  OpenClaim.holds_of_wide 6 Try.f6 rfl rfl rfl rfl rfl rfl rfl ⟨rfl, rfl, rfl, rfl, rfl⟩ rfl rfl rfl rfl rfl (by kernel_rfl) Try.func6 (by kernel_rfl)
    (of_decide_eq_true (by kernel_rfl)) (by unfold Func.isWrapper; first | (rw [if_pos (by decide +kernel)]; kernel_rfl) | (rw [if_neg (by decide +kernel)]; exact ⟨rfl, rfl⟩))
    (fun os started H enc _ => lifted os started H enc)

/-- the given statement -/
theorem proved : Rows.FnHeightsSaid := over
#print axioms proved
end Go.Proofs.Ytgkfnggnhphboaa.pFnHeights
