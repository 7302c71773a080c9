/- The Go function laws.FnPositions returns true for every input and leaves its arguments as they were; no condition. -/
import Derived.Test.YtgkfnggnhphboaaRows
import Derived.Test.YtgkfnggnhphboaaBase
import Derived.Test.YtgkfnggnhphboaaNum
import Derived.Test.YtgkfnggnhphboaaDraw
import Derived.Test.YtgkfnggnhphboaaLawKit
import Derived.Test.YtgkfnggnhphboaaDice
import Derived.Test.YtgkfnggnhphboaaList
import Derived.Test.YtgkfnggnhphboaaLay
import Derived.Test.YtgkfnggnhphboaaLay2
import Derived.Test.YtgkfnggnhphboaaLay3
import Derived.Test.YtgkfnggnhphboaaLay4
import Derived.Test.YtgkfnggnhphboaaLay5
import Derived.Test.YtgkfnggnhphboaaLay6
import Derived.Test.YtgkfnggnhphboaaLay7
import Derived.Test.YtgkfnggnhphboaaLay12
import Derived.Test.YtgkfnggnhphboaaLay13
import Derived.Test.YtgkfnggnhphboaaLay14
import Derived.Test.YtgkfnggnhphboaaLay15
import Derived.Test.YtgkfnggnhphboaaLay17
import Derived.Test.YtgkfnggnhphboaaLay18
import Derived.Test.YtgkfnggnhphboaaLDraw
import Derived.Test.YtgkfnggnhphboaaLDraw2
import Derived.Test.YtgkfnggnhphboaaLDraw3
import Derived.Test.YtgkfnggnhphboaaLDraw4
import Derived.Test.YtgkfnggnhphboaaLPlain
import Derived.Test.YtgkfnggnhphboaaLLaw
import Derived.Lib.Hide
import Derived.WalkKit
import Derived.WalkSpells
import Derived.WalkLawsBesides
import Derived.ProofKit
import Derived.OpenShut
import Derived.ShutString
import Derived.ChangeOld
import Derived.Below
import Derived.Deep.RegionHeld3
import Derived.Deep.DeepCutAuto
namespace Go.Proofs.Ytgkfnggnhphboaa.pFnPositions
open Go.ChangeShapes Go.WideShapes Go.ChangeAt Go.RowKit
set_option maxHeartbeats 2000000
set_option linter.unusedVariables false
set_option linter.unusedSimpArgs false

set_option maxRecDepth 100000 in set_option maxHeartbeats 8000000 in
theorem walk (w : World) (p0 : Option Addr) (len0 cap0 : Nat) (z0 : List Int) (r0 : IsRow .u8 w p0 len0 cap0 z0) :
    Calls Try.prog 4 #[.slice p0 len0 cap0] w fun e w' => e = .returned (.bool true) ∧ Below w.heap.size w w' := by
  have hin := r0.bytes8
  have hn := hin.1
  clear r0
  rcases Bool.eq_false_or_eq_true (decide (4096 < len0)) with hbig | hbig
  · go_enter Try.func4, Try.ntmps4
    go_wp2_with (go_at_call 11; refine (l_big p0 len0 cap0 _ hn).mono ?_; rintro e w' ⟨rfl, rfl⟩; rw [hbig])
    go_ret
    exact ⟨rfl, Below.refl _ _⟩
  · go_enter Try.func4, Try.ntmps4
    go_wp2_with (go_at_call 11; refine (l_big p0 len0 cap0 _ hn).mono ?_; rintro e w' ⟨rfl, rfl⟩; rw [hbig])
    clear hbig
    refine (s_DrawSegmentAt _ _ _ _ hin).mono ?_
    rintro e w1 ⟨q, m, c, zs, x, rfl, hm, hmc, hS, -, hb⟩
    have hm' : m ≤ 1048576 := by omega
    obtain ⟨v, o, d, e1⟩ : ∃ v o d, segR zs x = (v, o, d) := ⟨_, _, _, rfl⟩
    have ci : ∀ w, Segs w q m zs → Calls Try.prog 17 #[.agg #[.slice q m c], .int .i64 x] w fun en w' => en = .returned (p3 (v, o, d)) ∧ Below w.heap.size w w' := fun w h => by rw [← e1]; exact i_SegmentAt q m c zs x w h hm'
    have cs : ∀ w, Segs w q m zs → Calls Try.prog 18 #[.agg #[.slice q m c], .int .i64 x] w fun en w' => en = .returned (p3 (v, o, d)) ∧ Below w.heap.size w w' := fun w h => by rw [← e1]; exact s_SegmentAt q m c zs x w h
    have ct : ∀ w, Segs w q m zs → Calls Try.prog 20 #[.agg #[.slice q m c]] w fun en w' => en = .returned (p2 (trackR zs)) ∧ Below w.heap.size w w' := fun w h => i_TrackLength q m c zs w h hm'
    have cr := fun w (h : Segs w q m zs) => i_SegStarts q m c zs w h hm'
    have hz := hS.1
    have L := Lb.new (c := c) hS
    have O := Own.alloc hb (Obj.cells #[.slice q m c] 26)
    have CI := Lib.hid ci
    have CS := Lib.hid cs
    by_cases h0 : d = 0
    · subst h0
      obtain ⟨hl, hx, j, rfl, hj, ho, ho0, ho1, -⟩ := segR_ok e1 rfl
      have hA := (lay_bd (layOk_iff.1 hl)).1
      have hT := (lay_bd (layOk_iff.1 hl)).2
      have hok := ok_bd (hA j hj)
      have hp := preN_bd (zs := zs) (k := j) (fun i hi => hA i (by omega))
      have t1 : trackR zs = (totN zs, 0) := by simp [trackR, hl]
      have t2 : stM zs m = m := by simp [stM, hl]
      have t3 : stC zs = 0 := by simp [stC, hl]
      rw [t1] at ct
      rw [t2, t3] at cr
      have CT := Lib.hid ct
      have CR := Lib.hid cr
      have Hj := Lib.hid (show j < m by omega)
      have HP := Lib.hid ho
      clear hS hb hn e1 ci cs ct cr hin t1 t2 t3 hA hl ho hz
      go_wp2_with fail
      refine (CI.out _ L.seg).mono ?_
      rintro e w2 ⟨rfl, hb⟩
      replace O := O.join hb; replace L := L.keep hb; (try clear c_L l_L); have c_L := L.cell; have l_L := L.lt; clear hb
      go_wp2_with fail
      refine (CS.out _ L.seg).mono ?_
      rintro e w3 ⟨rfl, hb⟩
      replace O := O.join hb; replace L := L.keep hb; (try clear c_L l_L); have c_L := L.cell; have l_L := L.lt; clear hb
      go_wp2_with fail
      refine (CR.out _ L.seg).mono ?_
      rintro e w4 ⟨q2, c2, rfl, hQ, hb⟩
      replace O := O.join hb; replace L := L.keep hb; (try clear c_L l_L); have c_L := L.cell; have l_L := L.lt; clear hb
      go_wp2_with fail
      refine (CT.out _ L.seg).mono ?_
      rintro e w5 ⟨rfl, hb⟩
      replace hQ := hQ.keep hb
      replace O := O.join hb; replace L := L.keep hb; (try clear c_L l_L); have c_L := L.cell; have l_L := L.lt; clear hb
      have hjm := Hj.out
      obtain ⟨g, rfl, hC⟩ := hQ.2.2 (by omega)
      have cx := hC.cell (i := j) (by omega)
      obtain ⟨gb, off, rfl, -, hc⟩ := L.seg.2.2 (by omega)
      have cn := (hc j hjm).2.1
      have hj0 : (j : Int) < m := by omega
      have hPP := HP.out
      generalize preN zs j = P at *
      have tq : (P + o == x) = true := by simp; omega
      have ho2 : o < x + 1 := by omega
      have hxT : x < totN zs := by omega
      generalize (sg zs j).n = nn at *
      generalize totN zs = T at *
      have OO := Lib.hid O
      clear hC hQ L hPP O hc
      go_wp2_with fail
      go_ret
      exact ⟨rfl, OO.out.below⟩
    · obtain ⟨⟨rfl, rfl⟩, hbad⟩ := segR_bad e1 h0
      have hd : (d == 0) = false := by simpa using h0
      have hd' : (d != 0) = true := by simpa using h0
      rcases hbad with hl | ⟨hl, hbad⟩
      · have t1 : trackR zs = (0, 1) := by simp [trackR, hl]
        have t2 : stM zs m = 0 := by simp [stM, hl]
        have t3 : stC zs = 1 := by simp [stC, hl]
        rw [t1] at ct
        rw [t2, t3] at cr
        have CT := Lib.hid ct
        have CR := Lib.hid cr
        clear hS hb hn e1 ci cs ct cr hin t1 t2 t3 hl hz
        go_wp2_with fail
        refine (CI.out _ L.seg).mono ?_
        rintro e w2 ⟨rfl, hb⟩
        replace O := O.join hb; replace L := L.keep hb; (try clear c_L l_L); have c_L := L.cell; have l_L := L.lt; clear hb
        go_wp2_with fail
        refine (CS.out _ L.seg).mono ?_
        rintro e w3 ⟨rfl, hb⟩
        replace O := O.join hb; replace L := L.keep hb; (try clear c_L l_L); have c_L := L.cell; have l_L := L.lt; clear hb
        go_wp2_with fail
        refine (CR.out _ L.seg).mono ?_
        rintro e w4 ⟨q2, c2, rfl, hQ, hb⟩
        replace O := O.join hb; replace L := L.keep hb; (try clear c_L l_L); have c_L := L.cell; have l_L := L.lt; clear hb
        go_wp2_with fail
        refine (CT.out _ L.seg).mono ?_
        rintro e w5 ⟨rfl, hb⟩
        replace O := O.join hb; replace L := L.keep hb; (try clear c_L l_L); have c_L := L.cell; have l_L := L.lt; clear hb
        have OO := Lib.hid O
        clear hQ L O
        go_wp2_with fail
        go_ret
        exact ⟨rfl, OO.out.below⟩
      · have t1 : trackR zs = (totN zs, 0) := by simp [trackR, hl]
        have t2 : stM zs m = m := by simp [stM, hl]
        have t3 : stC zs = 0 := by simp [stC, hl]
        rw [t1] at ct
        rw [t2, t3] at cr
        have CT := Lib.hid ct
        have CR := Lib.hid cr
        have hT := (lay_bd (layOk_iff.1 hl)).2
        clear hS hb hn e1 ci cs ct cr hin t1 t2 t3 hl hz
        generalize totN zs = T at *
        go_wp2_with fail
        refine (CI.out _ L.seg).mono ?_
        rintro e w2 ⟨rfl, hb⟩
        replace O := O.join hb; replace L := L.keep hb; (try clear c_L l_L); have c_L := L.cell; have l_L := L.lt; clear hb
        go_wp2_with fail
        refine (CS.out _ L.seg).mono ?_
        rintro e w3 ⟨rfl, hb⟩
        replace O := O.join hb; replace L := L.keep hb; (try clear c_L l_L); have c_L := L.cell; have l_L := L.lt; clear hb
        go_wp2_with fail
        refine (CR.out _ L.seg).mono ?_
        rintro e w4 ⟨q2, c2, rfl, hQ, hb⟩
        replace O := O.join hb; replace L := L.keep hb; (try clear c_L l_L); have c_L := L.cell; have l_L := L.lt; clear hb
        go_wp2_with fail
        refine (CT.out _ L.seg).mono ?_
        rintro e w5 ⟨rfl, hb⟩
        replace O := O.join hb; replace L := L.keep hb; (try clear c_L l_L); have c_L := L.cell; have l_L := L.lt; clear hb
        have OO := Lib.hid O
        clear hQ L O
        rcases hbad with hbad | hbad
        · go_wp2_with fail
          go_ret
          exact ⟨rfl, OO.out.below⟩
        · have hx0 : ¬ x < 0 := by omega
          have hx1 : 0 ≤ x := by omega
          go_wp2_with fail
          go_ret
          exact ⟨rfl, OO.out.below⟩

theorem own : ownKnob Try.prog.godebug = none := by kernel_rfl
theorem laidOut : laidOutB Try.prog = true := by kernel_rfl
set_option maxRecDepth 100000 in
theorem lifted (os : Os) (started : os.Started) (H : Type) (enc : TypeId × Value → H) :
    ReturnsInHanded {} Try.checked os 4 .any (Rows.fnPositionsSpec.pre6 enc Try.prog Try.f4 Rows.fnPositionsRow.domain false) (Rows.fnPositionsSpec.post enc Try.prog Try.f4 false true false false) := by
  refine returnsInHanded_of_change (C := Try.checked) own started (by kernel_rfl) Try.func4
    (ChangeSpec.witness6 (enc := enc) (C := Try.checked) false ⟨#[], #[.slice none 0 0], []⟩ 8 (by kernel_rfl) (by kernel_rfl) (by kernel_rfl) (by kernel_rfl)) ?_
  intro W base args ds gs before hval0 hW hcnd _
  have hval : ∀ (j : Nat) t v, Try.f4.params[j]? = some t → args[j]? = some v → Value.okWide Try.prog W .any base t v := hval0
  have hW' := hW
  obtain ⟨p, q, hA0, hV, rfl, hfz, hnd⟩ := hW
  have hA : DataW.TrodAll enc Try.prog W 0 (fun _ => true) true Try.f4.params.toList args.toList ds p := hA0
  rw [Try.params4] at hA hval
  obtain ⟨v0, vs0, d0, ds0, pp0, qq0, hargs, rfl, rfl, h0, rr0⟩ := trodAll_cons hA
  obtain ⟨rfl, rfl, rfl⟩ := trodAll_nil rr0
  obtain rfl : args = #[v0] := by cases args; simp_all
  obtain ⟨rfl, rfl⟩ := trodVars_none hV
  have k0_ := h0
  have lt0_ : ∀ x ∈ pp0, x.block < W.heap.size := by obtain ⟨m, hm⟩ := h0; exact DataW.trod_lt m _ _ _ hm
  obtain ⟨p0, len0, cap0, rfl⟩ := okWide_slice Try.underlying22 (hval 0 22 v0 rfl rfl)
  obtain ⟨z0, r0⟩ := open_row (k := .u8) Try.underlying22 Try.underlying5 (by kernel_rfl) h0
  clear hA0 hval0
  refine (walk  W p0 len0 cap0 z0 r0).mono fun e W' ⟨he, bel⟩ => ?_
  subst he
  exact ⟨_, rfl, _, _, _, [], _, [], hW', trodAll_mk1 (shut_bool Try.underlying4 _), (trodAll_cons_mk (Below.trod laidOut (by kernel_rfl) (of_decide_eq_true (by kernel_rfl)) k0_ bel lt0_) trodAll_mk0), rfl, bel.frame _, fun h => by cases h⟩

theorem over : Rows.fnPositionsRow.holds Try.pinned (OpenSpec.ofChange Rows.fnPositionsSpec) :=
  OpenClaim.holds_of_wide 4 Try.f4 rfl rfl rfl rfl rfl rfl rfl ⟨rfl, rfl, rfl, rfl, rfl⟩ rfl rfl rfl rfl rfl (by kernel_rfl) Try.func4 (by kernel_rfl)
    (of_decide_eq_true (by kernel_rfl)) (by unfold Func.isWrapper; first | (rw [if_pos (by decide +kernel)]; kernel_rfl) | (rw [if_neg (by decide +kernel)]; exact ⟨rfl, rfl⟩))
    (fun os started H enc _ => lifted os started H enc)

/-- the given statement -/
theorem proved : Rows.FnPositionsSaid := over
#print axioms proved
end Go.Proofs.Ytgkfnggnhphboaa.pFnPositions
