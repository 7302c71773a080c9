/- The Go function laws.FnTrainsMove returns true for every input and leaves its arguments as they were; no condition. -/
import Derived.Test.YtgkfnggnhphboaaRows
import Derived.Test.YtgkfnggnhphboaaBase
import Derived.Test.YtgkfnggnhphboaaNum
import Derived.Test.YtgkfnggnhphboaaDraw
import Derived.Test.YtgkfnggnhphboaaLawKit
import Derived.Test.YtgkfnggnhphboaaDice
import Derived.Test.YtgkfnggnhphboaaLay
import Derived.Test.YtgkfnggnhphboaaLay2
import Derived.Test.YtgkfnggnhphboaaLay3
import Derived.Test.YtgkfnggnhphboaaLay4
import Derived.Test.YtgkfnggnhphboaaLay5
import Derived.Test.YtgkfnggnhphboaaLay6
import Derived.Test.YtgkfnggnhphboaaLay7
import Derived.Test.YtgkfnggnhphboaaLDraw
import Derived.Test.YtgkfnggnhphboaaLDraw2
import Derived.Test.YtgkfnggnhphboaaLDraw3
import Derived.Test.YtgkfnggnhphboaaLPlain
import Derived.Test.YtgkfnggnhphboaaLLaw
import Derived.Lib.Hide
import Derived.WalkKit
import Derived.WalkSpells
import Derived.WalkLawsBesides
import Derived.ProofKit
import Derived.OpenShut
import Derived.ShutString
import Derived.ChangeOld
import Derived.Below
import Derived.Deep.RegionHeld3
import Derived.Deep.DeepCutAuto
namespace Go.Proofs.Ytgkfnggnhphboaa.pFnTrainsMove
open Go.ChangeShapes Go.WideShapes Go.ChangeAt Go.RowKit
set_option maxHeartbeats 2000000
set_option linter.unusedVariables false
set_option linter.unusedSimpArgs false

set_option maxRecDepth 100000 in set_option maxHeartbeats 8000000 in
theorem walk (w : World) (p0 : Option Addr) (len0 cap0 : Nat) (z0 : List Int) (r0 : IsRow .u8 w p0 len0 cap0 z0) :
    Calls Try.prog 5 #[.slice p0 len0 cap0] w fun e w' => e = .returned (.bool true) ∧ Below w.heap.size w w' := by
  have hin := r0.bytes8
  have hn := hin.1
  clear r0
  rcases Bool.eq_false_or_eq_true (decide (4096 < len0)) with hbig | hbig
  · go_enter Try.func5, Try.ntmps5
    go_wp2_with (go_at_call 11; refine (l_big p0 len0 cap0 _ hn).mono ?_; rintro e w' ⟨rfl, rfl⟩; rw [hbig])
    go_ret
    exact ⟨rfl, Below.refl _ _⟩
  · go_enter Try.func5, Try.ntmps5
    go_wp2_with (go_at_call 11; refine (l_big p0 len0 cap0 _ hn).mono ?_; rintro e w' ⟨rfl, rfl⟩; rw [hbig])
    clear hbig
    refine (s_DrawMoveFront _ _ _ _ hin).mono ?_
    rintro e w1 ⟨q, m, c, zs, x, y, rfl, hm, hmc, hS, hb⟩
    have hm' : m ≤ 1048576 := by omega
    obtain ⟨v1, c1, e1⟩ : ∃ v1 c1, moveR zs x y = (v1, c1) := ⟨_, _, rfl⟩
    have ci : ∀ w, Segs w q m zs → Calls Try.prog 22 #[.agg #[.slice q m c], .int .i64 x, .int .i64 y] w fun en w' => en = .returned (p2 (v1, c1)) ∧ Below w.heap.size w w' := fun w h => by rw [← e1]; exact i_MoveFront q m c zs x y w h hm'
    have cs : ∀ w, Segs w q m zs → Calls Try.prog 23 #[.agg #[.slice q m c], .int .i64 x, .int .i64 y] w fun en w' => en = .returned (p2 (v1, c1)) ∧ Below w.heap.size w w' := fun w h => by rw [← e1]; exact s_MoveFront q m c zs x y w h
    have L := Lb.new (c := c) hS
    have O := Own.alloc hb (Obj.cells #[.slice q m c] 26)
    have E1 := Lib.hid e1
    have CI := Lib.hid ci
    have CS := Lib.hid cs
    have HIN := Lib.hid hin
    clear hb hS hn e1 ci cs hin
    go_wp2_with fail
    refine (CI.out _ L.seg).mono ?_
    rintro e w2 ⟨rfl, hb⟩
    replace O := O.join hb; replace L := L.keep hb; (try clear c_L l_L); have c_L := L.cell; have l_L := L.lt; clear hb
    go_wp2_with fail
    refine (CS.out _ L.seg).mono ?_
    rintro e w3 ⟨rfl, hb⟩
    replace O := O.join hb; replace L := L.keep hb; (try clear c_L l_L); have c_L := L.cell; have l_L := L.lt; clear hb
    go_wp2_with fail
    refine (s_DrawRearOf _ _ _ _ (HIN.out.keep O.below)).mono ?_
    rintro e w4 ⟨q2, m2, c2, zs2, x2, y2, rfl, hm2, hmc2, hS2, hb⟩
    replace O := O.join hb; replace L := L.keep hb; (try clear c_L l_L); have c_L := L.cell; have l_L := L.lt; clear hb
    have hm2' : m2 ≤ 1048576 := by omega
    obtain ⟨v2, d2, e2⟩ : ∃ v1 c1, rearR zs2 x2 y2 = (v1, c1) := ⟨_, _, rfl⟩
    have di : ∀ w, Segs w q2 m2 zs2 → Calls Try.prog 25 #[.agg #[.slice q2 m2 c2], .int .i64 x2, .int .i64 y2] w fun en w' => en = .returned (p2 (v2, d2)) ∧ Below w.heap.size w w' := fun w h => by rw [← e2]; exact i_RearOf q2 m2 c2 zs2 x2 y2 w h hm2'
    have ds : ∀ w, Segs w q2 m2 zs2 → Calls Try.prog 26 #[.agg #[.slice q2 m2 c2], .int .i64 x2, .int .i64 y2] w fun en w' => en = .returned (p2 (v2, d2)) ∧ Below w.heap.size w w' := fun w h => by rw [← e2]; exact s_RearOf q2 m2 c2 zs2 x2 y2 w h
    have M := Lb.new (c := c2) hS2
    replace L := L.alloc (Obj.cells #[.slice q2 m2 c2] 26)
    replace O := O.alloc (Obj.cells #[.slice q2 m2 c2] 26)
    have DI := Lib.hid di
    have DS := Lib.hid ds
    clear e2 di ds hS2
    go_wp2_with fail
    refine (DI.out _ M.seg).mono ?_
    rintro e w5 ⟨rfl, hb⟩
    replace O := O.join hb; replace L := L.keep hb; (try clear c_L l_L); have c_L := L.cell; have l_L := L.lt; replace M := M.keep hb; (try clear c_M l_M); have c_M := M.cell; have l_M := M.lt; clear hb
    go_wp2_with fail
    refine (DS.out _ M.seg).mono ?_
    rintro e w6 ⟨rfl, hb⟩
    replace O := O.join hb; replace L := L.keep hb; (try clear c_L l_L); have c_L := L.cell; have l_L := L.lt; replace M := M.keep hb; (try clear c_M l_M); have c_M := M.cell; have l_M := M.lt; clear hb
    by_cases h0 : c1 = 0
    · subst h0
      have T := trains_law E1.out
      have TH := Lib.hid T
      clear T
      go_wp2_with fail
      refine (l_roll' _ _ _ _ _ (HIN.out.keep O.below)).mono ?_
      rintro e w7 ⟨d, rfl, hd, hD, hb1⟩
      go_wp2_with fail
      refine (l_below d 900 p0 len0 cap0 _ hD (by omega)).mono ?_
      rintro e w8 ⟨r, rfl, hr0, hr1, hD2, hO2⟩
      have hb := rolled hb1 hd hO2
      clear hb1 hd hO2 hD hD2
      replace O := O.join hb; replace L := L.keep hb; (try clear c_L l_L); have c_L := L.cell; have l_L := L.lt; clear hb
      rcases TH.out (1 + r) with ⟨e3, e4⟩ | ⟨a, b, e3, e4, e5⟩
      · have c3 : ∀ w, Segs w q m zs → Calls Try.prog 25 #[.agg #[.slice q m c], .int .i64 v1, .int .i64 (1 + r)] w fun en w' => en = .returned (p2 (0, 2)) ∧ Below w.heap.size w w' := fun w h => by rw [← e3]; exact i_RearOf q m c zs v1 (1 + r) w h hm'
        have c4 : ∀ w, Segs w q m zs → Calls Try.prog 25 #[.agg #[.slice q m c], .int .i64 x, .int .i64 (1 + r)] w fun en w' => en = .returned (p2 (0, 2)) ∧ Below w.heap.size w w' := fun w h => by rw [← e4]; exact i_RearOf q m c zs x (1 + r) w h hm'
        have C3 := Lib.hid c3
        have C4 := Lib.hid c4
        clear e3 e4 c3 c4
        go_wp2_with fail
        refine (C3.out _ L.seg).mono ?_
        rintro e w9 ⟨rfl, hb⟩
        replace O := O.join hb; replace L := L.keep hb; (try clear c_L l_L); have c_L := L.cell; have l_L := L.lt; clear hb
        go_wp2_with fail
        refine (C4.out _ L.seg).mono ?_
        rintro e w10 ⟨rfl, hb⟩
        replace O := O.join hb; replace L := L.keep hb; (try clear c_L l_L); have c_L := L.cell; have l_L := L.lt; clear hb
        go_wp2_with fail
        go_ret
        exact ⟨rfl, O.below⟩
      · have c3 : ∀ w, Segs w q m zs → Calls Try.prog 25 #[.agg #[.slice q m c], .int .i64 v1, .int .i64 (1 + r)] w fun en w' => en = .returned (p2 (a, 0)) ∧ Below w.heap.size w w' := fun w h => by rw [← e3]; exact i_RearOf q m c zs v1 (1 + r) w h hm'
        have c4 : ∀ w, Segs w q m zs → Calls Try.prog 25 #[.agg #[.slice q m c], .int .i64 x, .int .i64 (1 + r)] w fun en w' => en = .returned (p2 (b, 0)) ∧ Below w.heap.size w w' := fun w h => by rw [← e4]; exact i_RearOf q m c zs x (1 + r) w h hm'
        have c5 : ∀ w, Segs w q m zs → Calls Try.prog 22 #[.agg #[.slice q m c], .int .i64 b, .int .i64 y] w fun en w' => en = .returned (p2 (a, 0)) ∧ Below w.heap.size w w' := fun w h => by rw [← e5]; exact i_MoveFront q m c zs b y w h hm'
        have C3 := Lib.hid c3
        have C4 := Lib.hid c4
        have C5 := Lib.hid c5
        clear e3 e4 e5 c3 c4 c5
        go_wp2_with fail
        refine (C3.out _ L.seg).mono ?_
        rintro e w9 ⟨rfl, hb⟩
        replace O := O.join hb; replace L := L.keep hb; (try clear c_L l_L); have c_L := L.cell; have l_L := L.lt; clear hb
        go_wp2_with fail
        refine (C4.out _ L.seg).mono ?_
        rintro e w10 ⟨rfl, hb⟩
        replace O := O.join hb; replace L := L.keep hb; (try clear c_L l_L); have c_L := L.cell; have l_L := L.lt; clear hb
        go_wp2_with fail
        refine (C5.out _ L.seg).mono ?_
        rintro e w11 ⟨rfl, hb⟩
        replace O := O.join hb; replace L := L.keep hb; (try clear c_L l_L); have c_L := L.cell; have l_L := L.lt; clear hb
        go_wp2_with fail
        go_ret
        exact ⟨rfl, O.below⟩
    · have h1 : (c1 != 0) = true := by simpa using h0
      have h2 : (c1 == 0) = false := by simpa using h0
      go_wp2_with fail
      go_ret
      exact ⟨rfl, O.below⟩

theorem own : ownKnob Try.prog.godebug = none := by kernel_rfl
theorem laidOut : laidOutB Try.prog = true := by kernel_rfl
set_option maxRecDepth 100000 in
theorem lifted (os : Os) (started : os.Started) (H : Type) (enc : TypeId × Value → H) :
    ReturnsInHanded {} Try.checked os 5 .any (Rows.fnTrainsMoveSpec.pre6 enc Try.prog Try.f5 Rows.fnTrainsMoveRow.domain false) (Rows.fnTrainsMoveSpec.post enc Try.prog Try.f5 false true false false) := by
  refine returnsInHanded_of_change (C := Try.checked) own started (by kernel_rfl) Try.func5
    (ChangeSpec.witness6 (enc := enc) (C := Try.checked) false ⟨#[], #[.slice none 0 0], []⟩ 8 (by kernel_rfl) (by kernel_rfl) (by kernel_rfl) (by kernel_rfl)) ?_
  intro W base args ds gs before hval0 hW hcnd _
  have hval : ∀ (j : Nat) t v, Try.f5.params[j]? = some t → args[j]? = some v → Value.okWide Try.prog W .any base t v := hval0
  have hW' := hW
  obtain ⟨p, q, hA0, hV, rfl, hfz, hnd⟩ := hW
  have hA : DataW.TrodAll enc Try.prog W 0 (fun _ => true) true Try.f5.params.toList args.toList ds p := hA0
  rw [Try.params5] at hA hval
  obtain ⟨v0, vs0, d0, ds0, pp0, qq0, hargs, rfl, rfl, h0, rr0⟩ := trodAll_cons hA
  obtain ⟨rfl, rfl, rfl⟩ := trodAll_nil rr0
  obtain rfl : args = #[v0] := by cases args; simp_all
  obtain ⟨rfl, rfl⟩ := trodVars_none hV
  have k0_ := h0
  have lt0_ : ∀ x ∈ pp0, x.block < W.heap.size := by obtain ⟨m, hm⟩ := h0; exact DataW.trod_lt m _ _ _ hm
  obtain ⟨p0, len0, cap0, rfl⟩ := okWide_slice Try.underlying22 (hval 0 22 v0 rfl rfl)
  obtain ⟨z0, r0⟩ := open_row (k := .u8) Try.underlying22 Try.underlying5 (by kernel_rfl) h0
  clear hA0 hval0
  refine (walk  W p0 len0 cap0 z0 r0).mono fun e W' ⟨he, bel⟩ => ?_
  subst he
  exact ⟨_, rfl, _, _, _, [], _, [], hW', trodAll_mk1 (shut_bool Try.underlying4 _), (trodAll_cons_mk (Below.trod laidOut (by kernel_rfl) (of_decide_eq_true (by kernel_rfl)) k0_ bel lt0_) trodAll_mk0), rfl, bel.frame _, fun h => by cases h⟩

theorem over : Rows.fnTrainsMoveRow.holds Try.pinned (OpenSpec.ofChange Rows.fnTrainsMoveSpec) :=
  OpenClaim.holds_of_wide 5 Try.f5 rfl rfl rfl rfl rfl rfl rfl ⟨rfl, rfl, rfl, rfl, rfl⟩ rfl rfl rfl rfl rfl (by kernel_rfl) Try.func5 (by kernel_rfl)
    (of_decide_eq_true (by kernel_rfl)) (by unfold Func.isWrapper; first | (rw [if_pos (by decide +kernel)]; kernel_rfl) | (rw [if_neg (by decide +kernel)]; exact ⟨rfl, rfl⟩))
    (fun os started H enc _ => lifted os started H enc)

/-- the given statement -/
theorem proved : Rows.FnTrainsMoveSaid := over
#print axioms proved
end Go.Proofs.Ytgkfnggnhphboaa.pFnTrainsMove
