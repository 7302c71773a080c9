/- The Go function laws.FnEnergyNeeded returns true for every input and leaves its arguments as they were; no condition. -/
import Derived.Test.YtgkfnggnhphboaaRows
import Derived.Test.YtgkfnggnhphboaaBase
import Derived.Test.YtgkfnggnhphboaaNum
import Derived.Test.YtgkfnggnhphboaaIv
import Derived.Test.YtgkfnggnhphboaaEn
import Derived.Test.YtgkfnggnhphboaaEn2
import Derived.Test.YtgkfnggnhphboaaDraw
import Derived.Test.YtgkfnggnhphboaaLawKit
import Derived.Test.YtgkfnggnhphboaaDice
import Derived.Test.YtgkfnggnhphboaaList
import Derived.Test.YtgkfnggnhphboaaSeg
import Derived.Test.YtgkfnggnhphboaaLay
import Derived.Test.YtgkfnggnhphboaaLay2
import Derived.Test.YtgkfnggnhphboaaLay3
import Derived.Test.YtgkfnggnhphboaaLay9
import Derived.Test.YtgkfnggnhphboaaLay10
import Derived.Test.YtgkfnggnhphboaaLay11
import Derived.Test.YtgkfnggnhphboaaLay15
import Derived.Test.YtgkfnggnhphboaaLay18
import Derived.Test.YtgkfnggnhphboaaLay21
import Derived.Test.YtgkfnggnhphboaaLDraw
import Derived.Test.YtgkfnggnhphboaaLDraw2
import Derived.Test.YtgkfnggnhphboaaLDraw3
import Derived.Test.YtgkfnggnhphboaaLDraw5
import Derived.Test.YtgkfnggnhphboaaLPlain
import Derived.Test.YtgkfnggnhphboaaLLaw
import Derived.Lib.Hide
import Derived.WalkKit
import Derived.WalkSpells
import Derived.WalkLawsBesides
import Derived.ProofKit
import Derived.OpenShut
import Derived.ShutString
import Derived.ChangeOld
import Derived.Below
import Derived.Deep.RegionHeld3
import Derived.Deep.DeepCutAuto
namespace Go.Proofs.Ytgkfnggnhphboaa.pFnEnergyNeeded
open Go.ChangeShapes Go.WideShapes Go.ChangeAt Go.RowKit
set_option maxHeartbeats 2000000
set_option linter.unusedVariables false
set_option linter.unusedSimpArgs false

set_option maxRecDepth 100000 in set_option maxHeartbeats 8000000 in
theorem walk (w : World) (p0 : Option Addr) (len0 cap0 : Nat) (z0 : List Int) (r0 : IsRow .u8 w p0 len0 cap0 z0) :
    Calls Try.prog 3 #[.slice p0 len0 cap0] w fun e w' => e = .returned (.bool true) ∧ Below w.heap.size w w' := by
  have hin := r0.bytes8
  have hn := hin.1
  clear r0
  rcases Bool.eq_false_or_eq_true (decide (4096 < len0)) with hbig | hbig
  · go_enter Try.func3, Try.ntmps3
    go_wp2_with (go_at_call 11; refine (l_big p0 len0 cap0 _ hn).mono ?_; rintro e w' ⟨rfl, rfl⟩; rw [hbig])
    go_ret
    exact ⟨rfl, Below.refl _ _⟩
  · go_enter Try.func3, Try.ntmps3
    go_wp2_with (go_at_call 11; refine (l_big p0 len0 cap0 _ hn).mono ?_; rintro e w' ⟨rfl, rfl⟩; rw [hbig])
    clear hbig
    refine (s_DrawEnergyNeeded _ _ _ _ hin).mono ?_
    rintro e w1 ⟨q, m, c, zs, x, y, rfl, hm, hmc, hS, hb⟩
    have hm' : m ≤ 1048576 := by omega
    obtain ⟨v, d, e1⟩ : ∃ v d, needR zs x y = (v, d) := ⟨_, _, rfl⟩
    have ci : ∀ w, Segs w q m zs → Calls Try.prog 13 #[.agg #[.slice q m c], .int .i64 x, .int .i64 y] w fun en w' => en = .returned (p2 (v, d)) ∧ Below w.heap.size w w' := fun w h => by rw [← e1]; exact i_EnergyNeeded q m c zs x y w h hm'
    have cs : ∀ w, Segs w q m zs → Calls Try.prog 14 #[.agg #[.slice q m c], .int .i64 x, .int .i64 y] w fun en w' => en = .returned (p2 (v, d)) ∧ Below w.heap.size w w' := fun w h => by rw [← e1]; exact s_EnergyNeeded q m c zs x y w h hm'
    have L := Lb.new (c := c) hS
    have O := Own.alloc hb (Obj.cells #[.slice q m c] 26)
    have CI := Lib.hid ci
    have CS := Lib.hid cs
    have E1 := Lib.hid e1
    clear ci cs hS hb hn hin e1
    go_wp2_with fail
    refine (CI.out _ L.seg).mono ?_
    rintro e w2 ⟨rfl, hb⟩
    replace O := O.join hb; replace L := L.keep hb; (try clear c_L l_L); have c_L := L.cell; have l_L := L.lt; clear hb
    go_wp2_with fail
    refine (CS.out _ L.seg).mono ?_
    rintro e w3 ⟨rfl, hb⟩
    replace O := O.join hb; replace L := L.keep hb; (try clear c_L l_L); have c_L := L.cell; have l_L := L.lt; clear hb
    by_cases h0 : d = 0
    · subst h0
      obtain ⟨h1, hv0, hv1, h2⟩ := need_law E1.out
      have ce := fun w (h : Segs w q m zs) => i_EnergyAlong q m c zs x y v v w h hm'
      have cf := fun w (h : Segs w q m zs) => i_EnergyAlong q m c zs x y (v - 1) (v - 1) w h hm'
      have CF := Lib.hid cf
      have H2 := Lib.hid h2
      clear cf h2
      rcases h1 with h1 | h1
      all_goals
        rw [h1] at ce
        have CE := Lib.hid ce
        clear ce h1
        go_wp2_with fail
        refine (CE.out _ L.seg).mono ?_
        rintro e w4 ⟨q4, c4, rfl, -, hb⟩
        replace O := O.join hb; replace L := L.keep hb; (try clear c_L l_L); have c_L := L.cell; have l_L := L.lt; clear hb
        by_cases hvz : v = 0
        · subst hvz
          have OO := Lib.hid O
          clear L O
          go_wp2_with fail
          go_ret
          exact ⟨rfl, OO.out.below⟩
        · have hz0 : (v == 0) = false := by simpa using hvz
          have cf := CF.out
          rcases H2.out hvz with h3 | h3
          all_goals
            rw [h3] at cf
            have CG := Lib.hid cf
            clear cf h3 CF
            go_wp2_with fail
            refine (CG.out _ L.seg).mono ?_
            rintro e w5 ⟨q5, c5, rfl, -, hb⟩
            replace O := O.join hb; replace L := L.keep hb; (try clear c_L l_L); have c_L := L.cell; have l_L := L.lt; clear hb
            have OO := Lib.hid O
            clear L O
            go_wp2_with fail
            go_ret
            exact ⟨rfl, OO.out.below⟩
    · have hd : (d == 0) = false := by simpa using h0
      have hd' : (d != 0) = true := by simpa using h0
      have OO := Lib.hid O
      clear L O
      go_wp2_with fail
      go_ret
      exact ⟨rfl, OO.out.below⟩

theorem own : ownKnob Try.prog.godebug = none := by kernel_rfl
theorem laidOut : laidOutB Try.prog = true := by kernel_rfl
set_option maxRecDepth 100000 in
theorem lifted (os : Os) (started : os.Started) (H : Type) (enc : TypeId × Value → H) :
    ReturnsInHanded {} Try.checked os 3 .any (Rows.fnEnergyNeededSpec.pre6 enc Try.prog Try.f3 Rows.fnEnergyNeededRow.domain false) (Rows.fnEnergyNeededSpec.post enc Try.prog Try.f3 false true false false) := by
  refine returnsInHanded_of_change (C := Try.checked) own started (by kernel_rfl) Try.func3
    (ChangeSpec.witness6 (enc := enc) (C := Try.checked) false ⟨#[], #[.slice none 0 0], []⟩ 8 (by kernel_rfl) (by kernel_rfl) (by kernel_rfl) (by kernel_rfl)) ?_
  intro W base args ds gs before hval0 hW hcnd _
  have hval : ∀ (j : Nat) t v, Try.f3.params[j]? = some t → args[j]? = some v → Value.okWide Try.prog W .any base t v := hval0
  have hW' := hW
  obtain ⟨p, q, hA0, hV, rfl, hfz, hnd⟩ := hW
  have hA : DataW.TrodAll enc Try.prog W 0 (fun _ => true) true Try.f3.params.toList args.toList ds p := hA0
  rw [Try.params3] at hA hval
  obtain ⟨v0, vs0, d0, ds0, pp0, qq0, hargs, rfl, rfl, h0, rr0⟩ := trodAll_cons hA
  obtain ⟨rfl, rfl, rfl⟩ := trodAll_nil rr0
  obtain rfl : args = #[v0] := by cases args; simp_all
  obtain ⟨rfl, rfl⟩ := trodVars_none hV
  have k0_ := h0
  have lt0_ : ∀ x ∈ pp0, x.block < W.heap.size := by obtain ⟨m, hm⟩ := h0; exact DataW.trod_lt m _ _ _ hm
  obtain ⟨p0, len0, cap0, rfl⟩ := okWide_slice Try.underlying22 (hval 0 22 v0 rfl rfl)
  obtain ⟨z0, r0⟩ := open_row (k := .u8) Try.underlying22 Try.underlying5 (by kernel_rfl) h0
  clear hA0 hval0
  refine (walk  W p0 len0 cap0 z0 r0).mono fun e W' ⟨he, bel⟩ => ?_
  subst he
  exact ⟨_, rfl, _, _, _, [], _, [], hW', trodAll_mk1 (shut_bool Try.underlying4 _), (trodAll_cons_mk (Below.trod laidOut (by kernel_rfl) (of_decide_eq_true (by kernel_rfl)) k0_ bel lt0_) trodAll_mk0), rfl, bel.frame _, fun h => by cases h⟩

theorem over : Rows.fnEnergyNeededRow.holds Try.pinned (OpenSpec.ofChange Rows.fnEnergyNeededSpec) :=
  OpenClaim.holds_of_wide 3 Try.f3 rfl rfl rfl rfl rfl rfl rfl ⟨rfl, rfl, rfl, rfl, rfl⟩ rfl rfl rfl rfl rfl (by kernel_rfl) Try.func3 (by kernel_rfl)
    (of_decide_eq_true (by kernel_rfl)) (by unfold Func.isWrapper; first | (rw [if_pos (by decide +kernel)]; kernel_rfl) | (rw [if_neg (by decide +kernel)]; exact ⟨rfl, rfl⟩))
    (fun os started H enc _ => lifted os started H enc)

/-- the given statement -/
theorem proved : Rows.FnEnergyNeededSaid := over
#print axioms proved
end Go.Proofs.Ytgkfnggnhphboaa.pFnEnergyNeeded
