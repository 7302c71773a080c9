/- The Go function laws.FnGaps returns true for every input and leaves its arguments as they were; no condition. -/
import Derived.Test.YtgkfnggnhphboaaRows
import Derived.Test.YtgkfnggnhphboaaBase
import Derived.Test.YtgkfnggnhphboaaNum
import Derived.Test.YtgkfnggnhphboaaDraw
import Derived.Test.YtgkfnggnhphboaaDraw3
import Derived.Test.YtgkfnggnhphboaaDRow
import Derived.Test.YtgkfnggnhphboaaLawKit
import Derived.Test.YtgkfnggnhphboaaDice
import Derived.Test.YtgkfnggnhphboaaList
import Derived.Test.YtgkfnggnhphboaaSeg
import Derived.Test.YtgkfnggnhphboaaLay
import Derived.Test.YtgkfnggnhphboaaLay2
import Derived.Test.YtgkfnggnhphboaaLay3
import Derived.Test.YtgkfnggnhphboaaLay4
import Derived.Test.YtgkfnggnhphboaaLay5
import Derived.Test.YtgkfnggnhphboaaLay6
import Derived.Test.YtgkfnggnhphboaaLay7
import Derived.Test.YtgkfnggnhphboaaLay8
import Derived.Test.YtgkfnggnhphboaaLay19
import Derived.Test.YtgkfnggnhphboaaLDraw
import Derived.Test.YtgkfnggnhphboaaLDraw2
import Derived.Test.YtgkfnggnhphboaaLDraw3
import Derived.Test.YtgkfnggnhphboaaLDraw5
import Derived.Test.YtgkfnggnhphboaaLDraw8
import Derived.Test.YtgkfnggnhphboaaLPlain
import Derived.Test.YtgkfnggnhphboaaLLaw
import Derived.Lib.Hide
import Derived.WalkKit
import Derived.WalkSpells
import Derived.WalkLawsBesides
import Derived.ProofKit
import Derived.OpenShut
import Derived.ShutString
import Derived.ChangeOld
import Derived.Below
import Derived.Deep.RegionHeld3
import Derived.Deep.DeepCutAuto
namespace Go.Proofs.Ytgkfnggnhphboaa.pFnGaps
open Go.ChangeShapes Go.WideShapes Go.ChangeAt Go.RowKit
set_option maxHeartbeats 2000000
set_option linter.unusedVariables false
set_option linter.unusedSimpArgs false

set_option maxRecDepth 100000 in set_option maxHeartbeats 8000000 in
theorem walk (w : World) (p0 : Option Addr) (len0 cap0 : Nat) (z0 : List Int) (r0 : IsRow .u8 w p0 len0 cap0 z0) :
    Calls Try.prog 8 #[.slice p0 len0 cap0] w fun e w' => e = .returned (.bool true) ∧ Below w.heap.size w w' := by
  have hin := r0.bytes8
  have hn := hin.1
  clear r0
  rcases Bool.eq_false_or_eq_true (decide (4096 < len0)) with hbig | hbig
  · go_enter Try.func8, Try.ntmps8
    go_wp2_with (go_at_call 11; refine (l_big p0 len0 cap0 _ hn).mono ?_; rintro e w' ⟨rfl, rfl⟩; rw [hbig])
    go_ret
    exact ⟨rfl, Below.refl _ _⟩
  · go_enter Try.func8, Try.ntmps8
    go_wp2_with (go_at_call 11; refine (l_big p0 len0 cap0 _ hn).mono ?_; rintro e w' ⟨rfl, rfl⟩; rw [hbig])
    clear hbig
    refine (s_DrawGapAhead _ _ _ _ hin).mono ?_
    rintro e w1 ⟨q, m, c, zs, x, y, z, rfl, hm, hmc, hS, hb⟩
    have hm' : m ≤ 1048576 := by omega
    obtain ⟨v, d, e1⟩ : ∃ v d, gapR zs x y z = (v, d) := ⟨_, _, rfl⟩
    have ci : ∀ w, Segs w q m zs → Calls Try.prog 36 #[.agg #[.slice q m c], .int .i64 x, .int .i64 y, .int .i64 z] w fun en w' => en = .returned (p2 (v, d)) ∧ Below w.heap.size w w' := fun w h => by rw [← e1]; exact i_GapAhead q m c zs x y z w h hm'
    have cs : ∀ w, Segs w q m zs → Calls Try.prog 37 #[.agg #[.slice q m c], .int .i64 x, .int .i64 y, .int .i64 z] w fun en w' => en = .returned (p2 (v, d)) ∧ Below w.heap.size w w' := fun w h => by rw [← e1]; exact s_GapAhead q m c zs x y z w h
    have L := Lb.new (c := c) hS
    have O := Own.alloc hb (Obj.cells #[.slice q m c] 26)
    have CI := Lib.hid ci
    have CS := Lib.hid cs
    have E1 := Lib.hid e1
    have HIN := Lib.hid hin
    clear ci cs hS hb hn hin e1
    go_wp2_with fail
    refine (CI.out _ L.seg).mono ?_
    rintro e w2 ⟨rfl, hb⟩
    replace O := O.join hb; replace L := L.keep hb; (try clear c_L l_L); have c_L := L.cell; have l_L := L.lt; clear hb
    go_wp2_with fail
    refine (CS.out _ L.seg).mono ?_
    rintro e w3 ⟨rfl, hb⟩
    replace O := O.join hb; replace L := L.keep hb; (try clear c_L l_L); have c_L := L.cell; have l_L := L.lt; clear hb
    go_wp2_with fail
    refine (s_DrawAreSeparate _ _ _ _ (HIN.out.keep O.below)).mono ?_
    rintro e w4 ⟨q2, m2, c2, zs2, g2, kk, cc, ys, x2, rfl, hm2, hmc2, hk1, hk2, hS2, hI, hb⟩
    replace O := O.join hb; replace L := L.keep hb; (try clear c_L l_L); have c_L := L.cell; have l_L := L.lt; clear hb
    have hm2' : m2 ≤ 1048576 := by omega
    obtain ⟨sp, es⟩ : ∃ sp, asR zs2 ys x2 = sp := ⟨_, rfl⟩
    have di : ∀ w, Segs w q2 m2 zs2 → Ints .i64 w (some ⟨g2, 0, none⟩) kk ys → Calls Try.prog 39 #[.agg #[.slice q2 m2 c2], .slice (some ⟨g2, 0, none⟩) kk cc, .int .i64 x2] w fun en w' => en = .returned (.bool sp) ∧ Below w.heap.size w w' := fun w h hi => by rw [← es]; exact i_AreSeparate q2 m2 c2 zs2 _ kk cc ys x2 hk2 w h hm2' hi
    have ds : ∀ w, Segs w q2 m2 zs2 → Ints .i64 w (some ⟨g2, 0, none⟩) kk ys → Calls Try.prog 40 #[.agg #[.slice q2 m2 c2], .slice (some ⟨g2, 0, none⟩) kk cc, .int .i64 x2] w fun en w' => en = .returned (.bool sp) ∧ Below w.heap.size w w' := fun w h hi => by rw [← es]; exact s_AreSeparate q2 m2 c2 zs2 _ kk cc ys x2 w h hi
    have M := Lb.new (c := c2) hS2
    have HI := Lib.hid (hI.keep ((Below.refl _ _).alloc (Nat.le_refl _) (Obj.cells #[.slice q2 m2 c2] 26)))
    replace L := L.alloc (Obj.cells #[.slice q2 m2 c2] 26)
    replace O := O.alloc (Obj.cells #[.slice q2 m2 c2] 26)
    have DI := Lib.hid di
    have DS := Lib.hid ds
    clear es di ds hS2 hI
    have c_L := L.cell
    have l_L := L.lt
    have c_M := M.cell
    have l_M := M.lt
    go_upto_region 7 with fail
    go_region_held3 (fun W => W.cell? ⟨w4.heap.size, 0, none⟩ = some (.slice q2 m2 c2)) (first | (go_simp; done) | go_keep) (first | (go_at_call 39; refine (DI.out _ ?_ ?_).mono ?_; (focus (first | exact M.seg | exact M.seg.drew)); (focus (first | exact HI.out | exact HI.out.own (Own.start _).drew)); rintro e w5 ⟨rfl, hb⟩; (first | replace O := O.drew.join hb | replace O := O.join hb); (first | replace L := L.drew.keep hb | replace L := L.keep hb); (first | replace M := M.drew.keep hb | replace M := M.keep hb); (first | replace HI := Lib.hid ((HI.out.own (Own.start _).drew).keep hb) | replace HI := Lib.hid (HI.out.keep hb)); (try clear c_L l_L); (try clear c_M l_M); have c_L := L.cell; have l_L := L.lt; have c_M := M.cell; have l_M := M.lt; clear hb) | (go_at_call 40; refine (DS.out _ ?_ ?_).mono ?_; (focus (first | exact M.seg | exact M.seg.drew)); (focus (first | exact HI.out | exact HI.out.own (Own.start _).drew)); rintro e w5 ⟨rfl, hb⟩; (first | replace O := O.drew.join hb | replace O := O.join hb); (first | replace L := L.drew.keep hb | replace L := L.keep hb); (first | replace M := M.drew.keep hb | replace M := M.keep hb); (first | replace HI := Lib.hid ((HI.out.own (Own.start _).drew).keep hb) | replace HI := Lib.hid (HI.out.keep hb)); (try clear c_L l_L); (try clear c_M l_M); have c_L := L.cell; have l_L := L.lt; have c_M := M.cell; have l_M := M.lt; clear hb))
    all_goals
      clear M HI DI DS c_M l_M HIN
      obtain ⟨G0, G5⟩ := gaps_law E1.out
      by_cases h0 : d = 0
      · subst h0
        obtain ⟨k, t, ek, et, hg0, hk0, hgt, ea, hz, hg9, hk9⟩ := G0 rfl
        have ck : ∀ w, Segs w q m zs → Calls Try.prog 36 #[.agg #[.slice q m c], .int .i64 y, .int .i64 x, .int .i64 z] w fun en w' => en = .returned (p2 (k, 0)) ∧ Below w.heap.size w w' := fun w h => by rw [← ek]; exact i_GapAhead q m c zs y x z w h hm'
        have ct : ∀ w, Segs w q m zs → Calls Try.prog 20 #[.agg #[.slice q m c]] w fun en w' => en = .returned (p2 (t, 0)) ∧ Below w.heap.size w w' := fun w h => by rw [← et]; exact i_TrackLength q m c zs w h hm'
        have ca : ∀ (w : World) (gg : Nat), Segs w q m zs → Ints .i64 w (some ⟨gg, 0, none⟩) 2 [x, y] → Calls Try.prog 39 #[.agg #[.slice q m c], .slice (some ⟨gg, 0, none⟩) 2 2, .int .i64 z] w fun en w' => en = .returned (.bool true) ∧ Below w.heap.size w w' := fun w gg h hi => by rw [← ea]; exact i_AreSeparate q m c zs _ 2 2 [x, y] z (Nat.le_refl _) w h hm' hi
        have CK := Lib.hid ck
        have CT := Lib.hid ct
        have CA := Lib.hid ca
        have tq : (v + k + 2 * z == t) = true := by simp; omega
        clear ck ct ca ek et ea G0 G5 hgt
        go_wp2_with fail
        refine (CK.out _ L.seg).mono ?_
        rintro e w8 ⟨rfl, hb⟩
        replace O := O.join hb; replace L := L.keep hb; (try clear c_L l_L); have c_L := L.cell; have l_L := L.lt; clear hb
        go_wp2_with fail
        refine (CT.out _ L.seg).mono ?_
        rintro e w9 ⟨rfl, hb⟩
        replace O := O.join hb; replace L := L.keep hb; (try clear c_L l_L); have c_L := L.cell; have l_L := L.lt; clear hb
        go_wp2_with fail
        refine (CA.out _ _ (L.seg.alloc _) (ints_alloc w9 [x, y] 2 (by simp [maxLen]))).mono ?_
        rintro e w10 ⟨rfl, hb⟩
        have OO := Lib.hid ((O.alloc _).join hb)
        clear hb L O
        go_wp2_with fail
        go_ret
        exact ⟨rfl, OO.out.below⟩
      · by_cases h5 : d = 5
        · subst h5
          have ea := G5 rfl
          have ca : ∀ (w : World) (gg : Nat), Segs w q m zs → Ints .i64 w (some ⟨gg, 0, none⟩) 2 [x, y] → Calls Try.prog 39 #[.agg #[.slice q m c], .slice (some ⟨gg, 0, none⟩) 2 2, .int .i64 z] w fun en w' => en = .returned (.bool false) ∧ Below w.heap.size w w' := fun w gg h hi => by rw [← ea]; exact i_AreSeparate q m c zs _ 2 2 [x, y] z (Nat.le_refl _) w h hm' hi
          have CA := Lib.hid ca
          clear ca ea G0 G5
          obtain ⟨wZ, rfl⟩ : ∃ wZ : World, wZ = w5 := ⟨_, rfl⟩
          go_wp2_with fail
          refine (CA.out _ _ (L.seg.alloc _) (ints_alloc wZ [x, y] 2 (by simp [maxLen]))).mono ?_
          rintro e w10 ⟨rfl, hb⟩
          have OO := Lib.hid ((O.alloc _).join hb)
          clear hb L O
          go_wp2_with fail
          go_ret
          exact ⟨rfl, OO.out.below⟩
        · have t0 : (d == 0) = false := by simpa using h0
          have t0' : (d != 0) = true := by simpa using h0
          have t5 : (d == 5) = false := by simpa using h5
          have t5' : (d != 5) = true := by simpa using h5
          have OO := Lib.hid O
          clear L O G0 G5
          go_wp2_with fail
          go_ret
          exact ⟨rfl, OO.out.below⟩

theorem own : ownKnob Try.prog.godebug = none := by kernel_rfl
theorem laidOut : laidOutB Try.prog = true := by kernel_rfl
set_option maxRecDepth 100000 in
theorem lifted (os : Os) (started : os.Started) (H : Type) (enc : TypeId × Value → H) :
    ReturnsInHanded {} Try.checked os 8 .any (Rows.fnGapsSpec.pre6 enc Try.prog Try.f8 Rows.fnGapsRow.domain false) (Rows.fnGapsSpec.post enc Try.prog Try.f8 false true false false) := by
  refine returnsInHanded_of_change (C := Try.checked) own started (by kernel_rfl) Try.func8
    (ChangeSpec.witness6 (enc := enc) (C := Try.checked) false ⟨#[], #[.slice none 0 0], []⟩ 8 (by kernel_rfl) (by kernel_rfl) (by kernel_rfl) (by kernel_rfl)) ?_
  intro W base args ds gs before hval0 hW hcnd _
  have hval : ∀ (j : Nat) t v, Try.f8.params[j]? = some t → args[j]? = some v → Value.okWide Try.prog W .any base t v := hval0
  have hW' := hW
  obtain ⟨p, q, hA0, hV, rfl, hfz, hnd⟩ := hW
  have hA : DataW.TrodAll enc Try.prog W 0 (fun _ => true) true Try.f8.params.toList args.toList ds p := hA0
  rw [Try.params8] at hA hval
  obtain ⟨v0, vs0, d0, ds0, pp0, qq0, hargs, rfl, rfl, h0, rr0⟩ := trodAll_cons hA
  obtain ⟨rfl, rfl, rfl⟩ := trodAll_nil rr0
  obtain rfl : args = #[v0] := by cases args; simp_all
  obtain ⟨rfl, rfl⟩ := trodVars_none hV
  have k0_ := h0
  have lt0_ : ∀ x ∈ pp0, x.block < W.heap.size := by obtain ⟨m, hm⟩ := h0; exact DataW.trod_lt m _ _ _ hm
  obtain ⟨p0, len0, cap0, rfl⟩ := okWide_slice Try.underlying22 (hval 0 22 v0 rfl rfl)
  obtain ⟨z0, r0⟩ := open_row (k := .u8) Try.underlying22 Try.underlying5 (by kernel_rfl) h0
  clear hA0 hval0
  refine (walk  W p0 len0 cap0 z0 r0).mono fun e W' ⟨he, bel⟩ => ?_
  subst he
  exact ⟨_, rfl, _, _, _, [], _, [], hW', trodAll_mk1 (shut_bool Try.underlying4 _), (trodAll_cons_mk (Below.trod laidOut (by kernel_rfl) (of_decide_eq_true (by kernel_rfl)) k0_ bel lt0_) trodAll_mk0), rfl, bel.frame _, fun h => by cases h⟩

theorem over : Rows.fnGapsRow.holds Try.pinned (OpenSpec.ofChange Rows.fnGapsSpec) :=
  OpenClaim.holds_of_wide 8 Try.f8 rfl rfl rfl rfl rfl rfl rfl ⟨rfl, rfl, rfl, rfl, rfl⟩ rfl rfl rfl rfl rfl (by kernel_rfl) Try.func8 (by kernel_rfl)
    (of_decide_eq_true (by kernel_rfl)) (by unfold Func.isWrapper; first | (rw [if_pos (by decide +kernel)]; kernel_rfl) | (rw [if_neg (by decide +kernel)]; exact ⟨rfl, rfl⟩))
    (fun os started H enc _ => lifted os started H enc)

/-- the given statement -/
theorem proved : Rows.FnGapsSaid := over
#print axioms proved
end Go.Proofs.Ytgkfnggnhphboaa.pFnGaps
