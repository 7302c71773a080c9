/- The Go function laws.FnEnergyRuns returns true for every input and leaves its arguments as they were; no condition. -/
import Derived.Test.YtgkfnggnhphboaaRows
import Derived.Test.YtgkfnggnhphboaaBase
import Derived.Test.YtgkfnggnhphboaaNum
import Derived.Test.YtgkfnggnhphboaaIv
import Derived.Test.YtgkfnggnhphboaaEn
import Derived.Test.YtgkfnggnhphboaaEn2
import Derived.Test.YtgkfnggnhphboaaDraw
import Derived.Test.YtgkfnggnhphboaaDRow
import Derived.Test.YtgkfnggnhphboaaLawKit
import Derived.Test.YtgkfnggnhphboaaDice
import Derived.Test.YtgkfnggnhphboaaList
import Derived.Test.YtgkfnggnhphboaaSeg
import Derived.Test.YtgkfnggnhphboaaLay
import Derived.Test.YtgkfnggnhphboaaLay2
import Derived.Test.YtgkfnggnhphboaaLay3
import Derived.Test.YtgkfnggnhphboaaLay9
import Derived.Test.YtgkfnggnhphboaaLay10
import Derived.Test.YtgkfnggnhphboaaLay11
import Derived.Test.YtgkfnggnhphboaaLay15
import Derived.Test.YtgkfnggnhphboaaLay17
import Derived.Test.YtgkfnggnhphboaaLay18
import Derived.Test.YtgkfnggnhphboaaLay21
import Derived.Test.YtgkfnggnhphboaaLDraw
import Derived.Test.YtgkfnggnhphboaaLDraw2
import Derived.Test.YtgkfnggnhphboaaLDraw3
import Derived.Test.YtgkfnggnhphboaaLDraw5
import Derived.Test.YtgkfnggnhphboaaLDraw9
import Derived.Test.YtgkfnggnhphboaaLPlain
import Derived.Test.YtgkfnggnhphboaaLLaw
import Derived.Test.YtgkfnggnhphboaaLike
import Derived.Lib.Hide
import Derived.IntWalk
import Derived.WalkKit
import Derived.WalkSpells
import Derived.WalkLawsBesides
import Derived.ProofKit
import Derived.OpenShut
import Derived.ShutString
import Derived.ChangeOld
import Derived.Below
import Derived.Deep.RegionHeld3
import Derived.Deep.DeepCutAuto
import Derived.Deep.OwnRows
import Derived.Deep.LoopGhost
namespace Go.Proofs.Ytgkfnggnhphboaa.pFnEnergyRuns
open Go.ChangeShapes Go.WideShapes Go.ChangeAt Go.RowKit Go.Deep
set_option maxHeartbeats 2000000
set_option linter.unusedVariables false
set_option linter.unusedSimpArgs false

set_option maxRecDepth 100000 in set_option maxHeartbeats 8000000 in
theorem walk (w : World) (p0 : Option Addr) (len0 cap0 : Nat) (z0 : List Int) (r0 : IsRow .u8 w p0 len0 cap0 z0) :
    Calls Try.prog 7 #[.slice p0 len0 cap0] w fun e w' => e = .returned (.bool true) ∧ Below w.heap.size w w' := by
  obtain ⟨i0, hi, hz0, hz1, hz2⟩ := info_parts (P := Try.prog) (e := 35) (z := ivV 0 0) (size := 2) (bytes := 16) (by kernel_rfl)
  have hin := r0.bytes8
  have hn := hin.1
  clear r0
  rcases Bool.eq_false_or_eq_true (decide (4096 < len0)) with hbig | hbig
  · go_enter Try.func7, Try.ntmps7
    go_wp2_with (go_at_call 11; refine (l_big p0 len0 cap0 _ hn).mono ?_; rintro e w' ⟨rfl, rfl⟩; rw [hbig])
    go_ret
    exact ⟨rfl, Below.refl _ _⟩
  · go_enter Try.func7, Try.ntmps7
    go_wp2_with (go_at_call 11; refine (l_big p0 len0 cap0 _ hn).mono ?_; rintro e w' ⟨rfl, rfl⟩; rw [hbig])
    clear hbig
    refine (s_DrawEnergyAlong _ _ _ _ hin).mono ?_
    rintro e w1 ⟨q, m, c, zs, x, y, a, b, rfl, hm, hmc, hS, hb⟩
    have hm' : m ≤ 1048576 := by omega
    obtain ⟨M, hM⟩ : ∃ M, eaM zs x y a b = M := ⟨_, rfl⟩
    obtain ⟨d, hd⟩ : ∃ d, eaC zs x y a b = d := ⟨_, rfl⟩
    have ci := fun w (h : Segs w q m zs) => i_EnergyAlong q m c zs x y a b w h hm'
    have cs := fun w (h : Segs w q m zs) => s_EnergyAlong q m c zs x y a b w h hm'
    rw [hM, hd] at ci cs
    have hz := hS.1
    have L := (Lb.new (c := c) hS).alloc (Obj.cells #[.int .i64 a, .int .i64 b] 35)
    have E : Blk ((w1.alloc (Obj.cells #[.slice q m c] 26)).alloc (Obj.cells #[.int .i64 a, .int .i64 b] 35)) (w1.heap.size + 1) [a, b] := by
      have h := Blk.new (w1.alloc (Obj.cells #[.slice q m c] 26)) [a, b] 35
      rwa [World.size_alloc] at h
    have O := (Own.alloc hb (Obj.cells #[.slice q m c] 26)).alloc (Obj.cells #[.int .i64 a, .int .i64 b] 35)
    have CI := Lib.hid ci
    have CS := Lib.hid cs
    have HM := Lib.hid hM
    have HD := Lib.hid hd
    have HIN := Lib.hid hin
    have HZ := Lib.hid hz
    clear ci cs hS hb hn hin hM hd hz
    go_wp2_with fail
    refine (CI.out _ L.seg).mono ?_
    rintro e w2 ⟨q4, c4, rfl, hQ4, hb⟩
    replace O := O.join hb; replace L := L.keep hb; (try clear c_L l_L); have c_L := L.cell; have l_L := L.lt; replace E := E.below hb; (try clear c_E0 c_E1 l_E); have c_E0 := E.cell 0 a rfl; have c_E1 := E.cell 1 b rfl; have l_E := E.lt; clear hb
    go_wp2_with fail
    refine (CS.out _ L.seg).mono ?_
    rintro e w3 ⟨q5, c5, rfl, hQ5, hb⟩
    replace hQ4 := hQ4.keep hb
    replace O := O.join hb; replace L := L.keep hb; (try clear c_L l_L); have c_L := L.cell; have l_L := L.lt; replace E := E.below hb; (try clear c_E0 c_E1 l_E); have c_E0 := E.cell 0 a rfl; have c_E1 := E.cell 1 b rfl; have l_E := E.lt; clear hb
    have HQ4 := Lib.hid hQ4
    have HQ5 := Lib.hid hQ5
    clear hQ4 hQ5
    go_wp2_with fail
    refine (l_likeIntervals9 _ _ _ _ _ _ _ _ _ _ _ HQ4.out HQ5.out).mono ?_
    rintro e w4 ⟨rfl, hb⟩
    replace HQ4 := Lib.hid (HQ4.out.keep hb)
    clear HQ5
    replace O := O.join hb; replace L := L.keep hb; (try clear c_L l_L); have c_L := L.cell; have l_L := L.lt; replace E := E.below hb; (try clear c_E0 c_E1 l_E); have c_E0 := E.cell 0 a rfl; have c_E1 := E.cell 1 b rfl; have l_E := E.lt; clear hb
    by_cases h0 : d = 0
    · subst h0
      obtain ⟨f, mm, rfl, rfl, hf, hmm, hl, he, hMm, hrun⟩ := runs_law HD.out
      rw [HM.out] at hMm
      subst hMm
      have HRUN := Lib.hid hrun
      have HL := Lib.hid (layOk_iff.1 hl)
      clear hrun hl he HM HD
      by_cases hM0 : M = 0
      · subst hM0
        have OO := Lib.hid O
        clear L O E
        go_wp2_with fail
        go_ret
        exact ⟨rfl, OO.out.below⟩
      · have hMp : (0 : Int) < M := by omega
        have hMz : ((M : Int) == 0) = false := by simp; omega
        go_wp2_with fail
        refine (l_roll' _ _ _ _ _ (HIN.out.keep O.below)).mono ?_
        rintro e w7 ⟨dd, rfl, hd, hD, hb1⟩
        go_wp2_with fail
        refine (l_below dd M p0 len0 cap0 _ hD hMp).mono ?_
        rintro e w8 ⟨r, rfl, hr0, hr1, hD2, hO2⟩
        have hb := rolled hb1 hd hO2
        clear hb1 hd hO2 hD hD2
        replace HQ4 := Lib.hid (HQ4.out.keep hb)
        replace O := O.join hb; replace L := L.keep hb; (try clear c_L l_L); have c_L := L.cell; have l_L := L.lt; replace E := E.below hb; (try clear c_E0 c_E1 l_E); have c_E0 := E.cell 0 a rfl; have c_E1 := E.cell 1 b rfl; have l_E := E.lt; clear hb
        obtain ⟨r, rfl⟩ := Int.eq_ofNat_of_zero_le hr0
        have hrM : r + 1 ≤ M := by omega
        obtain ⟨u, hu⟩ : ∃ u, (eaA zs f a b (r + 1)).1 = u := ⟨_, rfl⟩
        obtain ⟨v, hv⟩ : ∃ v, (eaA zs f a b (r + 1)).2.1 = v := ⟨_, rfl⟩
        have hrr := HRUN.out (r + 1) hrM u v hu.symm hv.symm
        obtain ⟨g1, g2, -⟩ := hrr _ rfl
        have ck := fun w (h : Segs w q m zs) => i_EnergyAlong q m c zs f ((r + 1 : Nat) : Int) a b w h hm'
        rw [g1, g2] at ck
        rw [show (((r + 1 : Nat) : Int)) = (r : Int) + 1 from by omega] at ck
        have CK := Lib.hid ck
        have HRR := Lib.hid hrr
        have HU := Lib.hid (And.intro hu hv)
        clear ck hrr g1 g2 hu hv
        go_wp2_with fail
        refine (CK.out _ L.seg).mono ?_
        rintro e w9 ⟨q6, c6, rfl, hQ6, hb⟩
        replace HQ4 := Lib.hid (HQ4.out.keep hb)
        replace O := O.join hb; replace L := L.keep hb; (try clear c_L l_L); have c_L := L.cell; have l_L := L.lt; replace E := E.below hb; (try clear c_E0 c_E1 l_E); have c_E0 := E.cell 0 a rfl; have c_E1 := E.cell 1 b rfl; have l_E := E.lt; clear hb
        obtain ⟨g6, rfl, hC6⟩ := hQ6.2.2 (by omega)
        have HQ6 := Lib.hid hQ6
        clear hQ6
        have hm3 : 3 ≤ m := by have := HL.out.1; have := HZ.out; omega
        have cu : w9.cell? ⟨g6, r * 2, none⟩ = some (.int .i64 u) := by rw [hC6.cell (i := r * 2) (by omega), Int.toNat_natCast, eaF_0, HU.out.1]
        have cv : w9.cell? ⟨g6, r * 2 + 1, none⟩ = some (.int .i64 v) := by rw [hC6.cell (i := r * 2 + 1) (by omega), Int.toNat_natCast, eaF_1, HU.out.2]
        have lg := hC6.lt
        clear hC6
        have hr0i : (0 : Int) ≤ r := by omega
        have hri : (r : Int) < (r : Int) + 1 := by omega
        have hmi : (3 : Int) ≤ m := by omega
        have t1 : IntKind.i64.wrap ((f : Int) + ((r : Int) + 1)) = (f : Int) + ((r : Int) + 1) := IntWalk.i64_in _ (by have := HL.out.2.1; omega)
        have t3 : IntKind.i64.wrap ((M : Int) - ((r : Int) + 1)) = (M : Int) - ((r : Int) + 1) := IntWalk.i64_in _ (by omega)
        have t4 : IntKind.i64.wrap ((r : Int) + 1 - 1) = (r : Int) := by rw [Int.add_sub_cancel]; exact IntWalk.i64_in _ (by omega)
        have t2 : ((f : Int) + ((r : Int) + 1)).tmod (m : Int) = (((f + (r + 1)) % m : Nat) : Int) := by
          rw [Int.tmod_eq_emod_of_nonneg (by omega)]
          norm_cast
        have t6 : ((m : Int) == 0) = false := by simp; omega
        have t7 : ¬ m = 0 := by omega
        have t8 : ¬ (m : Int) = 0 := by omega
        have t9 : IntKind.i64.wrap (r : Int) = (r : Int) := IntWalk.i64_in _ (by omega)
        have t10 : (r : Int) < ((r + 1 : Nat) : Int) := by omega
        have hmd : (f + (r + 1)) % m < m := Nat.mod_lt _ (by omega)
        obtain ⟨z, hzz⟩ : ∃ z : Int, z = (((f + (r + 1)) % m : Nat) : Int) := ⟨_, rfl⟩
        have hzA : 0 ≤ z := by omega
        have hzB : z < m := by omega
        rw [← hzz] at t2
        have t5 : IntKind.i64.wrap z = z := IntWalk.i64_in _ (by omega)
        obtain ⟨-, -, g3, g4, g5⟩ := HRR.out z (by rw [hzz, HZ.out])
        have cb := fun w (h : Segs w q m zs) => i_EnergyAlong q m c zs z ((M : Int) - ((r + 1 : Nat) : Int)) u v w h hm'
        rw [g3, g4] at cb
        rw [show ((M : Int) - ((r + 1 : Nat) : Int)) = (M : Int) - ((r : Int) + 1) from by omega] at cb
        have CB := Lib.hid cb
        have G5 : Hid (∀ i, i < (M - (r + 1)) * 2 → eaF zs z.toNat u v i = eaF zs f a b ((r + 1) * 2 + i)) := fun i hi => by
          rw [show z.toNat = (f + (r + 1)) % zs.length from by rw [hzz, HZ.out, Int.toNat_natCast]]; exact g5 i hi
        clear cb g3 g4 g5 hzz hmd
        go_upto_region 14 with fail
        go_region_held3 (fun W => W.cell? ⟨w1.heap.size, 0, none⟩ = some (.slice q m c) ∧ W.cell? ⟨g6, r * 2, none⟩ = some (.int .i64 u) ∧ W.cell? ⟨g6, r * 2 + 1, none⟩ = some (.int .i64 v)) (first | (go_simp; done) | go_keep) (first | (go_at_call 15; refine (CB.out _ ?_).mono ?_; (focus (first | exact L.seg | exact L.seg.drew)); rintro e w10 ⟨q7, c7, rfl, hQ7, hb⟩; obtain ⟨kg, -, lg2⟩ := below_box (k := g6) hb (by exact lg); (first | replace HQ4 := Lib.hid ((HQ4.out.keep (Own.start _).drew).keep hb) | replace HQ4 := Lib.hid (HQ4.out.keep hb)); (first | replace HQ6 := Lib.hid ((HQ6.out.keep (Own.start _).drew).keep hb) | replace HQ6 := Lib.hid (HQ6.out.keep hb)); (first | replace O := O.drew.join hb | replace O := O.join hb); (first | replace L := L.drew.keep hb | replace L := L.keep hb); (try clear c_L l_L); have c_L := L.cell; have l_L := L.lt; clear hb))
        clear cu cv t1 t2 t3 t4 t5 t6 t7 t8 t9 t10 kg lg2 CK CB CI CS
        have HF4 := HQ4.out
        have HF6 := HQ6.out
        rw [Int.toNat_natCast] at HF4 HF6
        replace HQ4 := Lib.hid HF4
        replace HQ6 := Lib.hid HF6
        have HQ7 := Lib.hid hQ7
        have HR : Hid (r + 1 ≤ M ∧ M ≤ 24) := ⟨hrM, hmm⟩
        have HO := Lib.hid O
        have tok1 : True := trivial
        clear HF4 HF6 hQ7 O L c_L l_L E HRUN HRR HU HL HZ hf hmm hMp hMz hr0 hr1 hrM hm3 hr0i hri hmi hzA hzB lg
        go_wp2_with first | (at_builtin; have _t := tok1; refine wpList_append_gn (by rfl) _ _ 31 rfl w10.heap.size 35 i0 (ivV 0 0) 2 16 Try.underlying31 hi hz0 hz1 hz2 rfl (by decide) _ 0 [] rfl (own_empty2 w10 35 2) _ (r + 1) c6 _ rfl (by rw [rowV_len]) (HQ6.out.keep (balloc (Below.refl _ _) _)).news (rowV_one _ _) (by have := HR.out; unfold maxLen; omega) (by have := HR.out; omega) (by simp) ?_; intro v1 w11 hown1 hb1; rw [List.nil_append, Nat.zero_add] at hown1; have O1 := Lib.hid hown1; have B1 := Lib.hid (Below.trans ((Own.start w10).alloc _).below hb1); clear hown1 hb1 tok1 _t) | (at_builtin; refine wpList_append_gn (by rfl) _ _ 31 rfl w10.heap.size 35 i0 (ivV 0 0) 2 16 Try.underlying31 hi hz0 hz1 hz2 rfl (by decide) _ (r + 1) _ rfl O1.out _ (M - (r + 1)) c7 _ rfl (by rw [rowV_len]) (HQ7.out.keep B1.out).news (rowV_one _ _) (by have := HR.out; unfold maxLen; omega) (by have := HR.out; omega) B1.out.size ?_; intro v2 w12 hown2 hb2; rw [rowV_append _ _ _ _ G5.out, show (r + 1) * 2 + (M - (r + 1)) * 2 = M * 2 from (by have := HR.out; omega), show r + 1 + (M - (r + 1)) = M from (by have := HR.out; omega)] at hown2; obtain ⟨q8, c8, rfl, hq8⟩ := ownQ_of_own (sz := 2) hown2 (by have := HR.out; omega); have Q8 := Lib.hid hq8; have B2 := Lib.hid (B1.out.trans hb2); clear hown2 hb2 hq8) | (go_at_call 34; refine (l_likeIntervals9 _ _ _ _ _ _ _ _ _ _ _ Q8.out (HQ4.out.keep B2.out)).mono ?_; rintro e w13 ⟨rfl, hb⟩; have OO := Lib.hid ((HO.out.join B2.out).join hb); clear hb)
        go_ret
        exact ⟨rfl, OO.out.below⟩
    · have hd : (d == 0) = false := by simpa using h0
      have hd' : (d != 0) = true := by simpa using h0
      have OO := Lib.hid O
      clear L O E
      go_wp2_with fail
      go_ret
      exact ⟨rfl, OO.out.below⟩

theorem own : ownKnob Try.prog.godebug = none := by kernel_rfl
theorem laidOut : laidOutB Try.prog = true := by kernel_rfl
set_option maxRecDepth 100000 in
theorem lifted (os : Os) (started : os.Started) (H : Type) (enc : TypeId × Value → H) :
    ReturnsInHanded {} Try.checked os 7 .any (Rows.fnEnergyRunsSpec.pre6 enc Try.prog Try.f7 Rows.fnEnergyRunsRow.domain false) (Rows.fnEnergyRunsSpec.post enc Try.prog Try.f7 false true false false) := by
  refine returnsInHanded_of_change (C := Try.checked) own started (by kernel_rfl) Try.func7
    (ChangeSpec.witness6 (enc := enc) (C := Try.checked) false ⟨#[], #[.slice none 0 0], []⟩ 8 (by kernel_rfl) (by kernel_rfl) (by kernel_rfl) (by kernel_rfl)) ?_
  intro W base args ds gs before hval0 hW hcnd _
  have hval : ∀ (j : Nat) t v, Try.f7.params[j]? = some t → args[j]? = some v → Value.okWide Try.prog W .any base t v := hval0
  have hW' := hW
  obtain ⟨p, q, hA0, hV, rfl, hfz, hnd⟩ := hW
  have hA : DataW.TrodAll enc Try.prog W 0 (fun _ => true) true Try.f7.params.toList args.toList ds p := hA0
  rw [Try.params7] at hA hval
  obtain ⟨v0, vs0, d0, ds0, pp0, qq0, hargs, rfl, rfl, h0, rr0⟩ := trodAll_cons hA
  obtain ⟨rfl, rfl, rfl⟩ := trodAll_nil rr0
  obtain rfl : args = #[v0] := by cases args; simp_all
  obtain ⟨rfl, rfl⟩ := trodVars_none hV
  have k0_ := h0
  have lt0_ : ∀ x ∈ pp0, x.block < W.heap.size := by obtain ⟨m, hm⟩ := h0; exact DataW.trod_lt m _ _ _ hm
  obtain ⟨p0, len0, cap0, rfl⟩ := okWide_slice Try.underlying22 (hval 0 22 v0 rfl rfl)
  obtain ⟨z0, r0⟩ := open_row (k := .u8) Try.underlying22 Try.underlying5 (by kernel_rfl) h0
  clear hA0 hval0
  refine (walk  W p0 len0 cap0 z0 r0).mono fun e W' ⟨he, bel⟩ => ?_
  subst he
  exact ⟨_, rfl, _, _, _, [], _, [], hW', trodAll_mk1 (shut_bool Try.underlying4 _), (trodAll_cons_mk (Below.trod laidOut (by kernel_rfl) (of_decide_eq_true (by kernel_rfl)) k0_ bel lt0_) trodAll_mk0), rfl, bel.frame _, fun h => by cases h⟩

theorem over : Rows.fnEnergyRunsRow.holds Try.pinned (OpenSpec.ofChange Rows.fnEnergyRunsSpec) :=
  OpenClaim.holds_of_wide 7 Try.f7 rfl rfl rfl rfl rfl rfl rfl ⟨rfl, rfl, rfl, rfl, rfl⟩ rfl rfl rfl rfl rfl (by kernel_rfl) Try.func7 (by kernel_rfl)
    (of_decide_eq_true (by kernel_rfl)) (by unfold Func.isWrapper; first | (rw [if_pos (by decide +kernel)]; kernel_rfl) | (rw [if_neg (by decide +kernel)]; exact ⟨rfl, rfl⟩))
    (fun os started H enc _ => lifted os started H enc)

/-- the given statement -/
theorem proved : Rows.FnEnergyRunsSaid := over
#print axioms proved
end Go.Proofs.Ytgkfnggnhphboaa.pFnEnergyRuns
