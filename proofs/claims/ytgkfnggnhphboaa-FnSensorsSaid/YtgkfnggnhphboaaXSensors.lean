/- The Go function laws.FnSensors returns true for every input and leaves its arguments as they were; no condition. -/
import Derived.Test.YtgkfnggnhphboaaRows
import Derived.Test.YtgkfnggnhphboaaBase
import Derived.Test.YtgkfnggnhphboaaNum
import Derived.Test.YtgkfnggnhphboaaDraw
import Derived.Test.YtgkfnggnhphboaaDraw3
import Derived.Test.YtgkfnggnhphboaaDRow
import Derived.Test.YtgkfnggnhphboaaLawKit
import Derived.Test.YtgkfnggnhphboaaDice
import Derived.Test.YtgkfnggnhphboaaList
import Derived.Test.YtgkfnggnhphboaaSeg
import Derived.Test.YtgkfnggnhphboaaLay
import Derived.Test.YtgkfnggnhphboaaLay2
import Derived.Test.YtgkfnggnhphboaaLay3
import Derived.Test.YtgkfnggnhphboaaLay4
import Derived.Test.YtgkfnggnhphboaaLay5
import Derived.Test.YtgkfnggnhphboaaLay6
import Derived.Test.YtgkfnggnhphboaaLay7
import Derived.Test.YtgkfnggnhphboaaLay15
import Derived.Test.YtgkfnggnhphboaaLay16
import Derived.Test.YtgkfnggnhphboaaLay18
import Derived.Test.YtgkfnggnhphboaaLay20
import Derived.Test.YtgkfnggnhphboaaPassed
import Derived.Test.YtgkfnggnhphboaaLay22
import Derived.Test.YtgkfnggnhphboaaLay23
import Derived.Test.YtgkfnggnhphboaaLDraw
import Derived.Test.YtgkfnggnhphboaaLDraw2
import Derived.Test.YtgkfnggnhphboaaLDraw3
import Derived.Test.YtgkfnggnhphboaaLDraw5
import Derived.Test.YtgkfnggnhphboaaLDraw7
import Derived.Test.YtgkfnggnhphboaaLDraw8
import Derived.Test.YtgkfnggnhphboaaLPlain
import Derived.Test.YtgkfnggnhphboaaLLaw
import Derived.Test.YtgkfnggnhphboaaLike
import Derived.Test.YtgkfnggnhphboaaSensors
import Derived.Lib.Hide
import Derived.BigQuiet
import Derived.Deep.QuietTactic
import Derived.WalkKit
import Derived.WalkSpells
import Derived.WalkLawsBesides
import Derived.ProofKit
import Derived.OpenShut
import Derived.ShutString
import Derived.ChangeOld
import Derived.Below
import Derived.Deep.RegionHeld3
import Derived.Deep.DeepCutAuto
import Derived.Deep.OwnRows
import Derived.Deep.LoopGhost
import Derived.Deep.WholeRow
namespace Go.Proofs.Ytgkfnggnhphboaa.pFnSensors
open Go.ChangeShapes Go.WideShapes Go.ChangeAt Go.RowKit Go.Deep
set_option maxHeartbeats 2000000
set_option linter.unusedVariables false
set_option linter.unusedSimpArgs false

set_option maxRecDepth 100000 in set_option maxHeartbeats 8000000 in
theorem walk (w : World) (p0 : Option Addr) (len0 cap0 : Nat) (z0 : List Int) (r0 : IsRow .u8 w p0 len0 cap0 z0) :
    Calls Try.prog 10 #[.slice p0 len0 cap0] w fun e w' => e = .returned (.bool true) ∧ Below w.heap.size w w' := by
  have hin := r0.bytes8
  have hn := hin.1
  clear r0
  rcases Bool.eq_false_or_eq_true (decide (4096 < len0)) with hbig | hbig
  · go_enter Try.func10, Try.ntmps10
    go_wp2_with (go_at_call 11; refine (l_big p0 len0 cap0 _ hn).mono ?_; rintro e w' ⟨rfl, rfl⟩; rw [hbig])
    go_ret
    exact ⟨rfl, Below.refl _ _⟩
  · go_enter Try.func10, Try.ntmps10
    go_wp2_with (go_at_call 11; refine (l_big p0 len0 cap0 _ hn).mono ?_; rintro e w' ⟨rfl, rfl⟩; rw [hbig])
    clear hbig
    refine (s_DrawSensorsPassed _ _ _ _ hin).mono ?_
    rintro e w1 ⟨q, m, c, zs, g, kk, cc, ys, x, y, rfl, hm, hmc, hk1, hk2, hS, hI, hb⟩
    have hm' : m ≤ 1048576 := by omega
    have hzk := hI.1
    have ca : ∀ y w, Segs w q m zs → Ints .i64 w (some ⟨g, 0, none⟩) kk ys → Calls Try.prog 45 #[.agg #[.slice q m c], .slice (some ⟨g, 0, none⟩) kk cc, .int .i64 x, .int .i64 y] w (ResQ 2 1 (paL zs ys x y).length (fun i => (paL zs ys x y).getD i 0) (paC zs ys x y) w) := fun y w h h2 => i_SensorsPassed q m c zs _ kk cc ys x y w h hm' h2
    have ci := ca y
    have cs := fun w (h : Segs w q m zs) (h2 : Ints .i64 w (some ⟨g, 0, none⟩) kk ys) => s_SensorsPassed q m c zs _ kk cc ys x y w h h2
    have HAR : Hid (paC zs ys x y = 0 → Around zs ys x y (paL zs ys x (totN zs)) (paL zs ys x y)) := around
    obtain ⟨X, hX⟩ : ∃ X, paL zs ys x y = X := ⟨_, rfl⟩
    obtain ⟨d, hd⟩ : ∃ d, paC zs ys x y = d := ⟨_, rfl⟩
    rw [hX, hd] at ci cs
    rw [hX, hd] at HAR
    have L := Lb.new (c := c) hS
    have O := Own.alloc hb (Obj.cells #[.slice q m c] 26)
    have HI := Lib.hid (hI.keep ((Below.refl _ _).alloc (Nat.le_refl _) (Obj.cells #[.slice q m c] 26)))
    have CI := Lib.hid ci
    have CS := Lib.hid cs
    have CA := Lib.hid ca
    have HIN := Lib.hid hin
    have HZK := Lib.hid hzk
    clear ci cs ca hS hb hn hin hI hX hd hzk
    go_wp2_with fail
    refine (CI.out _ L.seg HI.out).mono ?_
    rintro e w2 ⟨q1, c1, rfl, hQ1, hb⟩
    replace HI := Lib.hid (HI.out.keep hb)
    replace O := O.join hb; replace L := L.keep hb; (try clear c_L l_L); have c_L := L.cell; have l_L := L.lt; clear hb
    go_wp2_with fail
    refine (CS.out _ L.seg HI.out).mono ?_
    rintro e w3 ⟨q2, c2, rfl, hQ2, hb⟩
    replace HI := Lib.hid (HI.out.keep hb)
    have I1 := Lib.hid (hQ1.ints.keep hb)
    have I2 := Lib.hid hQ2.ints
    clear hQ1 hQ2
    replace O := O.join hb; replace L := L.keep hb; (try clear c_L l_L); have c_L := L.cell; have l_L := L.lt; clear hb
    go_wp2_with fail
    refine (s_DrawSensorsCovered _ _ _ _ (HIN.out.keep O.below)).mono ?_
    rintro e w4 ⟨q3, m3, c3, zs3, g3, kk3, cc3, ys3, x3, y3, rfl, hm3, hmc3, hk3, hk4, hS3, hI3, hb⟩
    have hm3' : m3 ≤ 1048576 := by omega
    replace HI := Lib.hid (HI.out.keep (hb.alloc (Below.size hb) (Obj.cells #[.slice q3 m3 c3] 26)))
    replace I1 := Lib.hid (I1.out.keep (hb.alloc (Below.size hb) (Obj.cells #[.slice q3 m3 c3] 26)))
    replace I2 := Lib.hid (I2.out.keep (hb.alloc (Below.size hb) (Obj.cells #[.slice q3 m3 c3] 26)))
    replace O := O.join hb; replace L := L.keep hb; (try clear c_L l_L); have c_L := L.cell; have l_L := L.lt; clear hb
    have M := Lb.new (c := c3) hS3
    have HI3 := Lib.hid (hI3.keep ((Below.refl _ _).alloc (Nat.le_refl _) (Obj.cells #[.slice q3 m3 c3] 26)))
    replace L := L.alloc (Obj.cells #[.slice q3 m3 c3] 26)
    replace O := O.alloc (Obj.cells #[.slice q3 m3 c3] 26)
    have di := fun w (h : Segs w q3 m3 zs3) (h2 : Ints .i64 w (some ⟨g3, 0, none⟩) kk3 ys3) => i_SensorsCovered q3 m3 c3 zs3 _ kk3 cc3 ys3 x3 y3 w h hm3' h2
    have ds := fun w (h : Segs w q3 m3 zs3) (h2 : Ints .i64 w (some ⟨g3, 0, none⟩) kk3 ys3) => s_SensorsCovered q3 m3 c3 zs3 _ kk3 cc3 ys3 x3 y3 w h h2
    generalize scL zs3 ys3 x3 y3 = Y at di ds
    generalize scC zs3 ys3 x3 y3 = d3 at di ds
    have DI := Lib.hid di
    have DS := Lib.hid ds
    clear di ds hS3 hI3
    go_wp2_with fail
    refine (DI.out _ M.seg HI3.out).mono ?_
    rintro e w5 ⟨q4, c4, rfl, hQ4, hb⟩
    replace HI := Lib.hid (HI.out.keep hb)
    replace HI3 := Lib.hid (HI3.out.keep hb)
    replace I1 := Lib.hid (I1.out.keep hb)
    replace I2 := Lib.hid (I2.out.keep hb)
    replace O := O.join hb; replace L := L.keep hb; (try clear c_L l_L); have c_L := L.cell; have l_L := L.lt; replace M := M.keep hb; (try clear c_M l_M); have c_M := M.cell; have l_M := M.lt; clear hb
    go_wp2_with fail
    refine (DS.out _ M.seg HI3.out).mono ?_
    rintro e w6 ⟨q5, c5, rfl, hQ5, hb⟩
    replace HI := Lib.hid (HI.out.keep hb)
    replace I1 := Lib.hid (I1.out.keep hb)
    replace I2 := Lib.hid (I2.out.keep hb)
    have I4 := Lib.hid (hQ4.ints.keep hb)
    have I5 := Lib.hid hQ5.ints
    clear hQ4 hQ5 HI3 M DI DS
    replace O := O.join hb; replace L := L.keep hb; (try clear c_L l_L); have c_L := L.cell; have l_L := L.lt; clear hb
    go_wp2_with fail
    refine (l_likeInts _ _ _ _ _ _ _ I1.out I2.out).mono ?_
    rintro e w7 ⟨rfl, hb⟩
    replace HI := Lib.hid (HI.out.keep hb)
    replace I1 := Lib.hid (I1.out.keep hb)
    replace I4 := Lib.hid (I4.out.keep hb)
    replace I5 := Lib.hid (I5.out.keep hb)
    replace O := O.join hb; replace L := L.keep hb; (try clear c_L l_L); have c_L := L.cell; have l_L := L.lt; clear hb
    go_wp2_with fail
    refine (l_likeInts _ _ _ _ _ _ _ I4.out I5.out).mono ?_
    rintro e w8 ⟨rfl, hb⟩
    replace HI := Lib.hid (HI.out.keep hb)
    replace I1 := Lib.hid (I1.out.keep hb)
    clear I2 I4 I5
    replace O := O.join hb; replace L := L.keep hb; (try clear c_L l_L); have c_L := L.cell; have l_L := L.lt; clear hb
    by_cases h0 : d = 0
    · subst h0
      have AR := Lib.hid (HAR.out rfl)
      have ct : ∀ w, Segs w q m zs → Calls Try.prog 20 #[.agg #[.slice q m c]] w fun en w' => en = .returned (p2 (totN zs, 0)) ∧ Below w.heap.size w w' := fun w h => by rw [← track_ok AR.out.ok]; exact i_TrackLength q m c zs w h hm'
      have CT := Lib.hid ct
      have ca2 := CA.out (totN zs)
      rw [AR.out.code] at ca2
      obtain ⟨A, hA⟩ : ∃ A, paL zs ys x (totN zs) = A := ⟨_, rfl⟩
      rw [hA] at ca2 AR
      rw [AR.out.lenA, HZK.out] at ca2
      have CB := Lib.hid ca2
      clear ca2 ct hA HAR CA
      have hk32 : kk ≤ 32 := by have := AR.out.k32; have := HZK.out; omega
      have hlX : X.length ≤ kk := by have := AR.out.lenX; have := HZK.out; omega
      go_wp2_with fail
      refine (CT.out _ L.seg).mono ?_
      rintro e w9 ⟨rfl, hb⟩
      replace HI := Lib.hid (HI.out.keep hb)
      replace I1 := Lib.hid (I1.out.keep hb)
      replace O := O.join hb; replace L := L.keep hb; (try clear c_L l_L); have c_L := L.cell; have l_L := L.lt; clear hb
      go_wp2_with fail
      refine (CB.out _ L.seg HI.out).mono ?_
      rintro e w10 ⟨q6, c6, rfl, hQ6, hb⟩
      replace I1 := Lib.hid (I1.out.keep hb)
      have I6 := Lib.hid hQ6.ints
      clear hQ6 CB CT HI
      replace O := O.join hb; replace L := L.keep hb; (try clear c_L l_L); have c_L := L.cell; have l_L := L.lt; clear hb
      have hmk := run_make_row' (P := Try.prog) 74 4 (.bool false) 1 Try.underlying74 (by kernel_rfl) rfl .i64 .i64 kk (by omega) (by omega)
      have hrow0 := Lib.hid (World.rowIs_made w10 (.bool false) kk 4)
      have hown0 : Hid (Own w10 (w10.alloc (Obj.cells (madeCells #[Value.bool false] kk) 4))) := (Own.start w10).alloc _
      have HO := Lib.hid O
      clear O L c_L l_L
      go_wp2
      go_loopw [24] (fun i wr => ∃ j : Nat, j ≤ kk ∧ i = .int .i64 j ∧ wr.rowIs w10.heap.size 4 kk (fun i => .bool (decide ((i : Int) ∈ A.take j))) ∧ Own w10 wr) (fun i _ => kk - (intOf i).toNat)
      case atStart => exact ⟨0, Nat.zero_le _, rfl, hrow0.out.congr (fun i hi => by simp), hown0.out⟩
      case round =>
        obtain ⟨j, hj, rfl, hrow, hown⟩ := hrel
        obtain ⟨wB, rfl⟩ : ∃ wB : World, wB = wr := ⟨_, rfl⟩
        by_cases hlt : j < kk
        · obtain ⟨bA, oA, hqA, hcA⟩ := (I6.out.own hown).2.2 (by omega)
          subst hqA
          have cA := hcA j hlt
          rw [rowI_get _ _ _ hlt] at cA
          obtain ⟨u, hu, hul⟩ := AR.out.mem j (by have := HZK.out; omega)
          rw [hu] at cA
          have huk : u < kk := by have := HZK.out; omega
          have hrk := hrow.cell huk
          rw [decide_eq_false (p := (u : Int) ∈ A.take j) (by rw [← hu]; exact AR.out.fresh (by have := HZK.out; omega))] at hrk
          have hfk := hrow.frozen u
          have hstep := Lib.hid (fun nq => seen_step (rowIs_drewN hrow nq) (by have := AR.out.lenA; have := HZK.out; omega) hu)
          have HOW := Lib.hid hown
          have huI : (u : Int) < (kk : Int) := by omega
          have hu0 : (0 : Int) ≤ (u : Int) := by omega
          have hjI : (j : Int) < (kk : Int) := by omega
          have hj0 : (0 : Int) ≤ (j : Int) := by omega
          have hg1 : decide ((u : Int) < 0) = false := decide_eq_false (by omega)
          have hg2 : decide ((kk : Int) ≤ (u : Int)) = false := decide_eq_false (by omega)
          have hg3 : decide (kk ≤ u) = false := decide_eq_false (by omega)
          by_cases hx : j < X.length
          · obtain ⟨bX, oX, hqX, hcX⟩ := (I1.out.own hown).2.2 (by omega)
            subst hqX
            have cX := hcX j hx
            rw [rowI_get _ _ _ hx, AR.out.pre j hx, hu] at cX
            have hxI : (j : Int) < (X.length : Int) := by omega
            clear hcA hcX hrow hown hu
            go_wp2
            go_quiet (fail)
            go_wp2
            refine ⟨⟨j + 1, ?_, ?_, ?_, ?_⟩, ?_⟩
            · omega
            · go_num
            · exact hstep.out _
            · exact (HOW.out.drewN _).setCell (Nat.le_refl _) _
            · simp [intOf]; omega
          · have hxI : (X.length : Int) ≤ (j : Int) := by omega
            have hxB : decide ((j : Int) < (X.length : Int)) = false := decide_eq_false (by omega)
            have hxC : decide (j < X.length) = false := decide_eq_false (by omega)
            clear hcA hrow hown hu
            go_wp2
            go_quiet (fail)
            go_wp2
            refine ⟨⟨j + 1, ?_, ?_, ?_, ?_⟩, ?_⟩
            · omega
            · go_num
            · exact hstep.out _
            · exact (HOW.out.drewN _).setCell (Nat.le_refl _) _
            · simp [intOf]; omega
        · obtain rfl : j = kk := by omega
          have HOW := Lib.hid hown
          have hlX2 : (X.length : Int) ≤ (j : Int) := by omega
          clear hrow hown
          go_wp2
          go_ret
          exact ⟨rfl, by first | exact (HO.out.join HOW.out).below | exact Below.trans HO.out.below (HOW.out.mono HO.out.le)⟩
    · have h1 : (d != 0) = true := by simpa using h0
      have h2 : (d == 0) = false := by simpa using h0
      go_wp2_with fail
      go_ret
      exact ⟨rfl, O.below⟩

theorem own : ownKnob Try.prog.godebug = none := by kernel_rfl
theorem laidOut : laidOutB Try.prog = true := by kernel_rfl
set_option maxRecDepth 100000 in
theorem lifted (os : Os) (started : os.Started) (H : Type) (enc : TypeId × Value → H) :
    ReturnsInHanded {} Try.checked os 10 .any (Rows.fnSensorsSpec.pre6 enc Try.prog Try.f10 Rows.fnSensorsRow.domain false) (Rows.fnSensorsSpec.post enc Try.prog Try.f10 false true false false) := by
  refine returnsInHanded_of_change (C := Try.checked) own started (by kernel_rfl) Try.func10
    (ChangeSpec.witness6 (enc := enc) (C := Try.checked) false ⟨#[], #[.slice none 0 0], []⟩ 8 (by kernel_rfl) (by kernel_rfl) (by kernel_rfl) (by kernel_rfl)) ?_
  intro W base args ds gs before hval0 hW hcnd _
  have hval : ∀ (j : Nat) t v, Try.f10.params[j]? = some t → args[j]? = some v → Value.okWide Try.prog W .any base t v := hval0
  have hW' := hW
  obtain ⟨p, q, hA0, hV, rfl, hfz, hnd⟩ := hW
  have hA : DataW.TrodAll enc Try.prog W 0 (fun _ => true) true Try.f10.params.toList args.toList ds p := hA0
  rw [Try.params10] at hA hval
  obtain ⟨v0, vs0, d0, ds0, pp0, qq0, hargs, rfl, rfl, h0, rr0⟩ := trodAll_cons hA
  obtain ⟨rfl, rfl, rfl⟩ := trodAll_nil rr0
  obtain rfl : args = #[v0] := by cases args; simp_all
  obtain ⟨rfl, rfl⟩ := trodVars_none hV
  have k0_ := h0
  have lt0_ : ∀ x ∈ pp0, x.block < W.heap.size := by obtain ⟨m, hm⟩ := h0; exact DataW.trod_lt m _ _ _ hm
  obtain ⟨p0, len0, cap0, rfl⟩ := okWide_slice Try.underlying22 (hval 0 22 v0 rfl rfl)
  obtain ⟨z0, r0⟩ := open_row (k := .u8) Try.underlying22 Try.underlying5 (by kernel_rfl) h0
  clear hA0 hval0
  refine (walk  W p0 len0 cap0 z0 r0).mono fun e W' ⟨he, bel⟩ => ?_
  subst he
  exact ⟨_, rfl, _, _, _, [], _, [], hW', trodAll_mk1 (shut_bool Try.underlying4 _), (trodAll_cons_mk (Below.trod laidOut (by kernel_rfl) (of_decide_eq_true (by kernel_rfl)) k0_ bel lt0_) trodAll_mk0), rfl, bel.frame _, fun h => by cases h⟩

theorem over : Rows.fnSensorsRow.holds Try.pinned (OpenSpec.ofChange Rows.fnSensorsSpec) :=
  OpenClaim.holds_of_wide 10 Try.f10 rfl rfl rfl rfl rfl rfl rfl ⟨rfl, rfl, rfl, rfl, rfl⟩ rfl rfl rfl rfl rfl (by kernel_rfl) Try.func10 (by kernel_rfl)
    (of_decide_eq_true (by kernel_rfl)) (by unfold Func.isWrapper; first | (rw [if_pos (by decide +kernel)]; kernel_rfl) | (rw [if_neg (by decide +kernel)]; exact ⟨rfl, rfl⟩))
    (fun os started H enc _ => lifted os started H enc)

/-- the given statement -/
theorem proved : Rows.FnSensorsSaid := over
#print axioms proved
end Go.Proofs.Ytgkfnggnhphboaa.pFnSensors
