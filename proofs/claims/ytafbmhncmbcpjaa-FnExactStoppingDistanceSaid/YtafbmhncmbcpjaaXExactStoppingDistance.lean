/- The Go function laws.FnExactStoppingDistance returns true for every input and leaves its arguments as they were; no condition. -/
import Derived.Test.YtafbmhncmbcpjaaRows
import Derived.Test.YtafbmhncmbcpjaaBase
import Derived.Test.YtafbmhncmbcpjaaNum
import Derived.Test.YtafbmhncmbcpjaaIv
import Derived.Test.YtafbmhncmbcpjaaIv2
import Derived.Test.YtafbmhncmbcpjaaDiv
import Derived.Test.YtafbmhncmbcpjaaRoot
import Derived.Test.YtafbmhncmbcpjaaEn
import Derived.Test.YtafbmhncmbcpjaaScale
import Derived.Test.YtafbmhncmbcpjaaSeg
import Derived.Test.YtafbmhncmbcpjaaEn2
import Derived.Test.YtafbmhncmbcpjaaStop
import Derived.Test.YtafbmhncmbcpjaaStop2
import Derived.WalkKit
import Derived.WalkSpells
import Derived.WalkLawsBesides
import Derived.ProofKit
import Derived.OpenShut
import Derived.ShutString
import Derived.ChangeOld
import Derived.Below
import Derived.Deep.RegionHeld3
import Derived.Deep.DeepCutAuto
namespace Go.Proofs.Ytafbmhncmbcpjaa.pFnExactStoppingDistance
open Go.ChangeShapes Go.WideShapes Go.ChangeAt Go.RowKit
set_option maxHeartbeats 2000000
set_option linter.unusedVariables false
set_option linter.unusedSimpArgs false

attribute [local go_sem] lt_2 lt_3 lt_4 lt_5 lt_6
set_option maxHeartbeats 4000000 in
theorem walk (w : World) (k0 n0 r0 c0 d0 e0 f0 : Int) (wk0 : SegWf k0 n0 r0 c0 d0 e0 f0) (a1 b1 : Int) (wa1 : (Lit.int .i64 a1).wf = true) (wb1 : (Lit.int .i64 b1).wf = true) :
    Calls Try.prog 4 #[segV k0 n0 r0 c0 d0 e0 f0, ivV a1 b1] w fun e w' => e = .returned (.bool true) ∧ Below w.heap.size w w' := by
  have h0 := Own.start ((w.alloc (Obj.cells #[Value.int IntKind.i64 k0, Value.int IntKind.i64 n0, Value.int IntKind.i64 r0, Value.int IntKind.i64 c0, Value.int IntKind.i64 d0, Value.int IntKind.i64 e0, Value.int IntKind.i64 f0] 25)).alloc (Obj.cells #[Value.int IntKind.i64 a1, Value.int IntKind.i64 b1] 23))
  go_enter Try.func4, Try.ntmps4
  go_upto_region 1 with fail
  go_cut [5, 6] (fun s5 s6 wx => ∃ g : Nat, s5 = .pointer (some ⟨g, 0, none⟩) ∧ s6 = .int .i64 (stopD k0 n0 r0 c0 d0 e0 f0 a1 b1).2.2 ∧ wx.cell? ⟨g, 0, none⟩ = some (.int .i64 (stopD k0 n0 r0 c0 d0 e0 f0 a1 b1).1) ∧ wx.cell? ⟨g, 1, none⟩ = some (.int .i64 (stopD k0 n0 r0 c0 d0 e0 f0 a1 b1).2.1) ∧ Own ((w.alloc (Obj.cells #[Value.int IntKind.i64 k0, Value.int IntKind.i64 n0, Value.int IntKind.i64 r0, Value.int IntKind.i64 c0, Value.int IntKind.i64 d0, Value.int IntKind.i64 e0, Value.int IntKind.i64 f0] 25)).alloc (Obj.cells #[Value.int IntKind.i64 a1, Value.int IntKind.i64 b1] 23)) wx)
  case first =>
    go_region_held3 (fun w' => w'.cell? ⟨w.heap.size, 0, none⟩ = some (.int .i64 k0) ∧ w'.cell? ⟨w.heap.size, 1, none⟩ = some (.int .i64 n0) ∧ w'.cell? ⟨w.heap.size, 2, none⟩ = some (.int .i64 r0) ∧ w'.cell? ⟨w.heap.size, 3, none⟩ = some (.int .i64 c0) ∧ w'.cell? ⟨w.heap.size, 4, none⟩ = some (.int .i64 d0) ∧ w'.cell? ⟨w.heap.size, 5, none⟩ = some (.int .i64 e0) ∧ w'.cell? ⟨w.heap.size, 6, none⟩ = some (.int .i64 f0) ∧ w'.cell? ⟨w.heap.size + 1, 0, none⟩ = some (.int .i64 a1) ∧ w'.cell? ⟨w.heap.size + 1, 1, none⟩ = some (.int .i64 b1)) ((first | (go_simp; done) | go_keep)) (first | (go_at_call 16; refine (l_toInterval _ _ _).mono ?_; rintro e w' ⟨rfl, hb⟩; have hr := New.join (by first | assumption | exact New.startD _ | exact New.startN _ _ | exact New.start _) hb; obtain ⟨rc, rf, rl, rl1, -, -, rn⟩ := hr.own.kept; replace hb := Own.join (by first | assumption | exact Own.alloc (by assumption) _ | exact Own.drew (by assumption) | exact Own.drew (Own.alloc (by assumption) _) | exact Own.alloc (Own.alloc (by assumption) _) _ | exact Own.alloc (Own.alloc (Own.alloc (by assumption) _) _) _ | exact Own.drewN (by assumption) _ | exact Own.drew (Own.start _) | exact Own.drewN (Own.start _) _ | exact Own.start _) hb; obtain ⟨hc, hf, hl, hl1, hl2, hl3, hn⟩ := hb.kept) | (go_at_call 15; refine (l_toSegment _ _ _ _ _ _ _ _).mono ?_; rintro e w' ⟨rfl, hb⟩; have hr := New.join (by first | assumption | exact New.startD _ | exact New.startN _ _ | exact New.start _) hb; obtain ⟨rc, rf, rl, rl1, -, -, rn⟩ := hr.own.kept; replace hb := Own.join (by first | assumption | exact Own.alloc (by assumption) _ | exact Own.drew (by assumption) | exact Own.drew (Own.alloc (by assumption) _) | exact Own.alloc (Own.alloc (by assumption) _) _ | exact Own.alloc (Own.alloc (Own.alloc (by assumption) _) _) _ | exact Own.drewN (by assumption) _ | exact Own.drew (Own.start _) | exact Own.drewN (Own.start _) _ | exact Own.start _) hb; obtain ⟨hc, hf, hl, hl1, hl2, hl3, hn⟩ := hb.kept) | (go_at_call 19; refine (s_StoppingDistance _ _ _ _ _ _ _ _ _ _).mono ?_; rintro e w' ⟨rfl, hb⟩; have hr := New.join (by first | assumption | exact New.startD _ | exact New.startN _ _ | exact New.start _) hb; obtain ⟨rc, rf, rl, rl1, -, -, rn⟩ := hr.own.kept; replace hb := Own.join (by first | assumption | exact Own.alloc (by assumption) _ | exact Own.drew (by assumption) | exact Own.drew (Own.alloc (by assumption) _) | exact Own.alloc (Own.alloc (by assumption) _) _ | exact Own.alloc (Own.alloc (Own.alloc (by assumption) _) _) _ | exact Own.drewN (by assumption) _ | exact Own.drew (Own.start _) | exact Own.drewN (Own.start _) _ | exact Own.start _) hb; obtain ⟨hc, hf, hl, hl1, hl2, hl3, hn⟩ := hb.kept))
    all_goals (go_wp2_with fail; go_meet)
    all_goals (refine ⟨_, rfl, rfl, ?_, ?_, ?_⟩)
    all_goals (first | ((repeat (first | assumption | refine Own.alloc ?_ _ | refine Own.drew ?_ | exact Own.start _ | refine Own.setCell ?_ (by first | exact Own.le (by assumption) | (simp; done)) _)); done) | (go_simp; done) | go_keep)
  case rest =>
    obtain ⟨g1, rfl, rfl, hg0, hg1, hb⟩ := hcut
    obtain ⟨hc, hf, hl, hl1, hl2, hl3, hn⟩ := hb.kept
    have hg : g1 < wc.heap.size := World.block_lt_of_cell? wc _ hg0
    go_upto_region 2 with fail
    go_cut [7, 8] (fun s5 s6 wx => ∃ g : Nat, s5 = .pointer (some ⟨g, 0, none⟩) ∧ s6 = .int .i64 (stopD k0 n0 r0 c0 d0 e0 f0 a1 b1).2.2 ∧ wx.cell? ⟨g, 0, none⟩ = some (.int .i64 (stopD k0 n0 r0 c0 d0 e0 f0 a1 b1).1) ∧ wx.cell? ⟨g, 1, none⟩ = some (.int .i64 (stopD k0 n0 r0 c0 d0 e0 f0 a1 b1).2.1) ∧ wx.cell? ⟨g1, 0, none⟩ = some (.int .i64 (stopD k0 n0 r0 c0 d0 e0 f0 a1 b1).1) ∧ wx.cell? ⟨g1, 1, none⟩ = some (.int .i64 (stopD k0 n0 r0 c0 d0 e0 f0 a1 b1).2.1) ∧ Own ((w.alloc (Obj.cells #[Value.int IntKind.i64 k0, Value.int IntKind.i64 n0, Value.int IntKind.i64 r0, Value.int IntKind.i64 c0, Value.int IntKind.i64 d0, Value.int IntKind.i64 e0, Value.int IntKind.i64 f0] 25)).alloc (Obj.cells #[Value.int IntKind.i64 a1, Value.int IntKind.i64 b1] 23)) wx)
    case first =>
      go_region_held3 (fun w' => w'.cell? ⟨w.heap.size, 0, none⟩ = some (.int .i64 k0) ∧ w'.cell? ⟨w.heap.size, 1, none⟩ = some (.int .i64 n0) ∧ w'.cell? ⟨w.heap.size, 2, none⟩ = some (.int .i64 r0) ∧ w'.cell? ⟨w.heap.size, 3, none⟩ = some (.int .i64 c0) ∧ w'.cell? ⟨w.heap.size, 4, none⟩ = some (.int .i64 d0) ∧ w'.cell? ⟨w.heap.size, 5, none⟩ = some (.int .i64 e0) ∧ w'.cell? ⟨w.heap.size, 6, none⟩ = some (.int .i64 f0) ∧ w'.cell? ⟨w.heap.size + 1, 0, none⟩ = some (.int .i64 a1) ∧ w'.cell? ⟨w.heap.size + 1, 1, none⟩ = some (.int .i64 b1) ∧ w'.cell? ⟨g1, 0, none⟩ = some (.int .i64 (stopD k0 n0 r0 c0 d0 e0 f0 a1 b1).1) ∧ w'.cell? ⟨g1, 1, none⟩ = some (.int .i64 (stopD k0 n0 r0 c0 d0 e0 f0 a1 b1).2.1)) ((first | (go_simp; done) | go_keep)) (first | (go_at_call 16; refine (l_toInterval _ _ _).mono ?_; rintro e w' ⟨rfl, hb⟩; have hr := New.join (by first | assumption | exact New.startD _ | exact New.startN _ _ | exact New.start _) hb; obtain ⟨rc, rf, rl, rl1, -, -, rn⟩ := hr.own.kept; replace hb := Own.join (by first | assumption | exact Own.alloc (by assumption) _ | exact Own.drew (by assumption) | exact Own.drew (Own.alloc (by assumption) _) | exact Own.alloc (Own.alloc (by assumption) _) _ | exact Own.alloc (Own.alloc (Own.alloc (by assumption) _) _) _ | exact Own.drewN (by assumption) _ | exact Own.drew (Own.start _) | exact Own.drewN (Own.start _) _ | exact Own.start _) hb; obtain ⟨hc, hf, hl, hl1, hl2, hl3, hn⟩ := hb.kept) | (go_at_call 15; refine (l_toSegment _ _ _ _ _ _ _ _).mono ?_; rintro e w' ⟨rfl, hb⟩; have hr := New.join (by first | assumption | exact New.startD _ | exact New.startN _ _ | exact New.start _) hb; obtain ⟨rc, rf, rl, rl1, -, -, rn⟩ := hr.own.kept; replace hb := Own.join (by first | assumption | exact Own.alloc (by assumption) _ | exact Own.drew (by assumption) | exact Own.drew (Own.alloc (by assumption) _) | exact Own.alloc (Own.alloc (by assumption) _) _ | exact Own.alloc (Own.alloc (Own.alloc (by assumption) _) _) _ | exact Own.drewN (by assumption) _ | exact Own.drew (Own.start _) | exact Own.drewN (Own.start _) _ | exact Own.start _) hb; obtain ⟨hc, hf, hl, hl1, hl2, hl3, hn⟩ := hb.kept) | (go_at_call 20; refine (i_StoppingDistance _ _ _ _ _ _ _ _ _ _).mono ?_; rintro e w' ⟨rfl, hb⟩; have hr := New.join (by first | assumption | exact New.startD _ | exact New.startN _ _ | exact New.start _) hb; obtain ⟨rc, rf, rl, rl1, -, -, rn⟩ := hr.own.kept; replace hb := Own.join (by first | assumption | exact Own.alloc (by assumption) _ | exact Own.drew (by assumption) | exact Own.drew (Own.alloc (by assumption) _) | exact Own.alloc (Own.alloc (by assumption) _) _ | exact Own.alloc (Own.alloc (Own.alloc (by assumption) _) _) _ | exact Own.drewN (by assumption) _ | exact Own.drew (Own.start _) | exact Own.drewN (Own.start _) _ | exact Own.start _) hb; obtain ⟨hc, hf, hl, hl1, hl2, hl3, hn⟩ := hb.kept))
      all_goals (go_wp2_with fail; go_meet)
      all_goals (refine ⟨_, rfl, rfl, ?_, ?_, ?_, ?_, ?_⟩)
      all_goals (first | ((repeat (first | assumption | refine Own.alloc ?_ _ | refine Own.drew ?_ | exact Own.start _ | refine Own.setCell ?_ (by first | exact Own.le (by assumption) | (simp; done)) _)); done) | (go_simp; done) | go_keep)
    case rest =>
      obtain ⟨g2, rfl, rfl, hg20, hg21, hg10, hg11, hb2⟩ := hcut
      obtain ⟨kc, kf, kl, kl1, kl2, kl3, kn⟩ := hb2.kept
      go_wp2_with (go_at_call 18; refine (l_eqInterval _ _ _).mono ?_; rintro e w' ⟨rfl, hb⟩; have hr := New.join (by first | assumption | exact New.startD _ | exact New.startN _ _ | exact New.start _) hb; obtain ⟨rc, rf, rl, rl1, -, -, rn⟩ := hr.own.kept; replace hb := Own.join (by first | assumption | exact Own.alloc (by assumption) _ | exact Own.drew (by assumption) | exact Own.drew (Own.alloc (by assumption) _) | exact Own.alloc (Own.alloc (by assumption) _) _ | exact Own.alloc (Own.alloc (Own.alloc (by assumption) _) _) _ | exact Own.drewN (by assumption) _ | exact Own.drew (Own.start _) | exact Own.drewN (Own.start _) _ | exact Own.start _) hb; obtain ⟨hc, hf, hl, hl1, hl2, hl3, hn⟩ := hb.kept)
      go_ret
      exact ⟨rfl, by repeat (first | exact Below.refl _ _ | refine balloc ?_ _ | refine Below.drew ?_ | refine bdrewN ?_ _ | refine bto ?_ (Own.below (by assumption)) | refine bset ?_ (by first | (simp; done) | (simp; omega) | exact Own.le_w (by assumption) (by first | (simp; done) | (simp; omega))) _)⟩

theorem own : ownKnob Try.prog.godebug = none := by kernel_rfl
theorem laidOut : laidOutB Try.prog = true := by kernel_rfl
set_option maxRecDepth 100000 in
theorem lifted (os : Os) (started : os.Started) (H : Type) (enc : TypeId × Value → H) :
    ReturnsInHanded {} Try.checked os 4 .any (Rows.fnExactStoppingDistanceSpec.pre6 enc Try.prog Try.f4 Rows.fnExactStoppingDistanceRow.domain false) (Rows.fnExactStoppingDistanceSpec.post enc Try.prog Try.f4 false true false false) := by
  refine returnsInHanded_of_change (C := Try.checked) own started (by kernel_rfl) Try.func4
    (ChangeSpec.witness6 (enc := enc) (C := Try.checked) false ⟨#[], #[.agg #[.int .i64 0, .int .i64 0, .int .i64 0, .int .i64 0, .int .i64 0, .int .i64 0, .int .i64 0], .agg #[.int .i64 0, .int .i64 0]], []⟩ 8 (by kernel_rfl) (by kernel_rfl) (by kernel_rfl) (by kernel_rfl)) ?_
  intro W base args ds gs before hval0 hW hcnd _
  have hval : ∀ (j : Nat) t v, Try.f4.params[j]? = some t → args[j]? = some v → Value.okWide Try.prog W .any base t v := hval0
  have hW' := hW
  obtain ⟨p, q, hA0, hV, rfl, hfz, hnd⟩ := hW
  have hA : DataW.TrodAll enc Try.prog W 0 (fun _ => true) true Try.f4.params.toList args.toList ds p := hA0
  rw [Try.params4] at hA hval
  obtain ⟨v0, vs0, d0, ds0, pp0, qq0, hargs, rfl, rfl, h0, rr0⟩ := trodAll_cons hA
  obtain ⟨v1, vs1, d1, ds1, pp1, qq1, rfl, rfl, rfl, h1, rr1⟩ := trodAll_cons rr0
  obtain ⟨rfl, rfl, rfl⟩ := trodAll_nil rr1
  obtain rfl : args = #[v0, v1] := by cases args; simp_all
  obtain ⟨rfl, rfl⟩ := trodVars_none hV
  have k0_ := h0
  have lt0_ : ∀ x ∈ pp0, x.block < W.heap.size := by obtain ⟨m, hm⟩ := h0; exact DataW.trod_lt m _ _ _ hm
  have k1_ := h1
  have lt1_ : ∀ x ∈ pp1, x.block < W.heap.size := by obtain ⟨m, hm⟩ := h1; exact DataW.trod_lt m _ _ _ hm
  obtain ⟨k0, n0, r0, c0, d0, e0, f0, rfl, wk0⟩ := open_seg (ti := 2) (tv := 23) Try.underlying25 rfl rfl (by kernel_rfl) (by kernel_rfl) (by kernel_rfl) Try.underlying23 (by kernel_rfl) rfl rfl Try.underlying2 (hval 0 25 v0 rfl rfl) h0
  obtain ⟨a1, b1, rfl, wa1, wb1⟩ := open_iv Try.underlying23 (by kernel_rfl) (by kernel_rfl) Try.underlying2 Try.underlying2 (hval 1 23 v1 rfl rfl) h1
  clear hA0 hval0
  refine (walk  W k0 n0 r0 c0 d0 e0 f0 wk0 a1 b1 wa1 wb1).mono fun e W' ⟨he, bel⟩ => ?_
  subst he
  exact ⟨_, rfl, _, _, _, [], _, [], hW', trodAll_mk1 (shut_bool Try.underlying4 _), (trodAll_cons_mk (Below.trod laidOut (by kernel_rfl) (of_decide_eq_true (by kernel_rfl)) k0_ bel lt0_) (trodAll_cons_mk (Below.trod laidOut (by kernel_rfl) (of_decide_eq_true (by kernel_rfl)) k1_ bel lt1_) trodAll_mk0)), rfl, bel.frame _, fun h => by cases h⟩

theorem over : Rows.fnExactStoppingDistanceRow.holds Try.pinned (OpenSpec.ofChange Rows.fnExactStoppingDistanceSpec) :=
  OpenClaim.holds_of_wide 4 Try.f4 rfl rfl rfl rfl rfl rfl rfl ⟨rfl, rfl, rfl, rfl, rfl⟩ rfl rfl rfl rfl rfl (by kernel_rfl) Try.func4 (by kernel_rfl)
    (of_decide_eq_true (by kernel_rfl)) (by unfold Func.isWrapper; first | (rw [if_pos (by decide +kernel)]; kernel_rfl) | (rw [if_neg (by decide +kernel)]; exact ⟨rfl, rfl⟩))
    (fun os started H enc _ => lifted os started H enc)

/-- the given statement -/
theorem proved : Rows.FnExactStoppingDistanceSaid := over
#print axioms proved
end Go.Proofs.Ytafbmhncmbcpjaa.pFnExactStoppingDistance
