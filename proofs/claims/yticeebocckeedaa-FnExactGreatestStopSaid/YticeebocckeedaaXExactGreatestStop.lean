/- The Go function laws.FnExactGreatestStop returns true for every input and leaves its arguments as they were; no condition. -/
import Derived.Test.YticeebocckeedaaRows
import Derived.Test.YticeebocckeedaaBase
import Derived.Test.YticeebocckeedaaNum
import Derived.Test.YticeebocckeedaaIv
import Derived.Test.YticeebocckeedaaIv2
import Derived.Test.YticeebocckeedaaDiv
import Derived.Test.YticeebocckeedaaRoot
import Derived.Test.YticeebocckeedaaEn
import Derived.Test.YticeebocckeedaaScale
import Derived.Test.YticeebocckeedaaSeg
import Derived.Test.YticeebocckeedaaEn2
import Derived.Test.YticeebocckeedaaStop
import Derived.WalkKit
import Derived.WalkSpells
import Derived.WalkLawsBesides
import Derived.ProofKit
import Derived.OpenShut
import Derived.ShutString
import Derived.ChangeOld
import Derived.Below
import Derived.Deep.RegionHeld3
import Derived.Deep.DeepCutAuto
namespace Go.Proofs.Yticeebocckeedaa.pFnExactGreatestStop
open Go.ChangeShapes Go.WideShapes Go.ChangeAt Go.RowKit
set_option maxHeartbeats 2000000
set_option linter.unusedVariables false
set_option linter.unusedSimpArgs false

attribute [local go_sem] lt_2 lt_3 lt_4 lt_5 lt_6
set_option maxHeartbeats 4000000 in
theorem walk (w : World) (k0 n0 r0 c0 d0 e0 f0 : Int) (wk0 : SegWf k0 n0 r0 c0 d0 e0 f0) :
    Calls Try.prog 12 #[segV k0 n0 r0 c0 d0 e0 f0] w fun e w' => e = .returned (.bool true) ∧ Below w.heap.size w w' := by
  have h0 := Own.start (w.alloc (Obj.cells #[Value.int IntKind.i64 k0, Value.int IntKind.i64 n0, Value.int IntKind.i64 r0, Value.int IntKind.i64 c0, Value.int IntKind.i64 d0, Value.int IntKind.i64 e0, Value.int IntKind.i64 f0] 34))
  go_enter Try.func12, Try.ntmps12
  go_wp2_with (first | (go_at_call 22; refine (l_toSegment _ _ _ _ _ _ _ _).mono ?_; rintro e w' ⟨rfl, hb⟩; have hr := New.join (by first | assumption | exact New.startD _ | exact New.startN _ _ | exact New.start _) hb; obtain ⟨rc, rf, rl, rl1, -, -, rn⟩ := hr.own.kept; replace hb := Own.join (by first | assumption | exact Own.alloc (by assumption) _ | exact Own.drew (by assumption) | exact Own.drew (Own.alloc (by assumption) _) | exact Own.alloc (Own.alloc (by assumption) _) _ | exact Own.alloc (Own.alloc (Own.alloc (by assumption) _) _) _ | exact Own.drewN (by assumption) _ | exact Own.drew (Own.start _) | exact Own.drewN (Own.start _) _ | exact Own.start _) hb; obtain ⟨hc, hf, hl, hl1, hl2, hl3, hn⟩ := hb.kept) | (go_at_call 38; refine (s_GreatestStop _ _ _ _ _ _ _ _).mono ?_; rintro e w' ⟨rfl, hb⟩; have hr := New.join (by first | assumption | exact New.startD _ | exact New.startN _ _ | exact New.start _) hb; obtain ⟨rc, rf, rl, rl1, -, -, rn⟩ := hr.own.kept; replace hb := Own.join (by first | assumption | exact Own.alloc (by assumption) _ | exact Own.drew (by assumption) | exact Own.drew (Own.alloc (by assumption) _) | exact Own.alloc (Own.alloc (by assumption) _) _ | exact Own.alloc (Own.alloc (Own.alloc (by assumption) _) _) _ | exact Own.drewN (by assumption) _ | exact Own.drew (Own.start _) | exact Own.drewN (Own.start _) _ | exact Own.start _) hb; obtain ⟨hc, hf, hl, hl1, hl2, hl3, hn⟩ := hb.kept) | (go_at_call 39; refine (i_GreatestStop _ _ _ _ _ _ _ _).mono ?_; rintro e w' ⟨rfl, hb⟩; have hr := New.join (by first | assumption | exact New.startD _ | exact New.startN _ _ | exact New.start _) hb; obtain ⟨rc, rf, rl, rl1, -, -, rn⟩ := hr.own.kept; replace hb := Own.join (by first | assumption | exact Own.alloc (by assumption) _ | exact Own.drew (by assumption) | exact Own.drew (Own.alloc (by assumption) _) | exact Own.alloc (Own.alloc (by assumption) _) _ | exact Own.alloc (Own.alloc (Own.alloc (by assumption) _) _) _ | exact Own.drewN (by assumption) _ | exact Own.drew (Own.start _) | exact Own.drewN (Own.start _) _ | exact Own.start _) hb; obtain ⟨hc, hf, hl, hl1, hl2, hl3, hn⟩ := hb.kept))
  go_ret
  exact ⟨rfl, by repeat (first | exact Below.refl _ _ | refine balloc ?_ _ | refine Below.drew ?_ | refine bdrewN ?_ _ | refine bto ?_ (Own.below (by assumption)) | refine bset ?_ (by first | (simp; done) | (simp; omega) | exact Own.le_w (by assumption) (by first | (simp; done) | (simp; omega))) _)⟩

theorem own : ownKnob Try.prog.godebug = none := by kernel_rfl
theorem laidOut : laidOutB Try.prog = true := by kernel_rfl
set_option maxRecDepth 100000 in
theorem lifted (os : Os) (started : os.Started) (H : Type) (enc : TypeId × Value → H) :
    ReturnsInHanded {} Try.checked os 12 .any (Rows.fnExactGreatestStopSpec.pre6 enc Try.prog Try.f12 Rows.fnExactGreatestStopRow.domain false) (Rows.fnExactGreatestStopSpec.post enc Try.prog Try.f12 false true false false) := by
  refine returnsInHanded_of_change (C := Try.checked) own started (by kernel_rfl) Try.func12
    (ChangeSpec.witness6 (enc := enc) (C := Try.checked) false ⟨#[], #[.agg #[.int .i64 0, .int .i64 0, .int .i64 0, .int .i64 0, .int .i64 0, .int .i64 0, .int .i64 0]], []⟩ 8 (by kernel_rfl) (by kernel_rfl) (by kernel_rfl) (by kernel_rfl)) ?_
  intro W base args ds gs before hval0 hW hcnd _
  have hval : ∀ (j : Nat) t v, Try.f12.params[j]? = some t → args[j]? = some v → Value.okWide Try.prog W .any base t v := hval0
  have hW' := hW
  obtain ⟨p, q, hA0, hV, rfl, hfz, hnd⟩ := hW
  have hA : DataW.TrodAll enc Try.prog W 0 (fun _ => true) true Try.f12.params.toList args.toList ds p := hA0
  rw [Try.params12] at hA hval
  obtain ⟨v0, vs0, d0, ds0, pp0, qq0, hargs, rfl, rfl, h0, rr0⟩ := trodAll_cons hA
  obtain ⟨rfl, rfl, rfl⟩ := trodAll_nil rr0
  obtain rfl : args = #[v0] := by cases args; simp_all
  obtain ⟨rfl, rfl⟩ := trodVars_none hV
  have k0_ := h0
  have lt0_ : ∀ x ∈ pp0, x.block < W.heap.size := by obtain ⟨m, hm⟩ := h0; exact DataW.trod_lt m _ _ _ hm
  obtain ⟨k0, n0, r0, c0, d0, e0, f0, rfl, wk0⟩ := open_seg (ti := 2) (tv := 23) Try.underlying34 rfl rfl (by kernel_rfl) (by kernel_rfl) (by kernel_rfl) Try.underlying23 (by kernel_rfl) rfl rfl Try.underlying2 (hval 0 34 v0 rfl rfl) h0
  clear hA0 hval0
  refine (walk  W k0 n0 r0 c0 d0 e0 f0 wk0).mono fun e W' ⟨he, bel⟩ => ?_
  subst he
  exact ⟨_, rfl, _, _, _, [], _, [], hW', trodAll_mk1 (shut_bool Try.underlying4 _), (trodAll_cons_mk (Below.trod laidOut (by kernel_rfl) (of_decide_eq_true (by kernel_rfl)) k0_ bel lt0_) trodAll_mk0), rfl, bel.frame _, fun h => by cases h⟩

theorem over : Rows.fnExactGreatestStopRow.holds Try.pinned (OpenSpec.ofChange Rows.fnExactGreatestStopSpec) :=
  OpenClaim.holds_of_wide 12 Try.f12 rfl rfl rfl rfl rfl rfl rfl ⟨rfl, rfl, rfl, rfl, rfl⟩ rfl rfl rfl rfl rfl (by kernel_rfl) Try.func12 (by kernel_rfl)
    (of_decide_eq_true (by kernel_rfl)) (by unfold Func.isWrapper; first | (rw [if_pos (by decide +kernel)]; kernel_rfl) | (rw [if_neg (by decide +kernel)]; exact ⟨rfl, rfl⟩))
    (fun os started H enc _ => lifted os started H enc)

/-- the given statement -/
theorem proved : Rows.FnExactGreatestStopSaid := over
#print axioms proved
end Go.Proofs.Yticeebocckeedaa.pFnExactGreatestStop
