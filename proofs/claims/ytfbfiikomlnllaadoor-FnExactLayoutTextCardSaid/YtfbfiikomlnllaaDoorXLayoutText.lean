/- The Go function laws.FnExactLayoutText returns true for every input and leaves its arguments as they were; conditions: the package variables that the card lists hold at the start what the program's text lays in them. -/
import Derived.Test.YtfbfiikomlnllaaDoorBase
import Derived.Test.YtfbfiikomlnllaaDoorNum
import Derived.Test.YtfbfiikomlnllaaDoorSeg
import Derived.Test.YtfbfiikomlnllaaDoorLay
import Derived.Test.YtfbfiikomlnllaaDoorLay2
import Derived.Test.YtfbfiikomlnllaaDoorShelf
import Derived.Test.YtfbfiikomlnllaaDoorText1
import Derived.Test.YtfbfiikomlnllaaDoorLayText
import Derived.Test.YtfbfiikomlnllaaDoorRows
import Derived.Test.YtfbfiikomlnllaaDoorTie
import Derived.Test.YtfbfiikomlnllaaDoorCards
import Derived.Lib.Hide
import Derived.BigQuiet
import Derived.Deep.QuietTactic
import Derived.WalkKit
import Derived.WalkSpells
import Derived.WalkLawsBesides
import Derived.ProofKit
import Derived.OpenShut
import Derived.ShutString
import Derived.ChangeOld
import Derived.Below
import Derived.Deep.RegionHeld3
import Derived.Deep.DeepCutAuto
import Derived.StillTailTactics
import Derived.LaidMore
import Derived.Lib.LaidU8
import Derived.Stop.Joined
import Derived.SevenTiedAt
import Derived.OpenVars
import Derived.ChangeMaps5
import Derived.Lay
namespace Go.Proofs.YtfbfiikomlnllaaDoor
open Go.ChangeShapes Go.WideShapes Go.ChangeAt Go.RowKit
set_option maxHeartbeats 2000000
set_option linter.unusedVariables false
set_option linter.unusedSimpArgs false

/-- an array of strings that reads as a table of words holds the words, cell for cell -/
theorem cells_of_words {H : Type} {enc : TypeId × Value → H} {P : Program} {w : World} {base : Nat} {sp : Nat → Bool} {held : Bool} {fuel : Nat} {t e : TypeId} {n : Nat} {cs : List Value} {ws : List (List UInt8)} {p : List MemPlace}
    (ht : P.underlying t = some (.array n e)) (he : P.underlying e = some .string) (hce : P.cellsOf e = 1) (hct : P.cellsOf t = n)
    (h : DataW.trod enc P w base sp held fuel t cs = some (.agg (ws.map fun x => .lit (.string x)), p)) : cs = ws.map strV := by
  match fuel with
  | 0 => simp [DataW.trod] at h
  | fuel + 1 =>
    simp only [DataW.trod, ht, hce, hct, Nat.mul_one] at h
    split at h
    · rename_i hl
      obtain ⟨xs, hm, hx⟩ := Option.map_eq_some_iff.1 h
      have h1 : xs.map (·.1) = ws.map fun x => (DataW.lit (.string x) : DataW H) := by
        have := congrArg Prod.fst hx
        simpa using this
      have hxl : xs.length = n := by simpa using Lib.mapM_length hm
      have hwl : ws.length = n := by
        have := congrArg List.length h1
        simp at this
        omega
      refine List.ext_getElem? fun i => ?_
      by_cases hi : i < n
      · obtain ⟨b, hb, hf⟩ := Lib.mapM_at hm i i (by simp [hi])
        obtain ⟨s, hc, rfl, _⟩ := DataW.trod_string he hf
        have h2 : cs[i]? = some (.string s) := by
          have := congrArg (·[0]?) hc
          simpa [List.getElem?_take, List.getElem?_drop] using this
        have h3 : (xs.map (·.1))[i]? = some (DataW.lit (.string s.data.toList) : DataW H) := by simp [hb]
        rw [h1, List.getElem?_map] at h3
        obtain ⟨x, hx1, hx2⟩ := Option.map_eq_some_iff.1 h3
        rw [h2, List.getElem?_map, hx1]
        simp only [DataW.lit.injEq, Lit.string.injEq] at hx2
        rw [hx2]
        simp [strV]
      · rw [List.getElem?_eq_none (by omega), List.getElem?_eq_none (by simp; omega)]
    · cases h
theorem words_of_var {w : World} (hg : Tryd.prog.globalNamed "loop.example/g00916/impl.segmentWords" = some 0) (h : w.var? Tryd.prog "loop.example/g00916/impl.segmentWords" = some ([kw 0, kw 1, kw 2, kw 3, kw 4].map strV).toArray) : Words w := by
  unfold World.var? at h
  rw [hg] at h
  simp only [Option.bind_some] at h
  intro k hk
  split at h
  · rename_i c t fr hb
    simp only [Option.some.injEq] at h
    subst h
    have hk' : k = 0 ∨ k = 1 ∨ k = 2 ∨ k = 3 ∨ k = 4 := by omega
    rcases hk' with rfl | rfl | rfl | rfl | rfl <;> simp [World.cell?, hb, strV]
  · cases h

namespace pFnExactLayoutText
set_option maxHeartbeats 8000000 in
theorem walk (w : World) (ht : Pow Tryd.prog w) (hw : Words w) (p0 : Option Addr) (len0 cap0 : Nat) (z0 : List Seg) (r0 : Segs w p0 len0 z0) :
    Calls Tryd.prog 6 #[.agg #[.slice p0 len0 cap0]] w fun e w' => e = .returned (.bool true) ∧ Below w.heap.size w w' := by
  have hm := r0.2.1
  have hz := r0.1
  have hs := l_szLayout p0 len0 cap0
  have hb0 := (Below.refl w.heap.size w).alloc (Nat.le_refl _) (Obj.cells #[.slice p0 len0 cap0] 33)
  have R := Lib.hid (r0.keep hb0)
  have HT := Lib.hid (ht.keep hb0)
  have HW := Lib.hid (hw.keep hb0)
  clear r0 ht hw hb0
  by_cases hle : len0 ≤ 1048576
  · have hs1 := fun w => hs w hm
    simp only [if_pos hle] at hs1
    have S := Lib.hid hs1
    have HZ := Lib.hid hz
    clear hs hs1 hz
    have hl1 : (len0 : Int) ≤ 1048576 := by omega
    obtain ⟨t, htt⟩ : ∃ t, layTR z0 = t := ⟨_, rfl⟩
    have CS : Hid (∀ q W, Segs W q len0 z0 → Calls Tryd.prog 15 #[.agg #[.slice q len0 len0]] W fun e w' => e = .returned (strV t) ∧ Below W.heap.size W w') := fun q W h => by rw [← htt]; exact s_LayoutText q len0 len0 z0 W h
    have CI : Hid (∀ q W, Segs W q len0 z0 → Pow Tryd.prog W → Words W → Calls Tryd.prog 17 #[.agg #[.slice q len0 len0]] W fun e w' => e = .returned (strV t) ∧ Below W.heap.size W w') := fun q W h h1 h2 => by rw [← htt]; exact i_LayoutText q len0 len0 z0 W h hle h1 h2
    clear htt
    go_enter Tryd.func6, Tryd.ntmps6
    go_wp2_with fail
    refine (S.out _).mono ?_
    rintro e w1 ⟨rfl, hw1⟩
    have O1 : Own (w.alloc (Obj.cells #[.slice p0 len0 cap0] 33)) w1 := by rw [← hw1]; exact (Own.start _).alloc _
    have h1b : w1.cell? ⟨w.heap.size, 0, none⟩ = some (.slice p0 len0 cap0) := by rw [(below_box (k := w.heap.size) O1.below (by simp)).1 0]; go_simp
    clear hw1
    go_wp2_with fail
    refine (l_toLayout p0 len0 cap0 z0 _ (R.out.own O1) hle).mono ?_
    rintro e w2 ⟨g1, rfl, hg1, hr1, hb2⟩
    have O2 := O1.join hb2
    have S2 := Lib.hid (segs_of_row hr1 HZ.out hm)
    clear hr1 hb2 O1 h1b
    go_wp2_with fail
    refine (CS.out _ _ S2.out).mono ?_
    rintro e w3 ⟨rfl, hb3⟩
    have O3 := O2.join hb3
    have h3b : w3.cell? ⟨w.heap.size, 0, none⟩ = some (.slice p0 len0 cap0) := by rw [(below_box (k := w.heap.size) O3.below (by simp)).1 0]; go_simp
    clear hb3 O2 S2
    go_wp2_with fail
    refine (l_toLayout p0 len0 cap0 z0 _ (R.out.own O3) hle).mono ?_
    rintro e w4 ⟨g2, rfl, hg2, hr2, hb4⟩
    have O4 := (O3.join hb4).alloc (Obj.cells #[.slice (some ⟨g2, 0, none⟩) len0 len0] 38)
    have S4 := Lib.hid ((segs_of_row hr2 HZ.out hm).keep ((Below.refl _ _).alloc (Nat.le_refl _) (Obj.cells #[.slice (some ⟨g2, 0, none⟩) len0 len0] 38)))
    have hwl : w.heap.size < w4.heap.size := Nat.lt_of_lt_of_le (World.block_lt_of_cell? w3 _ h3b) hb4.size
    clear hr2 hb4 O3 h3b
    go_wp2_with fail
    refine (CI.out _ _ S4.out (HT.out.keep O4.below) (HW.out.keep O4.below)).mono ?_
    rintro e w5 ⟨rfl, hb5⟩
    have O5 := O4.join hb5
    have S5 := Lib.hid (S4.out.keep hb5)
    have h5x : w5.cell? ⟨w4.heap.size, 0, none⟩ = some (.slice (some ⟨g2, 0, none⟩) len0 len0) := by rw [(below_box (k := w4.heap.size) hb5 (by simp)).1 0]; go_simp
    have h5b : w5.cell? ⟨w.heap.size, 0, none⟩ = some (.slice p0 len0 cap0) := by rw [(below_box (k := w.heap.size) O5.below (by simp)).1 0]; go_simp
    have hl5x := World.block_lt_of_cell? w5 _ h5x
    have hl5b := World.block_lt_of_cell? w5 _ h5b
    clear hb5 O4 CI CS
    go_upto_region 10 with fail
    go_region_held3 (fun w' => w'.cell? ⟨w4.heap.size, 0, none⟩ = some (.slice (some ⟨g2, 0, none⟩) len0 len0) ∧ w'.cell? ⟨w.heap.size, 0, none⟩ = some (.slice p0 len0 cap0)) (first | go_keep | exact ⟨by rw [hk1 0]; assumption, by rw [hk2 0]; assumption⟩) (first | (go_at_call 16; refine (l_toLayout p0 len0 cap0 z0 _ (R.out.own O5.drew) hle).mono ?_; rintro e w7 ⟨g3, rfl, hg3, hr3, hb7⟩; obtain ⟨hk1, -, L1⟩ := below_box (k := w4.heap.size) hb7 hl5x; obtain ⟨hk2, -, L2⟩ := below_box (k := w.heap.size) hb7 hl5b; have S7 := Lib.hid (segs_of_row hr3 HZ.out hm); have O7 := Lib.hid (O5.drew.join hb7); have S57 := Lib.hid ((show Segs w5.drew _ _ _ from S5.out).keep hb7); clear hr3 hb7) | (go_at_call 18; refine (l_eqLayout _ _ _ _ _ z0 _ S57.out S7.out).mono ?_; rintro e w8 ⟨rfl, hb8⟩; obtain ⟨hk1, -, -⟩ := below_box (k := w4.heap.size) hb8 L1; obtain ⟨hk2, -, -⟩ := below_box (k := w.heap.size) hb8 L2; have O8 := Lib.hid (O7.out.join hb8); clear hb8))
    all_goals (clear hk1 hk2)
    all_goals (go_wp2; go_ret; exact ⟨rfl, bto (balloc (Below.refl _ _) _) O8.out.below⟩)
  · have hs1 := fun w => hs w hm
    simp only [if_neg hle] at hs1
    have S := Lib.hid hs1
    clear hs hs1
    go_enter Tryd.func6, Tryd.ntmps6
    go_wp2_with fail
    refine (S.out _).mono ?_
    rintro e w1 ⟨rfl, hw1⟩
    have O1 : Own (w.alloc (Obj.cells #[.slice p0 len0 cap0] 33)) w1 := by rw [← hw1]; exact (Own.start _).alloc _
    clear hw1
    go_wp2
    go_ret
    exact ⟨rfl, bto (balloc (Below.refl _ _) _) O1.below⟩
theorem own : ownKnob Tryd.prog.godebug = none := by kernel_rfl
theorem laidOut : laidOutB Tryd.prog = true := by kernel_rfl
theorem gPow : Tryd.prog.globalNamed "internal/strconv.uint64pow10" = some 6 := by kernel_rfl
theorem tPow : (Tryd.prog.globals[6]?).map (·.type) = some 139 := by kernel_rfl
theorem dPow : (Rows.laid_internal_strconv_uint64pow10 : DataW Unit) = Lib.tabData .u64 Lib.pow10Tab := by kernel_rfl
theorem gW : Tryd.prog.globalNamed "loop.example/g00916/impl.segmentWords" = some 0 := by kernel_rfl
theorem tW : (Tryd.prog.globals[0]?).map (·.type) = some 86 := by kernel_rfl
theorem dW : (Rows.laid_loop_example_g00916_impl_segmentWords : DataW Unit) = .agg (([kw 0, kw 1, kw 2, kw 3, kw 4] : List (List UInt8)).map fun x => .lit (.string x)) := by kernel_rfl
theorem of_laid {W : World} (h : laidMetH Tryd.prog Rows.fnExactLayoutTextRow.laid W) : Pow Tryd.prog W ∧ Words W := by
  rw [MakeChecks.laidMetH_plain _ _ _ (by kernel_rfl)] at h
  refine ⟨?_, ?_⟩
  · obtain ⟨g, t, cs, fuel, p, hg, ht, hv, hd⟩ := Lib.laidMet.reads h (n := "internal/strconv.uint64pow10") (d := Rows.laid_internal_strconv_uint64pow10) (.tail _ (.tail _ (.head _)))
    obtain rfl := Option.some.inj (gPow.symm.trans hg)
    obtain rfl := Option.some.inj (tPow.symm.trans ht)
    rw [dPow] at hd
    show World.var? _ _ _ = _
    rw [hv, ← Lib.cells_of_tab Tryd.underlying139 Tryd.underlying96 (by kernel_rfl) (by kernel_rfl) hd]
  · obtain ⟨g, t, cs, fuel, p, hg, ht, hv, hd⟩ := Lib.laidMet.reads h (n := "loop.example/g00916/impl.segmentWords") (d := Rows.laid_loop_example_g00916_impl_segmentWords) (.tail _ (.tail _ (.tail _ (.head _))))
    obtain rfl := Option.some.inj (gW.symm.trans hg)
    obtain rfl := Option.some.inj (tW.symm.trans ht)
    rw [dW] at hd
    refine words_of_var gW ?_
    rw [hv, ← cells_of_words Tryd.underlying86 Tryd.underlying9 (by kernel_rfl) (by kernel_rfl) hd]
set_option maxRecDepth 100000 in
theorem lifted (os : Os) (started : os.Started) (H : Type) (enc : TypeId × Value → H) :
    ReturnsInHanded {} Tryd.checked os 6 .any (fun w args => (Rows.fnExactLayoutTextSpec.pre enc Tryd.prog Tryd.f6 [] false w args ∧ laidMetH Tryd.prog Rows.fnExactLayoutTextRow.laid w) ∧ sizedMet enc Tryd.prog Tryd.f6 (OpenSpec.ofChange Rows.fnExactLayoutTextSpec) false w args)
      (Rows.fnExactLayoutTextSpec.post enc Tryd.prog Tryd.f6 false true false false) := by
  refine returnsInHanded_of_change_and (C := Tryd.checked) (X := fun w _ => laidMetH Tryd.prog Rows.fnExactLayoutTextRow.laid w) (fun _ _ _ hh h => h.of_heap hh) own started (by kernel_rfl) Tryd.func6
    (ChangeSpec.witness_shaped (enc := enc) (C := Tryd.checked) (os := os) (X := fun w _ => laidMetH Tryd.prog Rows.fnExactLayoutTextRow.laid w) false (World.laidAll Tryd.prog os Rows.fnExactLayoutTextRow.laid) #[.agg #[.slice none 0 0]] 8 (World.laidAll_os _ _ _) (World.shaped_of_ZipB (by kernel_rfl) (by kernel_rfl)) (by kernel_rfl) (by kernel_rfl) (by kernel_rfl)
      (by rw [MakeChecks.laidMetH_plain _ _ _ (by kernel_rfl)]; exact laidMet_laidAll _ (by kernel_rfl) (by kernel_rfl))) ?_
  intro W base args ds gs before hval0 hW _ _ hL _
  have hval : ∀ (j : Nat) t v, Tryd.f6.params[j]? = some t → args[j]? = some v → Value.okWide Tryd.prog W .any base t v := hval0
  have hW' := hW
  obtain ⟨p, q, hA0, hV, rfl, hfz, hnd⟩ := hW
  have hA : DataW.TrodAll enc Tryd.prog W 0 (fun _ => true) true Tryd.f6.params.toList args.toList ds p := hA0
  rw [Tryd.params6] at hA hval
  obtain ⟨v0, vs0, d0, ds0, pp0, qq0, hargs, rfl, rfl, h0, rr0⟩ := trodAll_cons hA
  obtain ⟨rfl, rfl, rfl⟩ := trodAll_nil rr0
  obtain rfl : args = #[v0] := by cases args; simp_all
  have hV2 : DataW.TrodVars enc Tryd.prog W (fun _ => true) ["loop.example/g00916/impl.segmentWords"] gs q := hV
  obtain ⟨gg, tt, cs, fu, dd, pv, hgs, hv1, hv2, hv3, hv4, hv5⟩ := trodVars_one hV2
  subst hgs
  have k0_ := h0
  have lt0_ : ∀ x ∈ pp0, x.block < W.heap.size := by obtain ⟨m, hm⟩ := h0; exact DataW.trod_lt m _ _ _ hm
  obtain ⟨p0, len0, cap0, z0, rfl, r0⟩ := open_lay (ti := 2) (tv := 83) (ts := 85) (tl := 31) Tryd.underlying33 rfl rfl (by kernel_rfl) (by kernel_rfl) Tryd.underlying31 Tryd.underlying85 rfl rfl (by kernel_rfl) (by kernel_rfl) (by kernel_rfl) Tryd.underlying83 (by kernel_rfl) rfl rfl Tryd.underlying2 (hval 0 33 v0 rfl rfl) h0
  clear hA0 hval0
  have hfac := of_laid hL
  refine (walk W hfac.1 hfac.2 p0 len0 cap0 z0 r0).mono fun e W' ⟨he, bel⟩ => ?_
  subst he
  have hVW := Below.trodVars laidOut bel (by kernel_rfl) hV2
  exact ⟨_, rfl, _, _, _, [], _, _, hW', trodAll_mk1 (shut_bool Tryd.underlying4 _), (trodAll_cons_mk (Below.trod laidOut (by kernel_rfl) (of_decide_eq_true (by kernel_rfl)) k0_ bel lt0_) trodAll_mk0), hVW, bel.frame _, fun h => by cases h⟩
theorem row_holds : Rows.FnExactLayoutTextSaid :=
  OpenClaim.holds_of_wide 6 Tryd.f6 rfl rfl rfl rfl rfl rfl rfl ⟨rfl, rfl, rfl, rfl, rfl⟩ rfl rfl rfl rfl rfl (by kernel_rfl) Tryd.func6 (by kernel_rfl)
    (of_decide_eq_true (by kernel_rfl)) (by unfold Func.isWrapper; first | (rw [if_pos (by decide +kernel)]; kernel_rfl) | (rw [if_neg (by decide +kernel)]; exact ⟨rfl, rfl⟩))
    (fun os started H enc _ => lifted os started H enc)
/-- the given statement -/
theorem proved : Rows.FnExactLayoutTextCardSaid :=
  Claim7.holds_tied_plain_at .later [] [.data, .data, .data, .widerDeep] true (true, "340661cbded442b2c0794ad0825e4cdab3d6a3f825fc1de4e92d73f1eeb715a3") true
    row_holds (fun _ h => by cases h) (by kernel_rfl) (fun _ h => by cases h) fnExactLayoutText_row_tie rfl ⟨rfl, rfl⟩ (by kernel_rfl) rfl
    (fun f fn hf hfn => by
      obtain rfl : f = 6 := Option.some.inj ((show Tryd.prog.funcNamed "loop.example/g00916/laws.FnExactLayoutText" = some 6 by kernel_rfl).symm.trans hf) |>.symm
      obtain rfl : fn = Tryd.f6 := (Option.some.inj (Tryd.func6.symm.trans hfn)).symm
      exact ⟨by kernel_rfl, fun j t ht => by
        rw [Tryd.params6] at ht
        have hm : t ∈ [33] := by simpa using Array.mem_of_getElem? ht
        have hall : ([33].all fun u => !Tryd.prog.wantsStandIn u) = true := by kernel_rfl
        exact (show Tryd.prog.wantsStandIn t = false by simpa using List.all_eq_true.1 hall t hm)⟩)
    (by kernel_rfl)
#print axioms proved
end pFnExactLayoutText

end Go.Proofs.YtfbfiikomlnllaaDoor
