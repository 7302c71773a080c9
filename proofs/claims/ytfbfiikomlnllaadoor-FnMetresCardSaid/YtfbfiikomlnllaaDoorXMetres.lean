/- The Go function laws.FnMetres returns true for every input and leaves its arguments as they were; conditions: the package variables that the card lists hold at the start what the program's text lays in them. -/
import Derived.Test.YtfbfiikomlnllaaDoorBase
import Derived.Test.YtfbfiikomlnllaaDoorNum
import Derived.Test.YtfbfiikomlnllaaDoorIv
import Derived.Test.YtfbfiikomlnllaaDoorList
import Derived.Test.YtfbfiikomlnllaaDoorDraw
import Derived.Test.YtfbfiikomlnllaaDoorShelf
import Derived.Test.YtfbfiikomlnllaaDoorText1
import Derived.Test.YtfbfiikomlnllaaDoorTextLaw
import Derived.Test.YtfbfiikomlnllaaDoorText2
import Derived.Test.YtfbfiikomlnllaaDoorText3
import Derived.Test.YtfbfiikomlnllaaDoorRows
import Derived.Test.YtfbfiikomlnllaaDoorTie
import Derived.Test.YtfbfiikomlnllaaDoorCards
import Derived.Lib.Hide
import Derived.WalkKit
import Derived.WalkSpells
import Derived.WalkLawsBesides
import Derived.ProofKit
import Derived.OpenShut
import Derived.ShutString
import Derived.ChangeOld
import Derived.Below
import Derived.LaidMore
import Derived.Lib.LaidU8
import Derived.Stop.Joined
import Derived.SevenTiedAt
import Derived.Stop.LaidErr
import Derived.ChangeMaps5
import Derived.Lay
namespace Go.Proofs.YtfbfiikomlnllaaDoor
open Go.ChangeShapes Go.WideShapes Go.ChangeAt Go.RowKit
set_option maxHeartbeats 2000000
set_option linter.unusedVariables false
set_option linter.unusedSimpArgs false

namespace pFnMetres
theorem draw_read (x : Int) : ∃ t y ok, mtR x = t ∧ rmR t = (y, ok) ∧ t.length ≤ 1048576 ∧ ((t == []) = false ∧ ok = true ∧ y = x ∨ t = [] ∧ ok = false) := by
  have hl := mtR_len x
  rcases Bool.eq_false_or_eq_true (isVal x) with hv | hv
  · have e : mtR x = mt x := by unfold mtR; rw [if_pos hv]
    rw [e] at hl
    exact ⟨mt x, x, true, e, rmR_mt hv, by omega, .inl ⟨by simpa using mt_ne x, rfl, rfl⟩⟩
  · have e : mtR x = [] := by unfold mtR; rw [if_neg (by rw [hv]; simp)]
    exact ⟨[], 0, false, e, by unfold rmR; rw [if_pos (.inl rfl)], by simp, .inr ⟨rfl, rfl⟩⟩
theorem read_back (l : List UInt8) : ∃ z b, rmR l = (z, b) ∧ (b = true ∧ mtR z = l ∨ b = false) := by
  by_cases h : l = [] ∨ mtR (rmN l) ≠ l
  · exact ⟨0, false, by unfold rmR; rw [if_pos h], .inr rfl⟩
  · exact ⟨rmN l, true, by unfold rmR; rw [if_neg h], .inl ⟨rfl, Decidable.of_not_not fun e => h (.inr e)⟩⟩
set_option maxRecDepth 100000 in
theorem walk (w : World) (ht : Rd Tryd.prog w) (p : Option Addr) (n cap : Nat) (hin : Bytes w p n) :
    Calls Tryd.prog 5 #[.slice p n cap] w fun e w' => e = .returned (.bool true) ∧ Below w.heap.size w w' := by
  have HT := Lib.hid ht
  have hn := hin.1
  have HIN := Lib.hid hin
  clear ht hin
  rcases Bool.eq_false_or_eq_true (decide (4096 < n)) with hbig | hbig
  · go_enter Tryd.func5, Tryd.ntmps5
    go_wp2_with (go_at_call 11; refine (l_big p n cap _ hn).mono ?_; rintro e w' ⟨rfl, rfl⟩; rw [hbig])
    go_ret
    exact ⟨rfl, Below.refl _ _⟩
  · go_enter Tryd.func5, Tryd.ntmps5
    go_wp2_with (go_at_call 11; refine (l_big p n cap _ hn).mono ?_; rintro e w' ⟨rfl, rfl⟩; rw [hbig])
    refine (s_DrawMetresText _ _ _ _ HIN.out).mono ?_
    rintro e w1 ⟨x, rfl, hb⟩
    have O1 := Lib.hid hb
    obtain ⟨t, y, ok, h1, h2, h3, h4⟩ := draw_read x
    have CM : Hid (∀ w : World, Pow Tryd.prog w → Calls Tryd.prog 8 #[.int .i64 x] w fun en w' => en = .returned (strV t) ∧ Below w.heap.size w w') := fun w h => by rw [← h1]; exact i_MetresText x w h
    have CS : Hid (∀ w : World, Calls Tryd.prog 7 #[.int .i64 x] w fun en w' => en = .returned (strV t) ∧ Below w.heap.size w w') := fun w => by rw [← h1]; exact s_MetresText x w
    have CR : Hid (∀ w : World, Rd Tryd.prog w → Calls Tryd.prog 10 #[strV t] w fun en w' => en = .returned (.tuple #[.int .i64 y, .bool ok]) ∧ Below w.heap.size w w') := fun w h => by
      have := i_ReadMetres t h3 w h
      rw [rmI_eq, h2] at this
      exact this
    clear hb h1 h2 h3
    have hex : ∀ l : List UInt8, l.length ≤ 1048576 → ∃ z b, (Hid (∀ w : World, Rd Tryd.prog w → Calls Tryd.prog 10 #[strV l] w fun en w' => en = .returned (.tuple #[.int .i64 z, .bool b]) ∧ Below w.heap.size w w')) ∧ (Hid (∀ w : World, Calls Tryd.prog 9 #[strV l] w fun en w' => en = .returned (.tuple #[.int .i64 z, .bool b]) ∧ Below w.heap.size w w')) ∧ (b = true ∧ (Hid (∀ w : World, Pow Tryd.prog w → Calls Tryd.prog 8 #[.int .i64 z] w fun en w' => en = .returned (strV l) ∧ Below w.heap.size w w')) ∨ b = false) := fun l hl => by
      obtain ⟨z, b, e, hc⟩ := read_back l
      refine ⟨z, b, fun w h => ?_, fun w => ?_, ?_⟩
      · have := i_ReadMetres l hl w h
        rw [rmI_eq, e] at this
        exact this
      · have := s_ReadMetres l hl w
        rw [e] at this
        exact this
      · rcases hc with ⟨hb, hm⟩ | hb
        · exact .inl ⟨hb, fun w h => by rw [← hm]; exact i_MetresText z w h⟩
        · exact .inr hb
    have HEX := Lib.hid hex
    clear hex
    rcases h4 with ⟨ht0, rfl, rfl⟩ | ⟨rfl, rfl⟩
    all_goals
      go_wp2_with fail
      refine (CM.out _ (HT.out.keep O1.out).1).mono ?_
      rintro e w2 ⟨rfl, hb⟩
      have O2 := Lib.hid (Own.join O1.out hb)
      clear hb
      go_wp2_with fail
      refine (CR.out _ (HT.out.keep O2.out)).mono ?_
      rintro e w3 ⟨rfl, hb⟩
      have O3 := Lib.hid (Own.join O2.out hb)
      clear hb
      go_wp2_with fail
      refine (s_DrawReadMetres _ _ _ _ (HIN.out.keep O3.out)).mono ?_
      rintro e w4 ⟨l, rfl, hl, hb⟩
      have O4 := Lib.hid (Own.join O3.out hb)
      obtain ⟨z, b, D1, D2, D3⟩ := HEX.out l hl
      clear hb hl
      rcases D3 with ⟨rfl, D4⟩ | rfl
      all_goals
        go_wp2_with fail
        refine (D1.out _ (HT.out.keep O4.out)).mono ?_
        rintro e w5 ⟨rfl, hb⟩
        have O5 := Lib.hid (Own.join O4.out hb)
        clear hb
        go_wp2_with fail
        refine (D2.out _).mono ?_
        rintro e w6 ⟨rfl, hb⟩
        have O6 := Lib.hid (Own.join O5.out hb)
        clear hb
        go_wp2_with fail
        refine (CS.out _).mono ?_
        rintro e w7 ⟨rfl, hb⟩
        have O7 := Lib.hid (Own.join O6.out hb)
        clear hb
        go_wp2_with fail
        first
          | (go_ret; exact ⟨rfl, O7.out⟩)
          | (refine (D4.out _ (HT.out.keep O7.out).1).mono ?_
             rintro e w8 ⟨rfl, hb⟩
             have O8 := Lib.hid (Own.join O7.out hb)
             clear hb
             go_wp2_with fail
             go_ret
             exact ⟨by simp, O8.out⟩)
theorem own : ownKnob Tryd.prog.godebug = none := by kernel_rfl
theorem laidOut : laidOutB Tryd.prog = true := by kernel_rfl
theorem gPow : Tryd.prog.globalNamed "internal/strconv.uint64pow10" = some 6 := by kernel_rfl
theorem tPow : (Tryd.prog.globals[6]?).map (·.type) = some 139 := by kernel_rfl
theorem dPow : (Rows.laid_internal_strconv_uint64pow10 : DataW Unit) = Lib.tabData .u64 Lib.pow10Tab := by kernel_rfl
theorem star : "*" ++ "errors.errorString" = "*errors.errorString" := by decide
theorem rowE (u : TypeId) (h : Tryd.prog.typeName? 3 u = some "*errors.errorString") : u = 134 :=
  typeName_ptr_named (nm := "errors.errorString") (by rw [star]; kernel_rfl) (by kernel_rfl) (by decide) u (by rw [star]; exact h)
theorem of_laid {W : World} (h : laidMetH Tryd.prog Rows.fnMetresRow.laid W) (hs : W.ShapedOpen Tryd.prog) : Rd Tryd.prog W := by
  rw [MakeChecks.laidMetH_plain _ _ _ (by kernel_rfl)] at h
  refine ⟨?_, Tryd.laysM154.s1_3 W hs, ?_, ?_⟩
  · obtain ⟨g, t, cs, fuel, p, hg, ht, hv, hd⟩ := Lib.laidMet.reads h (n := "internal/strconv.uint64pow10") (d := Rows.laid_internal_strconv_uint64pow10) (.tail _ (.tail _ (.head _)))
    obtain rfl := Option.some.inj (gPow.symm.trans hg)
    obtain rfl := Option.some.inj (tPow.symm.trans ht)
    rw [dPow] at hd
    show World.var? _ _ _ = _
    rw [hv, ← Lib.cells_of_tab Tryd.underlying139 Tryd.underlying96 (by kernel_rfl) (by kernel_rfl) hd]
  · obtain ⟨a, s, hv, -⟩ := laid_sentinel (n := "strconv.ErrSyntax") (g := 1) (ti := 44) (te := 136) (ts := 9) h.tail.tail.tail.tail.tail (by kernel_rfl) (by kernel_rfl) Tryd.underlying44 rowE Tryd.underlying134 Tryd.underlying136 rfl rfl Tryd.underlying9 (by kernel_rfl) (by kernel_rfl)
    exact ⟨_, _, hv⟩
  · obtain ⟨a, s, hv, -⟩ := laid_sentinel (n := "strconv.ErrRange") (g := 2) (ti := 44) (te := 136) (ts := 9) h.tail.tail.tail.tail (by kernel_rfl) (by kernel_rfl) Tryd.underlying44 rowE Tryd.underlying134 Tryd.underlying136 rfl rfl Tryd.underlying9 (by kernel_rfl) (by kernel_rfl)
    exact ⟨_, _, hv⟩
theorem returns_and_shaped {H : Type} {enc : TypeId × Value → H} {a : Assume} {C : Checked} {os : Os} {f : FuncId} {fn : Func} {s : ChangeSpec} {conds : List PathCond} {apart fresh handsOn again : Bool} {X : World → Array Value → Prop}
    (hX : ∀ (w w' : World) (args : Array Value), w.heap = w'.heap → X w args → X w' args)
    (own : ownKnob C.prog.godebug = none) (started : os.Started) (noInit : C.prog.inits.idxOf? f = none) (hfn : C.prog.funcs[f]? = some fn)
    (witness : ∃ (w : World) (tape : Tape) (i : Input), w.os = os ∧ (w.forCall tape i).Shaped C.prog ∧ i.vars = [] ∧ Input.okWide C.prog (w.forCall tape i) .any w.heap.size f i ∧
      ((s.pre enc C.prog fn conds apart (w.forCall tape i).memory i.args ∧ X (w.forCall tape i).memory i.args) ∧ sizedMet enc C.prog fn (OpenSpec.ofChange s) apart (w.forCall tape i).memory i.args) ∧ a.holds C.prog (lone (Frame.enter C.prog f i.args .normal) [] (w.forCall tape i)))
    (contract : ∀ (W : World) (base : Nat) (args : Array Value) (ds gs : List (DataW H)) (before : List MemPlace),
      (∀ (j : Nat) t v, fn.params[j]? = some t → args[j]? = some v → Value.okWide C.prog W .any base t v) →
      DataW.Whole enc C.prog fn.params.toList s.vars apart W args.toList ds gs before → X W args → W.ShapedOpen C.prog →
      Calls C.prog f args W fun e W' => ∃ v, e = .returned v ∧ s.post enc C.prog fn apart fresh handsOn again W args v W') :
    ReturnsInHanded a C os f .any (fun w args => (s.pre enc C.prog fn conds apart w args ∧ X w args) ∧ sizedMet enc C.prog fn (OpenSpec.ofChange s) apart w args) (s.post enc C.prog fn apart fresh handsOn again) := by
  refine returnsInHanded_of_calls own started noInit witness ?_
  intro w tape i _ hsh _ hok hpre _
  obtain ⟨_, _, _, fn', hfn', _, _, _, _, hval⟩ := hok
  have e : fn' = fn := Option.some.inj (hfn'.symm.trans hfn)
  subst e
  obtain ⟨⟨⟨ds, gs, before, hw, _⟩, hx⟩, _⟩ := hpre
  have hw' := DataW.Whole.of_heap (w' := w.forCall tape i) (by rfl) hw
  refine (contract (w.forCall tape i) w.heap.size i.args ds gs before hval hw' (hX _ _ _ (by rfl) hx) hsh).mono fun e W' ⟨v, he, hp⟩ => ?_
  subst he
  exact ChangeSpec.post_blind hp
set_option maxRecDepth 100000 in
theorem lifted (os : Os) (started : os.Started) (H : Type) (enc : TypeId × Value → H) :
    ReturnsInHanded {} Tryd.checked os 5 .any (fun w args => (Rows.fnMetresSpec.pre enc Tryd.prog Tryd.f5 [] false w args ∧ laidMetH Tryd.prog Rows.fnMetresRow.laid w) ∧ sizedMet enc Tryd.prog Tryd.f5 (OpenSpec.ofChange Rows.fnMetresSpec) false w args)
      (Rows.fnMetresSpec.post enc Tryd.prog Tryd.f5 false true false false) := by
  refine returns_and_shaped (C := Tryd.checked) (X := fun w _ => laidMetH Tryd.prog Rows.fnMetresRow.laid w) (fun _ _ _ hh h => h.of_heap hh) own started (by kernel_rfl) Tryd.func5
    (ChangeSpec.witness_shaped (enc := enc) (C := Tryd.checked) (os := os) (X := fun w _ => laidMetH Tryd.prog Rows.fnMetresRow.laid w) false (World.laidAll Tryd.prog os Rows.fnMetresRow.laid) #[.slice none 0 0] 8 (World.laidAll_os _ _ _) (World.shaped_of_ZipB (by kernel_rfl) (by kernel_rfl)) (by kernel_rfl) (by kernel_rfl) (by kernel_rfl)
      (by rw [MakeChecks.laidMetH_plain _ _ _ (by kernel_rfl)]; exact laidMet_laidAll _ (by kernel_rfl) (by kernel_rfl))) ?_
  intro W base args ds gs before hval0 hW hL hsh
  have hval : ∀ (j : Nat) t v, Tryd.f5.params[j]? = some t → args[j]? = some v → Value.okWide Tryd.prog W .any base t v := hval0
  have hW' := hW
  obtain ⟨p, q, hA0, hV, rfl, hfz, hnd⟩ := hW
  have hA : DataW.TrodAll enc Tryd.prog W 0 (fun _ => true) true Tryd.f5.params.toList args.toList ds p := hA0
  rw [Tryd.params5] at hA hval
  obtain ⟨v0, vs0, d0, ds0, pp0, qq0, hargs, rfl, rfl, h0, rr0⟩ := trodAll_cons hA
  obtain ⟨rfl, rfl, rfl⟩ := trodAll_nil rr0
  obtain rfl : args = #[v0] := by cases args; simp_all
  obtain ⟨rfl, rfl⟩ := trodVars_none hV
  have k0_ := h0
  have lt0_ : ∀ x ∈ pp0, x.block < W.heap.size := by obtain ⟨m, hm⟩ := h0; exact DataW.trod_lt m _ _ _ hm
  obtain ⟨p0, len0, cap0, rfl⟩ := okWide_slice Tryd.underlying27 (hval 0 27 v0 rfl rfl)
  obtain ⟨z0, r0⟩ := open_row (k := .u8) Tryd.underlying27 Tryd.underlying5 (by kernel_rfl) h0
  clear hA0 hval0
  refine (walk W (of_laid hL hsh) p0 len0 cap0 r0.bytes8).mono fun e W' ⟨he, bel⟩ => ?_
  subst he
  exact ⟨_, rfl, _, _, _, [], _, [], hW', trodAll_mk1 (shut_bool Tryd.underlying4 _), (trodAll_cons_mk (Below.trod laidOut (by kernel_rfl) (of_decide_eq_true (by kernel_rfl)) k0_ bel lt0_) trodAll_mk0), rfl, bel.frame _, fun h => by cases h⟩
theorem row_holds : Rows.FnMetresSaid :=
  OpenClaim.holds_of_wide 5 Tryd.f5 rfl rfl rfl rfl rfl rfl rfl ⟨rfl, rfl, rfl, rfl, rfl⟩ rfl rfl rfl rfl rfl (by kernel_rfl) Tryd.func5 (by kernel_rfl)
    (of_decide_eq_true (by kernel_rfl)) (by unfold Func.isWrapper; first | (rw [if_pos (by decide +kernel)]; kernel_rfl) | (rw [if_neg (by decide +kernel)]; exact ⟨rfl, rfl⟩))
    (fun os started H enc _ => lifted os started H enc)
/-- the given statement -/
theorem proved : Rows.FnMetresCardSaid :=
  Claim7.holds_tied_plain_at .later [] [.data, .data, .data, .data, .sentinel, .sentinel, .pinned] true (true, "340661cbded442b2c0794ad0825e4cdab3d6a3f825fc1de4e92d73f1eeb715a3") true
    row_holds (fun _ h => by cases h) (by kernel_rfl) (fun _ h => by cases h) fnMetres_row_tie rfl ⟨rfl, rfl⟩ (by kernel_rfl) rfl
    (fun f fn hf hfn => by
      obtain rfl : f = 5 := Option.some.inj ((show Tryd.prog.funcNamed "loop.example/g00916/laws.FnMetres" = some 5 by kernel_rfl).symm.trans hf) |>.symm
      obtain rfl : fn = Tryd.f5 := (Option.some.inj (Tryd.func5.symm.trans hfn)).symm
      exact ⟨by kernel_rfl, fun j t ht => by
        rw [Tryd.params5] at ht
        have hm : t ∈ [27] := by simpa using Array.mem_of_getElem? ht
        have hall : ([27].all fun u => !Tryd.prog.wantsStandIn u) = true := by kernel_rfl
        exact (show Tryd.prog.wantsStandIn t = false by simpa using List.all_eq_true.1 hall t hm)⟩)
    (by kernel_rfl)
#print axioms proved
end pFnMetres

end Go.Proofs.YtfbfiikomlnllaaDoor
