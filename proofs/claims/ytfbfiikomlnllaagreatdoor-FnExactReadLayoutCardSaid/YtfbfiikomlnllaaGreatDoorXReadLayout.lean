/- The Go function laws.FnExactReadLayout returns true for every input and leaves its arguments as they were; conditions: the package variables that the card lists hold at the start what the program's text lays in them. -/
import Derived.Test.YtfbfiikomlnllaaGreatDoorBase
import Derived.Test.YtfbfiikomlnllaaGreatDoorNum
import Derived.Test.YtfbfiikomlnllaaGreatDoorSeg
import Derived.Test.YtfbfiikomlnllaaGreatDoorLay
import Derived.Test.YtfbfiikomlnllaaGreatDoorLay2
import Derived.Test.YtfbfiikomlnllaaGreatDoorLay3
import Derived.Test.YtfbfiikomlnllaaGreatDoorLay13
import Derived.Test.YtfbfiikomlnllaaGreatDoorLay15
import Derived.Test.YtfbfiikomlnllaaGreatDoorLay16
import Derived.Test.YtfbfiikomlnllaaGreatDoorShelf
import Derived.Test.YtfbfiikomlnllaaGreatDoorText1
import Derived.Test.YtfbfiikomlnllaaGreatDoorTextLaw
import Derived.Test.YtfbfiikomlnllaaGreatDoorText2
import Derived.Test.YtfbfiikomlnllaaGreatDoorLayText
import Derived.Test.YtfbfiikomlnllaaGreatDoorRangeB
import Derived.Test.YtfbfiikomlnllaaGreatDoorLines
import Derived.Test.YtfbfiikomlnllaaGreatDoorRead1
import Derived.Test.YtfbfiikomlnllaaGreatDoorRead2
import Derived.Test.YtfbfiikomlnllaaGreatDoorReadLaw
import Derived.Test.YtfbfiikomlnllaaGreatDoorReadSpec
import Derived.Test.YtfbfiikomlnllaaGreatDoorSpec1
import Derived.Test.YtfbfiikomlnllaaGreatDoorSpec2
import Derived.Test.YtfbfiikomlnllaaGreatDoorSpec3
import Derived.Test.YtfbfiikomlnllaaGreatDoorSpec4
import Derived.Test.YtfbfiikomlnllaaGreatDoorHeld
import Derived.Test.YtfbfiikomlnllaaGreatDoorRows
import Derived.Test.YtfbfiikomlnllaaGreatDoorTie
import Derived.Test.YtfbfiikomlnllaaGreatDoorCards
import Derived.Lib.Hide
import Derived.BigQuiet
import Derived.Deep.QuietTactic
import Derived.WalkKit
import Derived.WalkSpells
import Derived.WalkLawsBesides
import Derived.ProofKit
import Derived.OpenShut
import Derived.ShutString
import Derived.ChangeOld
import Derived.Below
import Derived.Deep.RegionHeld3
import Derived.Deep.DeepCutAuto
import Derived.StillTailTactics
import Derived.LaidMore
import Derived.Lib.LaidU8
import Derived.Stop.Joined
import Derived.SevenTiedAt
import Derived.Stop.LaidErr
import Derived.OpenVars
import Derived.ChangeMaps5
import Derived.Lay
namespace Go.Proofs.YtfbfiikomlnllaaGreatDoor
open Go.ChangeShapes Go.WideShapes Go.ChangeAt Go.RowKit
set_option maxHeartbeats 2000000
set_option linter.unusedVariables false
set_option linter.unusedSimpArgs false

-- (6)
/-- an array of strings that reads as a table of words holds the words, cell for cell -/
theorem cells_of_words {H : Type} {enc : TypeId × Value → H} {P : Program} {w : World} {base : Nat} {sp : Nat → Bool} {held : Bool} {fuel : Nat} {t e : TypeId} {n : Nat} {cs : List Value} {ws : List (List UInt8)} {p : List MemPlace}
    (ht : P.underlying t = some (.array n e)) (he : P.underlying e = some .string) (hce : P.cellsOf e = 1) (hct : P.cellsOf t = n)
    (h : DataW.trod enc P w base sp held fuel t cs = some (.agg (ws.map fun x => .lit (.string x)), p)) : cs = ws.map strV := by
  match fuel with
  | 0 => simp [DataW.trod] at h
  | fuel + 1 =>
    simp only [DataW.trod, ht, hce, hct, Nat.mul_one] at h
    split at h
    · rename_i hl
      obtain ⟨xs, hm, hx⟩ := Option.map_eq_some_iff.1 h
      have h1 : xs.map (·.1) = ws.map fun x => (DataW.lit (.string x) : DataW H) := by
        have := congrArg Prod.fst hx
        simpa using this
      have hxl : xs.length = n := by simpa using Lib.mapM_length hm
      have hwl : ws.length = n := by
        have := congrArg List.length h1
        simp at this
        omega
      refine List.ext_getElem? fun i => ?_
      by_cases hi : i < n
      · obtain ⟨b, hb, hf⟩ := Lib.mapM_at hm i i (by simp [hi])
        obtain ⟨s, hc, rfl, _⟩ := DataW.trod_string he hf
        have h2 : cs[i]? = some (.string s) := by
          have := congrArg (·[0]?) hc
          simpa [List.getElem?_take, List.getElem?_drop] using this
        have h3 : (xs.map (·.1))[i]? = some (DataW.lit (.string s.data.toList) : DataW H) := by simp [hb]
        rw [h1, List.getElem?_map] at h3
        obtain ⟨x, hx1, hx2⟩ := Option.map_eq_some_iff.1 h3
        rw [h2, List.getElem?_map, hx1]
        simp only [DataW.lit.injEq, Lit.string.injEq] at hx2
        rw [hx2]
        simp [strV]
      · rw [List.getElem?_eq_none (by omega), List.getElem?_eq_none (by simp; omega)]
    · cases h
theorem words_of_var {w : World} (hg : Tryz.prog.globalNamed "loop.example/g00916/impl.segmentWords" = some 0) (h : w.var? Tryz.prog "loop.example/g00916/impl.segmentWords" = some ([kw 0, kw 1, kw 2, kw 3, kw 4].map strV).toArray) : Words w := by
  unfold World.var? at h
  rw [hg] at h
  simp only [Option.bind_some] at h
  intro k hk
  split at h
  · rename_i c t fr hb
    simp only [Option.some.injEq] at h
    subst h
    have hk' : k = 0 ∨ k = 1 ∨ k = 2 ∨ k = 3 ∨ k = 4 := by omega
    rcases hk' with rfl | rfl | rfl | rfl | rfl <;> simp [World.cell?, hb, strV]
  · cases h

-- (6)
theorem returns_and_shaped {H : Type} {enc : TypeId × Value → H} {a : Assume} {C : Checked} {os : Os} {f : FuncId} {fn : Func} {s : ChangeSpec} {conds : List PathCond} {apart fresh handsOn again : Bool} {X : World → Array Value → Prop}
    (hX : ∀ (w w' : World) (args : Array Value), w.heap = w'.heap → X w args → X w' args)
    (own : ownKnob C.prog.godebug = none) (started : os.Started) (noInit : C.prog.inits.idxOf? f = none) (hfn : C.prog.funcs[f]? = some fn)
    (witness : ∃ (w : World) (tape : Tape) (i : Input), w.os = os ∧ (w.forCall tape i).Shaped C.prog ∧ i.vars = [] ∧ Input.okWide C.prog (w.forCall tape i) .any w.heap.size f i ∧
      ((s.pre enc C.prog fn conds apart (w.forCall tape i).memory i.args ∧ X (w.forCall tape i).memory i.args) ∧ sizedMet enc C.prog fn (OpenSpec.ofChange s) apart (w.forCall tape i).memory i.args) ∧ a.holds C.prog (lone (Frame.enter C.prog f i.args .normal) [] (w.forCall tape i)))
    (contract : ∀ (W : World) (base : Nat) (args : Array Value) (ds gs : List (DataW H)) (before : List MemPlace),
      (∀ (j : Nat) t v, fn.params[j]? = some t → args[j]? = some v → Value.okWide C.prog W .any base t v) →
      DataW.Whole enc C.prog fn.params.toList s.vars apart W args.toList ds gs before → X W args → W.ShapedOpen C.prog →
      Calls C.prog f args W fun e W' => ∃ v, e = .returned v ∧ s.post enc C.prog fn apart fresh handsOn again W args v W') :
    ReturnsInHanded a C os f .any (fun w args => (s.pre enc C.prog fn conds apart w args ∧ X w args) ∧ sizedMet enc C.prog fn (OpenSpec.ofChange s) apart w args) (s.post enc C.prog fn apart fresh handsOn again) := by
  refine returnsInHanded_of_calls own started noInit witness ?_
  intro w tape i _ hsh _ hok hpre _
  obtain ⟨_, _, _, fn', hfn', _, _, _, _, hval⟩ := hok
  have e : fn' = fn := Option.some.inj (hfn'.symm.trans hfn)
  subst e
  obtain ⟨⟨⟨ds, gs, before, hw, _⟩, hx⟩, _⟩ := hpre
  have hw' := DataW.Whole.of_heap (w' := w.forCall tape i) (by rfl) hw
  refine (contract (w.forCall tape i) w.heap.size i.args ds gs before hval hw' (hX _ _ _ (by rfl) hx) hsh).mono fun e W' ⟨v, he, hp⟩ => ?_
  subst he
  exact ChangeSpec.post_blind hp
theorem layQ_out {t : TypeId} {w : World} {o : Option (List Seg)} {e : Ending} {w' : World} (h : LayQ t w o e w') : ∃ q c, e = .returned (.tuple #[.agg #[.slice q (o.getD []).length c], .bool o.isSome]) ∧ OwnQ t 7 w.heap.size w' q (o.getD []).length (segF (o.getD [])) := by
  cases o with
  | some zs => exact h
  | none => exact ⟨none, 0, h, OwnQ.nil _ _ _ _ _⟩
theorem gPow : Tryz.prog.globalNamed "internal/strconv.uint64pow10" = some 6 := by kernel_rfl
theorem tPow : (Tryz.prog.globals[6]?).map (·.type) = some 138 := by kernel_rfl
theorem dPow : (Rows.laid_internal_strconv_uint64pow10 : DataW Unit) = Lib.tabData .u64 Lib.pow10Tab := by kernel_rfl
theorem star : "*" ++ "errors.errorString" = "*errors.errorString" := by decide
theorem rowE (u : TypeId) (h : Tryz.prog.typeName? 3 u = some "*errors.errorString") : u = 134 :=
  typeName_ptr_named (nm := "errors.errorString") (by rw [star]; kernel_rfl) (by kernel_rfl) (by decide) u (by rw [star]; exact h)
theorem gW : Tryz.prog.globalNamed "loop.example/g00916/impl.segmentWords" = some 0 := by kernel_rfl
theorem tW : (Tryz.prog.globals[0]?).map (·.type) = some 53 := by kernel_rfl
theorem dW : (Rows.laid_loop_example_g00916_impl_segmentWords : DataW Unit) = .agg (([kw 0, kw 1, kw 2, kw 3, kw 4] : List (List UInt8)).map fun x => .lit (.string x)) := by kernel_rfl

namespace pFnExactReadLayout
set_option maxRecDepth 100000 in
set_option maxHeartbeats 8000000 in
theorem walk (w : World) (ht : Rd Tryz.prog w) (hw : Words w) (s : List UInt8) :
    Calls Tryz.prog 3 #[strV s] w fun e w' => e = .returned (.bool true) ∧ Below w.heap.size w w' := by
  have HT := Lib.hid ht
  have HW := Lib.hid hw
  have hsz : (⟨s.toArray⟩ : ByteArray).size = s.length := rfl
  clear ht hw
  by_cases hl : s.length ≤ 1048576
  · obtain ⟨zs, hzs⟩ : ∃ zs, (riI s).getD [] = zs := ⟨_, rfl⟩
    obtain ⟨b, hb⟩ : ∃ b, (riI s).isSome = b := ⟨_, rfl⟩
    have C1 : Hid (∀ w, Calls Tryz.prog 5 #[strV s] w fun e w' => (∃ q c, e = .returned (.tuple #[.agg #[.slice q zs.length c], .bool b]) ∧ OwnQ 41 7 w.heap.size w' q zs.length (segF zs)) ∧ Below w.heap.size w w') := fun w => by
      rw [← hzs, ← hb, ← riS_eq]
      exact (s_ReadLayout s hl w).mono fun e w' h => ⟨layQ_out h.1, h.2⟩
    have C2 : Hid (∀ w, Rd Tryz.prog w → Words w → Calls Tryz.prog 6 #[strV s] w fun e w' => (∃ q c, e = .returned (.tuple #[.agg #[.slice q zs.length c], .bool b]) ∧ OwnQ 41 7 w.heap.size w' q zs.length (segF zs)) ∧ Below w.heap.size w w') := fun w h1 h2 => by
      rw [← hzs, ← hb]
      exact (i_ReadLayout s hl w h1 h2).mono fun e w' h => ⟨layQ_out h.1, h.2⟩
    obtain ⟨m, hm⟩ : ∃ m : Nat, 1 + zs.length * 7 = m := ⟨_, rfl⟩
    have CM : Hid (∀ q c B w, OwnQ 41 7 B w q zs.length (segF zs) → Calls Tryz.prog 8 #[.agg #[.slice q zs.length c], .int .i64 1] w fun e w' => e = .returned (.int .i64 (m : Int)) ∧ OwnQ 41 7 B w' q zs.length (fun i => ((1 + i : Nat) : Int)) ∧ Chg q w w') := fun q c B w h => by
      rw [← hm]
      exact l_markLayoutQ q zs.length c _ B w h
    have CH : Hid (∀ q c B w, OwnQ 41 7 B w q zs.length (fun i => ((1 + i : Nat) : Int)) → Calls Tryz.prog 9 #[.agg #[.slice q zs.length c], .int .i64 1] w fun e w' => e = .returned (.int .i64 (m : Int)) ∧ Below w.heap.size w w') := fun q c B w h => by
      rw [← hm]
      exact l_heldLayout1 q zs.length c B w h
    have hm0 : ¬ (m : Int) < 0 := by omega
    have hl2 : (s.length : Int) ≤ 1048576 := by omega
    clear hzs hb hm
    obtain ⟨n, hn⟩ : ∃ n, zs.length = n := ⟨_, rfl⟩
    have SO : Hid (∀ w B q, OwnQ 41 7 B w q n (segF zs) → Segs w q n zs) := fun w B q h => by
      rw [← hn] at h ⊢
      exact segs_own h
    rw [hn] at C1 C2 CM CH
    obtain ⟨F, hF⟩ : ∃ F, segF zs = F := ⟨_, rfl⟩
    rw [hF] at C1 C2 CM SO
    clear hn hF
    go_enter Tryz.func3, Tryz.ntmps3
    go_wp2_with fail
    refine (C1.out _).mono ?_
    rintro e w1 ⟨⟨q1, c1, rfl, Q1⟩, hb1⟩
    have O1 := Lib.hid (Own.alloc hb1 (Obj.cells #[.slice q1 n c1] 24))
    have X1 := Lib.hid (Q1.keep (balloc (Below.refl _ _) (Obj.cells #[.slice q1 n c1] 24)))
    have N1 : Hid (∀ a, q1 = some a → a.block < w1.heap.size) := fun a ha => (Q1.2.1 a ha).2
    have hw1 : w.heap.size ≤ w1.heap.size := hb1.size
    clear hb1 Q1 C1
    go_wp2_with fail
    refine (C2.out _ (HT.out.keep O1.out) (HW.out.keep O1.out)).mono ?_
    rintro e w2 ⟨⟨q2, c2, rfl, Q2⟩, hb2⟩
    have O2 := Lib.hid ((O1.out.join hb2).alloc (Obj.cells #[.slice q2 n c2] 24))
    have X2 := Lib.hid ((X1.out.keep hb2).keep (balloc (Below.refl _ _) (Obj.cells #[.slice q2 n c2] 24)))
    have Y2 := Lib.hid (Q2.keep (balloc (Below.refl _ _) (Obj.cells #[.slice q2 n c2] 24)))
    have N2 : Hid (∀ a, q2 = some a → w1.heap.size + 1 ≤ a.block ∧ a.block < w2.heap.size) := fun a ha => by
      have h := Q2.2.1 a ha
      rw [World.size_alloc] at h
      exact h
    have b1 : w2.cell? ⟨w1.heap.size, 0, none⟩ = some (.slice q1 n c1) := by rw [(below_box (k := w1.heap.size) hb2 (by simp)).1 0]; go_simp
    have hw2 : w1.heap.size < w2.heap.size := World.block_lt_of_cell? w2 _ b1
    clear hb2 Q2 X1 O1
    go_wp2_with fail
    refine (l_eqLayout q2 q1 n c2 c1 zs _ (SO.out _ _ _ Y2.out) (SO.out _ _ _ X2.out)).mono ?_
    rintro e w3 ⟨rfl, hb3⟩
    have O3 := Lib.hid (O2.out.join hb3)
    have X3 := Lib.hid (X2.out.keep hb3)
    have Y3 := Lib.hid (Y2.out.keep hb3)
    have d1 : w3.cell? ⟨w1.heap.size, 0, none⟩ = some (.slice q1 n c1) := by rw [(below_box (k := w1.heap.size) hb3 (by simp; omega)).1 0]; go_simp
    have d2 : w3.cell? ⟨w2.heap.size, 0, none⟩ = some (.slice q2 n c2) := by rw [(below_box (k := w2.heap.size) hb3 (by simp)).1 0]; go_simp
    have hw3 : w2.heap.size < w3.heap.size := World.block_lt_of_cell? w3 _ d2
    clear hb3 O2 X2 Y2 b1
    go_wp2_with fail
    refine (CM.out q2 c2 _ _ Y3.out).mono ?_
    rintro e w4 ⟨rfl, Q4, hc4⟩
    have O4 : Hid (Own w w4) := Below.trans O3.out.below (hc4.below O3.out.le (fun a ha => by have := N2.out a ha; omega))
    have X4 := Lib.hid (X3.out.other hc4 (fun a b ha hb => by have := N1.out a ha; have := N2.out b hb; omega))
    have Y4 := Lib.hid Q4
    have e1 : w4.cell? ⟨w1.heap.size, 0, none⟩ = some (.slice q1 n c1) := (World.cell?_of_block (a := ⟨w1.heap.size, 0, none⟩) (hc4.block w1.heap.size (by omega) (fun a ha => by have := N2.out a ha; omega))).trans d1
    have e2 : w4.cell? ⟨w2.heap.size, 0, none⟩ = some (.slice q2 n c2) := (World.cell?_of_block (a := ⟨w2.heap.size, 0, none⟩) (hc4.block w2.heap.size (by omega) (fun a ha => by have := N2.out a ha; omega))).trans d2
    have hw4 := hc4.size
    clear hc4 Q4 X3 Y3 O3 d1 d2
    go_wp2_with fail
    refine (CH.out q2 c2 _ _ Y4.out).mono ?_
    rintro e w5 ⟨rfl, hb5⟩
    have O5 := Lib.hid (O4.out.join hb5)
    have X5 := Lib.hid (X4.out.keep hb5)
    have Y5 := Lib.hid (Y4.out.keep hb5)
    have d1 : w5.cell? ⟨w1.heap.size, 0, none⟩ = some (.slice q1 n c1) := by rw [(below_box (k := w1.heap.size) hb5 (by omega)).1 0]; exact e1
    have d2 : w5.cell? ⟨w2.heap.size, 0, none⟩ = some (.slice q2 n c2) := by rw [(below_box (k := w2.heap.size) hb5 (by omega)).1 0]; exact e2
    have hw5 := hb5.size
    clear hb5 X4 Y4 O4 e1 e2
    go_wp2_with fail
    refine (C2.out _ (HT.out.keep O5.out) (HW.out.keep O5.out)).mono ?_
    rintro e w6 ⟨⟨q6, c6, rfl, Q6⟩, hb6⟩
    have O6 := Lib.hid ((O5.out.join hb6).alloc (Obj.cells #[.slice q6 n c6] 24))
    have X6 := Lib.hid ((X5.out.keep hb6).keep (balloc (Below.refl _ _) (Obj.cells #[.slice q6 n c6] 24)))
    have Y6 := Lib.hid ((Y5.out.keep hb6).keep (balloc (Below.refl _ _) (Obj.cells #[.slice q6 n c6] 24)))
    have Z6 := Lib.hid (Q6.keep (balloc (Below.refl _ _) (Obj.cells #[.slice q6 n c6] 24)))
    have e1 : w6.cell? ⟨w1.heap.size, 0, none⟩ = some (.slice q1 n c1) := by rw [(below_box (k := w1.heap.size) hb6 (by omega)).1 0]; exact d1
    have e2 : w6.cell? ⟨w2.heap.size, 0, none⟩ = some (.slice q2 n c2) := by rw [(below_box (k := w2.heap.size) hb6 (by omega)).1 0]; exact d2
    have hw6 := hb6.size
    have l1 : w1.heap.size < w6.heap.size := by omega
    have l2 : w2.heap.size < w6.heap.size := by omega
    clear hb6 Q6 X5 Y5 O5 d1 d2
    go_wp2_with fail
    refine (l_eqLayout q6 q1 n c6 c1 zs _ (SO.out _ _ _ Z6.out) (SO.out _ _ _ X6.out)).mono ?_
    rintro e w7 ⟨rfl, hb7⟩
    have O7 := Lib.hid (O6.out.join hb7)
    have Y7 := Lib.hid (Y6.out.keep hb7)
    have d2 : w7.cell? ⟨w2.heap.size, 0, none⟩ = some (.slice q2 n c2) := by rw [(below_box (k := w2.heap.size) hb7 (by simp; omega)).1 0]; go_simp
    clear hb7 X6 Y6 Z6 O6 e1 e2
    go_wp2_with fail
    refine (CH.out q2 c2 _ _ Y7.out).mono ?_
    rintro e w8 ⟨rfl, hb8⟩
    have O8 := Lib.hid (O7.out.join hb8)
    clear hb8
    go_wp2_with fail
    go_ret
    exact ⟨rfl, O8.out⟩
  · have hl2 : (1048576 : Int) < s.length := by omega
    go_enter Tryz.func3, Tryz.ntmps3
    go_wp2_with fail
    go_ret
    exact ⟨rfl, Below.refl _ _⟩
theorem own : ownKnob Tryz.prog.godebug = none := by kernel_rfl
theorem laidOut : laidOutB Tryz.prog = true := by kernel_rfl
theorem of_laid {W : World} (h : laidMetH Tryz.prog Rows.fnExactReadLayoutRow.laid W) (hs : W.ShapedOpen Tryz.prog) : Rd Tryz.prog W ∧ Words W := by
  rw [MakeChecks.laidMetH_plain _ _ _ (by kernel_rfl)] at h
  refine ⟨⟨?_, Tryz.laysM146.s1_3 W hs, ?_, ?_⟩, ?_⟩
  · obtain ⟨g, t, cs, fuel, p, hg, ht, hv, hd⟩ := Lib.laidMet.reads h (n := "internal/strconv.uint64pow10") (d := Rows.laid_internal_strconv_uint64pow10) (.tail _ (.tail _ (.head _)))
    obtain rfl := Option.some.inj (gPow.symm.trans hg)
    obtain rfl := Option.some.inj (tPow.symm.trans ht)
    rw [dPow] at hd
    show World.var? _ _ _ = _
    rw [hv, ← Lib.cells_of_tab Tryz.underlying138 Tryz.underlying106 (by kernel_rfl) (by kernel_rfl) hd]
  · obtain ⟨a, s, hv, -⟩ := laid_sentinel (n := "strconv.ErrSyntax") (g := 4) (ti := 84) (te := 136) (ts := 9) h.tail.tail.tail.tail.tail (by kernel_rfl) (by kernel_rfl) Tryz.underlying84 rowE Tryz.underlying134 Tryz.underlying136 rfl rfl Tryz.underlying9 (by kernel_rfl) (by kernel_rfl)
    exact ⟨_, _, hv⟩
  · obtain ⟨a, s, hv, -⟩ := laid_sentinel (n := "strconv.ErrRange") (g := 5) (ti := 84) (te := 136) (ts := 9) h.tail.tail.tail.tail (by kernel_rfl) (by kernel_rfl) Tryz.underlying84 rowE Tryz.underlying134 Tryz.underlying136 rfl rfl Tryz.underlying9 (by kernel_rfl) (by kernel_rfl)
    exact ⟨_, _, hv⟩
  · obtain ⟨g, t, cs, fuel, p, hg, ht, hv, hd⟩ := Lib.laidMet.reads h (n := "loop.example/g00916/impl.segmentWords") (d := Rows.laid_loop_example_g00916_impl_segmentWords) (.tail _ (.tail _ (.tail _ (.tail _ (.tail _ (.tail _ (.head _)))))))
    obtain rfl := Option.some.inj (gW.symm.trans hg)
    obtain rfl := Option.some.inj (tW.symm.trans ht)
    rw [dW] at hd
    refine words_of_var gW ?_
    rw [hv, ← cells_of_words Tryz.underlying53 Tryz.underlying9 (by kernel_rfl) (by kernel_rfl) hd]
set_option maxRecDepth 100000 in
theorem lifted (os : Os) (started : os.Started) (H : Type) (enc : TypeId × Value → H) :
    ReturnsInHanded {} Tryz.checked os 3 .any (fun w args => (Rows.fnExactReadLayoutSpec.pre enc Tryz.prog Tryz.f3 [] false w args ∧ laidMetH Tryz.prog Rows.fnExactReadLayoutRow.laid w) ∧ sizedMet enc Tryz.prog Tryz.f3 (OpenSpec.ofChange Rows.fnExactReadLayoutSpec) false w args)
      (Rows.fnExactReadLayoutSpec.post enc Tryz.prog Tryz.f3 false true false false) := by
  refine returns_and_shaped (C := Tryz.checked) (X := fun w _ => laidMetH Tryz.prog Rows.fnExactReadLayoutRow.laid w) (fun _ _ _ hh h => h.of_heap hh) own started (by kernel_rfl) Tryz.func3
    (ChangeSpec.witness_shaped (enc := enc) (C := Tryz.checked) (os := os) (X := fun w _ => laidMetH Tryz.prog Rows.fnExactReadLayoutRow.laid w) false (World.laidAll Tryz.prog os Rows.fnExactReadLayoutRow.laid) #[.string ⟨#[]⟩] 8 (World.laidAll_os _ _ _) (World.shaped_of_ZipB (by kernel_rfl) (by kernel_rfl)) (by kernel_rfl) (by kernel_rfl) (by kernel_rfl)
      (by rw [MakeChecks.laidMetH_plain _ _ _ (by kernel_rfl)]; exact laidMet_laidAll _ (by kernel_rfl) (by kernel_rfl))) ?_
  intro W base args ds gs before hval0 hW hL hsh
  have hval : ∀ (j : Nat) t v, Tryz.f3.params[j]? = some t → args[j]? = some v → Value.okWide Tryz.prog W .any base t v := hval0
  have hW' := hW
  obtain ⟨p, q, hA0, hV, rfl, hfz, hnd⟩ := hW
  have hA : DataW.TrodAll enc Tryz.prog W 0 (fun _ => true) true Tryz.f3.params.toList args.toList ds p := hA0
  rw [Tryz.params3] at hA hval
  obtain ⟨v0, vs0, d0, ds0, pp0, qq0, hargs, rfl, rfl, h0, rr0⟩ := trodAll_cons hA
  obtain ⟨rfl, rfl, rfl⟩ := trodAll_nil rr0
  obtain rfl : args = #[v0] := by cases args; simp_all
  have hV2 : DataW.TrodVars enc Tryz.prog W (fun _ => true) ["loop.example/g00916/impl.segmentWords"] gs q := hV
  obtain ⟨gg, tt, cs, fu, dd, pv, hgs, hv1, hv2, hv3, hv4, hv5⟩ := trodVars_one hV2
  subst hgs
  have k0_ := h0
  have lt0_ : ∀ x ∈ pp0, x.block < W.heap.size := by obtain ⟨m, hm⟩ := h0; exact DataW.trod_lt m _ _ _ hm
  obtain ⟨s, rfl, -, -, ws⟩ := ChangeMaps.open_string Tryz.underlying9 (hval 0 9 v0 rfl rfl) h0
  have hstr : (.string s : Value) = strV s.data.toList := by simp [strV]
  clear hA0 hval0
  have hfac := of_laid hL hsh
  rw [hstr]
  refine (walk W hfac.1 hfac.2 s.data.toList).mono fun e W' ⟨he, bel⟩ => ?_
  subst he
  have hVW := Below.trodVars laidOut bel (by kernel_rfl) hV2
  exact ⟨_, rfl, _, _, _, [], _, _, hW', trodAll_mk1 (shut_bool Tryz.underlying4 _), (trodAll_cons_mk (Below.trod laidOut (by kernel_rfl) (of_decide_eq_true (by kernel_rfl)) k0_ bel lt0_) trodAll_mk0), hVW, bel.frame _, fun h => by cases h⟩
theorem row_holds : Rows.FnExactReadLayoutSaid :=
  OpenClaim.holds_of_wide 3 Tryz.f3 rfl rfl rfl rfl rfl rfl rfl ⟨rfl, rfl, rfl, rfl, rfl⟩ rfl rfl rfl rfl rfl (by kernel_rfl) Tryz.func3 (by kernel_rfl)
    (of_decide_eq_true (by kernel_rfl)) (by unfold Func.isWrapper; first | (rw [if_pos (by decide +kernel)]; kernel_rfl) | (rw [if_neg (by decide +kernel)]; exact ⟨rfl, rfl⟩))
    (fun os started H enc _ => lifted os started H enc)
/-- the given statement -/
theorem proved : Rows.FnExactReadLayoutCardSaid :=
  Claim7.holds_tied_plain_at .later [] [.data, .data, .data, .data, .sentinel, .sentinel, .widerDeep, .pinned] true (true, "640f199a66f770036d3eaf46a388f160c943ed2b2031c6ef5a8d7898a1fbeffc") true
    row_holds (fun _ h => by cases h) (by kernel_rfl) (fun _ h => by cases h) fnExactReadLayout_row_tie rfl ⟨rfl, rfl⟩ (by kernel_rfl) rfl
    (fun f fn hf hfn => by
      obtain rfl : f = 3 := Option.some.inj ((show Tryz.prog.funcNamed "loop.example/g00916/laws.FnExactReadLayout" = some 3 by kernel_rfl).symm.trans hf) |>.symm
      obtain rfl : fn = Tryz.f3 := (Option.some.inj (Tryz.func3.symm.trans hfn)).symm
      exact ⟨by kernel_rfl, fun j t ht => by
        rw [Tryz.params3] at ht
        have hm : t ∈ [9] := by simpa using Array.mem_of_getElem? ht
        have hall : ([9].all fun u => !Tryz.prog.wantsStandIn u) = true := by kernel_rfl
        exact (show Tryz.prog.wantsStandIn t = false by simpa using List.all_eq_true.1 hall t hm)⟩)
    (by kernel_rfl)
#print axioms proved
end pFnExactReadLayout

end Go.Proofs.YtfbfiikomlnllaaGreatDoor
