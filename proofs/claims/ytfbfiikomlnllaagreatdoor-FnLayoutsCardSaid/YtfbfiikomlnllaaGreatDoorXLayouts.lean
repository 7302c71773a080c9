/- The Go function laws.FnLayouts returns true for every input and leaves its arguments as they were; conditions: the package variables that the card lists hold at the start what the program's text lays in them. -/
import Derived.Test.YtfbfiikomlnllaaGreatDoorBase
import Derived.Test.YtfbfiikomlnllaaGreatDoorNum
import Derived.Test.YtfbfiikomlnllaaGreatDoorSeg
import Derived.Test.YtfbfiikomlnllaaGreatDoorLay
import Derived.Test.YtfbfiikomlnllaaGreatDoorLay2
import Derived.Test.YtfbfiikomlnllaaGreatDoorLay3
import Derived.Test.YtfbfiikomlnllaaGreatDoorLay13
import Derived.Test.YtfbfiikomlnllaaGreatDoorLay15
import Derived.Test.YtfbfiikomlnllaaGreatDoorLay16
import Derived.Test.YtfbfiikomlnllaaGreatDoorShelf
import Derived.Test.YtfbfiikomlnllaaGreatDoorText1
import Derived.Test.YtfbfiikomlnllaaGreatDoorTextLaw
import Derived.Test.YtfbfiikomlnllaaGreatDoorText2
import Derived.Test.YtfbfiikomlnllaaGreatDoorLayText
import Derived.Test.YtfbfiikomlnllaaGreatDoorRangeB
import Derived.Test.YtfbfiikomlnllaaGreatDoorLines
import Derived.Test.YtfbfiikomlnllaaGreatDoorRead1
import Derived.Test.YtfbfiikomlnllaaGreatDoorRead2
import Derived.Test.YtfbfiikomlnllaaGreatDoorReadLaw
import Derived.Test.YtfbfiikomlnllaaGreatDoorReadSpec
import Derived.Test.YtfbfiikomlnllaaGreatDoorSpec1
import Derived.Test.YtfbfiikomlnllaaGreatDoorSpec2
import Derived.Test.YtfbfiikomlnllaaGreatDoorSpec3
import Derived.Test.YtfbfiikomlnllaaGreatDoorSpec4
import Derived.Test.YtfbfiikomlnllaaGreatDoorHeld
import Derived.Test.YtfbfiikomlnllaaGreatDoorDraw
import Derived.Test.YtfbfiikomlnllaaGreatDoorDice
import Derived.Test.YtfbfiikomlnllaaGreatDoorLawKit
import Derived.Test.YtfbfiikomlnllaaGreatDoorLDraw
import Derived.Test.YtfbfiikomlnllaaGreatDoorLDraw2
import Derived.Test.YtfbfiikomlnllaaGreatDoorLLaw
import Derived.Test.YtfbfiikomlnllaaGreatDoorText3
import Derived.Test.YtfbfiikomlnllaaGreatDoorRDraw
import Derived.Test.YtfbfiikomlnllaaGreatDoorRDamage
import Derived.Test.YtfbfiikomlnllaaGreatDoorRDraw2
import Derived.Test.YtfbfiikomlnllaaGreatDoorRows
import Derived.Test.YtfbfiikomlnllaaGreatDoorTie
import Derived.Test.YtfbfiikomlnllaaGreatDoorCards
import Derived.Lib.Hide
import Derived.BigQuiet
import Derived.Deep.QuietTactic
import Derived.WalkKit
import Derived.WalkSpells
import Derived.WalkLawsBesides
import Derived.ProofKit
import Derived.OpenShut
import Derived.ShutString
import Derived.ChangeOld
import Derived.Below
import Derived.Deep.RegionHeld3
import Derived.Deep.DeepCutAuto
import Derived.StillTailTactics
import Derived.LaidMore
import Derived.Lib.LaidU8
import Derived.Stop.Joined
import Derived.SevenTiedAt
import Derived.Stop.LaidErr
import Derived.OpenVars
import Derived.ChangeMaps5
import Derived.Lay
namespace Go.Proofs.YtfbfiikomlnllaaGreatDoor
open Go.ChangeShapes Go.WideShapes Go.ChangeAt Go.RowKit
set_option maxHeartbeats 2000000
set_option linter.unusedVariables false
set_option linter.unusedSimpArgs false

-- (6)
/-- an array of strings that reads as a table of words holds the words, cell for cell -/
theorem cells_of_words {H : Type} {enc : TypeId × Value → H} {P : Program} {w : World} {base : Nat} {sp : Nat → Bool} {held : Bool} {fuel : Nat} {t e : TypeId} {n : Nat} {cs : List Value} {ws : List (List UInt8)} {p : List MemPlace}
    (ht : P.underlying t = some (.array n e)) (he : P.underlying e = some .string) (hce : P.cellsOf e = 1) (hct : P.cellsOf t = n)
    (h : DataW.trod enc P w base sp held fuel t cs = some (.agg (ws.map fun x => .lit (.string x)), p)) : cs = ws.map strV := by
  match fuel with
  | 0 => simp [DataW.trod] at h
  | fuel + 1 =>
    simp only [DataW.trod, ht, hce, hct, Nat.mul_one] at h
    split at h
    · rename_i hl
      obtain ⟨xs, hm, hx⟩ := Option.map_eq_some_iff.1 h
      have h1 : xs.map (·.1) = ws.map fun x => (DataW.lit (.string x) : DataW H) := by
        have := congrArg Prod.fst hx
        simpa using this
      have hxl : xs.length = n := by simpa using Lib.mapM_length hm
      have hwl : ws.length = n := by
        have := congrArg List.length h1
        simp at this
        omega
      refine List.ext_getElem? fun i => ?_
      by_cases hi : i < n
      · obtain ⟨b, hb, hf⟩ := Lib.mapM_at hm i i (by simp [hi])
        obtain ⟨s, hc, rfl, _⟩ := DataW.trod_string he hf
        have h2 : cs[i]? = some (.string s) := by
          have := congrArg (·[0]?) hc
          simpa [List.getElem?_take, List.getElem?_drop] using this
        have h3 : (xs.map (·.1))[i]? = some (DataW.lit (.string s.data.toList) : DataW H) := by simp [hb]
        rw [h1, List.getElem?_map] at h3
        obtain ⟨x, hx1, hx2⟩ := Option.map_eq_some_iff.1 h3
        rw [h2, List.getElem?_map, hx1]
        simp only [DataW.lit.injEq, Lit.string.injEq] at hx2
        rw [hx2]
        simp [strV]
      · rw [List.getElem?_eq_none (by omega), List.getElem?_eq_none (by simp; omega)]
    · cases h
theorem words_of_var {w : World} (hg : Tryz.prog.globalNamed "loop.example/g00916/impl.segmentWords" = some 0) (h : w.var? Tryz.prog "loop.example/g00916/impl.segmentWords" = some ([kw 0, kw 1, kw 2, kw 3, kw 4].map strV).toArray) : Words w := by
  unfold World.var? at h
  rw [hg] at h
  simp only [Option.bind_some] at h
  intro k hk
  split at h
  · rename_i c t fr hb
    simp only [Option.some.injEq] at h
    subst h
    have hk' : k = 0 ∨ k = 1 ∨ k = 2 ∨ k = 3 ∨ k = 4 := by omega
    rcases hk' with rfl | rfl | rfl | rfl | rfl <;> simp [World.cell?, hb, strV]
  · cases h

-- (6)
theorem returns_and_shaped {H : Type} {enc : TypeId × Value → H} {a : Assume} {C : Checked} {os : Os} {f : FuncId} {fn : Func} {s : ChangeSpec} {conds : List PathCond} {apart fresh handsOn again : Bool} {X : World → Array Value → Prop}
    (hX : ∀ (w w' : World) (args : Array Value), w.heap = w'.heap → X w args → X w' args)
    (own : ownKnob C.prog.godebug = none) (started : os.Started) (noInit : C.prog.inits.idxOf? f = none) (hfn : C.prog.funcs[f]? = some fn)
    (witness : ∃ (w : World) (tape : Tape) (i : Input), w.os = os ∧ (w.forCall tape i).Shaped C.prog ∧ i.vars = [] ∧ Input.okWide C.prog (w.forCall tape i) .any w.heap.size f i ∧
      ((s.pre enc C.prog fn conds apart (w.forCall tape i).memory i.args ∧ X (w.forCall tape i).memory i.args) ∧ sizedMet enc C.prog fn (OpenSpec.ofChange s) apart (w.forCall tape i).memory i.args) ∧ a.holds C.prog (lone (Frame.enter C.prog f i.args .normal) [] (w.forCall tape i)))
    (contract : ∀ (W : World) (base : Nat) (args : Array Value) (ds gs : List (DataW H)) (before : List MemPlace),
      (∀ (j : Nat) t v, fn.params[j]? = some t → args[j]? = some v → Value.okWide C.prog W .any base t v) →
      DataW.Whole enc C.prog fn.params.toList s.vars apart W args.toList ds gs before → X W args → W.ShapedOpen C.prog →
      Calls C.prog f args W fun e W' => ∃ v, e = .returned v ∧ s.post enc C.prog fn apart fresh handsOn again W args v W') :
    ReturnsInHanded a C os f .any (fun w args => (s.pre enc C.prog fn conds apart w args ∧ X w args) ∧ sizedMet enc C.prog fn (OpenSpec.ofChange s) apart w args) (s.post enc C.prog fn apart fresh handsOn again) := by
  refine returnsInHanded_of_calls own started noInit witness ?_
  intro w tape i _ hsh _ hok hpre _
  obtain ⟨_, _, _, fn', hfn', _, _, _, _, hval⟩ := hok
  have e : fn' = fn := Option.some.inj (hfn'.symm.trans hfn)
  subst e
  obtain ⟨⟨⟨ds, gs, before, hw, _⟩, hx⟩, _⟩ := hpre
  have hw' := DataW.Whole.of_heap (w' := w.forCall tape i) (by rfl) hw
  refine (contract (w.forCall tape i) w.heap.size i.args ds gs before hval hw' (hX _ _ _ (by rfl) hx) hsh).mono fun e W' ⟨v, he, hp⟩ => ?_
  subst he
  exact ChangeSpec.post_blind hp
theorem layQ_out {t : TypeId} {w : World} {o : Option (List Seg)} {e : Ending} {w' : World} (h : LayQ t w o e w') : ∃ q c, e = .returned (.tuple #[.agg #[.slice q (o.getD []).length c], .bool o.isSome]) ∧ OwnQ t 7 w.heap.size w' q (o.getD []).length (segF (o.getD [])) := by
  cases o with
  | some zs => exact h
  | none => exact ⟨none, 0, h, OwnQ.nil _ _ _ _ _⟩
theorem gPow : Tryz.prog.globalNamed "internal/strconv.uint64pow10" = some 6 := by kernel_rfl
theorem tPow : (Tryz.prog.globals[6]?).map (·.type) = some 138 := by kernel_rfl
theorem dPow : (Rows.laid_internal_strconv_uint64pow10 : DataW Unit) = Lib.tabData .u64 Lib.pow10Tab := by kernel_rfl
theorem star : "*" ++ "errors.errorString" = "*errors.errorString" := by decide
theorem rowE (u : TypeId) (h : Tryz.prog.typeName? 3 u = some "*errors.errorString") : u = 134 :=
  typeName_ptr_named (nm := "errors.errorString") (by rw [star]; kernel_rfl) (by kernel_rfl) (by decide) u (by rw [star]; exact h)
theorem gW : Tryz.prog.globalNamed "loop.example/g00916/impl.segmentWords" = some 0 := by kernel_rfl
theorem tW : (Tryz.prog.globals[0]?).map (·.type) = some 53 := by kernel_rfl
theorem dW : (Rows.laid_loop_example_g00916_impl_segmentWords : DataW Unit) = .agg (([kw 0, kw 1, kw 2, kw 3, kw 4] : List (List UInt8)).map fun x => .lit (.string x)) := by kernel_rfl

namespace pFnLayouts
theorem ri_nil : riI [] = none := by
  cases h : riI [] with
  | none => rfl
  | some zs =>
    have h2 := riI_iff.1 h
    have h3 := (layOk_iff.1 h2.1).1
    cases zs with
    | nil => exact absurd h3 (by simp)
    | cons a r =>
      have h4 := layT_flat (a :: r)
      rw [h2.2] at h4
      simp at h4
theorem draw_lay (zs : List Seg) : ∃ t k zs1 b, layTR zs = t ∧ layOk zs = b ∧ t.length ≤ 1048576 ∧ (riI t).getD [] = zs1 ∧ (riI t).isSome = b ∧ zs1.length = k ∧ (b = true ∧ zs1 = zs ∨ b = false) := by
  have hl := layTR_len zs
  rcases Bool.eq_false_or_eq_true (layOk zs) with h | h
  · have e : layTR zs = layT zs := by unfold layTR; rw [if_pos h]
    have hr : riI (layT zs) = some zs := riI_iff.2 ⟨h, rfl⟩
    rw [e] at hl
    exact ⟨layT zs, zs.length, zs, true, e, h, by omega, by rw [hr]; rfl, by rw [hr]; rfl, rfl, .inl ⟨rfl, rfl⟩⟩
  · have e : layTR zs = [] := by unfold layTR; rw [if_neg (by rw [h]; simp)]
    exact ⟨[], 0, [], false, e, h, by simp, by rw [ri_nil]; rfl, by rw [ri_nil]; rfl, rfl, .inr rfl⟩
theorem read_lay (l : List UInt8) : ∃ k zs b, (riI l).getD [] = zs ∧ (riI l).isSome = b ∧ zs.length = k ∧ (b = true ∧ k ≤ 1048576 ∧ layTR zs = l ∨ b = false) := by
  cases h : riI l with
  | none => exact ⟨0, [], false, rfl, rfl, rfl, .inr rfl⟩
  | some zs =>
    have h2 := riI_iff.1 h
    have h3 := (layOk_iff.1 h2.1).2.1
    exact ⟨zs.length, zs, true, rfl, rfl, rfl, .inl ⟨rfl, by omega, by unfold layTR; rw [if_pos h2.1]; exact h2.2⟩⟩
theorem lay_of {t : TypeId} {w : World} {o : Option (List Seg)} {e : Ending} {w' : World} {zs : List Seg} {b : Bool} {k : Nat} (h : LayQ t w o e w') (h1 : o.getD [] = zs) (h2 : o.isSome = b) (h3 : zs.length = k) :
    ∃ q c, e = .returned (.tuple #[.agg #[.slice q k c], .bool b]) ∧ Segs w' q k zs := by
  obtain ⟨q, c, e1, hq⟩ := layQ_out h
  rw [h1] at e1 hq
  rw [h2] at e1
  subst h3
  exact ⟨q, c, e1, segs_own hq⟩
set_option maxRecDepth 100000 in
set_option maxHeartbeats 8000000 in
theorem walk (w : World) (ht : Rd Tryz.prog w) (hw : Words w) (p : Option Addr) (n cap : Nat) (hin : Bytes w p n) :
    Calls Tryz.prog 4 #[.slice p n cap] w fun e w' => e = .returned (.bool true) ∧ Below w.heap.size w w' := by
  have HT := Lib.hid ht
  have HW := Lib.hid hw
  have hn := hin.1
  have HIN := Lib.hid hin
  clear ht hw hin
  rcases Bool.eq_false_or_eq_true (decide (4096 < n)) with hbig | hbig
  · go_enter Tryz.func4, Tryz.ntmps4
    go_wp2_with (go_at_call 10; refine (l_big p n cap _ hn).mono ?_; rintro e w' ⟨rfl, rfl⟩; rw [hbig])
    go_ret
    exact ⟨rfl, Below.refl _ _⟩
  · go_enter Tryz.func4, Tryz.ntmps4
    go_wp2_with (go_at_call 10; refine (l_big p n cap _ hn).mono ?_; rintro e w' ⟨rfl, rfl⟩; rw [hbig])
    refine (s_DrawLayoutText _ _ _ _ HIN.out).mono ?_
    rintro e w1 ⟨q, m, c, zs, rfl, ⟨hm, hmc⟩, hS, hb⟩
    have O : Own w (w1.alloc (Obj.cells #[.slice q m c] 24)) := Own.alloc (show Own w w1 from hb) _
    have L : Lb (w1.alloc (Obj.cells #[.slice q m c] 24)) w1.heap.size q m c zs := Lb.new hS
    have c_L := L.cell
    have l_L := L.lt
    have hz := hS.1
    obtain ⟨t, k, zs1, b, e1, e2, e3, e4, e5, e6, e7⟩ := draw_lay zs
    have CT : Hid (∀ w : World, Segs w q m zs → Pow Tryz.prog w → Words w → Calls Tryz.prog 12 #[.agg #[.slice q m c]] w fun en w' => en = .returned (strV t) ∧ Below w.heap.size w w') := fun w h h1 h2 => by
      rw [← e1]
      exact i_LayoutText q m c zs w h (by omega) h1 h2
    have CS : Hid (∀ w : World, Segs w q m zs → Calls Tryz.prog 14 #[.agg #[.slice q m c]] w fun en w' => en = .returned (strV t) ∧ Below w.heap.size w w') := fun w h => by
      rw [← e1]
      exact s_LayoutText q m c zs w h
    have CI : Hid (∀ w : World, Segs w q m zs → Calls Tryz.prog 15 #[.agg #[.slice q m c]] w fun en w' => en = .returned (.bool b) ∧ Below w.heap.size w w') := fun w h => by
      rw [← e2]
      exact i_IsLayout q m c zs w h (by omega)
    have CJ : Hid (∀ w : World, Segs w q m zs → Calls Tryz.prog 16 #[.agg #[.slice q m c]] w fun en w' => en = .returned (.bool b) ∧ Below w.heap.size w w') := fun w h => by
      rw [← e2]
      exact s_IsLayout q m c zs w h
    have CX : Hid (∀ w, Rd Tryz.prog w → Words w → Calls Tryz.prog 6 #[strV t] w fun e w' => (∃ q c, e = .returned (.tuple #[.agg #[.slice q k c], .bool b]) ∧ Segs w' q k zs1) ∧ Below w.heap.size w w') := fun w h1 h2 =>
      (i_ReadLayout t e3 w h1 h2).mono fun e w' h => ⟨lay_of h.1 e4 e5 e6, h.2⟩
    have HEX : Hid (∀ l : List UInt8, l.length ≤ 1048576 → ∃ k zs b, (Hid (∀ w, Rd Tryz.prog w → Words w → Calls Tryz.prog 6 #[strV l] w fun e w' => (∃ q c, e = .returned (.tuple #[.agg #[.slice q k c], .bool b]) ∧ Segs w' q k zs) ∧ Below w.heap.size w w')) ∧
        (Hid (∀ w, Calls Tryz.prog 5 #[strV l] w fun e w' => (∃ q c, e = .returned (.tuple #[.agg #[.slice q k c], .bool b]) ∧ Segs w' q k zs) ∧ Below w.heap.size w w')) ∧
        (b = true ∧ (Hid (∀ w q c, Segs w q k zs → Pow Tryz.prog w → Words w → Calls Tryz.prog 12 #[.agg #[.slice q k c]] w fun en w' => en = .returned (strV l) ∧ Below w.heap.size w w')) ∨ b = false)) := fun l hl => by
      obtain ⟨k, zs, b, f1, f2, f3, f4⟩ := read_lay l
      refine ⟨k, zs, b, fun w h1 h2 => (i_ReadLayout l hl w h1 h2).mono fun e w' h => ⟨lay_of h.1 f1 f2 f3, h.2⟩, fun w => (s_ReadLayout l hl w).mono fun e w' h => ⟨lay_of h.1 (by rw [riS_eq]; exact f1) (by rw [riS_eq]; exact f2) f3, h.2⟩, ?_⟩
      rcases f4 with ⟨hb, hk, hl⟩ | hb
      · exact .inl ⟨hb, fun w q c h h1 h2 => by rw [← hl]; exact i_LayoutText q k c zs w h hk h1 h2⟩
      · exact .inr hb
    have E7 : Hid (b = true → k = m ∧ zs1 = zs) := fun hb => by
      rcases e7 with ⟨_, h⟩ | h
      · exact ⟨by rw [← e6, h]; exact hz, h⟩
      · rw [h] at hb; cases hb
    clear hS hb e1 e2 e3 e4 e5 e6 e7 hz hm hmc
    go_wp2_with fail
    refine (CT.out _ L.seg (HT.out.keep O).1 (HW.out.keep O)).mono ?_
    rintro e w2 ⟨rfl, hb⟩
    replace O := O.join hb; replace L := L.keep hb; (try clear c_L l_L); have c_L := L.cell; have l_L := L.lt; clear hb
    go_wp2_with fail
    refine (CX.out _ (HT.out.keep O) (HW.out.keep O)).mono ?_
    rintro e w3 ⟨⟨qx, cx, rfl, SX⟩, hb⟩
    replace O := O.join hb; replace L := L.keep hb; (try clear c_L l_L); have c_L := L.cell; have l_L := L.lt; clear hb
    replace O := O.alloc (Obj.cells #[.slice qx k cx] 24)
    replace L := L.alloc (Obj.cells #[.slice qx k cx] 24)
    have X : Lb (w3.alloc (Obj.cells #[.slice qx k cx] 24)) w3.heap.size qx k cx zs1 := Lb.new SX
    clear SX CX
    go_wp2_with fail
    refine (s_DrawReadLayout _ _ _ _ (HIN.out.keep O)).mono ?_
    rintro e w4 ⟨sl, rfl, hsl, hb⟩
    obtain ⟨k2, zs2, b2, CY, CZ, CW⟩ := HEX.out sl hsl
    replace O := O.join hb; replace L := L.keep hb; (try clear c_L l_L); have c_L := L.cell; have l_L := L.lt; replace X := X.keep hb; (try clear c_X l_X); have c_X := X.cell; have l_X := X.lt; clear hb
    clear hsl
    go_wp2_with fail
    refine (CY.out _ (HT.out.keep O) (HW.out.keep O)).mono ?_
    rintro e w5 ⟨⟨qy, cy, rfl, SY⟩, hb⟩
    replace O := O.join hb; replace L := L.keep hb; (try clear c_L l_L); have c_L := L.cell; have l_L := L.lt; replace X := X.keep hb; (try clear c_X l_X); have c_X := X.cell; have l_X := X.lt; clear hb
    replace O := O.alloc (Obj.cells #[.slice qy k2 cy] 24)
    replace L := L.alloc (Obj.cells #[.slice qy k2 cy] 24)
    replace X := X.alloc (Obj.cells #[.slice qy k2 cy] 24)
    have Y : Lb (w5.alloc (Obj.cells #[.slice qy k2 cy] 24)) w5.heap.size qy k2 cy zs2 := Lb.new SY
    clear SY CY
    go_wp2_with fail
    refine (CZ.out _).mono ?_
    rintro e w6 ⟨⟨qz, cz, rfl, SZ⟩, hb⟩
    replace O := O.join hb; replace L := L.keep hb; (try clear c_L l_L); have c_L := L.cell; have l_L := L.lt; replace X := X.keep hb; (try clear c_X l_X); have c_X := X.cell; have l_X := X.lt; replace Y := Y.keep hb; (try clear c_Y l_Y); have c_Y := Y.cell; have l_Y := Y.lt; clear hb
    replace O := O.alloc (Obj.cells #[.slice qz k2 cz] 24)
    replace L := L.alloc (Obj.cells #[.slice qz k2 cz] 24)
    replace X := X.alloc (Obj.cells #[.slice qz k2 cz] 24)
    replace Y := Y.alloc (Obj.cells #[.slice qz k2 cz] 24)
    have Z : Lb (w6.alloc (Obj.cells #[.slice qz k2 cz] 24)) w6.heap.size qz k2 cz zs2 := Lb.new SZ
    clear SZ CZ HEX
    obtain ⟨W, hW⟩ : ∃ W, W = w6.alloc (Obj.cells #[.slice qz k2 cz] 24) := ⟨_, rfl⟩
    go_upto_region 9 with fail
    rw [← hW] at L X Y Z O ⊢
    clear hW
    clear c_L
    have c_L : W.cell? ⟨w1.heap.size, 0, none⟩ = some (.slice q m c) := L.cell
    have SW := Lib.hid L.seg
    have LW := Lib.hid L.lt
    have LH := Lib.hid L
    have XH := Lib.hid X
    have YH := Lib.hid Y
    have ZH := Lib.hid Z
    have OH := Lib.hid O
    have OA : Own W W.drew := (Own.start W).drew
    clear L X Y Z O c_X l_X c_Y l_Y l_L
    go_region_held3 (fun w' => w'.cell? ⟨w1.heap.size, 0, none⟩ = some (.slice q m c)) (first | exact c_L | (go_simp; done) | go_keep | exact hk.trans (by assumption)) (first | (go_at_call 14; refine (CS.out _ (SW.out.own (by assumption))).mono ?_; rintro e w7 ⟨rfl, hb7⟩; have hk := (below_box (k := w1.heap.size) hb7 (Nat.lt_of_lt_of_le LW.out (Own.le (W0 := W) (by assumption)))).1 0; have OA := Own.join (W0 := W) (by assumption) hb7; clear hb7) | (go_at_call 15; refine (CI.out _ (SW.out.own (by assumption))).mono ?_; rintro e w7 ⟨rfl, hb7⟩; have hk := (below_box (k := w1.heap.size) hb7 (Nat.lt_of_lt_of_le LW.out (Own.le (W0 := W) (by assumption)))).1 0; have OA := Own.join (W0 := W) (by assumption) hb7; clear hb7) | (go_at_call 16; refine (CJ.out _ (SW.out.own (by assumption))).mono ?_; rintro e w7 ⟨rfl, hb7⟩; have hk := (below_box (k := w1.heap.size) hb7 (Nat.lt_of_lt_of_le LW.out (Own.le (W0 := W) (by assumption)))).1 0; have OA := Own.join (W0 := W) (by assumption) hb7; clear hb7))
    have O : Own w w7 := Own.join OH.out (show Own W w7 from OA)
    have L := LH.out.keep (show Below W.heap.size W w7 from OA)
    have X := XH.out.keep (show Below W.heap.size W w7 from OA)
    have Y := YH.out.keep (show Below W.heap.size W w7 from OA)
    have Z := ZH.out.keep (show Below W.heap.size W w7 from OA)
    clear LH XH YH ZH OH OA SW LW CS CI CJ HIN hk c_L CT
    have c_L := L.cell
    have l_L := L.lt
    have c_X := X.cell
    have l_X := X.lt
    have c_Y := Y.cell
    have l_Y := Y.lt
    have c_Z := Z.cell
    have l_Z := Z.lt
    rcases CW with ⟨rfl, CW⟩ | rfl
    · cases b with
      | true =>
        obtain ⟨hk1, hz1⟩ := E7.out rfl
        subst hk1
        subst hz1
        clear E7
        go_wp2_with fail
        refine (l_likeLayouts9 _ _ _ _ _ _ _ X.seg L.seg).mono ?_
        rintro e w8 ⟨rfl, hb⟩
        replace O := O.join hb; replace L := L.keep hb; (try clear c_L l_L); have c_L := L.cell; have l_L := L.lt; replace X := X.keep hb; (try clear c_X l_X); have c_X := X.cell; have l_X := X.lt; replace Y := Y.keep hb; (try clear c_Y l_Y); have c_Y := Y.cell; have l_Y := Y.lt; replace Z := Z.keep hb; (try clear c_Z l_Z); have c_Z := Z.cell; have l_Z := Z.lt; clear hb
        go_wp2_with fail
        refine (l_likeLayouts9 _ _ _ _ _ _ _ Y.seg Z.seg).mono ?_
        rintro e w9 ⟨rfl, hb⟩
        replace O := O.join hb; replace L := L.keep hb; (try clear c_L l_L); have c_L := L.cell; have l_L := L.lt; replace X := X.keep hb; (try clear c_X l_X); have c_X := X.cell; have l_X := X.lt; replace Y := Y.keep hb; (try clear c_Y l_Y); have c_Y := Y.cell; have l_Y := Y.lt; replace Z := Z.keep hb; (try clear c_Z l_Z); have c_Z := Z.cell; have l_Z := Z.lt; clear hb
        go_wp2_with fail
        refine (CW.out _ _ _ Y.seg (HT.out.keep O).1 (HW.out.keep O)).mono ?_
        rintro e w10 ⟨rfl, hb⟩
        replace O := O.join hb
        have OO := Lib.hid O
        clear O L X Y Z c_L c_X c_Y c_Z l_L l_X l_Y l_Z hb CW
        go_wp2_with fail
        go_ret
        exact ⟨rfl, OO.out⟩
      | false =>
        clear E7
        go_wp2_with fail
        refine (l_likeLayouts9 _ _ _ _ _ _ _ Y.seg Z.seg).mono ?_
        rintro e w9 ⟨rfl, hb⟩
        replace O := O.join hb; replace L := L.keep hb; (try clear c_L l_L); have c_L := L.cell; have l_L := L.lt; replace X := X.keep hb; (try clear c_X l_X); have c_X := X.cell; have l_X := X.lt; replace Y := Y.keep hb; (try clear c_Y l_Y); have c_Y := Y.cell; have l_Y := Y.lt; replace Z := Z.keep hb; (try clear c_Z l_Z); have c_Z := Z.cell; have l_Z := Z.lt; clear hb
        go_wp2_with fail
        refine (CW.out _ _ _ Y.seg (HT.out.keep O).1 (HW.out.keep O)).mono ?_
        rintro e w10 ⟨rfl, hb⟩
        replace O := O.join hb
        have OO := Lib.hid O
        clear O L X Y Z c_L c_X c_Y c_Z l_L l_X l_Y l_Z hb CW
        go_wp2_with fail
        go_ret
        exact ⟨rfl, OO.out⟩
    · cases b with
      | true =>
        obtain ⟨hk1, hz1⟩ := E7.out rfl
        subst hk1
        subst hz1
        clear E7
        go_wp2_with fail
        refine (l_likeLayouts9 _ _ _ _ _ _ _ X.seg L.seg).mono ?_
        rintro e w8 ⟨rfl, hb⟩
        replace O := O.join hb; replace L := L.keep hb; (try clear c_L l_L); have c_L := L.cell; have l_L := L.lt; replace X := X.keep hb; (try clear c_X l_X); have c_X := X.cell; have l_X := X.lt; replace Y := Y.keep hb; (try clear c_Y l_Y); have c_Y := Y.cell; have l_Y := Y.lt; replace Z := Z.keep hb; (try clear c_Z l_Z); have c_Z := Z.cell; have l_Z := Z.lt; clear hb
        go_wp2_with fail
        refine (l_likeLayouts9 _ _ _ _ _ _ _ Y.seg Z.seg).mono ?_
        rintro e w9 ⟨rfl, hb⟩
        replace O := O.join hb
        have OO := Lib.hid O
        clear O L X Y Z c_L c_X c_Y c_Z l_L l_X l_Y l_Z hb
        go_wp2_with fail
        go_ret
        exact ⟨rfl, OO.out⟩
      | false =>
        clear E7
        go_wp2_with fail
        refine (l_likeLayouts9 _ _ _ _ _ _ _ Y.seg Z.seg).mono ?_
        rintro e w9 ⟨rfl, hb⟩
        replace O := O.join hb
        have OO := Lib.hid O
        clear O L X Y Z c_L c_X c_Y c_Z l_L l_X l_Y l_Z hb
        go_wp2_with fail
        go_ret
        exact ⟨rfl, OO.out⟩
theorem own : ownKnob Tryz.prog.godebug = none := by kernel_rfl
theorem laidOut : laidOutB Tryz.prog = true := by kernel_rfl
theorem of_laid {W : World} (h : laidMetH Tryz.prog Rows.fnLayoutsRow.laid W) (hs : W.ShapedOpen Tryz.prog) : Rd Tryz.prog W ∧ Words W := by
  rw [MakeChecks.laidMetH_plain _ _ _ (by kernel_rfl)] at h
  refine ⟨⟨?_, Tryz.laysM146.s1_3 W hs, ?_, ?_⟩, ?_⟩
  · obtain ⟨g, t, cs, fuel, p, hg, ht, hv, hd⟩ := Lib.laidMet.reads h (n := "internal/strconv.uint64pow10") (d := Rows.laid_internal_strconv_uint64pow10) (.tail _ (.tail _ (.head _)))
    obtain rfl := Option.some.inj (gPow.symm.trans hg)
    obtain rfl := Option.some.inj (tPow.symm.trans ht)
    rw [dPow] at hd
    show World.var? _ _ _ = _
    rw [hv, ← Lib.cells_of_tab Tryz.underlying138 Tryz.underlying106 (by kernel_rfl) (by kernel_rfl) hd]
  · obtain ⟨a, s, hv, -⟩ := laid_sentinel (n := "strconv.ErrSyntax") (g := 4) (ti := 84) (te := 136) (ts := 9) h.tail.tail.tail.tail.tail (by kernel_rfl) (by kernel_rfl) Tryz.underlying84 rowE Tryz.underlying134 Tryz.underlying136 rfl rfl Tryz.underlying9 (by kernel_rfl) (by kernel_rfl)
    exact ⟨_, _, hv⟩
  · obtain ⟨a, s, hv, -⟩ := laid_sentinel (n := "strconv.ErrRange") (g := 5) (ti := 84) (te := 136) (ts := 9) h.tail.tail.tail.tail (by kernel_rfl) (by kernel_rfl) Tryz.underlying84 rowE Tryz.underlying134 Tryz.underlying136 rfl rfl Tryz.underlying9 (by kernel_rfl) (by kernel_rfl)
    exact ⟨_, _, hv⟩
  · obtain ⟨g, t, cs, fuel, p, hg, ht, hv, hd⟩ := Lib.laidMet.reads h (n := "loop.example/g00916/impl.segmentWords") (d := Rows.laid_loop_example_g00916_impl_segmentWords) (.tail _ (.tail _ (.tail _ (.tail _ (.tail _ (.tail _ (.head _)))))))
    obtain rfl := Option.some.inj (gW.symm.trans hg)
    obtain rfl := Option.some.inj (tW.symm.trans ht)
    rw [dW] at hd
    refine words_of_var gW ?_
    rw [hv, ← cells_of_words Tryz.underlying53 Tryz.underlying9 (by kernel_rfl) (by kernel_rfl) hd]
set_option maxRecDepth 100000 in
theorem lifted (os : Os) (started : os.Started) (H : Type) (enc : TypeId × Value → H) :
    ReturnsInHanded {} Tryz.checked os 4 .any (fun w args => (Rows.fnLayoutsSpec.pre enc Tryz.prog Tryz.f4 [] false w args ∧ laidMetH Tryz.prog Rows.fnLayoutsRow.laid w) ∧ sizedMet enc Tryz.prog Tryz.f4 (OpenSpec.ofChange Rows.fnLayoutsSpec) false w args)
      (Rows.fnLayoutsSpec.post enc Tryz.prog Tryz.f4 false true false false) := by
  refine returns_and_shaped (C := Tryz.checked) (X := fun w _ => laidMetH Tryz.prog Rows.fnLayoutsRow.laid w) (fun _ _ _ hh h => h.of_heap hh) own started (by kernel_rfl) Tryz.func4
    (ChangeSpec.witness_shaped (enc := enc) (C := Tryz.checked) (os := os) (X := fun w _ => laidMetH Tryz.prog Rows.fnLayoutsRow.laid w) false (World.laidAll Tryz.prog os Rows.fnLayoutsRow.laid) #[.slice none 0 0] 8 (World.laidAll_os _ _ _) (World.shaped_of_ZipB (by kernel_rfl) (by kernel_rfl)) (by kernel_rfl) (by kernel_rfl) (by kernel_rfl)
      (by rw [MakeChecks.laidMetH_plain _ _ _ (by kernel_rfl)]; exact laidMet_laidAll _ (by kernel_rfl) (by kernel_rfl))) ?_
  intro W base args ds gs before hval0 hW hL hsh
  have hval : ∀ (j : Nat) t v, Tryz.f4.params[j]? = some t → args[j]? = some v → Value.okWide Tryz.prog W .any base t v := hval0
  have hW' := hW
  obtain ⟨p, q, hA0, hV, rfl, hfz, hnd⟩ := hW
  have hA : DataW.TrodAll enc Tryz.prog W 0 (fun _ => true) true Tryz.f4.params.toList args.toList ds p := hA0
  rw [Tryz.params4] at hA hval
  obtain ⟨v0, vs0, d0, ds0, pp0, qq0, hargs, rfl, rfl, h0, rr0⟩ := trodAll_cons hA
  obtain ⟨rfl, rfl, rfl⟩ := trodAll_nil rr0
  obtain rfl : args = #[v0] := by cases args; simp_all
  have hV2 : DataW.TrodVars enc Tryz.prog W (fun _ => true) ["loop.example/g00916/impl.segmentWords"] gs q := hV
  obtain ⟨gg, tt, cs, fu, dd, pv, hgs, hv1, hv2, hv3, hv4, hv5⟩ := trodVars_one hV2
  subst hgs
  have k0_ := h0
  have lt0_ : ∀ x ∈ pp0, x.block < W.heap.size := by obtain ⟨m, hm⟩ := h0; exact DataW.trod_lt m _ _ _ hm
  obtain ⟨p0, len0, cap0, rfl⟩ := okWide_slice Tryz.underlying30 (hval 0 30 v0 rfl rfl)
  obtain ⟨z0, r0⟩ := open_row (k := .u8) Tryz.underlying30 Tryz.underlying5 (by kernel_rfl) h0
  clear hA0 hval0
  have hfac := of_laid hL hsh
  refine (walk W hfac.1 hfac.2 p0 len0 cap0 r0.bytes8).mono fun e W' ⟨he, bel⟩ => ?_
  subst he
  have hVW := Below.trodVars laidOut bel (by kernel_rfl) hV2
  exact ⟨_, rfl, _, _, _, [], _, _, hW', trodAll_mk1 (shut_bool Tryz.underlying4 _), (trodAll_cons_mk (Below.trod laidOut (by kernel_rfl) (of_decide_eq_true (by kernel_rfl)) k0_ bel lt0_) trodAll_mk0), hVW, bel.frame _, fun h => by cases h⟩
theorem row_holds : Rows.FnLayoutsSaid :=
  OpenClaim.holds_of_wide 4 Tryz.f4 rfl rfl rfl rfl rfl rfl rfl ⟨rfl, rfl, rfl, rfl, rfl⟩ rfl rfl rfl rfl rfl (by kernel_rfl) Tryz.func4 (by kernel_rfl)
    (of_decide_eq_true (by kernel_rfl)) (by unfold Func.isWrapper; first | (rw [if_pos (by decide +kernel)]; kernel_rfl) | (rw [if_neg (by decide +kernel)]; exact ⟨rfl, rfl⟩))
    (fun os started H enc _ => lifted os started H enc)
/-- the given statement -/
theorem proved : Rows.FnLayoutsCardSaid :=
  Claim7.holds_tied_plain_at .later [] [.data, .data, .data, .data, .sentinel, .sentinel, .widerDeep, .pinned] true (true, "640f199a66f770036d3eaf46a388f160c943ed2b2031c6ef5a8d7898a1fbeffc") true
    row_holds (fun _ h => by cases h) (by kernel_rfl) (fun _ h => by cases h) fnLayouts_row_tie rfl ⟨rfl, rfl⟩ (by kernel_rfl) rfl
    (fun f fn hf hfn => by
      obtain rfl : f = 4 := Option.some.inj ((show Tryz.prog.funcNamed "loop.example/g00916/laws.FnLayouts" = some 4 by kernel_rfl).symm.trans hf) |>.symm
      obtain rfl : fn = Tryz.f4 := (Option.some.inj (Tryz.func4.symm.trans hfn)).symm
      exact ⟨by kernel_rfl, fun j t ht => by
        rw [Tryz.params4] at ht
        have hm : t ∈ [30] := by simpa using Array.mem_of_getElem? ht
        have hall : ([30].all fun u => !Tryz.prog.wantsStandIn u) = true := by kernel_rfl
        exact (show Tryz.prog.wantsStandIn t = false by simpa using List.all_eq_true.1 hall t hm)⟩)
    (by kernel_rfl)
#print axioms proved
end pFnLayouts

end Go.Proofs.YtfbfiikomlnllaaGreatDoor
