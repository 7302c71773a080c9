/- The Go function laws.FnSums returns true for every input and leaves its arguments as they were; no condition. -/
import Derived.Test.YtfhliikfnhggpaaRows
import Derived.Test.YtfhliikfnhggpaaBase
import Derived.Test.YtfhliikfnhggpaaNum
import Derived.Test.YtfhliikfnhggpaaList
import Derived.Test.YtfhliikfnhggpaaSum
import Derived.Test.YtfhliikfnhggpaaDraw
import Derived.Test.YtfhliikfnhggpaaDraw2
import Derived.Test.YtfhliikfnhggpaaDRow
import Derived.Test.YtfhliikfnhggpaaLay3
import Derived.Lib.Hide
import Derived.WalkKit
import Derived.WalkSpells
import Derived.WalkLawsBesides
import Derived.ProofKit
import Derived.OpenShut
import Derived.ShutString
import Derived.ChangeOld
import Derived.Below
import Derived.Deep.RegionHeld3
import Derived.Deep.DeepCutAuto
import Derived.Deep.OwnRows
import Derived.Deep.LoopGhost
namespace Go.Proofs.Ytfhliikfnhggpaa.pFnSums
open Go.ChangeShapes Go.WideShapes Go.ChangeAt Go.RowKit Go.Deep
set_option maxHeartbeats 2000000
set_option linter.unusedVariables false
set_option linter.unusedSimpArgs false

theorem sumTo_eq (zs : List Int) : ∀ k, k ≤ zs.length → sumTo zs k = (zs.take k).sum := by
  intro k
  induction k with
  | zero => intro _; rfl
  | succ k ih =>
    intro h
    have e : zs.take (k + 1) = zs.take k ++ [zs.getD k 0] := by
      rw [List.take_succ_eq_append_getElem (by omega)]
      simp [List.getD_eq_getElem?_getD, List.getElem?_eq_getElem (show k < zs.length by omega)]
    rw [e, List.sum_append, ← ih (by omega)]
    simp [sumTo]
theorem sumTo_all (zs : List Int) : sumTo zs zs.length = zs.sum := by rw [sumTo_eq zs _ (Nat.le_refl _), List.take_length]
theorem allVal_iff (zs : List Int) : allVal zs = true ↔ ∀ x ∈ zs, isVal x = true := by
  unfold allVal
  rw [decide_eq_true_iff]
  constructor
  · intro h x hx
    obtain ⟨i, hi, rfl⟩ := List.getElem_of_mem hx
    have := h i hi
    simpa [List.getD_eq_getElem?_getD, List.getElem?_eq_getElem hi] using this
  · intro h i hi
    have := h zs[i] (List.getElem_mem hi)
    simpa [List.getD_eq_getElem?_getD, List.getElem?_eq_getElem hi] using this
theorem sumR_reverse (zs : List Int) : sumR zs.reverse = sumR zs := by
  have e : allVal zs.reverse = allVal zs := by
    rw [Bool.eq_iff_iff, allVal_iff, allVal_iff]
    simp
  unfold sumR
  rw [sumTo_all, sumTo_all, List.length_reverse, List.sum_reverse, e]
theorem rises_twice {x : Int} {zs : List Int} (h : 0 < zs.length) : risesB x (zs ++ zs) = false := by
  refine decide_eq_false fun H => ?_
  rw [List.length_append] at H
  have key : ∀ k, k < zs.length → (zs ++ zs).getD 0 0 ≤ (zs ++ zs).getD k 0 := by
    intro k
    induction k with
    | zero => intro _; exact Int.le_refl _
    | succ k ih =>
      intro hk
      have h1 := (H (k + 1) (by omega)).2.2 (by omega)
      have h2 := ih (by omega)
      simp only [Nat.add_sub_cancel] at h1
      omega
  have h1 := key (zs.length - 1) (by omega)
  have h2 := (H zs.length (by omega)).2.2 h
  have e1 : (zs ++ zs).getD zs.length 0 = (zs ++ zs).getD 0 0 := by
    simp [List.getD_eq_getElem?_getD, List.getElem?_append_right, List.getElem?_append_left h]
  omega
theorem drop_rev (zs : List Int) (f : Int → Value) (j : Nat) (h : j < zs.length) : (zs.drop j).reverse.map f = (zs.drop (j + 1)).reverse.map f ++ [f (zs.getD j 0)] := by
  rw [List.drop_eq_getElem_cons h, List.reverse_cons, List.map_append]
  simp only [List.map_cons, List.map_nil, List.getD_eq_getElem?_getD, List.getElem?_eq_getElem h, Option.getD_some]
theorem wpList_append_g {P : Program} {w : World} {ops : Array Oper} {rest : List Oper} {o : Oper} {a : Act} {Q : Exit → Act → World → Prop} (hw : Region.wanted o (yielded ops a.tmps) = true) (s x : Operand) (t : TypeId)
    (ho : o.op = .call { callee := .builtin .append, args := #[s, x], argTypes := #[t, t] })
    (base : Nat) (e : TypeId) (i : TypeInfo) (z : Value) (size bytes : Nat) (ht : P.underlying t = some (.slice e)) (hi : P.info? e = some i) (hz : i.zero = some z)
    (hsize : i.size = size) (hby : i.bytes = bytes) (hzs : z.cells.size = size) (hsz : 0 < size)
    (v : Value) (n : Nat) (xs : List Value) (hs : a.eval s = v) (hown : w.ownsRow base e size v n xs)
    (ad : Addr) (m c : Nat) (news : List Value) (hx : a.eval x = .slice (some ad) m c) (hl : news.length = m * size) (hnews : ∀ j u, news[j]? = some u → w.cell? (ad.add j) = some u) (h1 : ∀ u ∈ news, u.oneCell' = true)
    (h63 : n + m ≤ maxLen) (hbytes : (n + m) * bytes ≤ 140737488355328) (hbase : base ≤ w.heap.size)
    (h : ∀ v' w', w'.ownsRow base e size v' (n + m) (xs ++ news) → Below base w w' → wpList P ops Q rest (a.put o.dst v') w') : wpList P ops Q (o :: rest) a w :=
  wpList_step fun _ hK => by
    rw [if_pos hw]
    exact wp_append_own w s x t ho base e i z size bytes ht hi hz hsize hby hzs hsz v n xs hs hown ad m c news hx hl hnews h1 h63 hbytes hbase fun v' w' h2 h3 _ => hK _ _ (h v' w' h2 (grown_below h3 hbase fun k hk => (hown.lt k hk).1))
theorem own_empty (W : World) (t : TypeId) : (W.alloc (.cells #[] t)).ownsRow W.heap.size t 1 (.slice (some ⟨W.heap.size, 0, none⟩) 0 0) 0 [] :=
  ⟨by simp, .inr ⟨W.heap.size, 0, #[], rfl, Nat.le_refl _, World.alloc_heap_new W _, Nat.le_refl _, by unfold maxLen; omega, by simp, by simp⟩⟩
theorem ints_news {w : World} {g n : Nat} {zs : List Int} (h : Ints .i64 w (some ⟨g, 0, none⟩) n zs) : ∀ j u, (zs.map (Value.int .i64))[j]? = some u → w.cell? ((⟨g, 0, none⟩ : Addr).add j) = some u := by
  intro j u hj
  have hlt : j < zs.length := by
    rcases Nat.lt_or_ge j zs.length with h' | h'
    · exact h'
    · rw [List.getElem?_eq_none (by simpa using h')] at hj; cases hj
  have h0 := h.1
  obtain ⟨b, off, e, hc⟩ := h.2.2 (by omega)
  simp only [Option.some.injEq, Addr.mk.injEq, and_true] at e
  obtain ⟨rfl, rfl⟩ := e
  have hc1 := hc j (by omega)
  have e2 : (⟨g, 0, none⟩ : Addr).add j = ⟨g, 0 + j, none⟩ := by unfold Addr.add; split <;> simp_all
  rw [e2, hc1]
  rw [List.getElem?_map, List.getElem?_eq_getElem hlt] at hj
  simp only [Option.map_some, Option.some.injEq] at hj
  rw [← hj]
  simp [List.getD_eq_getElem?_getD, List.getElem?_eq_getElem hlt]
set_option maxRecDepth 100000 in set_option maxHeartbeats 20000000 in
theorem walk (w : World) (p0 : Option Addr) (len0 cap0 : Nat) (z0 : List Int) (r0 : IsRow .u8 w p0 len0 cap0 z0) :
    Calls Try.prog 4 #[.slice p0 len0 cap0] w fun e w' => e = .returned (.bool true) ∧ Below w.heap.size w w' := by
  obtain ⟨i0, hi, hz0, hz1, hz2⟩ := info_parts (P := Try.prog) (e := 2) (z := .int .i64 0) (size := 1) (bytes := 8) (by kernel_rfl)
  have hin := r0.bytes8
  have hn := hin.1
  clear r0
  rcases Bool.eq_false_or_eq_true (decide (4096 < len0)) with hbig | hbig
  · go_enter Try.func4, Try.ntmps4
    go_wp2_with (go_at_call 5; refine (l_big p0 len0 cap0 _ hn).mono ?_; rintro e w' ⟨rfl, rfl⟩; rw [hbig])
    go_ret
    exact ⟨rfl, Below.refl _ _⟩
  · go_enter Try.func4, Try.ntmps4
    go_upto_region 4 with first | (go_at_call 5; refine (l_big p0 len0 cap0 _ hn).mono ?_; rintro e w' ⟨rfl, rfl⟩; rw [hbig]) | (go_at_call 15; refine (s_DrawSumOf _ _ _ _ hin).mono ?_; rintro e w' ⟨q, m, c, zs, rfl, hm, hI, hB⟩)
    obtain ⟨s1, s2, e1⟩ : ∃ s1 s2, sumR zs = (s1, s2) := ⟨_, _, rfl⟩
    have HE := Lib.hid e1
    have cI : ∀ W, Ints .i64 W q m zs → Calls Try.prog 16 #[.slice q m c] W fun e w' => e = .returned (p2 (s1, s2)) ∧ W = w' := fun W h => by rw [← e1]; exact i_SumOf q m c zs W h
    have cS : ∀ W, Ints .i64 W q m zs → Calls Try.prog 17 #[.slice q m c] W fun e w' => e = .returned (p2 (s1, s2)) ∧ W = w' := fun W h => by rw [← e1]; exact s_SumOf q m c zs W h
    have hO : Own w w' := hB
    clear hbig hB hn e1
    go_upto_region 7 with first | (go_at_call 16; refine (cI _ hI).mono ?_; rintro e w' ⟨rfl, rfl⟩) | (go_at_call 17; refine (cS _ hI).mono ?_; rintro e w' ⟨rfl, rfl⟩) | (go_at_call 18; refine (s_DrawIsRising _ _ _ _ (hin.keep hO.below)).mono ?_; rintro e w' ⟨q2, m2, c2, zs2, x, rfl, hm2, hI2, hB2⟩; replace hI := hI.keep hB2; replace hO := hO.join hB2; clear hB2)
    obtain ⟨r, er⟩ : ∃ r, risesB x zs2 = r := ⟨_, rfl⟩
    have HR := Lib.hid er
    have cR : ∀ W, Ints .i64 W (some ⟨q2, 0, none⟩) m2 zs2 → Calls Try.prog 19 #[.slice (some ⟨q2, 0, none⟩) m2 c2, .int .i64 x] W fun e w' => e = .returned (.bool r) ∧ W = w' := fun W h => by rw [← er]; exact i_IsRising (some ⟨q2, 0, none⟩) m2 c2 zs2 x W h
    have cT : ∀ W, Ints .i64 W (some ⟨q2, 0, none⟩) m2 zs2 → Calls Try.prog 20 #[.slice (some ⟨q2, 0, none⟩) m2 c2, .int .i64 x] W fun e w' => e = .returned (.bool r) ∧ Below W.heap.size W w' := fun W h => by rw [← er]; exact s_IsRising (some ⟨q2, 0, none⟩) m2 c2 zs2 x W h
    clear er hin
    obtain ⟨wA, rfl⟩ : ∃ wA : World, wA = w' := ⟨_, rfl⟩
    go_cut [49] (fun s49 wx => s49 = .bool false ∧ Own wA wx)
    case first =>
      as_aux_lemma =>
      go_wp2_with first | (go_at_call 19; refine (cR _ hI2).mono ?_; rintro e w' ⟨rfl, rfl⟩) | (go_at_call 20; refine (cT _ hI2).mono ?_; rintro e w' ⟨rfl, hb⟩)
      all_goals go_meet
      all_goals exact ⟨rfl, hb⟩
    case rest =>
    obtain ⟨rfl, hb⟩ := hcut
    replace hI := hI.own hb
    replace hI2 := hI2.own hb
    replace hO := hO.join hb
    clear hb cT
    have hm0 := hI.1
    obtain ⟨wB, rfl⟩ : ∃ wB : World, wB = wc := ⟨_, rfl⟩
    have HI := Lib.hid hI
    have HI2 := Lib.hid hI2
    have HO := Lib.hid hO
    have HCI := Lib.hid cI
    have HCR := Lib.hid cR
    clear hI hI2 hO cI cS cR
    have hrow := how_keepA (World.ownsRow_nil wB wB.heap.size 2 1) (.cells #[] 2)
    clear hrow
    have hrow : (wB.alloc (.cells #[] 2)).ownsRow wB.heap.size 2 1 (.slice (some ⟨wB.heap.size, 0, none⟩) 0 0) 0 ((zs.drop m).reverse.map (Value.int .i64)) := by
      rw [List.drop_of_length_le (by omega)]
      exact ⟨by simp, .inr ⟨wB.heap.size, 0, #[], rfl, Nat.le_refl _, World.alloc_heap_new wB _, Nat.le_refl _, by unfold maxLen; omega, by simp, by simp⟩⟩
    have HROW := Lib.hid hrow
    clear hrow
    go_upto_region 11 with fail
    go_loopw [10, 11] (fun v i wr => ∃ j : Nat, j ≤ m ∧ i = .int .i64 ((j : Int) - 1) ∧ wr.ownsRow wB.heap.size 2 1 v (m - j) ((zs.drop j).reverse.map (Value.int .i64)) ∧ Own wB wr) (fun _ i _ => (intOf i + 1).toNat)
    case atStart => exact ⟨m, Nat.le_refl _, rfl, by rw [Nat.sub_self]; exact HROW.out, (Own.start _).alloc _⟩
    case round =>
      clear HROW
      obtain ⟨j, hj, rfl, hrow, hown⟩ := hrel
      cases j with
      | zero =>
        rw [show (((0 : Nat) : Int) - 1) = -1 from rfl]
        rw [List.drop_zero, Nat.sub_zero] at hrow
        obtain ⟨pb, cb, rfl, hIb⟩ := ints_ofOwns hrow (by unfold maxLen; omega)
        have cB : ∀ W, Ints .i64 W pb m zs.reverse → Calls Try.prog 16 #[.slice pb m cb] W fun e w' => e = .returned (p2 (s1, s2)) ∧ W = w' := fun W h => by rw [← HE.out, ← sumR_reverse]; exact i_SumOf pb m cb zs.reverse W h
        have hI2 := HI2.out.own hown
        have hOO := HO.out.join hown.below
        have cR := HCR.out
        have HOO := Lib.hid hOO
        clear hrow hown hOO
        go_upto_region 15 with (go_at_call 16; refine (cB _ hIb).mono ?_; rintro e w' ⟨rfl, rfl⟩)
        clear hIb cB
        have HII := Lib.hid hI2
        cases r
        case false =>
          go_wp2_with (go_at_call 19; refine (cR _ HII.out).mono ?_; rintro e w' ⟨rfl, rfl⟩)
          go_ret
          exact ⟨rfl, HOO.out.below⟩
        case true =>
          clear hI2
          have hz2n := HII.out.1
          obtain ⟨rr, err⟩ : ∃ rr, risesB x (zs2 ++ zs2) = rr := ⟨_, rfl⟩
          have hrr : m2 = 0 ∨ rr = false := by
            rcases Nat.eq_zero_or_pos m2 with h | h
            · exact .inl h
            · exact .inr (by rw [← err]; exact rises_twice (by omega))
          have cQ : ∀ W p c, Ints .i64 W p (m2 + m2) (zs2 ++ zs2) → Calls Try.prog 19 #[.slice p (m2 + m2) c, .int .i64 x] W fun e w' => e = .returned (.bool rr) ∧ W = w' := fun W p c h => by rw [← err]; exact i_IsRising p (m2 + m2) c (zs2 ++ zs2) x W h
          clear err
          have HCQ := Lib.hid cQ
          clear cQ
          have tok1 : True := trivial
          have HEM := Lib.hid (own_empty wr 2)
          have HN1 := Lib.hid (ints_news (HII.out.own ((Own.start wr).alloc (.cells #[] 2))))
          have hln : (zs2.map (Value.int .i64)).length = m2 * 1 := by rw [List.length_map, hz2n, Nat.mul_one]
          have HLN := Lib.hid hln
          have hon : ∀ u ∈ zs2.map (Value.int .i64), u.oneCell' = true := by
            intro u hu
            obtain ⟨i, _, rfl⟩ := List.mem_map.1 hu
            rfl
          have HON := Lib.hid hon
          have HB1 : Hid (0 + m2 ≤ maxLen ∧ (0 + m2) * 8 ≤ 140737488355328 ∧ m2 + m2 ≤ maxLen ∧ (m2 + m2) * 8 ≤ 140737488355328) := ⟨by unfold maxLen; omega, by omega, by unfold maxLen; omega, by omega⟩
          clear hln hon hz2n
          have hII2 := HII.out
          rcases hrr with h0 | rfl
          · have tz : ((m2 : Int) == 0) = true := by simp; omega
            clear h0
            cases rr
            all_goals
              go_wp2_with first | (go_at_call 19; have _t := tok1; refine (cR _ HII.out).mono ?_; rintro e w' ⟨rfl, rfl⟩) | (at_builtin; have _t := tok1; refine wpList_append_g (by rfl) _ _ 36 rfl wr.heap.size 2 i0 (.int .i64 0) 1 8 Try.underlying36 hi hz0 hz1 hz2 rfl (by decide) _ 0 [] rfl HEM.out ⟨q2, 0, none⟩ m2 c2 _ rfl HLN.out HN1.out HON.out HB1.out.1 HB1.out.2.1 (by simp) ?_; intro v1 w1 hown1 hb1; rw [List.nil_append, Nat.zero_add] at hown1; have O1 := Lib.hid hown1; have B1 := Lib.hid (Below.trans ((Own.start wr).alloc (.cells #[] 2)).below hb1); have N2 := Lib.hid (ints_news (HII.out.own B1.out)); clear hown1 hb1 tok1 _t) | (at_builtin; refine wpList_append_g (by rfl) _ _ 36 rfl wr.heap.size 2 i0 (.int .i64 0) 1 8 Try.underlying36 hi hz0 hz1 hz2 rfl (by decide) _ m2 _ rfl O1.out ⟨q2, 0, none⟩ m2 c2 _ rfl HLN.out N2.out HON.out HB1.out.2.2.1 HB1.out.2.2.2 B1.out.size ?_; intro v2 w2 hown2 hb2; rw [← List.map_append] at hown2; obtain ⟨pq, cq, rfl, hI3⟩ := ints_ofOwns hown2 HB1.out.2.2.1; have O2 := Lib.hid (B1.out.trans hb2); have I3 := Lib.hid hI3; clear hown2 hb2 hI3) | (go_at_call 19; refine (HCQ.out _ _ _ I3.out).mono ?_; rintro e w' ⟨rfl, rfl⟩)
              go_ret
              exact ⟨rfl, HOO.out.below.trans (O2.out.mono HOO.out.le)⟩
          · go_wp2_with first | (go_at_call 19; have _t := tok1; refine (cR _ HII.out).mono ?_; rintro e w' ⟨rfl, rfl⟩) | (at_builtin; have _t := tok1; refine wpList_append_g (by rfl) _ _ 36 rfl wr.heap.size 2 i0 (.int .i64 0) 1 8 Try.underlying36 hi hz0 hz1 hz2 rfl (by decide) _ 0 [] rfl HEM.out ⟨q2, 0, none⟩ m2 c2 _ rfl HLN.out HN1.out HON.out HB1.out.1 HB1.out.2.1 (by simp) ?_; intro v1 w1 hown1 hb1; rw [List.nil_append, Nat.zero_add] at hown1; have O1 := Lib.hid hown1; have B1 := Lib.hid (Below.trans ((Own.start wr).alloc (.cells #[] 2)).below hb1); have N2 := Lib.hid (ints_news (HII.out.own B1.out)); clear hown1 hb1 tok1 _t) | (at_builtin; refine wpList_append_g (by rfl) _ _ 36 rfl wr.heap.size 2 i0 (.int .i64 0) 1 8 Try.underlying36 hi hz0 hz1 hz2 rfl (by decide) _ m2 _ rfl O1.out ⟨q2, 0, none⟩ m2 c2 _ rfl HLN.out N2.out HON.out HB1.out.2.2.1 HB1.out.2.2.2 B1.out.size ?_; intro v2 w2 hown2 hb2; rw [← List.map_append] at hown2; obtain ⟨pq, cq, rfl, hI3⟩ := ints_ofOwns hown2 HB1.out.2.2.1; have O2 := Lib.hid (B1.out.trans hb2); have I3 := Lib.hid hI3; clear hown2 hb2 hI3) | (go_at_call 19; refine (HCQ.out _ _ _ I3.out).mono ?_; rintro e w' ⟨rfl, rfl⟩)
            go_ret
            exact ⟨rfl, HOO.out.below.trans (O2.out.mono HOO.out.le)⟩
      | succ j =>
        have ej : (((j + 1 : Nat) : Int) - 1) = (j : Int) := by omega
        rw [ej]
        obtain ⟨pb, off, rfl, hc⟩ := (HI.out.own hown).2.2 (by omega)
        have hcell := hc j (by omega)
        have e2 := drop_rev zs (Value.int .i64) j (by omega)
        have HE2 := Lib.hid e2
        generalize zs.getD j 0 = y at *
        have hjm : (j : Int) < m := by omega
        have hj0 : (0 : Int) ≤ j := by omega
        have HROW := Lib.hid hrow
        have HOWN := Lib.hid hown
        clear hc e2 hrow hown ej
        go_wp2_with (at_builtin; refine wpList_append_k _ rfl _ _ 36 rfl wB.heap.size 2 i0 (.int .i64 0) 1 8 Try.underlying36 hi hz0 hz1 hz2 rfl (by decide) _ _ _ rfl (how_keepA HROW.out _) ⟨wr.heap.size, 0, none⟩ 1 1 [.int .i64 y] rfl rfl (one_news _ _ _) (by simp [Value.oneCell']) (by decide) (by unfold maxLen; omega) (by omega) (by have := HOWN.out.le; simp; omega) ?_; intro g2 c2' w1 hown1 hbel hkp hfar hsz1; have HO1 := Lib.hid hown1; have HB1 := Lib.hid (Below.trans (HOWN.out.alloc _).below hbel); clear hown1 hbel hkp hfar hsz1)
        refine ⟨⟨j, by omega, rfl, ?_, HB1.out⟩, by first | (simp [intOf]; done) | (simp [intOf]; omega)⟩
        have h := HO1.out
        rw [← HE2.out, show m - (j + 1) + 1 = m - j from by omega] at h
        rw [show m - (j + 1) + 1 = m - j from by omega]
        exact h

theorem own : ownKnob Try.prog.godebug = none := by kernel_rfl
theorem laidOut : laidOutB Try.prog = true := by kernel_rfl
set_option maxRecDepth 100000 in
theorem lifted (os : Os) (started : os.Started) (H : Type) (enc : TypeId × Value → H) :
    ReturnsInHanded {} Try.checked os 4 .any (Rows.fnSumsSpec.pre6 enc Try.prog Try.f4 Rows.fnSumsRow.domain false) (Rows.fnSumsSpec.post enc Try.prog Try.f4 false true false false) := by
  refine returnsInHanded_of_change (C := Try.checked) own started (by kernel_rfl) Try.func4
    (ChangeSpec.witness6 (enc := enc) (C := Try.checked) false ⟨#[], #[.slice none 0 0], []⟩ 8 (by kernel_rfl) (by kernel_rfl) (by kernel_rfl) (by kernel_rfl)) ?_
  intro W base args ds gs before hval0 hW hcnd _
  have hval : ∀ (j : Nat) t v, Try.f4.params[j]? = some t → args[j]? = some v → Value.okWide Try.prog W .any base t v := hval0
  have hW' := hW
  obtain ⟨p, q, hA0, hV, rfl, hfz, hnd⟩ := hW
  have hA : DataW.TrodAll enc Try.prog W 0 (fun _ => true) true Try.f4.params.toList args.toList ds p := hA0
  rw [Try.params4] at hA hval
  obtain ⟨v0, vs0, d0, ds0, pp0, qq0, hargs, rfl, rfl, h0, rr0⟩ := trodAll_cons hA
  obtain ⟨rfl, rfl, rfl⟩ := trodAll_nil rr0
  obtain rfl : args = #[v0] := by cases args; simp_all
  obtain ⟨rfl, rfl⟩ := trodVars_none hV
  have k0_ := h0
  have lt0_ : ∀ x ∈ pp0, x.block < W.heap.size := by obtain ⟨m, hm⟩ := h0; exact DataW.trod_lt m _ _ _ hm
  obtain ⟨p0, len0, cap0, rfl⟩ := okWide_slice Try.underlying22 (hval 0 22 v0 rfl rfl)
  obtain ⟨z0, r0⟩ := open_row (k := .u8) Try.underlying22 Try.underlying5 (by kernel_rfl) h0
  clear hA0 hval0
  refine (walk  W p0 len0 cap0 z0 r0).mono fun e W' ⟨he, bel⟩ => ?_
  subst he
  exact ⟨_, rfl, _, _, _, [], _, [], hW', trodAll_mk1 (shut_bool Try.underlying4 _), (trodAll_cons_mk (Below.trod laidOut (by kernel_rfl) (of_decide_eq_true (by kernel_rfl)) k0_ bel lt0_) trodAll_mk0), rfl, bel.frame _, fun h => by cases h⟩

theorem over : Rows.fnSumsRow.holds Try.pinned (OpenSpec.ofChange Rows.fnSumsSpec) :=
  OpenClaim.holds_of_wide 4 Try.f4 rfl rfl rfl rfl rfl rfl rfl ⟨rfl, rfl, rfl, rfl, rfl⟩ rfl rfl rfl rfl rfl (by kernel_rfl) Try.func4 (by kernel_rfl)
    (of_decide_eq_true (by kernel_rfl)) (by unfold Func.isWrapper; first | (rw [if_pos (by decide +kernel)]; kernel_rfl) | (rw [if_neg (by decide +kernel)]; exact ⟨rfl, rfl⟩))
    (fun os started H enc _ => lifted os started H enc)

/-- the given statement -/
theorem proved : Rows.FnSumsSaid := over
#print axioms proved
end Go.Proofs.Ytfhliikfnhggpaa.pFnSums
