/- Contracts and lemmas for the proofs of this seat: Like. -/
import Derived.Test.YtgkfnggnhphboaaDraw
import Derived.Test.YtgkfnggnhphboaaBase
import Derived.Test.YtgkfnggnhphboaaNum
import Derived.Test.YtgkfnggnhphboaaIv
import Derived.Test.YtgkfnggnhphboaaList
import Derived.Test.YtgkfnggnhphboaaSeg
import Derived.Test.YtgkfnggnhphboaaLay
import Derived.Test.YtgkfnggnhphboaaLay2
import Derived.Test.YtgkfnggnhphboaaLay3
import Derived.Test.YtgkfnggnhphboaaLay12
import Derived.Test.YtgkfnggnhphboaaLay13
import Derived.Test.YtgkfnggnhphboaaLay15
import Derived.Test.YtgkfnggnhphboaaLay17
import Derived.Test.YtgkfnggnhphboaaLay18
import Derived.Laws.OwnMore
import Derived.Lib.Hide
import Derived.BigQuiet
import Derived.Deep.QuietTactic
import Derived.Deep.OwnRows
import Derived.Deep.LoopGhost
import Derived.Deep.RegionHeld3
import Derived.Deep.DeepCutAuto
import Derived.StillTailTactics
import Derived.Deep.AppendLies
import Derived.Deep.DrawnRows
import Derived.Outline
namespace Go.Proofs.Ytgkfnggnhphboaa
open Go.RowKit Go.Deep
set_option maxHeartbeats 2000000
set_option linter.unusedVariables false
set_option linter.unusedSimpArgs false

set_option maxRecDepth 100000 in
theorem l_likeIntervals9 (p q : Option Addr) (n c1 c2 : Nat) (f : Nat → Int) (t1 t2 : TypeId) (B1 B2 : Nat) (w : World) (hp : OwnQ t1 2 B1 w p n f) (hq : OwnQ t2 2 B2 w q n f) :
    Calls Try.prog 34 #[.slice p n c1, .slice q n c2] w fun en w' => en = .returned (.bool true) ∧ Below w.heap.size w w' := by
  have hn := hp.1
  have Hp := Lib.hid hp
  have Hq := Lib.hid hq
  clear hp hq
  go_enter Try.func34, Try.ntmps34
  go_wp2
  go_loopw [5] (fun i wr => ∃ k : Nat, k ≤ n ∧ i = .int .i64 k ∧ Own w wr) (fun i _ => n - (intOf i).toNat)
  case atStart => exact ⟨0, Nat.zero_le _, rfl, Own.start _⟩
  case round =>
    obtain ⟨k, hk, rfl, hown⟩ := hrel
    by_cases hlt : k < n
    · obtain ⟨g1, rfl, hr1⟩ := (Hp.out.keep hown).2.2 (by omega)
      obtain ⟨g2, rfl, hr2⟩ := (Hq.out.keep hown).2.2 (by omega)
      have c0 := hr1.cell (i := k * 2) (by omega)
      have c1 := hr1.cell (i := k * 2 + 1) (by omega)
      have d0 := hr2.cell (i := k * 2) (by omega)
      have d1 := hr2.cell (i := k * 2 + 1) (by omega)
      have hlen : (k : Int) < n := by omega
      obtain ⟨wA, rfl⟩ : ∃ wA : World, wA = wr := ⟨_, rfl⟩
      have HO := Lib.hid hown
      generalize f (k * 2) = x at *
      generalize f (k * 2 + 1) = y at *
      clear hr1 hr2 hown
      go_wp2
      go_quiet (fail)
      go_wp2
      go_roundw
      case rel => exact ⟨k + 1, by omega, by go_num, HO.out.drewN _⟩
      case measure => simp [intOf]; omega
    · obtain rfl : k = n := by omega
      go_wp2
      go_ret
      exact ⟨rfl, hown.below⟩

set_option maxRecDepth 100000 in
theorem l_likeInts (p q : Option Addr) (n c1 c2 : Nat) (ys : List Int) (w : World) (hp : Ints .i64 w p n ys) (hq : Ints .i64 w q n ys) :
    Calls Try.prog 55 #[.slice p n c1, .slice q n c2] w fun en w' => en = .returned (.bool true) ∧ Below w.heap.size w w' := by
  have hn := hp.2.1
  unfold maxLen at hn
  have Hp := Lib.hid hp
  have Hq := Lib.hid hq
  clear hp hq
  go_enter Try.func55, Try.ntmps55
  go_wp2
  go_loopw [5] (fun i wr => ∃ k : Nat, k ≤ n ∧ i = .int .i64 k ∧ Own w wr) (fun i _ => n - (intOf i).toNat)
  case atStart => exact ⟨0, Nat.zero_le _, rfl, Own.start _⟩
  case round =>
    obtain ⟨k, hk, rfl, hown⟩ := hrel
    by_cases hlt : k < n
    · obtain ⟨g1, o1, rfl, hr1⟩ := (Hp.out.own hown).2.2 (by omega)
      obtain ⟨g2, o2, rfl, hr2⟩ := (Hq.out.own hown).2.2 (by omega)
      have c0 := hr1 k hlt
      have d0 := hr2 k hlt
      have hlen : (k : Int) < n := by omega
      obtain ⟨wA, rfl⟩ : ∃ wA : World, wA = wr := ⟨_, rfl⟩
      have HO := Lib.hid hown
      generalize ys.getD k 0 = x at *
      clear hr1 hr2 hown
      go_wp2
      go_quiet (fail)
      go_wp2
      go_roundw
      case rel => exact ⟨k + 1, by omega, by go_num, HO.out.drewN _⟩
      case measure => simp [intOf]; omega
    · obtain rfl : k = n := by omega
      go_wp2
      go_ret
      exact ⟨rfl, hown.below⟩

theorem run_append_nil {P : Program} {w : World} {base : Nat} {t ty e : TypeId} {i : TypeInfo} {size : Nat} (ht : P.underlying t = some (.slice e)) (hi : P.info? e = some i) {v : Value} {n : Nat} {xs : List Value}
    (hown : w.ownsRow base e size v n xs) (c : Nat) : (Builtin.append_ #[t, t] ty #[v, .slice none 0 c]).run P w = .ok v w := by
  have h := hown.2
  rcases h with ⟨h1, -⟩ | ⟨g, cap, cur, h1, -, -, h2, -⟩ <;> subst h1 <;> simp [Builtin.append_, Builtin.lenOf, Builtin.firstCells, storeCells, sizeOf, typeInfo, run_underlying ht, hi, *]
theorem wpList_append_gn {P : Program} {w : World} {ops : Array Oper} {rest : List Oper} {o : Oper} {a : Act} {Q : Exit → Act → World → Prop} (hw : Region.wanted o (yielded ops a.tmps) = true) (s x : Operand) (t : TypeId)
    (ho : o.op = .call { callee := .builtin .append, args := #[s, x], argTypes := #[t, t] })
    (base : Nat) (e : TypeId) (i : TypeInfo) (z : Value) (size bytes : Nat) (ht : P.underlying t = some (.slice e)) (hi : P.info? e = some i) (hz : i.zero = some z)
    (hsize : i.size = size) (hby : i.bytes = bytes) (hzs : z.cells.size = size) (hsz : 0 < size)
    (v : Value) (n : Nat) (xs : List Value) (hs : a.eval s = v) (hown : w.ownsRow base e size v n xs)
    (q : Option Addr) (m c : Nat) (news : List Value) (hx : a.eval x = .slice q m c) (hl : news.length = m * size) (hnews : 0 < m → ∃ ad, q = some ad ∧ ∀ j u, news[j]? = some u → w.cell? (ad.add j) = some u) (h1 : ∀ u ∈ news, u.oneCell' = true)
    (h63 : n + m ≤ maxLen) (hbytes : (n + m) * bytes ≤ 140737488355328) (hbase : base ≤ w.heap.size)
    (h : ∀ v' w', w'.ownsRow base e size v' (n + m) (xs ++ news) → Below base w w' → wpList P ops Q rest (a.put o.dst v') w') : wpList P ops Q (o :: rest) a w :=
  wpList_step fun _ hK => by
    rw [if_pos hw]
    cases q with
    | none =>
      have hm : m = 0 := by
        rcases Nat.eq_zero_or_pos m with h0 | h0
        · exact h0
        · obtain ⟨_, e, _⟩ := hnews h0; cases e
      subst hm
      have hnil : news = [] := List.eq_nil_of_length_eq_zero (by omega)
      subst hnil
      have hr := run_append_nil (P := P) (w := w) (ty := o.type) (t := t) ht hi hown c
      unfold Oper.wp execOp
      simp only [ho, resolve, invoke, builtin, Sem.run_bind, Sem.run_pure, Result.andThen_ok, List.map_toArray, List.map_cons, List.map_nil, hs, hx, hr]
      exact hK _ _ (h v w (by simpa using hown) (Below.refl _ _))
    | some ad =>
      have hn' : ∀ j u, news[j]? = some u → w.cell? (ad.add j) = some u := by
        intro j u hj
        rcases Nat.eq_zero_or_pos m with h0 | h0
        · subst h0
          have hnil : news = [] := List.eq_nil_of_length_eq_zero (by omega)
          subst hnil
          simp at hj
        · obtain ⟨ad', e, hc⟩ := hnews h0
          cases e
          exact hc j u hj
      exact wp_append_own w s x t ho base e i z size bytes ht hi hz hsize hby hzs hsz v n xs hs hown ad m c news hx hl hn' h1 h63 hbytes hbase fun v' w' h2 h3 _ => hK _ _ (h v' w' h2 (grown_below h3 hbase fun k hk => (hown.lt k hk).1))
/-- a slice of numbers in new memory, as the source of an append -/
theorem OwnQ.news {t : TypeId} {sz B : Nat} {w : World} {q : Option Addr} {n : Nat} {f : Nat → Int} (h : OwnQ t sz B w q n f) : 0 < n → ∃ ad, q = some ad ∧ ∀ j u, (rowV f (n * sz))[j]? = some u → w.cell? (ad.add j) = some u := by
  intro hn
  obtain ⟨g, e, hr⟩ := h.2.2 hn
  refine ⟨_, e, fun j u hj => ?_⟩
  have hlt : j < n * sz := by
    rcases Nat.lt_or_ge j (n * sz) with h' | h'
    · exact h'
    · rw [List.getElem?_eq_none (by rw [rowV_len]; exact h')] at hj; cases hj
  rw [rowV_get f _ j hlt] at hj
  have e2 : (⟨g, 0, none⟩ : Addr).add j = ⟨g, j, none⟩ := by unfold Addr.add; split <;> simp_all
  rw [e2, hr.cell hlt]
  exact hj
theorem rowV_one (f : Nat → Int) (m : Nat) : ∀ u ∈ rowV f m, u.oneCell' = true := by
  intro u hu
  simp only [rowV, List.mem_map] at hu
  obtain ⟨i, _, rfl⟩ := hu
  rfl
theorem rowV_append (f g : Nat → Int) (a b : Nat) (h : ∀ i, i < b → g i = f (a + i)) : rowV f a ++ rowV g b = rowV f (a + b) := by
  apply List.ext_getElem?
  intro i
  by_cases h1 : i < a
  · rw [List.getElem?_append_left (by rw [rowV_len]; exact h1), rowV_get f a i h1, rowV_get f _ i (by omega)]
  · by_cases h2 : i < a + b
    · rw [List.getElem?_append_right (by rw [rowV_len]; omega), rowV_len, rowV_get g b _ (by omega), rowV_get f _ i h2, h _ (by omega)]
      congr 3
      omega
    · rw [List.getElem?_eq_none (by rw [List.length_append, rowV_len, rowV_len]; omega), List.getElem?_eq_none (by rw [rowV_len]; omega)]
theorem own_empty2 (W : World) (t : TypeId) (sz : Nat) : (W.alloc (.cells #[] t)).ownsRow W.heap.size t sz (.slice (some ⟨W.heap.size, 0, none⟩) 0 0) 0 [] :=
  ⟨by simp, .inr ⟨W.heap.size, 0, #[], rfl, Nat.le_refl _, World.alloc_heap_new W _, Nat.le_refl _, by unfold maxLen; omega, by simp, by simp⟩⟩

end Go.Proofs.Ytgkfnggnhphboaa
