/- Contracts and lemmas for the proofs of this seat: Lay3. -/
import Derived.Test.YtgkfnggnhphboaaBase
import Derived.Test.YtgkfnggnhphboaaNum
import Derived.Test.YtgkfnggnhphboaaIv
import Derived.Test.YtgkfnggnhphboaaIv2
import Derived.Test.YtgkfnggnhphboaaDiv
import Derived.Test.YtgkfnggnhphboaaRoot
import Derived.Test.YtgkfnggnhphboaaEn
import Derived.Test.YtgkfnggnhphboaaSeg
import Derived.Test.YtgkfnggnhphboaaList
import Derived.Test.YtgkfnggnhphboaaLay
import Derived.Test.YtgkfnggnhphboaaLay2
import Derived.Lib.Hide
import Derived.BigQuiet
import Derived.Deep.QuietTactic
import Derived.Deep.OwnRows
import Derived.Deep.LoopGhost
import Derived.Deep.RegionHeld3
import Derived.Deep.DeepCutAuto
import Derived.StillTailTactics
import Derived.Deep.AppendLies
import Derived.Deep.DrawnRows
import Derived.Outline
namespace Go.Proofs.Ytgkfnggnhphboaa
open Go.RowKit Go.Deep
set_option maxHeartbeats 2000000
set_option linter.unusedVariables false
set_option linter.unusedSimpArgs false

attribute [local go_sem] lt_2 lt_3 lt_4 lt_5 lt_6
/-- the first m numbers of a row, as values -/
def rowV (f : Nat → Int) (m : Nat) : List Value := (List.range m).map fun i => .int .i64 (f i)
theorem rowV_len (f : Nat → Int) (m : Nat) : (rowV f m).length = m := by simp [rowV]
theorem rowV_get (f : Nat → Int) (m i : Nat) (h : i < m) : (rowV f m)[i]? = some (.int .i64 (f i)) := by simp [rowV, h]
theorem rowV_snoc (f : Nat → Int) (m : Nat) : rowV f m ++ [.int .i64 (f m)] = rowV f (m + 1) := by simp [rowV, List.range_succ]
theorem grown_below {B : Nat} {u v : World} {row : Option Nat} (hg : u.grownBy v row) (hB : B ≤ u.heap.size) (hr : ∀ k, row = some k → B ≤ k) : Below B u v := (Below.refl B u).grown hg hB hr
theorem alloc2_new (w : World) (o o2 : Obj) : ((w.alloc o).alloc o2).heap[w.heap.size + 1]? = some o2 := by
  have h := heap_alloc_new (w.alloc o) o2
  rw [World.size_alloc] at h
  exact h
theorem one_news (w : World) (v : Value) (t : TypeId) : ∀ j u, [v][j]? = some u → (w.alloc (.cells #[v] t)).cell? ((⟨w.heap.size, 0, none⟩ : Addr).add j) = some u := by
  have h := World.news_of_block (w := w.alloc (.cells #[v] t)) (B := w.heap.size) (cs := #[v]) (t := t) (heap_alloc_new w _)
  exact fun j u hu => h j u hu
theorem two_news (w : World) (o : Obj) (v : Value) (t : TypeId) : ∀ j u, [v][j]? = some u → ((w.alloc o).alloc (.cells #[v] t)).cell? ((⟨w.heap.size + 1, 0, none⟩ : Addr).add j) = some u := by
  have h := World.news_of_block (w := (w.alloc o).alloc (.cells #[v] t)) (B := w.heap.size + 1) (cs := #[v]) (t := t) (alloc2_new w o _)
  exact fun j u hu => h j u hu

theorem append_keeps {P : Program} (w : World) (t ty : TypeId) (base : Nat) (e : TypeId) (i : TypeInfo) (z : Value) (size bytes : Nat) (ht : P.underlying t = some (.slice e)) (hi : P.info? e = some i) (hz : i.zero = some z)
    (hsize : i.size = size) (hby : i.bytes = bytes) (hzs : z.cells.size = size) (hsz : 0 < size)
    (v : Value) (n : Nat) (xs : List Value) (hown : w.ownsRow base e size v n xs)
    (ad : Addr) (m c : Nat) (news : List Value) (hl : news.length = m * size) (hnews : ∀ j u, news[j]? = some u → w.cell? (ad.add j) = some u) (h1 : ∀ u ∈ news, u.oneCell' = true)
    (h63 : n + m ≤ maxLen) (hbytes : (n + m) * bytes ≤ 140737488355328) (v' : Value) (w' : World)
    (hr : (Builtin.append_ #[t, t] ty #[v, .slice (some ad) m c]).run P w = .ok v' w') (hown' : w'.ownsRow base e size v' (n + m) (xs ++ news)) :
    ∀ g0 j u, v.ownBlock = some g0 → xs[j]? = some u → w'.cell? ⟨g0, j, none⟩ = some u := by
  subst hsize
  subst hby
  have hsmall : n + m ≤ 9223372036854775807 := by simp only [maxLen] at h63; omega
  intro g0 j u hg0 hj
  rcases hown.2 with ⟨rfl, rfl⟩ | ⟨g, cap, cur, rfl, hbg, hg, hnc, hcm, hcs, htake⟩
  · simp [Value.ownBlock] at hg0
  · obtain rfl : g = g0 := by simpa [Value.ownBlock] using hg0
    have hj0 : j < xs.length := by
      rcases Nat.lt_or_ge j xs.length with h | h
      · exact h
      · rw [List.getElem?_eq_none h] at hj; cases hj
    by_cases hroom : n + m ≤ cap
    · have hfit : n * i.size + news.length ≤ cur.size := by rw [hl, hcs, ← Nat.add_mul]; exact Nat.mul_le_mul_right _ hroom
      have hr2 := run_append_room (P := P) w t ty e i ht hi g n cap cur hg ad m c news hl hnews h1 hroom hfit
      rw [hr2] at hr
      cases hr
      have hjl : j < (n + m) * i.size := by have := hown.1; rw [Nat.add_mul]; omega
      rw [hown'.cellAt j hjl, List.getElem?_append_left hj0]
      exact hj
    · have holds : ∀ j u, xs[j]? = some u → w.cell? ((⟨g, 0, none⟩ : Addr).add j) = some u := hown.cells (g := g) rfl
      have hr2 := run_append_grow (P := P) w t ty e i z ht hi hz ⟨g, 0, none⟩ n cap xs hown.1 holds ad m c news hl hnews (by omega) (by omega) (growslice_fits (by omega) hbytes)
      rw [hr2] at hr
      cases hr
      have hlt : g < w.heap.size := (Array.getElem?_eq_some_iff.1 hg).1
      have e1 := holds j u hj
      have e2 : (⟨g, 0, none⟩ : Addr).add j = ⟨g, j, none⟩ := by unfold Addr.add; split <;> simp_all
      rw [e2] at e1
      rw [← e1]
      exact World.cell?_of_block (heap_alloc_old w.drew _ hlt)
theorem wp_append_k {P : Program} (w : World) {o : Oper} {a : Act} {K : Act → World → Prop} {Q : Exit → Act → World → Prop} (s x : Operand) (t : TypeId)
    (ho : o.op = .call { callee := .builtin .append, args := #[s, x], argTypes := #[t, t] })
    (base : Nat) (e : TypeId) (i : TypeInfo) (z : Value) (size bytes : Nat) (ht : P.underlying t = some (.slice e)) (hi : P.info? e = some i) (hz : i.zero = some z)
    (hsize : i.size = size) (hby : i.bytes = bytes) (hzs : z.cells.size = size) (hsz : 0 < size)
    (v : Value) (n : Nat) (xs : List Value) (hs : a.eval s = v) (hown : w.ownsRow base e size v n xs)
    (ad : Addr) (m c : Nat) (news : List Value) (hx : a.eval x = .slice (some ad) m c) (hl : news.length = m * size) (hnews : ∀ j u, news[j]? = some u → w.cell? (ad.add j) = some u) (h1 : ∀ u ∈ news, u.oneCell' = true)
    (hm : 0 < m) (h63 : n + m ≤ maxLen) (hbytes : (n + m) * bytes ≤ 140737488355328) (hbase : base ≤ w.heap.size)
    (h : ∀ g cap w', w'.ownsRow base e size (.slice (some ⟨g, 0, none⟩) (n + m) cap) (n + m) (xs ++ news) → Below base w w' → (∀ g0 j u, v.ownBlock = some g0 → xs[j]? = some u → w'.cell? ⟨g0, j, none⟩ = some u) → (∀ k, k < w.heap.size → (∀ g0, v.ownBlock = some g0 → k ≠ g0) → w'.heap[k]? = w.heap[k]?) → w.heap.size ≤ w'.heap.size → K (a.put o.dst (.slice (some ⟨g, 0, none⟩) (n + m) cap)) w') : o.wp P a w K Q := by
  obtain ⟨g, cap, w', hr, h2, h3, h4, h5⟩ := run_append_lies (P := P) w t o.type base e i z size bytes ht hi hz hsize hby hzs hsz v n xs hown ad m c news hl hnews h1 hm h63 hbytes hbase _ rfl
  have hk := append_keeps (P := P) w t o.type base e i z size bytes ht hi hz hsize hby hzs hsz v n xs hown ad m c news hl hnews h1 h63 hbytes _ _ hr h2
  unfold Oper.wp execOp
  simp only [ho, resolve, invoke, builtin, Sem.run_bind, Sem.run_pure, Result.andThen_ok, List.map_toArray, List.map_cons, List.map_nil, hs, hx, hr]
  exact h g cap w' h2 (grown_below h3 hbase fun k hk => (hown.lt k hk).1) hk (fun k hk hne => h3.block k hk fun e => hne k e.symm rfl) h3.size
theorem step_append_k {P : Program} (w : World) {ops : Array Oper} {o : Oper} {a : Act} {K : Act → World → Prop} {Q : Exit → Act → World → Prop} {E : Prop} (hgd : o.guard = none) (s x : Operand) (t : TypeId)
    (ho : o.op = .call { callee := .builtin .append, args := #[s, x], argTypes := #[t, t] })
    (base : Nat) (e : TypeId) (i : TypeInfo) (z : Value) (size bytes : Nat) (ht : P.underlying t = some (.slice e)) (hi : P.info? e = some i) (hz : i.zero = some z)
    (hsize : i.size = size) (hby : i.bytes = bytes) (hzs : z.cells.size = size) (hsz : 0 < size)
    (v : Value) (n : Nat) (xs : List Value) (hs : a.eval s = v) (hown : w.ownsRow base e size v n xs)
    (ad : Addr) (m c : Nat) (news : List Value) (hx : a.eval x = .slice (some ad) m c) (hl : news.length = m * size) (hnews : ∀ j u, news[j]? = some u → w.cell? (ad.add j) = some u) (h1 : ∀ u ∈ news, u.oneCell' = true)
    (hm : 0 < m) (h63 : n + m ≤ maxLen) (hbytes : (n + m) * bytes ≤ 140737488355328) (hbase : base ≤ w.heap.size)
    (h : ∀ g cap w', w'.ownsRow base e size (.slice (some ⟨g, 0, none⟩) (n + m) cap) (n + m) (xs ++ news) → Below base w w' → (∀ g0 j u, v.ownBlock = some g0 → xs[j]? = some u → w'.cell? ⟨g0, j, none⟩ = some u) → (∀ k, k < w.heap.size → (∀ g0, v.ownBlock = some g0 → k ≠ g0) → w'.heap[k]? = w.heap[k]?) → w.heap.size ≤ w'.heap.size → K (a.put o.dst (.slice (some ⟨g, 0, none⟩) (n + m) cap)) w') :
    if Region.wanted o (yielded ops a.tmps) = true then Oper.wp P o a w K Q else E := by
  have hw : Region.wanted o (yielded ops a.tmps) = true := by simp [Region.wanted, hgd]
  rw [if_pos hw]
  exact wp_append_k w s x t ho base e i z size bytes ht hi hz hsize hby hzs hsz v n xs hs hown ad m c news hx hl hnews h1 hm h63 hbytes hbase h
theorem wpList_append_k {P : Program} (w : World) {ops : Array Oper} {rest : List Oper} {o : Oper} {a : Act} {Q : Exit → Act → World → Prop} (hgd : o.guard = none) (s x : Operand) (t : TypeId)
    (ho : o.op = .call { callee := .builtin .append, args := #[s, x], argTypes := #[t, t] })
    (base : Nat) (e : TypeId) (i : TypeInfo) (z : Value) (size bytes : Nat) (ht : P.underlying t = some (.slice e)) (hi : P.info? e = some i) (hz : i.zero = some z)
    (hsize : i.size = size) (hby : i.bytes = bytes) (hzs : z.cells.size = size) (hsz : 0 < size)
    (v : Value) (n : Nat) (xs : List Value) (hs : a.eval s = v) (hown : w.ownsRow base e size v n xs)
    (ad : Addr) (m c : Nat) (news : List Value) (hx : a.eval x = .slice (some ad) m c) (hl : news.length = m * size) (hnews : ∀ j u, news[j]? = some u → w.cell? (ad.add j) = some u) (h1 : ∀ u ∈ news, u.oneCell' = true)
    (hm : 0 < m) (h63 : n + m ≤ maxLen) (hbytes : (n + m) * bytes ≤ 140737488355328) (hbase : base ≤ w.heap.size)
    (h : ∀ g cap w', w'.ownsRow base e size (.slice (some ⟨g, 0, none⟩) (n + m) cap) (n + m) (xs ++ news) → Below base w w' → (∀ g0 j u, v.ownBlock = some g0 → xs[j]? = some u → w'.cell? ⟨g0, j, none⟩ = some u) → (∀ k, k < w.heap.size → (∀ g0, v.ownBlock = some g0 → k ≠ g0) → w'.heap[k]? = w.heap[k]?) → w.heap.size ≤ w'.heap.size → wpList P ops Q rest (a.put o.dst (.slice (some ⟨g, 0, none⟩) (n + m) cap)) w') : wpList P ops Q (o :: rest) a w :=
  wpList_plain hgd fun _ hK => wp_append_k w s x t ho base e i z size bytes ht hi hz hsize hby hzs hsz v n xs hs hown ad m c news hx hl hnews h1 hm h63 hbytes hbase fun g cap w' h2 h3 h4 h5 h6 => hK _ _ (h g cap w' h2 h3 h4 h5 h6)

set_option maxRecDepth 100000 in
theorem i_starts (p : Option Addr) (n cap : Nat) (zs : List Seg) (w : World) (hin : Segs w p n zs) (hn : n ≤ 1048576) (hA : AllOk zs n) :
    Calls Try.prog 75 #[.agg #[.slice p n cap]] w fun e w' => ∃ g c, e = .returned (.slice (some ⟨g, 0, none⟩) (n + 1) c) ∧ w'.ownsRow (w.heap.size + 1) 2 1 (.slice (some ⟨g, 0, none⟩) (n + 1) c) (n + 1) (rowV (preN zs) (n + 1)) ∧ Below w.heap.size w w' := by
  obtain ⟨i0, hi, hz0, hz1, hz2⟩ := info_parts (P := Try.prog) (e := 2) (z := .int .i64 0) (size := 1) (bytes := 8) (by kernel_rfl)
  have HIN' := Lib.hid (hin.keep ((Below.refl _ _).alloc (Nat.le_refl _) (Obj.cells #[.slice p n cap] 26)))
  clear hin
  have hown0 : ((w.alloc (Obj.cells #[.slice p n cap] 26)).alloc (Obj.cells #[Value.int IntKind.i64 0] 2)).ownsRow (w.heap.size + 1) 2 1 (.slice (some ⟨w.heap.size + 1, 0, none⟩) 1 1) 1 (rowV (preN zs) 1) :=
    ⟨rfl, .inr ⟨w.heap.size + 1, 1, #[Value.int IntKind.i64 0], rfl, Nat.le_refl _, alloc2_new _ _ _, Nat.le_refl _, by unfold maxLen; omega, rfl, rfl⟩⟩
  have HOW := Lib.hid hown0
  have HA := Lib.hid hA
  clear hown0 hA
  go_enter Try.func75, Try.ntmps75
  go_wp2
  go_loopw [3, 10] (fun v i wr => ∃ k : Nat, k ≤ n ∧ i = .int .i64 k ∧ (∃ g c, v = .slice (some ⟨g, 0, none⟩) (k + 1) c ∧ wr.ownsRow (w.heap.size + 1) 2 1 (.slice (some ⟨g, 0, none⟩) (k + 1) c) (k + 1) (rowV (preN zs) (k + 1))) ∧ Own (w.alloc (Obj.cells #[.slice p n cap] 26)) wr) (fun _ i _ => n - (intOf i).toNat)
  case atStart => exact ⟨0, Nat.zero_le _, rfl, ⟨_, _, rfl, HOW.out⟩, (Own.start _).alloc _⟩
  case round =>
    obtain ⟨k, hk, rfl, ⟨g, c, rfl, how⟩, hown⟩ := hrel
    have HO := Lib.hid hown
    obtain ⟨hbx, hbf, hbl⟩ := below_box (k := w.heap.size) hown.below (by simp)
    have hbx := hbx 0
    simp at hbx
    by_cases hlt : k < n
    · obtain ⟨b, off, rfl, hlb, hc⟩ := (HIN'.out.own hown).2.2 (by omega)
      obtain ⟨c0, c1, c2, c3, c4, c5, c6⟩ := hc k hlt
      have hlen : (k : Int) < n := by omega
      obtain ⟨wA, rfl⟩ : ∃ wA : World, wA = wr := ⟨_, rfl⟩
      obtain ⟨s, hs⟩ : ∃ s, s = sg zs k := ⟨_, rfl⟩
      rw [← hs] at c0 c1 c2 c3 c4 c5 c6
      have HSG := Lib.hid hs
      have hA' : AllOk zs k := fun i hi => HA.out i (by omega)
      have hR := preN_bd hA'
      have hb := ok_bd (HA.out k hlt)
      rw [← hs] at hb
      have hgl := how.lt g rfl
      have hgc := how.cellAt k (by omega)
      rw [rowV_get _ _ _ (by omega)] at hgc
      have hne : ¬ wA.heap.size = g := by omega
      have HOWN := Lib.hid how
      obtain ⟨x, hx⟩ : ∃ x, x = preN zs k := ⟨_, rfl⟩
      rw [← hx] at hR hgc
      have HX := Lib.hid hx
      clear hc hown hbf hs hA' how hx
      go_upto_region 2 with fail
      have hst : IntKind.i64.wrap (x + s.n) = x + s.n := IntWalk.i64_in _ (by omega)
      have hk0 : (0 : Int) ≤ (k : Int) := by omega
      have hk1 : (k : Int) < (k : Int) + 1 := by omega
      have hxs : (rowV (preN zs) (k + 1))[k]? = some (.int .i64 x) := by rw [HX.out]; exact rowV_get _ _ _ (by omega)
      have HXS := Lib.hid hxs
      clear hxs
      go_region_held3 (fun w' => w'.cell? ⟨g, k, none⟩ = some (.int .i64 x) ∧ w'.cell? ⟨wA.heap.size, 1, none⟩ = some (.int .i64 s.n)) (first | go_keep | exact ⟨hkp _ _ _ rfl HXS.out, (World.cell?_of_block (a := ⟨wA.heap.size, 1, none⟩) (hfar wA.heap.size (by simp; omega) (fun g0 e => by simp [Value.ownBlock] at e; omega))).trans (by go_simp)⟩) ((refine step_append_k _ (by rfl) _ _ 40 (by rfl) (w.heap.size + 1) 2 i0 (.int .i64 0) 1 8 Try.underlying40 hi hz0 hz1 hz2 rfl (by decide) _ _ _ (by rfl) ((HOWN.out.alloc _).alloc _) ⟨wA.heap.size + 1, 0, none⟩ 1 1 [.int .i64 (x + s.n)] (by rfl) rfl (two_news _ _ _ _) (by simp [Value.oneCell']) (by decide) (by unfold maxLen; omega) (by omega) (by simp; omega) ?_; intro g2 c2 w1 hown1 hbel hkp hfar hsz1))
      have HOWN1 := Lib.hid hown1
      have HBEL := Lib.hid hbel
      clear hown1 hbel hkp hfar
      go_wp2
      go_roundw
      case rel => exact ⟨k + 1, by omega, by go_num, ⟨_, _, rfl, by have h := HOWN1.out; rw [show x + s.n = preN zs (k + 1) from by simp only [preN]; rw [HX.out, HSG.out], rowV_snoc] at h; exact h⟩, Below.trans ((HO.out.alloc _).alloc _).drew.below (HBEL.out.mono (Nat.le_of_eq (World.size_alloc _ _)))⟩
      case measure => simp [intOf]; omega
    · obtain rfl : k = n := by omega
      have HOWN := Lib.hid how
      clear hown how
      go_wp2
      go_ret
      exact ⟨g, c, rfl, HOWN.out, bto (balloc (Below.refl _ _) _) HO.out.below⟩

theorem Segs.drew {w : World} {p : Option Addr} {n : Nat} {zs : List Seg} (h : Segs w p n zs) : Segs w.drew p n zs := h
theorem Segs.drewN {w : World} {p : Option Addr} {n : Nat} {zs : List Seg} (h : Segs w p n zs) (m : Nat) : Segs (w.drewN m) p n zs := h
theorem Segs.alloc {w : World} {p : Option Addr} {n : Nat} {zs : List Seg} (h : Segs w p n zs) (o : Obj) : Segs (w.alloc o) p n zs := h.keep ((Below.refl _ _).alloc (Nat.le_refl _) o)
set_option maxRecDepth 100000 in
theorem i_size (p : Option Addr) (n cap : Nat) (zs : List Seg) (w : World) (hin : Segs w p n zs) (hL : LayOk zs) :
    Calls Try.prog 76 #[.agg #[.slice p n cap]] w fun en w' => en = .returned (.int .i64 (totN zs)) ∧ Below w.heap.size w w' := by
  have hz := hin.1
  have hn : n ≤ 24 := by have := hL.2.1; omega
  have hA : AllOk zs n := fun i hi => hL.2.2.1 i (by omega)
  have HIN' := Lib.hid (hin.alloc (Obj.cells #[.slice p n cap] 26)).drew
  have HA := Lib.hid hA
  have HZ := Lib.hid hz
  have hni : (n : Int) < (n : Int) + 1 := by omega
  have hn0 : (0 : Int) ≤ n := by omega
  clear hin hL hA hz
  go_enter Try.func76, Try.ntmps76
  go_upto_region 1 with fail
  go_region_with (first | (go_at_call 75; refine (i_starts p n cap zs _ (by exact HIN'.out) (by omega) HA.out).mono ?_; rintro e w' ⟨g, c, rfl, how, hb⟩; have hbx := (below_box (k := w.heap.size) hb (by simp)).1 0; have hcl := how.cellAt n (by omega); rw [rowV_get _ _ _ (by omega)] at hcl; have HB := Lib.hid hb; clear hb how))
  all_goals (go_wp2; go_ret; exact ⟨ret_int (by unfold totN; rw [HZ.out]), bto (Below.drew (balloc (Below.refl _ _) _)) HB.out⟩)

end Go.Proofs.Ytgkfnggnhphboaa
