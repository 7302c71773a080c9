/- Contracts and lemmas for the proofs of this seat: DRow. -/
import Derived.Test.YtfhliikfnhggpaaDraw3
import Derived.Test.YtfhliikfnhggpaaDraw2
import Derived.Test.YtfhliikfnhggpaaDraw
import Derived.Test.YtfhliikfnhggpaaBase
import Derived.Test.YtfhliikfnhggpaaNum
import Derived.Test.YtfhliikfnhggpaaIv
import Derived.Test.YtfhliikfnhggpaaIv2
import Derived.Test.YtfhliikfnhggpaaRoot
import Derived.Test.YtfhliikfnhggpaaEn
import Derived.Test.YtfhliikfnhggpaaSeg
import Derived.Test.YtfhliikfnhggpaaList
import Derived.Test.YtfhliikfnhggpaaLay
import Derived.Test.YtfhliikfnhggpaaLay2
import Derived.Test.YtfhliikfnhggpaaLay3
import Derived.Lib.Hide
import Derived.BigQuiet
import Derived.Deep.QuietTactic
import Derived.Deep.OwnRows
import Derived.Deep.LoopGhost
import Derived.OneCell
import Derived.Lib.SmallJoins
import Derived.StillTailTactics
import Derived.RangeFuncBox
import Derived.Deep.RegionHeld3
import Derived.Deep.DeepCutAuto
namespace Go.Proofs.Ytfhliikfnhggpaa
open Go.RowKit Go.Deep
set_option maxHeartbeats 2000000
set_option linter.unusedVariables false
set_option linter.unusedSimpArgs false

def Row (W : World) (B : Nat) (t : TypeId) (sz : Nat) (v : Value) (m : Nat) : Prop := ∃ zs : List Int, W.ownsRow B t sz v m (zs.map (Value.int .i64))
section
variable {W W' : World} {B m sz : Nat} {t : TypeId} {v : Value}
theorem Row.blockwise (h : Row W B t sz v m) (hb : ∀ g, B ≤ g → g < W.heap.size → W'.heap[g]? = W.heap[g]?) : Row W' B t sz v m := by
  obtain ⟨zs, h1, h2⟩ := h
  refine ⟨zs, h1, ?_⟩
  rcases h2 with h2 | ⟨g, cap, cur, e, hB, hg, r⟩
  · exact .inl h2
  · exact .inr ⟨g, cap, cur, e, hB, (hb g hB (Array.getElem?_eq_some_iff.1 hg).1).trans hg, r⟩
theorem Row.below (h : Row W B t sz v m) (hb : Below W.heap.size W W') : Row W' B t sz v m := h.blockwise fun g _ hg => hb.block g hg
theorem Row.only {b : Nat} (h : Row W B t sz v m) (hO : Only b W W') (hb : b < B) : Row W' B t sz v m := h.blockwise fun g hB hg => hO.block g hg (by omega)
theorem Row.alloc (h : Row W B t sz v m) (o : Obj) : Row (W.alloc o) B t sz v m := h.below ((Below.refl _ _).alloc (Nat.le_refl _) o)
theorem Row.drew (h : Row W B t sz v m) : Row W.drew B t sz v m := h
theorem Row.drewN (h : Row W B t sz v m) (k : Nat) : Row (W.drewN k) B t sz v m := h
theorem Row.empty (W : World) (B : Nat) (t : TypeId) (sz : Nat) (hB : B ≤ W.heap.size) : Row (W.alloc (.cells #[] t)) B t sz (.slice (some ⟨W.heap.size, 0, none⟩) 0 0) 0 :=
  ⟨[], by simp, .inr ⟨W.heap.size, 0, #[], rfl, hB, World.alloc_heap_new W _, Nat.le_refl _, by unfold maxLen; omega, by simp, by simp⟩⟩
theorem Row.grown (zs : List Int) (x : Int) {g c : Nat} (h : W.ownsRow B t 1 (.slice (some ⟨g, 0, none⟩) (m + 1) c) (m + 1) (zs.map (Value.int .i64) ++ [.int .i64 x])) : Row W B t 1 (.slice (some ⟨g, 0, none⟩) (m + 1) c) (m + 1) :=
  ⟨zs ++ [x], by simpa using h⟩
theorem how_keepA {w : World} {B : Nat} {t : TypeId} {sz : Nat} {v : Value} {n : Nat} {xs : List Value} (h : w.ownsRow B t sz v n xs) (o : Obj) : (w.alloc o).ownsRow B t sz v n xs := h.alloc o
theorem ints_ofOwns {zs : List Int} (h : W.ownsRow B t 1 v m (zs.map (Value.int .i64))) (hm : m ≤ maxLen) : ∃ p c, v = .slice p m c ∧ Ints .i64 W p m zs := by
  obtain ⟨h1, h2⟩ := h
  simp only [List.length_map, Nat.mul_one] at h1
  rcases h2 with ⟨rfl, rfl⟩ | ⟨g, cap, cur, rfl, hB, hg, h3, h4, h5, h6⟩
  · exact ⟨none, 0, rfl, ⟨h1, by omega, fun h => absurd h (by omega)⟩⟩
  · refine ⟨_, cap, rfl, ⟨h1, hm, fun _ => ⟨g, 0, rfl, fun i hi => ?_⟩⟩⟩
    have e : cur.toList[i]? = some (.int .i64 (zs.getD i 0)) := by
      have : (cur.toList.take (m * 1))[i]? = (zs.map (Value.int .i64))[i]? := by rw [h6]
      rw [List.getElem?_take, if_pos (by omega)] at this
      rw [this]
      simp [List.getD_eq_getElem?_getD, List.getElem?_eq_getElem (show i < zs.length by omega)]
    simp only [World.cell?, hg, Nat.zero_add]
    simpa using e
theorem Row.ints (h : Row W B t 1 v m) (hm : m ≤ maxLen) : ∃ p c zs, v = .slice p m c ∧ Ints .i64 W p m zs ∧ ∀ g o, p = some ⟨g, o, none⟩ → B ≤ g := by
  obtain ⟨zs, h1, h2⟩ := h
  simp only [List.length_map, Nat.mul_one] at h1
  rcases h2 with ⟨rfl, rfl⟩ | ⟨g, cap, cur, rfl, hB, hg, h3, h4, h5, h6⟩
  · exact ⟨none, 0, zs, rfl, ⟨h1, by omega, fun h => absurd h (by omega)⟩, fun g o h => by simp at h⟩
  · refine ⟨_, cap, zs, rfl, ⟨h1, hm, fun _ => ⟨g, 0, rfl, fun i hi => ?_⟩⟩, fun g' o h => by simp at h; omega⟩
    have e : cur.toList[i]? = some (.int .i64 (zs.getD i 0)) := by
      have : (cur.toList.take (m * 1))[i]? = (zs.map (Value.int .i64))[i]? := by rw [h6]
      rw [List.getElem?_take, if_pos (by omega)] at this
      rw [this]
      simp [List.getD_eq_getElem?_getD, List.getElem?_eq_getElem (show i < zs.length by omega)]
    simp only [World.cell?, hg, Nat.zero_add]
    simpa using e
theorem Dw.row {b : Nat} {p : Option Addr} {n cap : Nat} {w : World} {ks : List (Nat × Nat)} (h : Dw b p n cap w W ks) (hB : Below B W W') (hb : b < B) (hw : w.heap.size ≤ B) (hks : ∀ q ∈ ks, q.1 < B) : Dw b p n cap w W' ks := by
  have hlt := h.src.lt
  refine ⟨h.base, ?_, ⟨hB.os.trans h.only.os, hB.tape.trans h.only.tape, hB.output.trans h.only.output, Nat.le_trans h.only.size hB.size, fun k hk hne => (hB.block k (by omega)).trans (h.only.block k hk hne)⟩, fun q hq => ⟨?_, (h.box q hq).2⟩⟩
  · obtain ⟨k, sd, h1, h2, h3, h4, h5, h6⟩ := h.src
    refine ⟨k, sd, (hB.block b hb).trans h1, h2, h3, h4, h5, fun hn => ?_⟩
    obtain ⟨pb, off, e, hpb, hc⟩ := h6 hn
    obtain ⟨pb', off', e', hc'⟩ := h.base.2 hn
    rw [e] at e'
    simp only [Option.some.injEq, Addr.mk.injEq, and_true] at e'
    obtain ⟨rfl, rfl⟩ := e'
    obtain ⟨_, _, hz'⟩ := hc' 0 hn
    have hl := World.block_lt_of_cell? w _ hz'
    simp only at hl
    refine ⟨pb, off, e, hpb, fun i hi => ?_⟩
    obtain ⟨z, hz, hcz⟩ := hc i hi
    exact ⟨z, hz, (hB.cell (p := ⟨pb, off + i, none⟩) (by simp only; omega)).trans hcz⟩
  · have hbx := (h.box q hq).1
    have hk := hks q hq
    exact ⟨Nat.lt_of_lt_of_le hbx.lt hB.size, fun i hi => by
      obtain ⟨x, hx⟩ := hbx.cell i hi
      exact ⟨x, (hB.cell (p := ⟨q.1, i, none⟩) hk).trans hx⟩, fun i hi => (hB.frozen (p := ⟨q.1, i, none⟩) hk).trans (hbx.free i hi)⟩
end
theorem ints_made {w' : World} {g n : Nat} {t : TypeId} (h : w'.rowIs g t n (fun _ => .int .i64 0)) (hn : n ≤ maxLen) : Ints .i64 w' (some ⟨g, 0, none⟩) n (List.replicate n 0) :=
  ⟨by simp, hn, fun _ => ⟨g, 0, rfl, fun i hi => by
    have := h.cell hi
    simpa [List.getD_eq_getElem?_getD, hi] using this⟩⟩

def DrawnInts (w : World) (e : Ending) (w' : World) : Prop := ∃ (q : Option Addr) (m c : Nat) (zs : List Int), e = .returned (.slice q m c) ∧ m ≤ 1000 ∧ Ints .i64 w' q m zs ∧ Below w.heap.size w w'
set_option maxRecDepth 100000 in
theorem s_DrawSumOf (p : Option Addr) (n cap : Nat) (w : World) (hin : Bytes w p n) :
    Calls Try.prog 15 #[.slice p n cap] w (DrawnInts w) := by
  obtain ⟨i0, hi, hz0, hz1, hz2⟩ := info_parts (P := Try.prog) (e := 2) (z := .int .i64 0) (size := 1) (bytes := 8) (by kernel_rfl)
  have hP := Pw.start w
  go_enter Try.func15, Try.ntmps15
  go_upto_region 2 with (go_at_call 22; refine (s_l01From p n cap _ hin).mono ?_; rintro e w' ⟨rfl, hS, hB⟩; have hD := Pw.from (Pw.start w) hin hS hB; clear hS hB; obtain ⟨b, hbq⟩ : ∃ b, b = w.heap.size := ⟨_, rfl⟩; rw [← hbq] at hD ⊢; have hb1 : b ≤ w.heap.size := Nat.le_of_eq hbq; have hb2 : w.heap.size ≤ b := Nat.le_of_eq hbq.symm; clear hbq)
  obtain ⟨wA, rfl⟩ : ∃ wA : World, wA = w' := ⟨_, rfl⟩
  have hR := Row.empty wA (b + 1) 2 1 hD.ltb
  go_upto_region 4 with (go_at_call 29; refine (s_l01Next b _ p n cap _ (Dw.src (w := w) (ks := []) (by (repeat (first | with_reducible assumption | focus ((with_reducible refine Dw.new' ?_ ?_ ?_ ?_); rotate_left; (focus exact trivial); (focus rfl); (focus first | rfl | (simp; done))) | with_reducible refine Dw.alloc ?_ _ | with_reducible refine Dw.drew ?_ | with_reducible refine Dw.drewN ?_ _ | focus ((with_reducible refine Dw.set ?_ ?_ ?_ _); rotate_left; (focus (first | omega | (simp; done) | (simp; omega) | (have := Dw.size (by assumption); simp; omega))); (focus (first | omega | (simp; omega))))))))).mono ?_; rintro e w' ⟨x, rfl, h0, h1, h2, hS, hO1⟩; (try simp only [Int.reduceLT, Int.reduceLE, forall_const, false_implies] at h1 h2); replace hR : Row w' (b + 1) 2 1 (.slice (some ⟨wA.heap.size, 0, none⟩) 0 0) 0 := Row.only (by (repeat (first | with_reducible assumption | with_reducible refine Row.alloc ?_ _ | with_reducible refine Row.drew ?_ | with_reducible refine Row.drewN ?_ _))) hO1 (by omega); replace hD : Dw b p n cap w w' [] := Dw.next (by (repeat (first | with_reducible assumption | focus ((with_reducible refine Dw.new' ?_ ?_ ?_ ?_); rotate_left; (focus exact trivial); (focus rfl); (focus first | rfl | (simp; done))) | with_reducible refine Dw.alloc ?_ _ | with_reducible refine Dw.drew ?_ | with_reducible refine Dw.drewN ?_ _ | focus ((with_reducible refine Dw.set ?_ ?_ ?_ _); rotate_left; (focus (first | omega | (simp; done) | (simp; omega) | (have := Dw.size (by assumption); simp; omega))); (focus (first | omega | (simp; omega))))))) hS hO1; clear hS hO1)
  obtain ⟨k, rfl⟩ := Int.eq_ofNat_of_zero_le h0
  go_loopw [4, 5] (fun v i wr => ∃ k m : Nat, m + k ≤ 8 ∧ i = .int .i64 k ∧ Row wr (b + 1) 2 1 v m ∧ Dw b p n cap w wr []) (fun _ i _ => (intOf i).toNat)
  case atStart => exact ⟨k, 0, by omega, rfl, hR, hD⟩
  case round =>
    clear hR hD h0 h1 h2
    obtain ⟨k, m, hm, rfl, hR, hD⟩ := hrel
    by_cases hk : 0 < k
    · have hk1 : (0 : Int) < k := by omega
      go_wp2_with first | (go_at_call 30; refine (s_l01DrawValue b  p n cap _ (Dw.src (w := w) (ks := []) (by (repeat (first | with_reducible assumption | focus ((with_reducible refine Dw.new' ?_ ?_ ?_ ?_); rotate_left; (focus exact trivial); (focus rfl); (focus first | rfl | (simp; done))) | with_reducible refine Dw.alloc ?_ _ | with_reducible refine Dw.drew ?_ | with_reducible refine Dw.drewN ?_ _ | focus ((with_reducible refine Dw.set ?_ ?_ ?_ _); rotate_left; (focus (first | omega | (simp; done) | (simp; omega) | (have := Dw.size (by assumption); simp; omega))); (focus (first | omega | (simp; omega))))))))).mono ?_; rintro e w' ⟨x, rfl, hS, hO1⟩; replace hR : Row w' (b + 1) 2 1 _ m := Row.only (by (repeat (first | with_reducible assumption | with_reducible refine Row.alloc ?_ _ | with_reducible refine Row.drew ?_ | with_reducible refine Row.drewN ?_ _))) hO1 (by omega); replace hD : Dw b p n cap w w' [] := Dw.next (by (repeat (first | with_reducible assumption | focus ((with_reducible refine Dw.new' ?_ ?_ ?_ ?_); rotate_left; (focus exact trivial); (focus rfl); (focus first | rfl | (simp; done))) | with_reducible refine Dw.alloc ?_ _ | with_reducible refine Dw.drew ?_ | with_reducible refine Dw.drewN ?_ _ | focus ((with_reducible refine Dw.set ?_ ?_ ?_ _); rotate_left; (focus (first | omega | (simp; done) | (simp; omega) | (have := Dw.size (by assumption); simp; omega))); (focus (first | omega | (simp; omega))))))) hS hO1; clear hS hO1) | (at_builtin; obtain ⟨zs, hZ⟩ := hR; refine wpList_append_k _ rfl _ _ 36 rfl (b + 1) 2 i0 (.int .i64 0) 1 8 Try.underlying36 hi hz0 hz1 hz2 rfl (by decide) _ _ _ rfl (how_keepA hZ _) ⟨w'.heap.size, 0, none⟩ 1 1 [.int .i64 x] rfl rfl (one_news _ _ _) (by simp [Value.oneCell']) (by decide) (by unfold maxLen; omega) (by omega) (by have := hD.size; have := hD.ltb; simp; omega) ?_; intro g2 c2 w1 hown1 hbel hkp hfar hsz1; replace hD : Dw b p n cap w w1 [] := Dw.row (W := w'.alloc (.cells #[.int .i64 x] 2)) (by (repeat (first | with_reducible assumption | focus ((with_reducible refine Dw.new' ?_ ?_ ?_ ?_); rotate_left; (focus exact trivial); (focus rfl); (focus first | rfl | (simp; done))) | with_reducible refine Dw.alloc ?_ _ | with_reducible refine Dw.drew ?_ | with_reducible refine Dw.drewN ?_ _ | focus ((with_reducible refine Dw.set ?_ ?_ ?_ _); rotate_left; (focus (first | omega | (simp; done) | (simp; omega) | (have := Dw.size (by assumption); simp; omega))); (focus (first | omega | (simp; omega))))))) hbel (by omega) (by omega) (by simp); have hR := Row.grown zs x hown1; clear hown1 hbel hkp hfar hsz1 hZ)
      refine ⟨⟨k - 1, m + 1, by omega, ?_, hR, hD⟩, by simp [intOf]; omega⟩
      rw [Int.ofNat_sub (by omega)]
      rfl
    · obtain rfl : k = 0 := by omega
      have hm200 := run_make_row' (P := Try.prog) 36 2 (.int .i64 0) 8 Try.underlying36 (by kernel_rfl) rfl .i64 .i64 200 (by omega) (by omega)
      have hm201 := run_make_row' (P := Try.prog) 36 2 (.int .i64 0) 8 Try.underlying36 (by kernel_rfl) rfl .i64 .i64 201 (by omega) (by omega)
      rw [show ((200 : Nat) : Int) = 200 from rfl] at hm200
      rw [show ((201 : Nat) : Int) = 201 from rfl] at hm201
      go_wp2_with ((go_at_call 29; refine (s_l01Next b _ p n cap _ (Dw.src (w := w) (ks := []) (by (repeat (first | with_reducible assumption | focus ((with_reducible refine Dw.new' ?_ ?_ ?_ ?_); rotate_left; (focus exact trivial); (focus rfl); (focus first | rfl | (simp; done))) | with_reducible refine Dw.alloc ?_ _ | with_reducible refine Dw.drew ?_ | with_reducible refine Dw.drewN ?_ _ | focus ((with_reducible refine Dw.set ?_ ?_ ?_ _); rotate_left; (focus (first | omega | (simp; done) | (simp; omega) | (have := Dw.size (by assumption); simp; omega))); (focus (first | omega | (simp; omega))))))))).mono ?_; rintro e w' ⟨x, rfl, h0, h1, h2, hS, hO1⟩; (try simp only [Int.reduceLT, Int.reduceLE, forall_const, false_implies] at h1 h2); replace hR : Row w' (b + 1) 2 1 u4 m := Row.only (by (repeat (first | with_reducible assumption | with_reducible refine Row.alloc ?_ _ | with_reducible refine Row.drew ?_ | with_reducible refine Row.drewN ?_ _))) hO1 (by omega); replace hD : Dw b p n cap w w' [] := Dw.next (by (repeat (first | with_reducible assumption | focus ((with_reducible refine Dw.new' ?_ ?_ ?_ ?_); rotate_left; (focus exact trivial); (focus rfl); (focus first | rfl | (simp; done))) | with_reducible refine Dw.alloc ?_ _ | with_reducible refine Dw.drew ?_ | with_reducible refine Dw.drewN ?_ _ | focus ((with_reducible refine Dw.set ?_ ?_ ?_ _); rotate_left; (focus (first | omega | (simp; done) | (simp; omega) | (have := Dw.size (by assumption); simp; omega))); (focus (first | omega | (simp; omega))))))) hS hO1; clear hS hO1); (try (have hx : x = 0 ∨ x = 1 := by omega)); (try rcases hx with rfl | rfl))
      · go_ret
        exact ⟨_, 200, _, _, rfl, by omega, ints_made (World.rowIs_made w' (.int .i64 0) 200 2) (by unfold maxLen; omega), (hD.alloc _).end hb2⟩
      · go_ret
        exact ⟨_, 201, _, _, rfl, by omega, ints_made (World.rowIs_made w' (.int .i64 0) 201 2) (by unfold maxLen; omega), (hD.alloc _).end hb2⟩
      · obtain ⟨q, c, zs, rfl, hI, -⟩ := hR.ints (by unfold maxLen; omega)
        go_ret
        exact ⟨q, m, c, zs, rfl, by omega, hI, hD.end hb2⟩

/-- a row of the drawer's own, from base B on -/
def DrawnRow (b B : Nat) (p : Option Addr) (n cap : Nat) (w : World) (e : Ending) (w' : World) : Prop :=
  ∃ (g m c : Nat), e = .returned (.slice (some ⟨g, 0, none⟩) m c) ∧ m ≤ 1000 ∧ Row w' B 2 1 (.slice (some ⟨g, 0, none⟩) m c) m ∧ Src b p n cap w' ∧ Only b w w'
set_option maxRecDepth 100000 in
theorem s_l01DrawList (b : Nat) (x0 y : Int) (hy : 0 ≤ y ∧ y ≤ 100) (p : Option Addr) (n cap : Nat) (w : World) (hs : Src b p n cap w) :
    Calls Try.prog 34 #[.pointer (some ⟨b, 0, none⟩), .int .i64 x0, .int .i64 y] w (DrawnRow b w.heap.size p n cap w) := by
  obtain ⟨i0, hi, hz0, hz1, hz2⟩ := info_parts (P := Try.prog) (e := 2) (z := .int .i64 0) (size := 1) (bytes := 8) (by kernel_rfl)
  have hD := Dw.start hs
  have hb := hs.lt
  have hR := Row.empty w w.heap.size 2 1 (Nat.le_refl _)
  go_enter Try.func34, Try.ntmps34
  go_upto_region 2 with fail
  go_cut [8] (fun s8 wx => ∃ z : Int, s8 = .int .i64 z ∧ Row wx w.heap.size 2 1 (.slice (some ⟨w.heap.size, 0, none⟩) 0 0) 0 ∧ Dw b p n cap w wx [])
  case first =>
    go_wp2_with (go_at_call 29; refine (s_l01Next b _ p n cap _ (Dw.src (w := w) (ks := []) (by (repeat (first | with_reducible assumption | focus ((with_reducible refine Dw.new' ?_ ?_ ?_ ?_); rotate_left; (focus exact trivial); (focus rfl); (focus first | rfl | (simp; done))) | with_reducible refine Dw.alloc ?_ _ | with_reducible refine Dw.drew ?_ | with_reducible refine Dw.drewN ?_ _ | focus ((with_reducible refine Dw.set ?_ ?_ ?_ _); rotate_left; (focus (first | omega | (simp; done) | (simp; omega) | (have := Dw.size (by assumption); simp; omega))); (focus (first | omega | (simp; omega))))))))).mono ?_; rintro e w' ⟨x, rfl, h0, h1, h2, hS, hO1⟩; (try simp only [Int.reduceLT, Int.reduceLE, forall_const, false_implies] at h1 h2); replace hR : Row w' w.heap.size 2 1 (.slice (some ⟨w.heap.size, 0, none⟩) 0 0) 0 := Row.only (by (repeat (first | with_reducible assumption | with_reducible refine Row.alloc ?_ _ | with_reducible refine Row.drew ?_ | with_reducible refine Row.drewN ?_ _))) hO1 (by omega); replace hD : Dw b p n cap w w' [] := Dw.next (by (repeat (first | with_reducible assumption | focus ((with_reducible refine Dw.new' ?_ ?_ ?_ ?_); rotate_left; (focus exact trivial); (focus rfl); (focus first | rfl | (simp; done))) | with_reducible refine Dw.alloc ?_ _ | with_reducible refine Dw.drew ?_ | with_reducible refine Dw.drewN ?_ _ | focus ((with_reducible refine Dw.set ?_ ?_ ?_ _); rotate_left; (focus (first | omega | (simp; done) | (simp; omega) | (have := Dw.size (by assumption); simp; omega))); (focus (first | omega | (simp; omega))))))) hS hO1; clear hS hO1)
    all_goals go_meet
    all_goals exact ⟨_, rfl, hR, hD⟩
  case rest =>
  obtain ⟨z, rfl, hR, hD⟩ := hcut
  have hy1 : y + 1 ≤ 101 := by omega
  go_upto_region 4 with (go_at_call 29; refine (s_l01Next b _ p n cap _ (Dw.src (w := w) (ks := []) (by (repeat (first | with_reducible assumption | focus ((with_reducible refine Dw.new' ?_ ?_ ?_ ?_); rotate_left; (focus exact trivial); (focus rfl); (focus first | rfl | (simp; done))) | with_reducible refine Dw.alloc ?_ _ | with_reducible refine Dw.drew ?_ | with_reducible refine Dw.drewN ?_ _ | focus ((with_reducible refine Dw.set ?_ ?_ ?_ _); rotate_left; (focus (first | omega | (simp; done) | (simp; omega) | (have := Dw.size (by assumption); simp; omega))); (focus (first | omega | (simp; omega))))))))).mono ?_; rintro e w' ⟨x, rfl, h0, h1, h2, hS, hO1⟩; (try simp only [Int.reduceLT, Int.reduceLE, forall_const, false_implies] at h1 h2); replace hR : Row w' w.heap.size 2 1 (.slice (some ⟨w.heap.size, 0, none⟩) 0 0) 0 := Row.only (by (repeat (first | with_reducible assumption | with_reducible refine Row.alloc ?_ _ | with_reducible refine Row.drew ?_ | with_reducible refine Row.drewN ?_ _))) hO1 (by omega); replace hD : Dw b p n cap w w' [] := Dw.next (by (repeat (first | with_reducible assumption | focus ((with_reducible refine Dw.new' ?_ ?_ ?_ ?_); rotate_left; (focus exact trivial); (focus rfl); (focus first | rfl | (simp; done))) | with_reducible refine Dw.alloc ?_ _ | with_reducible refine Dw.drew ?_ | with_reducible refine Dw.drewN ?_ _ | focus ((with_reducible refine Dw.set ?_ ?_ ?_ _); rotate_left; (focus (first | omega | (simp; done) | (simp; omega) | (have := Dw.size (by assumption); simp; omega))); (focus (first | omega | (simp; omega))))))) hS hO1; clear hS hO1)
  have hx : x ≤ y := by
    rcases ilt 1 (y + 1) with h | h
    · have := h1 h; omega
    · have := h2 h; omega
  obtain ⟨k, rfl⟩ := Int.eq_ofNat_of_zero_le h0
  go_loopw [7, 8, 9] (fun v a i wr => ∃ (k m g c : Nat) (z : Int), v = .slice (some ⟨g, 0, none⟩) m c ∧ m + k ≤ 100 ∧ a = .int .i64 z ∧ i = .int .i64 k ∧ Row wr w.heap.size 2 1 (.slice (some ⟨g, 0, none⟩) m c) m ∧ Dw b p n cap w wr []) (fun _ _ i _ => (intOf i).toNat)
  case atStart => exact ⟨k, 0, _, _, _, rfl, by omega, rfl, rfl, hR, hD⟩
  case round =>
    clear hR hD h0 h1 h2
    obtain ⟨k, m, g, c, z, rfl, hm, rfl, rfl, hR, hD⟩ := hrel
    by_cases hk : 0 < k ∧ z < x0
    · obtain ⟨hk, hz⟩ := hk
      have hk1 : (0 : Int) < k := by omega
      go_wp2_with first | (at_builtin; obtain ⟨zs, hZ⟩ := hR; refine wpList_append_k _ rfl _ _ 36 rfl (w.heap.size) 2 i0 (.int .i64 0) 1 8 Try.underlying36 hi hz0 hz1 hz2 rfl (by decide) _ _ _ rfl (how_keepA hZ _) ⟨wr.heap.size, 0, none⟩ 1 1 [.int .i64 z] rfl rfl (one_news _ _ _) (by simp [Value.oneCell']) (by decide) (by unfold maxLen; omega) (by omega) (by have := hD.size; have := hD.ltb; simp; omega) ?_; intro g2 c2 w1 hown1 hbel hkp hfar hsz1; replace hD : Dw b p n cap w w1 [] := Dw.row (W := wr.alloc (.cells #[.int .i64 z] 2)) (by (repeat (first | with_reducible assumption | focus ((with_reducible refine Dw.new' ?_ ?_ ?_ ?_); rotate_left; (focus exact trivial); (focus rfl); (focus first | rfl | (simp; done))) | with_reducible refine Dw.alloc ?_ _ | with_reducible refine Dw.drew ?_ | with_reducible refine Dw.drewN ?_ _ | focus ((with_reducible refine Dw.set ?_ ?_ ?_ _); rotate_left; (focus (first | omega | (simp; done) | (simp; omega) | (have := Dw.size (by assumption); simp; omega))); (focus (first | omega | (simp; omega))))))) hbel (by omega) (by omega) (by simp); have hR := Row.grown zs z hown1; clear hown1 hbel hkp hfar hsz1 hZ) | (go_at_call 29; refine (s_l01Next b _ p n cap _ (Dw.src (w := w) (ks := []) (by (repeat (first | with_reducible assumption | focus ((with_reducible refine Dw.new' ?_ ?_ ?_ ?_); rotate_left; (focus exact trivial); (focus rfl); (focus first | rfl | (simp; done))) | with_reducible refine Dw.alloc ?_ _ | with_reducible refine Dw.drew ?_ | with_reducible refine Dw.drewN ?_ _ | focus ((with_reducible refine Dw.set ?_ ?_ ?_ _); rotate_left; (focus (first | omega | (simp; done) | (simp; omega) | (have := Dw.size (by assumption); simp; omega))); (focus (first | omega | (simp; omega))))))))).mono ?_; rintro e w' ⟨x, rfl, h0, h1, h2, hS, hO1⟩; (try simp only [Int.reduceLT, Int.reduceLE, forall_const, false_implies] at h1 h2); replace hR : Row w' w.heap.size 2 1 (.slice (some ⟨g2, 0, none⟩) (m + 1) c2) (m + 1) := Row.only (by (repeat (first | with_reducible assumption | with_reducible refine Row.alloc ?_ _ | with_reducible refine Row.drew ?_ | with_reducible refine Row.drewN ?_ _))) hO1 (by omega); replace hD : Dw b p n cap w w' [] := Dw.next (by (repeat (first | with_reducible assumption | focus ((with_reducible refine Dw.new' ?_ ?_ ?_ ?_); rotate_left; (focus exact trivial); (focus rfl); (focus first | rfl | (simp; done))) | with_reducible refine Dw.alloc ?_ _ | with_reducible refine Dw.drew ?_ | with_reducible refine Dw.drewN ?_ _ | focus ((with_reducible refine Dw.set ?_ ?_ ?_ _); rotate_left; (focus (first | omega | (simp; done) | (simp; omega) | (have := Dw.size (by assumption); simp; omega))); (focus (first | omega | (simp; omega))))))) hS hO1; clear hS hO1)
      all_goals
        refine ⟨⟨k - 1, m + 1, _, _, _, rfl, by omega, rfl, ?_, hR, hD⟩, by simp [intOf]; omega⟩
        rw [Int.ofNat_sub (by omega)]
        rfl
    · rcases ilt 0 (k : Int) with hk1 | hk1
      all_goals try (have hz : x0 ≤ z := by omega)
      all_goals
        have hm2 : m ≤ 100 := by omega
        go_wp2_with first | (go_at_call 29; refine (s_l01Next b _ p n cap _ (Dw.src (w := w) (ks := []) (by (repeat (first | with_reducible assumption | focus ((with_reducible refine Dw.new' ?_ ?_ ?_ ?_); rotate_left; (focus exact trivial); (focus rfl); (focus first | rfl | (simp; done))) | with_reducible refine Dw.alloc ?_ _ | with_reducible refine Dw.drew ?_ | with_reducible refine Dw.drewN ?_ _ | focus ((with_reducible refine Dw.set ?_ ?_ ?_ _); rotate_left; (focus (first | omega | (simp; done) | (simp; omega) | (have := Dw.size (by assumption); simp; omega))); (focus (first | omega | (simp; omega))))))))).mono ?_; rintro e w' ⟨x, rfl, h0, h1, h2, hS, hO1⟩; (try simp only [Int.reduceLT, Int.reduceLE, forall_const, false_implies] at h1 h2); replace hR : Row w' w.heap.size 2 1 (.slice (some ⟨g, 0, none⟩) m c) m := Row.only (by (repeat (first | with_reducible assumption | with_reducible refine Row.alloc ?_ _ | with_reducible refine Row.drew ?_ | with_reducible refine Row.drewN ?_ _))) hO1 (by omega); replace hD : Dw b p n cap w w' [] := Dw.next (by (repeat (first | with_reducible assumption | focus ((with_reducible refine Dw.new' ?_ ?_ ?_ ?_); rotate_left; (focus exact trivial); (focus rfl); (focus first | rfl | (simp; done))) | with_reducible refine Dw.alloc ?_ _ | with_reducible refine Dw.drew ?_ | with_reducible refine Dw.drewN ?_ _ | focus ((with_reducible refine Dw.set ?_ ?_ ?_ _); rotate_left; (focus (first | omega | (simp; done) | (simp; omega) | (have := Dw.size (by assumption); simp; omega))); (focus (first | omega | (simp; omega))))))) hS hO1; clear hS hO1) | (at_builtin; obtain ⟨zs, hZ⟩ := hR; refine wpList_append_k _ rfl _ _ 36 rfl (w.heap.size) 2 i0 (.int .i64 0) 1 8 Try.underlying36 hi hz0 hz1 hz2 rfl (by decide) _ _ _ rfl (how_keepA hZ _) ⟨w'.heap.size, 0, none⟩ 1 1 [.int .i64 x0] rfl rfl (one_news _ _ _) (by simp [Value.oneCell']) (by decide) (by unfold maxLen; omega) (by omega) (by have := hD.size; have := hD.ltb; simp; omega) ?_; intro g2 c2 w1 hown1 hbel hkp hfar hsz1; replace hD : Dw b p n cap w w1 [] := Dw.row (W := w'.alloc (.cells #[.int .i64 x0] 2)) (by (repeat (first | with_reducible assumption | focus ((with_reducible refine Dw.new' ?_ ?_ ?_ ?_); rotate_left; (focus exact trivial); (focus rfl); (focus first | rfl | (simp; done))) | with_reducible refine Dw.alloc ?_ _ | with_reducible refine Dw.drew ?_ | with_reducible refine Dw.drewN ?_ _ | focus ((with_reducible refine Dw.set ?_ ?_ ?_ _); rotate_left; (focus (first | omega | (simp; done) | (simp; omega) | (have := Dw.size (by assumption); simp; omega))); (focus (first | omega | (simp; omega))))))) hbel (by omega) (by omega) (by simp); have hR := Row.grown zs x0 hown1; clear hown1 hbel hkp hfar hsz1 hZ) | (at_builtin; obtain ⟨zs, hZ⟩ := hR; refine wpList_append_k _ rfl _ _ 36 rfl (w.heap.size) 2 i0 (.int .i64 0) 1 8 Try.underlying36 hi hz0 hz1 hz2 rfl (by decide) _ _ _ rfl (how_keepA hZ _) ⟨w'.heap.size, 0, none⟩ 1 1 [.int .i64 0] rfl rfl (one_news _ _ _) (by simp [Value.oneCell']) (by decide) (by unfold maxLen; omega) (by omega) (by have := hD.size; have := hD.ltb; simp; omega) ?_; intro g2 c2 w1 hown1 hbel hkp hfar hsz1; replace hD : Dw b p n cap w w1 [] := Dw.row (W := w'.alloc (.cells #[.int .i64 0] 2)) (by (repeat (first | with_reducible assumption | focus ((with_reducible refine Dw.new' ?_ ?_ ?_ ?_); rotate_left; (focus exact trivial); (focus rfl); (focus first | rfl | (simp; done))) | with_reducible refine Dw.alloc ?_ _ | with_reducible refine Dw.drew ?_ | with_reducible refine Dw.drewN ?_ _ | focus ((with_reducible refine Dw.set ?_ ?_ ?_ _); rotate_left; (focus (first | omega | (simp; done) | (simp; omega) | (have := Dw.size (by assumption); simp; omega))); (focus (first | omega | (simp; omega))))))) hbel (by omega) (by omega) (by simp); have hR := Row.grown zs 0 hown1; clear hown1 hbel hkp hfar hsz1 hZ)
        all_goals go_ret
        all_goals exact ⟨_, _, _, rfl, by omega, hR, hD.src, hD.only⟩

def DrawnIntsN (w : World) (e : Ending) (w' : World) : Prop := ∃ (g m c : Nat) (zs : List Int) (x : Int), e = .returned (.tuple #[.slice (some ⟨g, 0, none⟩) m c, .int .i64 x]) ∧ m ≤ 1000 ∧ Ints .i64 w' (some ⟨g, 0, none⟩) m zs ∧ Below w.heap.size w w'
set_option maxRecDepth 100000 in
theorem s_DrawIsRising (p : Option Addr) (n cap : Nat) (w : World) (hin : Bytes w p n) :
    Calls Try.prog 18 #[.slice p n cap] w (DrawnIntsN w) := by
  have hP := Pw.start w
  go_enter Try.func18, Try.ntmps18
  go_wp2_with first | (go_at_call 22; refine (s_l01From p n cap _ hin).mono ?_; rintro e w' ⟨rfl, hS, hB⟩; have hD := Pw.from (Pw.start w) hin hS hB; clear hS hB; obtain ⟨b, hbq⟩ : ∃ b, b = w.heap.size := ⟨_, rfl⟩; rw [← hbq] at hD ⊢; have hb1 : b ≤ w.heap.size := Nat.le_of_eq hbq; have hb2 : w.heap.size ≤ b := Nat.le_of_eq hbq.symm; clear hbq) | (go_at_call 29; refine (s_l01Next b _ p n cap _ (Dw.src (w := w) (ks := []) (by (repeat (first | with_reducible assumption | focus ((with_reducible refine Dw.new' ?_ ?_ ?_ ?_); rotate_left; (focus exact trivial); (focus rfl); (focus first | rfl | (simp; done))) | with_reducible refine Dw.alloc ?_ _ | with_reducible refine Dw.drew ?_ | with_reducible refine Dw.drewN ?_ _ | focus ((with_reducible refine Dw.set ?_ ?_ ?_ _); rotate_left; (focus (first | omega | (simp; done) | (simp; omega) | (have := Dw.size (by assumption); simp; omega))); (focus (first | omega | (simp; omega))))))))).mono ?_; rintro e w' ⟨x, rfl, h0, h1, h2, hS, hO1⟩; (try simp only [Int.reduceLT, Int.reduceLE, forall_const, false_implies] at h1 h2); replace hD : Dw b p n cap w w' [] := Dw.next (by (repeat (first | with_reducible assumption | focus ((with_reducible refine Dw.new' ?_ ?_ ?_ ?_); rotate_left; (focus exact trivial); (focus rfl); (focus first | rfl | (simp; done))) | with_reducible refine Dw.alloc ?_ _ | with_reducible refine Dw.drew ?_ | with_reducible refine Dw.drewN ?_ _ | focus ((with_reducible refine Dw.set ?_ ?_ ?_ _); rotate_left; (focus (first | omega | (simp; done) | (simp; omega) | (have := Dw.size (by assumption); simp; omega))); (focus (first | omega | (simp; omega))))))) hS hO1; clear hS hO1) | (go_at_call 34; refine (s_l01DrawList b _ _ (by omega) p n cap _ hD.src).mono ?_; rintro e w' ⟨g, m, c, rfl, hm, hR, hS, hO⟩; replace hD := hD.next hS hO; obtain ⟨q, c', zs, e, hI, -⟩ := hR.ints (by unfold maxLen; omega); simp only [Value.slice.injEq] at e; obtain ⟨rfl, -, rfl⟩ := e)
  go_ret2
  exact ⟨g, m, c, zs, _, rfl, hm, hI, hD.end hb2⟩

end Go.Proofs.Ytfhliikfnhggpaa
