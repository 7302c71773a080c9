/- Contracts and lemmas for the proofs of this seat: Lay22. -/
import Derived.Test.YtgkfnggnhphboaaBase
import Derived.Test.YtgkfnggnhphboaaNum
import Derived.Test.YtgkfnggnhphboaaIv
import Derived.Test.YtgkfnggnhphboaaIv2
import Derived.Test.YtgkfnggnhphboaaDiv
import Derived.Test.YtgkfnggnhphboaaRoot
import Derived.Test.YtgkfnggnhphboaaEn
import Derived.Test.YtgkfnggnhphboaaSeg
import Derived.Test.YtgkfnggnhphboaaList
import Derived.Test.YtgkfnggnhphboaaLay
import Derived.Test.YtgkfnggnhphboaaLay2
import Derived.Test.YtgkfnggnhphboaaLay3
import Derived.Test.YtgkfnggnhphboaaLay4
import Derived.Test.YtgkfnggnhphboaaLay5
import Derived.Test.YtgkfnggnhphboaaLay6
import Derived.Test.YtgkfnggnhphboaaLay7
import Derived.Test.YtgkfnggnhphboaaLay12
import Derived.Test.YtgkfnggnhphboaaLay13
import Derived.Test.YtgkfnggnhphboaaLay15
import Derived.Test.YtgkfnggnhphboaaLay16
import Derived.Test.YtgkfnggnhphboaaLay17
import Derived.Test.YtgkfnggnhphboaaLay18
import Derived.Test.YtgkfnggnhphboaaLay20
import Derived.Test.YtgkfnggnhphboaaPassed
import Derived.Test.YtgkfnggnhphboaaShelf
import Derived.Lib.Hide
import Derived.BigQuiet
import Derived.Deep.QuietTactic
import Derived.Deep.OwnRows
import Derived.Deep.LoopGhost
import Derived.Deep.RegionHeld3
import Derived.Deep.DeepCutAuto
import Derived.StillTailTactics
import Derived.Deep.AppendLies
import Derived.Deep.DrawnRows
import Derived.Outline
namespace Go.Proofs.Ytgkfnggnhphboaa
open Go.RowKit Go.Deep
set_option maxHeartbeats 2000000
set_option linter.unusedVariables false
set_option linter.unusedSimpArgs false

theorem below_sort {α : Type} [Inhabited α] (enc : α → Value) {B : Nat} {w W : World} (h : Below B w W) {blk : Nat} (hb : B ≤ blk) (off m : Nat) (d : Array α) (os : Array Obj) (hB : B ≤ W.heap.size) :
    Below B w (Go.Proofs.sortWorld enc W blk off m d os) := by
  refine ⟨h.os, h.tape, h.output, ?_, fun j hj => ?_⟩
  · refine Nat.le_trans h.size ?_
    show W.heap.size ≤ ((W.heap.modify blk _) ++ os).size
    simp
  · rw [← h.block j hj]
    show ((W.heap.modify blk _) ++ os)[j]? = _
    rw [Array.getElem?_append_left (by simp; omega), Array.getElem?_modify, if_neg (by omega)]
theorem row_sort {α : Type} [Inhabited α] (enc : α → Value) {W : World} {g : Nat} {t : TypeId} {n : Nat} {f f' : Nat → Int} (h : RowC W g t n f) (m : Nat) (d : Array α) (os : Array Obj) (hd : d.size = n)
    (he : ∀ i, i < n → enc d[i]! = .int .i64 (f' i)) : RowC (Go.Proofs.sortWorld enc W g 0 m d os) g t n f' := by
  have hlt := h.lt
  obtain ⟨cur, h1, h2, h3⟩ := h
  refine ⟨Go.Sort.putCells enc 0 d cur, ?_, by simpa [Go.Sort.putCells] using h2, fun i hi => ?_⟩
  · show ((W.heap.modify g _) ++ os)[g]? = _
    rw [Array.getElem?_append_left (by simpa using hlt), Array.getElem?_modify, if_pos rfl, h1]
    rfl
  · unfold Go.Sort.putCells
    rw [Array.getElem?_mapIdx, h3 i hi]
    simp only [Option.map_some]
    rw [if_pos ⟨Nat.zero_le _, by omega⟩, Nat.sub_zero, he i hi]

set_option maxRecDepth 100000 in
theorem c_way (Bs Bx Bt : Nat) (q : Option Addr) (k c : Nat) (ys : List Int) (x t : Int) (i : Nat) (hi : i < k) (hx : 0 ≤ x ∧ x ≤ 4800000) (ht : 0 < t ∧ t ≤ 4800000) (hs : 0 ≤ ys.getD i 0 ∧ ys.getD i 0 ≤ 4800000) (w : World) (hq : Ints .i64 w q k ys)
    (b1 : w.cell? ⟨Bs, 0, none⟩ = some (.slice q k c)) (b2 : w.cell? ⟨Bx, 0, none⟩ = some (.int .i64 x)) (b3 : w.cell? ⟨Bt, 0, none⟩ = some (.int .i64 t)) :
    Calls Try.prog 102 #[.int .i64 i, .pointer (some ⟨Bs, 0, none⟩), .pointer (some ⟨Bx, 0, none⟩), .pointer (some ⟨Bt, 0, none⟩)] w fun e w' => e = .returned (.int .i64 (wayN t x (ys.getD i 0))) ∧ ∃ n, w' = w.drewN n := by
  have hk := hq.2.1
  unfold maxLen at hk
  obtain ⟨b, off, rfl, hc⟩ := hq.2.2 (by omega)
  have hck := hc i hi
  unfold wayN
  obtain ⟨s, hs2⟩ : ∃ s, s = ys.getD i 0 := ⟨_, rfl⟩
  rw [← hs2] at hck hs ⊢
  have hi1 : (i : Int) < (k : Int) := by omega
  have hi0 : (0 : Int) ≤ (i : Int) := by omega
  have CM := fun w => i_modulo (s - x - 1) t (by omega) (by omega) w
  have HCM := Lib.hid CM
  clear hc hs2 CM
  go_enter Try.func102, Try.ntmps102
  go_wp2
  go_quiet (first | (go_at_call 79; exact quiet_left (HCM.out _)) | (go_at_call 79; exact quiet_add_left (HCM.out _)))
  go_wp2
  go_ret
  exact ⟨rfl, _, rfl⟩

theorem quiet_more {P : Program} {f : FuncId} {args : Array Value} {w : World} {a n : Nat} {v : Value}
    (h : Calls P f args (w.drewN (a + n)) fun e w' => e = .returned v ∧ ∃ m, w' = (w.drewN (a + n)).drewN m) :
    Calls P f args (w.drewN (a + n)) fun e w'' => e = .returned v ∧ ∃ m, w'' = w.drewN (a + m) :=
  h.mono fun _ _ ⟨he, m, hm⟩ => ⟨he, n + m, by rw [hm, World.drewN_drewN]; congr 1; omega⟩
theorem quiet_more0 {P : Program} {f : FuncId} {args : Array Value} {w : World} {n : Nat} {v : Value}
    (h : Calls P f args (w.drewN n) fun e w' => e = .returned v ∧ ∃ m, w' = (w.drewN n).drewN m) :
    Calls P f args (w.drewN n) fun e w'' => e = .returned v ∧ ∃ m, w'' = w.drewN m :=
  h.mono fun _ _ ⟨he, m, hm⟩ => ⟨he, n + m, by rw [hm, World.drewN_drewN]⟩
theorem quiet_same_more {P : Program} {f : FuncId} {args : Array Value} {w : World} {a n : Nat} {v : Value}
    (h : Calls P f args (w.drewN (a + n)) fun e w' => e = .returned v ∧ w' = w.drewN (a + n)) :
    Calls P f args (w.drewN (a + n)) fun e w'' => e = .returned v ∧ ∃ m, w'' = w.drewN (a + m) :=
  h.mono fun _ _ ⟨he, hm⟩ => ⟨he, n, hm⟩
set_option maxRecDepth 100000 in
theorem c_cmp (Bs Bx Bt Bw : Nat) (q : Option Addr) (k c : Nat) (ys : List Int) (x t : Int) (i j : Nat) (hi : i < k) (hj : j < k) (hx : 0 ≤ x ∧ x ≤ 4800000) (ht : 0 < t ∧ t ≤ 4800000) (hs : ∀ i, i < k → 0 ≤ ys.getD i 0 ∧ ys.getD i 0 ≤ 4800000) (w : World) (hq : Ints .i64 w q k ys)
    (b1 : w.cell? ⟨Bs, 0, none⟩ = some (.slice q k c)) (b2 : w.cell? ⟨Bx, 0, none⟩ = some (.int .i64 x)) (b3 : w.cell? ⟨Bt, 0, none⟩ = some (.int .i64 t))
    (b4 : w.cell? ⟨Bw, 0, none⟩ = some (.func (.func 102) #[] #[.pointer (some ⟨Bs, 0, none⟩), .pointer (some ⟨Bx, 0, none⟩), .pointer (some ⟨Bt, 0, none⟩)])) :
    Calls Try.prog 105 #[.int .i64 i, .int .i64 j, .pointer (some ⟨Bw, 0, none⟩)] w fun e w' => e = .returned (.int .i64 (Lib.compareInt (wayN t x (ys.getD i 0)) (wayN t x (ys.getD j 0)))) ∧ ∃ n, w' = w.drewN n := by
  have HI : Hid (∀ n, Calls Try.prog 102 #[.int .i64 i, .pointer (some ⟨Bs, 0, none⟩), .pointer (some ⟨Bx, 0, none⟩), .pointer (some ⟨Bt, 0, none⟩)] (w.drewN n) fun e w' => e = .returned (.int .i64 (wayN t x (ys.getD i 0))) ∧ ∃ m, w' = (w.drewN n).drewN m) :=
    fun n => c_way Bs Bx Bt q k c ys x t i hi hx ht (hs i hi) (w.drewN n) hq b1 b2 b3
  have HJ : Hid (∀ n, Calls Try.prog 102 #[.int .i64 j, .pointer (some ⟨Bs, 0, none⟩), .pointer (some ⟨Bx, 0, none⟩), .pointer (some ⟨Bt, 0, none⟩)] (w.drewN n) fun e w' => e = .returned (.int .i64 (wayN t x (ys.getD j 0))) ∧ ∃ m, w' = (w.drewN n).drewN m) :=
    fun n => c_way Bs Bx Bt q k c ys x t j hj hx ht (hs j hj) (w.drewN n) hq b1 b2 b3
  generalize wayN t x (ys.getD i 0) = a at *
  generalize wayN t x (ys.getD j 0) = b at *
  have HC : Hid (∀ w, Calls Try.prog 106 #[.int .i64 a, .int .i64 b] w fun e w' => e = .returned (.int .i64 (Lib.compareInt a b)) ∧ w' = w) := fun w => Try.cmp_Compare_int a b w
  generalize Lib.compareInt a b = r at *
  clear hs hq
  go_enter Try.func105, Try.ntmps105
  go_wp2
  go_quiet (first | (go_at_call 102; first | with_reducible exact quiet_more (HI.out _) | with_reducible exact quiet_more0 (HI.out _) | with_reducible exact quiet_more (HJ.out _) | with_reducible exact quiet_more0 (HJ.out _)) | (go_at_call 106; first | with_reducible exact Calls.quiet_of_same (HC.out _) | with_reducible exact quiet_same_more (HC.out _)))
  go_wp2
  go_ret
  exact ⟨rfl, _, rfl⟩

theorem Ints.far {kd : IntKind} {w w' : World} {q : Option Addr} {n B : Nat} {zs : List Int} (h : Ints kd w q n zs) (hb : ∀ j, j < B → w'.heap[j]? = w.heap[j]?) (hq : ∀ a, q = some a → 0 < n → a.block < B) : Ints kd w' q n zs := by
  refine ⟨h.1, h.2.1, fun hn => ?_⟩
  obtain ⟨b, off, e, hc⟩ := h.2.2 hn
  have hlt := hq _ e hn
  exact ⟨b, off, e, fun i hi => (World.cell?_of_block (w := w) (a := ⟨b, off + i, none⟩) (hb b hlt)).trans (hc i hi)⟩
theorem lt_cmp (a b : Int) : decide (Lib.compareInt a b < 0) = decide (a < b) := by
  unfold Lib.compareInt
  by_cases h1 : a < b
  · simp [h1]
  · by_cases h2 : b < a <;> simp [h1, h2]
def pasN (t x y : Int) (ys : List Int) (k : Nat) : List Nat := (List.range k).filter fun i => passB t x y (ys.getD i 0)
def pasI (t x y : Int) (ys : List Int) (k : Nat) : List Int := (pasN t x y ys k).map fun i : Nat => (i : Int)
theorem pasI_len (t x y : Int) (ys : List Int) (k : Nat) : (pasI t x y ys k).length ≤ k := by
  unfold pasI pasN
  rw [List.length_map]
  exact Nat.le_trans (List.length_filter_le _ _) (by simp)
theorem pasI_zero (t x y : Int) (ys : List Int) : pasI t x y ys 0 = [] := rfl
theorem pasI_yes {t x y : Int} {ys : List Int} {k : Nat} (h : passB t x y (ys.getD k 0) = true) : pasI t x y ys (k + 1) = pasI t x y ys k ++ [(k : Int)] := by
  unfold pasI pasN
  rw [List.range_succ, List.filter_append, List.map_append, List.filter_cons_of_pos (by simpa using h)]
  rfl
theorem pasI_no {t x y : Int} {ys : List Int} {k : Nat} (h : passB t x y (ys.getD k 0) = false) : pasI t x y ys (k + 1) = pasI t x y ys k := by
  unfold pasI pasN
  rw [List.range_succ, List.filter_append, List.map_append, List.filter_cons_of_neg (by rw [h]; simp)]
  simp
theorem pas_len {t x y : Int} {ys : List Int} {f : Nat} (hf : f ≤ ys.length) : (spN t x y ys f ys.length ys.length).length = (pasI t x y ys ys.length).length := by
  rw [spN_eq, rot_eq f _ hf]
  unfold pasI pasN
  rw [List.length_map, List.length_map]
  exact ((rot_perm f _ hf).filter _).length_eq
section
open Go.Sort
variable {k : Nat}
abbrev Pl (k : Nat) := { i : Nat // i < k }
theorem pl_swo (F : Nat → Int) : SWO (Go.Proofs.ltOf fun a b : Pl k => Lib.compareInt (F a.1) (F b.1)) := by
  have e : ∀ a b : Pl k, Go.Proofs.ltOf (fun a b : Pl k => Lib.compareInt (F a.1) (F b.1)) a b = decide (F a.1 < F b.1) := fun a b => lt_cmp _ _
  refine ⟨fun x => ?_, fun x y z h1 h2 => ?_, fun x y z h1 h2 => ?_⟩
  · rw [e]; simp
  · rw [e] at *; simp at *; omega
  · rw [e] at *; simp at *; omega
end
set_option maxRecDepth 100000 in
theorem lib_sort (Bs Bx Bt Bw B : Nat) (q : Option Addr) (k c : Nat) (ys : List Int) (x y t : Int) (hx : 0 ≤ x ∧ x ≤ 4800000) (hxt : x < t) (ht : 0 < t ∧ t ≤ 4800000) (hR : Rs t ys) (hk : ys.length = k) (W : World) (hq : Ints .i64 W q k ys) (hqB : ∀ a, q = some a → 0 < k → a.block < B)
    (b1 : W.cell? ⟨Bs, 0, none⟩ = some (.slice q k c)) (b2 : W.cell? ⟨Bx, 0, none⟩ = some (.int .i64 x)) (b3 : W.cell? ⟨Bt, 0, none⟩ = some (.int .i64 t))
    (b4 : W.cell? ⟨Bw, 0, none⟩ = some (.func (.func 102) #[] #[.pointer (some ⟨Bs, 0, none⟩), .pointer (some ⟨Bx, 0, none⟩), .pointer (some ⟨Bt, 0, none⟩)]))
    (l1 : Bs < B) (l2 : Bx < B) (l3 : Bt < B) (l4 : Bw < B) (hBW : B ≤ W.heap.size) (ql : Option Addr) (cc : Nat) (hQ : OwnQ 2 1 B W ql (pasI t x y ys k).length (fun i => (pasI t x y ys k).getD i 0)) :
    Calls Try.prog 104 #[.slice ql (pasI t x y ys k).length cc, .func (.func 105) #[] #[.pointer (some ⟨Bw, 0, none⟩)]] W fun e w' =>
      e = .returned (.tuple #[]) ∧ Below B W w' ∧ OwnQ 2 1 B w' ql (pasI t x y ys k).length (fun i => (spN t x y ys (firstN x ys) k k).getD i 0) := by
  by_cases h0 : (pasI t x y ys k).length = 0
  · rw [h0] at hQ ⊢
    exact (Try.slices_SortFunc_none (α := Int) ql cc _ W).mono fun e w' ⟨he, hw⟩ => ⟨he, hw ▸ Below.refl _ _, hw ▸ hQ.congr (fun i hi => by omega)⟩
  · obtain ⟨g, rfl, hr⟩ := hQ.2.2 (by omega)
    have hg := (hQ.2.1 _ rfl)
    have hm : ∀ i ∈ pasN t x y ys k, i < k := fun i hi => by unfold pasN at hi; rw [List.mem_filter, List.mem_range] at hi; exact hi.1
    have hlen : (pasI t x y ys k).length = (pasN t x y ys k).length := by unfold pasI; rw [List.length_map]
    have hne : pasN t x y ys k ≠ [] := fun e => h0 (by rw [hlen, e]; rfl)
    have hk0 : 0 < k := by
      obtain ⟨a, r, e⟩ := List.exists_cons_of_ne_nil hne
      have := hm a (by rw [e]; exact List.mem_cons_self)
      omega
    haveI : Inhabited (Pl k) := ⟨⟨0, hk0⟩⟩
    obtain ⟨D, hD⟩ : ∃ D : List (Pl k), D.map (·.1) = pasN t x y ys k := ⟨(pasN t x y ys k).attach.map fun u => ⟨u.1, hm u.1 u.2⟩, by rw [List.map_map]; exact List.attach_map_subtype_val _⟩
    have hDl : D.length = (pasI t x y ys k).length := by rw [hlen, ← hD, List.length_map]
    have hDs : D.toArray.size = (pasI t x y ys k).length := by rw [List.size_toArray, hDl]
    have hs : ∀ i, i < k → 0 ≤ ys.getD i 0 ∧ ys.getD i 0 ≤ 4800000 := fun i hi => by have := hR i (by omega); omega
    have hT : ∀ a b : Pl k, Go.Proofs.ltOf (fun a b : Pl k => Lib.compareInt (wayN t x (ys.getD a.1 0)) (wayN t x (ys.getD b.1 0))) a b = false → Go.Proofs.ltOf (fun a b : Pl k => Lib.compareInt (wayN t x (ys.getD a.1 0)) (wayN t x (ys.getD b.1 0))) b a = false → a = b := fun a b h1 h2 => by
      rw [show Go.Proofs.ltOf (fun a b : Pl k => Lib.compareInt (wayN t x (ys.getD a.1 0)) (wayN t x (ys.getD b.1 0))) a b = decide (wayN t x (ys.getD a.1 0) < wayN t x (ys.getD b.1 0)) from lt_cmp _ _] at h1
      rw [show Go.Proofs.ltOf (fun a b : Pl k => Lib.compareInt (wayN t x (ys.getD a.1 0)) (wayN t x (ys.getD b.1 0))) b a = decide (wayN t x (ys.getD b.1 0) < wayN t x (ys.getD a.1 0)) from lt_cmp _ _] at h2
      have h1 := of_decide_eq_false h1
      have h2 := of_decide_eq_false h2
      exact Subtype.ext (way_inj (x := x) hR (by have := a.2; omega) (by have := b.2; omega) (by omega))
    have hcmp : Go.Proofs.CmpReads Try.prog 105 #[.pointer (some ⟨Bw, 0, none⟩)] (fun a : Pl k => Value.int .i64 (a.1 : Int)) (fun a b : Pl k => Lib.compareInt (wayN t x (ys.getD a.1 0)) (wayN t x (ys.getD b.1 0))) g 0 D.toArray.size W := by
      intro m os dk _ a b
      have hbel : Below B W (Go.Proofs.sortWorld (fun a : Pl k => Value.int .i64 (a.1 : Int)) W g 0 m dk os) := below_sort _ (Below.refl B W) hg.1 _ _ _ _ hBW
      have hcell : ∀ j o, j < B → (Go.Proofs.sortWorld (fun a : Pl k => Value.int .i64 (a.1 : Int)) W g 0 m dk os).cell? ⟨j, o, none⟩ = W.cell? ⟨j, o, none⟩ := fun j o hj => World.cell?_of_block (w := W) (a := ⟨j, o, none⟩) (hbel.block j hj)
      exact c_cmp Bs Bx Bt Bw q k c ys x t a.1 b.1 a.2 b.2 hx ht hs _ (hq.far (fun j hj => hbel.block j hj) hqB) (by rw [hcell _ _ l1]; exact b1) (by rw [hcell _ _ l2]; exact b2) (by rw [hcell _ _ l3]; exact b3) (by rw [hcell _ _ l4]; exact b4)
    have hH : Go.Sort.Holds (fun a : Pl k => Value.int .i64 (a.1 : Int)) W g 0 D.toArray := by
      intro j hj
      rw [List.size_toArray] at hj
      refine ⟨?_, hr.frozen _⟩
      rw [Nat.zero_add, hr.cell (by omega)]
      congr 2
      show (pasI t x y ys k).getD j 0 = ((D.toArray[j]!).1 : Int)
      rw [getElem!_pos D.toArray j (by simpa using hj)]
      have e1 : (pasI t x y ys k)[j]? = some ((D[j]).1 : Int) := by
        unfold pasI
        rw [← hD]
        simp [hj]
      rw [List.getD_eq_getElem?_getD, e1]
      simp
    have hS := Try.slices_SortFunc_total (fun a : Pl k => Value.int .i64 (a.1 : Int)) (fun _ => rfl) _ (pl_swo (fun i => wayN t x (ys.getD i 0))) 105 #[.pointer (some ⟨Bw, 0, none⟩)] g 0 cc D.toArray W (enters_of Try.func105 (by kernel_rfl) rfl) hcmp.lays hH hg.2 (by rw [hDs]; have := hQ.1; omega) hT
    rw [hDs] at hS
    refine hS.mono ?_
    rintro e w' ⟨rfl, m, os, rfl⟩
    refine ⟨rfl, below_sort _ (Below.refl B W) hg.1 _ _ _ _ hBW, hQ.1, fun a ha => ?_, fun _ => ⟨g, rfl, ?_⟩⟩
    · simp only [Option.some.injEq] at ha
      subst ha
      refine ⟨hg.1, ?_⟩
      show g < ((W.heap.modify g _) ++ os).size
      have h2 : g < W.heap.size := hg.2
      simp
      omega
    · generalize hM : (D.toArray.toList.mergeSort fun x_1 y_1 => !Go.Proofs.ltOf (fun a b : Pl k => Lib.compareInt (wayN t x (ys.getD a.1 0)) (wayN t x (ys.getD b.1 0))) y_1 x_1) = M
      have hle : (fun a b : Pl k => !Go.Proofs.ltOf (fun a b : Pl k => Lib.compareInt (wayN t x (ys.getD a.1 0)) (wayN t x (ys.getD b.1 0))) b a) = fun a b => decide (wayN t x (ys.getD a.1 0) ≤ wayN t x (ys.getD b.1 0)) := by
        funext a b
        rw [show Go.Proofs.ltOf (fun a b : Pl k => Lib.compareInt (wayN t x (ys.getD a.1 0)) (wayN t x (ys.getD b.1 0))) b a = decide (wayN t x (ys.getD b.1 0) < wayN t x (ys.getD a.1 0)) from lt_cmp _ _]
        by_cases h : wayN t x (ys.getD a.1 0) ≤ wayN t x (ys.getD b.1 0)
        · rw [decide_eq_true h, decide_eq_false (by omega)]; rfl
        · rw [decide_eq_false h, decide_eq_true (by omega)]; rfl
      rw [hle] at hM
      have hp : M.Perm D := by rw [← hM]; exact List.mergeSort_perm _ _
      have hso : M.Pairwise fun a b => wayN t x (ys.getD a.1 0) ≤ wayN t x (ys.getD b.1 0) := by
        rw [← hM]
        refine (List.pairwise_mergeSort (le := fun a b : Pl k => decide (wayN t x (ys.getD a.1 0) ≤ wayN t x (ys.getD b.1 0))) ?_ ?_ _).imp fun h => of_decide_eq_true h
        · intro a b c h1 h2; simp at *; omega
        · intro a b; simp; omega
      have hU := passed_unique (L := M.map (·.1)) (y := y) hR hx.1 hxt (firstN_at hR) (by
        have h2 := hp.map (·.1)
        rw [hD] at h2
        unfold pasN at h2
        rwa [hk]) (List.pairwise_map.2 hso)
      rw [hk] at hU
      have hMl : M.length = (pasI t x y ys k).length := by rw [hp.length_eq, hDl]
      refine row_sort _ hr m M.toArray os (by rw [List.size_toArray, hMl, Nat.mul_one]) fun i hi => ?_
      rw [Nat.mul_one, ← hMl] at hi
      rw [← hU, getElem!_pos M.toArray i (by simpa using hi)]
      have e1 : ((M.map (·.1)).map fun i : Nat => (i : Int))[i]? = some ((M[i]).1 : Int) := by simp [hi]
      rw [List.getD_eq_getElem?_getD, e1]
      simp

def paOk (zs : List Seg) (ys : List Int) (x y : Int) : Bool := senB zs ys && (code05 zs x y 0 1000000000000 == 0)
def paL (zs : List Seg) (ys : List Int) (x y : Int) : List Int := if paOk zs ys x y = true then spN (totN zs) x y ys (firstN x ys) ys.length ys.length else []
def paC (zs : List Seg) (ys : List Int) (x y : Int) : Int := if senB zs ys = true then code05 zs x y 0 1000000000000 else 1
theorem pa_bad {zs : List Seg} {ys : List Int} {x y : Int} (h : senB zs ys = false) : paL zs ys x y = [] ∧ paC zs ys x y = 1 := by
  unfold paL paC paOk
  rw [h]
  exact ⟨rfl, rfl⟩
theorem pa_code {zs : List Seg} {ys : List Int} {x y d : Int} (h : senB zs ys = true) (hc : code05 zs x y 0 1000000000000 = d) (hd : d ≠ 0) : paL zs ys x y = [] ∧ paC zs ys x y = d := by
  unfold paL paC paOk
  rw [h, hc]
  refine ⟨if_neg (by simpa using hd), rfl⟩
theorem pa_good {zs : List Seg} {ys : List Int} {x y : Int} (h : senB zs ys = true) (hc : code05 zs x y 0 1000000000000 = 0) : paL zs ys x y = spN (totN zs) x y ys (firstN x ys) ys.length ys.length ∧ paC zs ys x y = 0 := by
  unfold paL paC paOk
  rw [h, hc]
  exact ⟨rfl, rfl⟩
/-- the boxes of the layout, the sensors and the front -/
structure Sb (W : World) (B : Nat) (p : Option Addr) (n cap : Nat) (zs : List Seg) (q : Option Addr) (k c : Nat) (ys : List Int) (x : Int) : Prop where
  b0 : W.heap[B]? = some (.cells #[.slice p n cap] 26 (0, 0))
  b1 : W.heap[B + 1]? = some (.cells #[.slice q k c] 40 (0, 0))
  b2 : W.heap[B + 2]? = some (.cells #[.int .i64 x] 2 (0, 0))
  seg : Segs W p n zs
  ints : Ints .i64 W q k ys
section
variable {W W' : World} {B n cap k c : Nat} {p q : Option Addr} {zs : List Seg} {ys : List Int} {x : Int}
theorem Sb.lt (h : Sb W B p n cap zs q k c ys x) : B + 2 < W.heap.size := (Array.getElem?_eq_some_iff.1 h.b2).1
theorem Sb.c0 (h : Sb W B p n cap zs q k c ys x) : W.cell? ⟨B, 0, none⟩ = some (.slice p n cap) := by simp [World.cell?, h.b0]
theorem Sb.c1 (h : Sb W B p n cap zs q k c ys x) : W.cell? ⟨B + 1, 0, none⟩ = some (.slice q k c) := by simp [World.cell?, h.b1]
theorem Sb.c2 (h : Sb W B p n cap zs q k c ys x) : W.cell? ⟨B + 2, 0, none⟩ = some (.int .i64 x) := by simp [World.cell?, h.b2]
theorem Sb.keep (h : Sb W B p n cap zs q k c ys x) (hb : Below W.heap.size W W') : Sb W' B p n cap zs q k c ys x :=
  ⟨(hb.block _ (by have := h.lt; omega)).trans h.b0, (hb.block _ (by have := h.lt; omega)).trans h.b1, (hb.block _ h.lt).trans h.b2, h.seg.keep hb, h.ints.keep hb⟩
theorem Sb.alloc (h : Sb W B p n cap zs q k c ys x) (o : Obj) : Sb (W.alloc o) B p n cap zs q k c ys x := h.keep ((Below.refl _ _).alloc (Nat.le_refl _) o)
theorem Sb.new (W : World) (h : Segs W p n zs) (hq : Ints .i64 W q k ys) : Sb (((W.alloc (.cells #[.slice p n cap] 26)).alloc (.cells #[.slice q k c] 40)).alloc (.cells #[.int .i64 x] 2)) W.heap.size p n cap zs q k c ys x := by
  have hb : Below W.heap.size W (((W.alloc (.cells #[.slice p n cap] 26)).alloc (.cells #[.slice q k c] 40)).alloc (.cells #[.int .i64 x] 2)) := balloc (balloc (balloc (Below.refl _ _) _) _) _
  refine ⟨?_, ?_, ?_, h.keep hb, hq.keep hb⟩
  · refine (Below.heap_alloc _ _ _ ?_).trans ((Below.heap_alloc _ _ _ ?_).trans (heap_alloc_new W _))
    · simp; omega
    · simp
  · have h1 := heap_alloc_new (W.alloc (.cells #[.slice p n cap] 26)) (.cells #[.slice q k c] 40)
    rw [World.size_alloc] at h1
    exact (Below.heap_alloc _ _ _ (by simp)).trans h1
  · have := heap_alloc_new ((W.alloc (.cells #[.slice p n cap] 26)).alloc (.cells #[.slice q k c] 40)) (.cells #[.int .i64 x] 2)
    rwa [World.size_alloc, World.size_alloc] at this
end

end Go.Proofs.Ytgkfnggnhphboaa
