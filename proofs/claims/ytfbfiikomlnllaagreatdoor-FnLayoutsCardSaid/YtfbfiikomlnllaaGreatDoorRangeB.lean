/- Contracts and lemmas for the proofs of this seat: RangeB. -/
import Derived.Test.YtfbfiikomlnllaaGreatDoorBase
import Derived.Test.YtfbfiikomlnllaaGreatDoorShelf
import Derived.Test.YtfbfiikomlnllaaGreatDoorLayText
import Derived.RangeFuncWrites
import Derived.RangeFuncCalls
import Derived.RangeFuncBound
import Derived.OwnWalkIn
import Derived.TacticsInMore
import Derived.StillTail
import Derived.Deep.Draws
import Derived.WalkKit
namespace Go.Proofs.YtfbfiikomlnllaaGreatDoor
open Go.RowKit
set_option maxHeartbeats 2000000
set_option linter.unusedVariables false
set_option linter.unusedSimpArgs false

-- for seats that read layouts (6)
theorem upon_round {l n : Nat} {P : Program} {o : Oper} {a : Act} {next : Act → World → Prop} {Q : Exit → Act → World → Prop} {r : Result Next} (h : o.upon P a next Q r) : o.uponIn (Fence.wide.inRound l) n P a next Q r := by
  unfold Oper.upon at h
  split at h
  · exact h
  · exact h
  · exact h
  · exact ⟨fun hd => (by cases hd), CallsIn.inRound l (callsIn_wide.2 h)⟩
  · refine ⟨fun hd => (by cases hd), fun c cs _ => ?_⟩
    obtain ⟨v, w', hR, hs⟩ := h c cs
    exact ⟨v, w', hR, stepsIn_wide.2 hs⟩
  · exact h
  · exact h.elim
theorem op_round {l n : Nat} {P : Program} {o : Oper} {a : Act} {w : World} {next : Act → World → Prop} {Q : Exit → Act → World → Prop} (hd : ∀ c, o.op ≠ .defer c) (h : o.wp P a w next Q) : o.wpIn (Fence.wide.inRound l) n P a w next Q := by
  refine ⟨fun _ _ => trivial, ?_⟩
  rw [Oper.semAt_plain (Fence.wide.inRound l) a.eval o hd]
  exact upon_round h
/-- no operation of the region is a defer statement -/
def noDefer (ops : Array Oper) : Bool := ops.all fun o => match o.op with | .defer _ => false | _ => true
theorem noDefer_spec {ops : Array Oper} (h : noDefer ops = true) {i : Nat} {o : Oper} (hi : ops[i]? = some o) : ∀ c, o.op ≠ .defer c := by
  intro c hc
  have := Array.all_eq_true'.1 h o (Array.mem_of_getElem? hi)
  rw [hc] at this
  cases this
theorem any_round {l n : Nat} {P : Program} {md : Region.Mode} {ops : Array Oper} {Q : Exit → Act → World → Prop} (hnd : noDefer ops = true) (hq : ¬ LetsOut Q) :
    ∀ (fuel : Nat) (listed : Array Bool) (a : Act) (w : World), wpAny P md ops Q fuel listed a w → wpAnyIn (Fence.wide.inRound l) n P md ops Q fuel listed a w
  | 0, _, _, _, h => h
  | fuel + 1, listed, a, w, h => by
    refine ⟨h.1, fun i hi => ?_⟩
    have h2 := h.2 i hi
    unfold wpOp at h2
    unfold wpOpIn
    cases ho : ops[i]? with
    | none => rw [ho] at h2; exact any_round hnd hq fuel _ a w h2
    | some o =>
      rw [ho] at h2
      simp only at h2 ⊢
      split at h2
      · rename_i hw
        rw [if_pos hw]
        rcases h2 with h2 | h2
        · exact op_round (noDefer_spec hnd ho) (Oper.wp_mono (fun a' w' h' => any_round hnd hq fuel _ a' w' h') h2)
        · exact absurd h2.2 hq
      · rename_i hw
        rw [if_neg hw]
        exact ⟨fun _ _ => trivial, any_round hnd hq fuel _ _ w h2⟩
/-- the law of a drawn region whose head only reads and whose tail is forced, in a round -/
theorem still_round {l0 n id N : Nat} {P : Program} {Q : Exit → Act → World → Prop} {a : Act} {w : World} {l : List Oper} (hm : P.follows .mixedOrders = true) (hnd : noDefer l.toArray = true) (hB : Region.lexTailB .any l.toArray N = true) (hq : ¬ LetsOut Q)
    (h : wpStill P l.toArray { w with drawn := w.drawn + 1 } (fun a' => wpList P l.toArray Q (l.drop N) a' { w with drawn := w.drawn + 1 }) (l.take N) a) : (Code.region id l.toArray true).wpIn (Fence.wide.inRound l0) n P Q a w := by
  refine wpIn_region_any hm (any_round hnd hq _ _ _ _ ?_)
  simp only [Region.lexTailB, Bool.and_eq_true, decide_eq_true_eq] at hB
  obtain ⟨⟨⟨⟨h1, h2⟩, h3⟩, h4⟩, h5⟩ := hB
  have e1 : (l.take N).length = N := by simp at h2 ⊢; omega
  have e2 : (l.drop N).length = l.toArray.size - N := by simp
  have inv : HeadInv .any l.toArray N (Array.replicate l.toArray.size false) :=
    ⟨by simp, fun j _ _ hl => (by rw [getD_replicate_false] at hl; cases hl), fun t _ ht => getD_in (by simpa using ht) (getD_replicate_false _ _)⟩
  have head := wpAnyL_lex (md := .any) (g := l.toArray.size - N) h1 h3 h4 h2 (l.take N) 0 _ a (fun j hj => by rw [e1] at hj; simp [hj]) (by rw [e1, Nat.zero_add]) inv (by rw [e1]; exact h5) h
  have all := wpAny_of_head (Q' := Q) (g := l.toArray.size - N) (fun listed a' hL => by
    have tl := wpAny_of_seq (md := .any) (Q' := Q) (l.drop N) N listed a' _ (fun j => by simp [List.getElem?_drop]) (by rw [e2]; exact hL.1) hL.2
    rw [e2] at tl
    exact tl) _ _ _ head
  rw [e1, Nat.add_sub_cancel' (by simp at h2 ⊢; omega)] at all
  exact all
theorem putObj_block {W : World} {l k : Nat} {o : Obj} (h : k ≠ l) : (W.putObj l o).heap[k]? = W.heap[k]? := World.putObj_heap_other h
/-- an iterator that keeps a variable of its own in the block Bs, over the caller's invariant: it hands the values xs over, one after the other, as long as the rounds say so -/
def SeqBox {α : Type} (n : Nat) (P : Program) (gf Bs : Nat) (v0 : Value) (encs : α → Array Value) (xs : List α) : Prop :=
  ∀ (l : Nat) (J Jx : List α → World → Prop) (W : World), W.cell? ⟨Bs, 0, none⟩ = some v0 → W.frozen? ⟨Bs, 0, none⟩ = false →
    (∀ s W v, J s W → J s (W.setCell ⟨Bs, 0, none⟩ v)) → (∀ s W k, J s W → J s (W.drewN k)) →
    (∀ pre x rest W1, xs = pre ++ x :: rest → J pre W1 → YieldAt Fence.wide (n - 1) P l (encs x) W1 fun e W' =>
      (e = .returned (.bool true) ∧ J (pre ++ [x]) W' ∧ W'.heap[Bs]? = W1.heap[Bs]?) ∨ (e = .returned (.bool false) ∧ Jx (pre ++ [x]) W')) →
    J [] W → CallsIn Fence.wide n P gf #[.func (.yield l) #[] #[], .pointer (some ⟨Bs, 0, none⟩)] W fun e W' => (∃ v, e = .returned v) ∧ (J xs W' ∨ ∃ pre, Jx pre W')
/-- a round leaves the iterator's block Bs and the loop's two blocks at n0 as they lie; off its end it restores I; by a return it comes to Ix -/
def boxPost {α : Type} (Bs n0 : Nat) (I : List α → World → Prop) (Ix : World → Prop) (xs : List α) (W : World) : Exit → Act → World → Prop
  | .normal, _, W' => (∀ k, k = Bs ∨ k = n0 ∨ k = n0 + 1 → W'.heap[k]? = W.heap[k]?) ∧ I xs W'
  | .ret, _, W' => (∀ k, k = Bs ∨ k = n0 ∨ k = n0 + 1 → W'.heap[k]? = W.heap[k]?) ∧ Ix W'
  | _, _, _ => False
theorem boxPost_in {α : Type} {Bs n0 : Nat} {I : List α → World → Prop} {Ix : World → Prop} {xs : List α} {W : World} : ¬ LetsOut (boxPost Bs n0 I Ix xs W) := fun ⟨_, _, h⟩ => h
theorem range_box {α : Type} {P : Program} {n : Nat} {g : Operand} {ps : Array Tmp} {assign body : Code} {Q : Exit → Act → World → Prop} {a : Act} {w : World} {gf Bs : Nat} {v0 : Value} {encs : α → Array Value} {xs : List α}
    (hg : a.eval g = .func (.func gf) #[] #[.pointer (some ⟨Bs, 0, none⟩)]) (eg : ∀ args w, (callFunc gf args).run P w = .ok (.enter gf args) w) (hps : ∀ x, (encs x).size = ps.size)
    (hc : w.cell? ⟨Bs, 0, none⟩ = some v0) (hf : w.frozen? ⟨Bs, 0, none⟩ = false) (hseq : SeqBox (n - 1) P gf Bs v0 encs xs)
    (I : List α → World → Prop) (Ix : World → Prop) (hI : OwnFrom w.heap.size I) (hIx : ∀ W W' row, Ix W → W.grownBy W' row → (∀ r, row = some r → w.heap.size ≤ r ∧ ∃ o : Obj, W.heap[r]? = some o ∧ o.isCells = false) → Ix W')
    (hIs : ∀ s W v, I s W → I s (W.setCell ⟨Bs, 0, none⟩ v)) (hId : ∀ s W k, I s W → I s (W.drewN k)) (h0 : I [] w) (a₁ : α → Act)
    (hassign : ∀ (l : Nat) (x : α) (W : World) (K : Act → World → Prop), K (a₁ x) W →
      assign.wpIn (Fence.wide.inRound l) (n - 1 - 1) P (Exit.then K (fun _ _ _ => False)) { tmps := (ps.zip (encs x)).foldl (fun t (p, v) => t.setIfInBounds p v) a.tmps, defers := [] } W)
    (hbody : ∀ (l : Nat) (pre : List α) (x : α) (rest : List α) (W : World), xs = pre ++ x :: rest → I pre W → w.heap.size + 1 < W.heap.size → body.wpIn (Fence.wide.inRound l) (n - 1 - 1) P (boxPost Bs w.heap.size I Ix (pre ++ [x]) W) (a₁ x) W)
    (hdone : ∀ (D : Nat) (W : World), w.heap.size ≤ D → I xs W → W.heap[D]? = some (.deferred (some [])) → Q .normal { a with defers := { target := .collected D, args := #[] } :: a.defers } W)
    (hstop : ∀ (D : Nat) (W : World), w.heap.size ≤ D → Ix W → W.heap[D]? = some (.deferred (some [])) → Code.ret.wpIn Fence.wide n P Q { a with defers := { target := .collected D, args := #[] } :: a.defers } W) :
    (Code.rangeFunc g ps assign body).wpIn Fence.wide n P Q a w := by
  have hB : Bs < w.heap.size := World.block_lt_of_cell? w _ hc
  refine wpIn_rangeFunc fun fn hfn => ?_
  obtain ⟨R, hR⟩ : ∃ R : LoopState → Option Code → Loop, R = fun st pe => { state := st, pending := pe, fn, tmps := a.tmps, params := ps, assign, body, defers := w.heap.size } := ⟨_, rfl⟩
  obtain ⟨V, hV⟩ : ∃ V, V = (w.alloc (.deferred (some []))).alloc (.loop (R .ready none)) := ⟨_, rfl⟩
  have eL : V.heap[w.heap.size + 1]? = some (.loop (R .ready none)) := by
    have h := World.alloc_heap_new (w.alloc (.deferred (some []))) (.loop (R .ready none))
    rw [World.size_alloc] at h
    rw [hV]; exact h
  have eD : V.heap[w.heap.size]? = some (.deferred (some [])) := by
    rw [hV]; exact (Below.heap_alloc _ _ _ (by simp)).trans (World.alloc_heap_new w _)
  have eB : V.heap[Bs]? = w.heap[Bs]? := by
    rw [hV]; exact (Below.heap_alloc _ _ _ (by simp; omega)).trans (Below.heap_alloc _ _ _ hB)
  have i0 : I [] V := by rw [hV]; exact hI.alloc _ (hI.alloc _ h0)
  refine ⟨w.heap.size + 1, [{ target := .collected w.heap.size, args := #[] }], V, { target := .fn (.func gf) #[.pointer (some ⟨Bs, 0, none⟩)], args := #[.func (.yield (w.heap.size + 1)) #[] #[]] }, V, gf,
    #[.func (.yield (w.heap.size + 1)) #[] #[], .pointer (some ⟨Bs, 0, none⟩)], V, ?_, ?_, fun _ _ => trivial, ?_, fun h => (by cases h), ?_⟩
  · rw [hV, hR]; exact run_enterLoop_outer _ _ _ _ _
  · simp only [resolve, hg]; simp [go_sem]
  · simp [invoke, go_sem, eg]
  refine (hseq (w.heap.size + 1)
    (fun s W => I s W ∧ W.heap[w.heap.size + 1]? = some (.loop (R .ready none)) ∧ W.heap[w.heap.size]? = some (.deferred (some [])))
    (fun _ W => Ix W ∧ W.heap[w.heap.size + 1]? = some (.loop (R .done (some .ret))) ∧ W.heap[w.heap.size]? = some (.deferred (some [])))
    V ((World.cell?_of_block (w := w) (a := ⟨Bs, 0, none⟩) eB).trans hc) ((World.frozen?_of_block (w := w) (a := ⟨Bs, 0, none⟩) eB).trans hf)
    (fun s W v h => ⟨hIs s W v h.1, (Below.heap_setCell W ⟨Bs, 0, none⟩ v _ (by show w.heap.size + 1 ≠ Bs; omega)).trans h.2.1, (Below.heap_setCell W ⟨Bs, 0, none⟩ v _ (by show w.heap.size ≠ Bs; omega)).trans h.2.2⟩)
    (fun s W k h => ⟨hId s W k h.1, h.2.1, h.2.2⟩) ?_ ⟨i0, eL, eD⟩).mono ?_
  · rintro pre x rest W hx ⟨hi, hl, hk⟩
    have hlt : w.heap.size + 1 < W.heap.size := (Array.getElem?_eq_some_iff.1 hl).1
    have hy := run_yield (P := P) (args := encs x) hl (by rw [hR]; exact hps x)
    rw [hR] at hy
    refine ⟨fn, _, assign, body, hy, roundIn_of_wpIn (F := Fence.wide) hfn (hassign _ x W _ ⟨_, run_beginRound hl (by rw [hR]), ?_⟩)⟩
    obtain ⟨U, hU⟩ : ∃ U, U = W.putObj (w.heap.size + 1) (.loop { R .ready none with state := .busy }) := ⟨_, rfl⟩
    rw [← hU]
    have ul : U.heap[w.heap.size + 1]? = some (.loop { R .ready none with state := .busy }) := by rw [hU]; exact World.putObj_heap_same hlt
    have uk : U.heap[w.heap.size]? = some (.deferred (some [])) := by rw [hU]; exact (putObj_block (by omega)).trans hk
    have ub : U.heap[Bs]? = W.heap[Bs]? := by rw [hU]; exact putObj_block (by omega)
    have ui : I pre U := by rw [hU]; exact hI.putObj _ hi (by omega) hl rfl
    refine wpIn_mono (hbody _ pre x rest U hx ui (Array.getElem?_eq_some_iff.1 ul).1) fun e a3 W3 hp => ?_
    have stop : ∀ (jump : Option Code), (∀ k, k = Bs ∨ k = w.heap.size ∨ k = w.heap.size + 1 → W3.heap[k]? = U.heap[k]?) →
        (Instr.endRound (w.heap.size + 1) jump).run P W3 = .ok (.bool jump.isNone) (W3.putObj (w.heap.size + 1) (.loop (R (if jump.isNone then .ready else .done) jump))) ∧
        W3.heap[w.heap.size + 1]? = some (.loop { R .ready none with state := .busy }) ∧
        (W3.putObj (w.heap.size + 1) (.loop (R (if jump.isNone then .ready else .done) jump))).heap[w.heap.size + 1]? = some (.loop (R (if jump.isNone then .ready else .done) jump)) ∧
        (W3.putObj (w.heap.size + 1) (.loop (R (if jump.isNone then .ready else .done) jump))).heap[w.heap.size]? = some (.deferred (some [])) := fun jump hk3 => by
      have l3 := (hk3 _ (.inr (.inr rfl))).trans ul
      have hr := run_endRound (P := P) jump l3
      rw [hR] at hr l3 ⊢
      exact ⟨hr, l3, World.putObj_heap_same (Array.getElem?_eq_some_iff.1 l3).1, (putObj_block (by omega)).trans ((hk3 _ (.inr (.inl rfl))).trans uk)⟩
    cases e with
    | normal =>
      obtain ⟨k3, i3⟩ := hp
      have b3 := k3 _ (.inl rfl)
      obtain ⟨hr, l3, l4, k4⟩ := stop none k3
      exact ⟨_, _, hr, .inl ⟨rfl, ⟨hI.putObj _ i3 (by omega) l3 rfl, l4, k4⟩, (putObj_block (by omega)).trans (b3.trans ub)⟩⟩
    | ret =>
      obtain ⟨k3, i3⟩ := hp
      obtain ⟨hr, l3, l4, k4⟩ := stop (some .ret) k3
      exact ⟨_, _, hr, .inr ⟨rfl, hIx _ _ (some (w.heap.size + 1)) i3 (grownBy_putObj' W3 _ _) (fun r e => by cases e; exact ⟨by omega, _, l3, rfl⟩), l4, k4⟩⟩
    | exit id => exact hp.elim
    | goto t => exact hp.elim
    | panic ch => exact hp.elim
    | outgrown => exact hp.elim
  · rintro e W2 ⟨⟨v, rfl⟩, (⟨hi, hl, hk⟩ | ⟨_, hi, hl, hk⟩)⟩
    · exact ⟨none, _, by have h := run_endLoop (P := P) hl (by rw [hR]; simp); rw [hR] at h; exact h, hdone _ _ (Nat.le_refl _) (hI.putObj _ hi (by omega) hl rfl) ((putObj_block (by omega)).trans hk)⟩
    · exact ⟨some .ret, _, by have h := run_endLoop (P := P) hl (by rw [hR]; simp); rw [hR] at h; exact h, hstop _ _ (Nat.le_refl _) (hIx _ _ (some (w.heap.size + 1)) hi (grownBy_putObj' W2 _ _) (fun r e => by cases e; exact ⟨by omega, _, hl, rfl⟩)) ((putObj_block (by omega)).trans hk)⟩

end Go.Proofs.YtfbfiikomlnllaaGreatDoor
