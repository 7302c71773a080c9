/- Contracts and lemmas for the proofs of this seat: Draw3. -/
import Derived.Test.YtfhliikfnhggpaaDraw2
import Derived.Test.YtfhliikfnhggpaaDraw
import Derived.Test.YtfhliikfnhggpaaBase
import Derived.Test.YtfhliikfnhggpaaNum
import Derived.Test.YtfhliikfnhggpaaIv
import Derived.Test.YtfhliikfnhggpaaIv2
import Derived.Test.YtfhliikfnhggpaaRoot
import Derived.Test.YtfhliikfnhggpaaEn
import Derived.Test.YtfhliikfnhggpaaSeg
import Derived.Test.YtfhliikfnhggpaaList
import Derived.Lib.Hide
import Derived.BigQuiet
import Derived.Deep.QuietTactic
import Derived.Deep.OwnRows
import Derived.Deep.LoopGhost
import Derived.OneCell
import Derived.Lib.SmallJoins
import Derived.StillTailTactics
import Derived.RangeFuncBox
import Derived.Deep.RegionHeld3
import Derived.Deep.DeepCutAuto
namespace Go.Proofs.Ytfhliikfnhggpaa
open Go.RowKit Go.Deep
set_option maxHeartbeats 2000000
set_option linter.unusedVariables false
set_option linter.unusedSimpArgs false

theorem s_pickA (b qb m : Nat) (p : Option Addr) (n cap : Nat) (w : World) (hs : Src b p n cap w)
    (hv : ∃ (u : World) (cs : Array Value) (t : TypeId), w = u.alloc (.cells cs t) ∧ qb = u.heap.size ∧ b < u.heap.size ∧ cs.size = m ∧ ∀ v ∈ cs.toList, ∃ x, v = .int .i64 x) (h0 : 0 < m ∧ m ≤ maxLen) :
    Calls Try.prog 38 #[.pointer (some ⟨b, 0, none⟩), .slice (some ⟨qb, 0, none⟩) m m] w (Drawn b p n cap w) := by
  obtain ⟨u, cs, t, rfl, rfl, hbu, hm, hcs⟩ := hv
  obtain ⟨l, hl, hlx⟩ := ints_of_vals (fun _ => True) _ (fun v hv => (hcs v hv).imp fun x hx => ⟨hx, trivial⟩)
  have hcl : cs = (l.map (Value.int .i64)).toArray := by rw [← hl]
  subst hcl
  simp only [List.size_toArray, List.length_map] at hm
  subst hm
  refine (s_l01Pick b u.heap.size 0 l.length l.length l p n cap _ hs (ints_alloc u l t h0.2) h0.1 (Nat.ne_of_gt hbu)).mono ?_
  rintro e w' ⟨k, rfl, hk, hS, hO⟩
  exact ⟨_, rfl, hS, hO⟩
def DrawnSg (b : Nat) (p : Option Addr) (n cap : Nat) (w : World) (e : Ending) (w' : World) : Prop :=
  ∃ k m r c d f g : Int, e = .returned (segV k m r c d f g) ∧ Src b p n cap w' ∧ Only b w w'
theorem ret_segD {P : Program} {fn : Func} {R : Ending → World → Prop} {a : Act} {w : World} (h : ∃ k m r c d f g : Int, (results fn a.tmps).run P w = .ok (segV k m r c d f g) w ∧ R (.returned (segV k m r c d f g)) w) (hd : a.defers = []) : bodyPost P fn R .ret a w := by
  obtain ⟨k, m, r, c, d, f, g, hr, hR⟩ := h
  exact ⟨hd, _, hr, hR⟩
def DrawnSgIv (b : Nat) (p : Option Addr) (n cap : Nat) (w : World) (e : Ending) (w' : World) : Prop :=
  ∃ k m r c d f g x y : Int, e = .returned (.tuple #[segV k m r c d f g, ivV x y]) ∧ Src b p n cap w' ∧ Only b w w'
theorem ret_segivD {P : Program} {fn : Func} {R : Ending → World → Prop} {a : Act} {w : World} (h : ∃ k m r c d f g x y : Int, (results fn a.tmps).run P w = .ok (.tuple #[segV k m r c d f g, ivV x y]) w ∧ R (.returned (.tuple #[segV k m r c d f g, ivV x y])) w) (hd : a.defers = []) : bodyPost P fn R .ret a w := by
  obtain ⟨k, m, r, c, d, f, g, x, y, hr, hR⟩ := h
  exact ⟨hd, _, hr, hR⟩

end Go.Proofs.Ytfhliikfnhggpaa
