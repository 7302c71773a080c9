/- Contracts and lemmas for the proofs of this seat: Text3. -/
import Derived.Test.YtfbfiikomlnllaaGreatDoorBase
import Derived.Test.YtfbfiikomlnllaaGreatDoorNum
import Derived.Test.YtfbfiikomlnllaaGreatDoorIv
import Derived.Test.YtfbfiikomlnllaaGreatDoorList
import Derived.Test.YtfbfiikomlnllaaGreatDoorDraw
import Derived.Test.YtfbfiikomlnllaaGreatDoorShelf
import Derived.Test.YtfbfiikomlnllaaGreatDoorText1
import Derived.Test.YtfbfiikomlnllaaGreatDoorTextLaw
import Derived.Test.YtfbfiikomlnllaaGreatDoorText2
import Derived.Lib.Hide
import Derived.BigQuiet
import Derived.Deep.QuietTactic
import Derived.Deep.RegionHeld3
import Derived.Deep.DeepCutAuto
import Derived.StillTailTactics
import Derived.WalkSpells
import Derived.WalkLawsBesides
import Derived.Lib.LaidTab
import Derived.Deep.OwnRows
import Derived.OneCell
import Derived.Lib.SmallJoins
namespace Go.Proofs.YtfbfiikomlnllaaGreatDoor
open Go.RowKit Go.Deep Go.Lib
set_option maxHeartbeats 2000000
set_option linter.unusedVariables false
set_option linter.unusedSimpArgs false

theorem str_of (s : ByteArray) : Ending.returned (.string s) = .returned (strV s.data.toList) := by simp [strV]
theorem str_len {s : ByteArray} {k : Nat} (h : s.size ≤ k) : s.data.toList.length ≤ k := by rw [Array.length_toList]; exact h
theorem pick8 {b : Nat} {u v : World} {cs : Array Value} {t : TypeId} {fr : Nat × Nat} (hO : Only b (u.alloc (.cells cs t fr)).drew v) (hb : b < u.heap.size) (x : Int) (h0 : 0 ≤ x) (h1 : x < 8)
    (hall : ∀ j, j < 8 → ∃ s, cs[j]? = some (.string s) ∧ s.size ≤ 1) : ∃ s, v.cell? ⟨u.heap.size, x.toNat, none⟩ = some (.string s) ∧ s.size ≤ 1 := by
  obtain ⟨s, hs, hl⟩ := hall x.toNat (by omega)
  refine ⟨s, ?_, hl⟩
  have hk := hO.block u.heap.size (by show u.heap.size < (u.heap.push _).size; simp) (by omega)
  rw [World.cell?_of_block (w := (u.alloc (.cells cs t fr)).drew) (a := ⟨u.heap.size, x.toNat, none⟩) hk]
  have he : (u.alloc (.cells cs t fr)).drew.heap[u.heap.size]? = some (.cells cs t fr) := World.alloc_heap_new u _
  unfold World.cell?
  simp only [he]
  simpa using hs
abbrev t8 : Array Value := #[Value.string ⟨#[48]⟩, .string ⟨#[49]⟩, .string ⟨#[32]⟩, .string ⟨#[45]⟩, .string ⟨#[46]⟩, .string ⟨#[97]⟩, .string ⟨#[10]⟩, .string ⟨#[58]⟩]
theorem pick8' (u : World) (t : TypeId) (fr : Nat × Nat) (x : Int) (h0 : 0 ≤ x) (h1 : x < 8) (cs : Array Value)
    (hall : ∀ j, j < 8 → ∃ s : ByteArray, cs[j]? = some (.string s) ∧ s.size ≤ 1) : ∃ s, (u.alloc (.cells cs t fr)).cell? ⟨u.heap.size, x.toNat, none⟩ = some (.string s) ∧ cs[x.toNat]? = some (.string s) ∧ s.size ≤ 1 := by
  obtain ⟨s, hs, hl⟩ := hall x.toNat (by omega)
  refine ⟨s, ?_, hs, hl⟩
  have he : (u.alloc (.cells cs t fr)).heap[u.heap.size]? = some (.cells cs t fr) := World.alloc_heap_new u _
  unfold World.cell?
  simp only [he]
  simpa using hs
theorem tab8 : ∀ j, j < 8 → ∃ s : ByteArray, (#[Value.string ⟨#[48]⟩, .string ⟨#[49]⟩, .string ⟨#[32]⟩, .string ⟨#[45]⟩, .string ⟨#[46]⟩, .string ⟨#[97]⟩, .string ⟨#[10]⟩, .string ⟨#[58]⟩] : Array Value)[j]? = some (.string s) ∧ s.size ≤ 1 := fun j hj => by
  have : j = 0 ∨ j = 1 ∨ j = 2 ∨ j = 3 ∨ j = 4 ∨ j = 5 ∨ j = 6 ∨ j = 7 := by omega
  rcases this with rfl | rfl | rfl | rfl | rfl | rfl | rfl | rfl <;> exact ⟨_, rfl, by decide⟩
set_option maxRecDepth 100000 in
theorem s_l01Damage (b : Nat) (p : Option Addr) (n cap : Nat) (l : List UInt8) (hl : l.length ≤ 20) (w : World) (hs : Src b p n cap w) :
    Calls Tryz.prog 32 #[.pointer (some ⟨b, 0, none⟩), strV l] w fun e w' => ∃ r : List UInt8, e = .returned (strV r) ∧ r.length ≤ 21 ∧ Only b w w' := by
  have hsz : (⟨l.toArray⟩ : ByteArray).size = l.length := rfl
  go_enter Tryz.func32, Tryz.ntmps32
  go_wp2_with first | (go_at_call 31; refine (s_l01Next b _ p n cap _ (by (repeat (first | with_reducible assumption | with_reducible refine Src.alloc ?_ _ | focus ((with_reducible refine Src.setBox hs ?_ ?_ _); rotate_left; focus (first | (simp; done) | (simp; omega))) | with_reducible refine Src.drew ?_ | with_reducible refine Src.drewN ?_ _)))).mono ?_; rintro e w' ⟨x, rfl, h0, h1, h2, hS, hO1⟩; (try simp only [Int.reduceLT, Int.reduceLE, forall_const, false_implies] at h1 h2); have hO : Only b w w' := Only.trans (by (repeat (first | with_reducible exact Only.refl _ _ | with_reducible assumption | with_reducible refine Only.alloc ?_ _ | focus ((with_reducible refine Only.setBox ?_ ?_ _); rotate_left; focus (first | (simp; done) | (simp; omega))) | with_reducible refine Only.drew ?_ | with_reducible refine Only.drewN ?_ _))) hO1; clear hO1)
  · go_ret
    exact ⟨_, str_of _, str_len (by simp; omega), by assumption⟩
  · go_region_with (go_at_call 31; first | (refine (s_l01Next b _ p n cap _ (Src.drew (Src.alloc (by assumption) _))).mono ?_; rintro e w9 ⟨x9, rfl, h0, h1, h2, hS, hO1⟩; obtain ⟨sx, hcl, hsx⟩ := pick8 hO1 (Src.lt (n := n) (p := p) (cap := cap) (by assumption)) x9 h0 (h1 (by omega)) tab8; replace h1 := h1 (by omega); clear h2; have hO9 : Only b w w9 := Only.trans (Only.drew (Only.alloc (by assumption) _)) hO1; clear hO1) | (refine (s_l01Next b _ p n cap _ (Src.drew (by assumption))).mono ?_; rintro e w9 ⟨x9, rfl, h0, h1, h2, hS, hO1⟩; obtain ⟨sx, hcl, hcl2, hsx⟩ := pick8' w9 9 (0, 0) x9 h0 (h1 (by omega)) _ tab8; replace h1 := h1 (by omega); clear h2; have hO9 : Only b w w9 := Only.trans (Only.drew (by assumption)) hO1; clear hO1))
    all_goals go_wp2
    all_goals go_ret
    all_goals exact ⟨_, str_of _, str_len (by simp; omega), by first | assumption | exact Only.alloc (by assumption) _⟩
  · go_region
    all_goals go_wp2
    all_goals go_ret
    all_goals exact ⟨_, str_of _, str_len (by simp; omega), by first | assumption | exact Only.drew (by assumption) | exact Only.drewN (by assumption) _⟩
  · go_ret
    exact ⟨l, rfl, by omega, by assumption⟩
  · go_ret
    exact ⟨l, rfl, by omega, by assumption⟩

theorem mtR_len (x : Int) : (mtR x).length ≤ 20 := by
  unfold mtR
  by_cases hv : isVal x = true
  · rw [if_pos hv]
    have hv' := isVal_iff.1 hv
    unfold mt
    have l1 : (decDigits (x.natAbs / 1000)).length ≤ 10 := decDigits_short 9 _ (by omega)
    have l2 : (decDigits (x.natAbs / 100 % 10)).length ≤ 1 := decDigits_short 0 _ (by omega)
    have l3 : (decDigits (x.natAbs / 10 % 10)).length ≤ 1 := decDigits_short 0 _ (by omega)
    have l4 : (decDigits (x.natAbs % 10)).length ≤ 1 := decDigits_short 0 _ (by omega)
    have l5 : (if x < 0 then ([45] : List UInt8) else []).length ≤ 1 := by split <;> simp
    simp only [List.length_append, List.length_cons, List.length_nil]
    omega
  · rw [if_neg hv]; simp

end Go.Proofs.YtfbfiikomlnllaaGreatDoor
