/- Contracts and lemmas for the proofs of this seat: Spec2. -/
import Derived.Test.YtfbfiikomlnllaaGreatDoorBase
import Derived.Test.YtfbfiikomlnllaaGreatDoorNum
import Derived.Test.YtfbfiikomlnllaaGreatDoorList
import Derived.Test.YtfbfiikomlnllaaGreatDoorSeg
import Derived.Test.YtfbfiikomlnllaaGreatDoorLay
import Derived.Test.YtfbfiikomlnllaaGreatDoorLay2
import Derived.Test.YtfbfiikomlnllaaGreatDoorLay3
import Derived.Test.YtfbfiikomlnllaaGreatDoorLay15
import Derived.Test.YtfbfiikomlnllaaGreatDoorShelf
import Derived.Test.YtfbfiikomlnllaaGreatDoorText1
import Derived.Test.YtfbfiikomlnllaaGreatDoorTextLaw
import Derived.Test.YtfbfiikomlnllaaGreatDoorText2
import Derived.Test.YtfbfiikomlnllaaGreatDoorLayText
import Derived.Test.YtfbfiikomlnllaaGreatDoorRangeB
import Derived.Test.YtfbfiikomlnllaaGreatDoorLines
import Derived.Test.YtfbfiikomlnllaaGreatDoorRead1
import Derived.Test.YtfbfiikomlnllaaGreatDoorRead2
import Derived.Test.YtfbfiikomlnllaaGreatDoorReadLaw
import Derived.Test.YtfbfiikomlnllaaGreatDoorReadSpec
import Derived.Test.YtfbfiikomlnllaaGreatDoorSpec1
import Derived.Lib.Hide
import Derived.BigQuiet
import Derived.Deep.QuietTactic
import Derived.Deep.OwnRows
import Derived.Deep.LoopGhost
import Derived.Deep.RegionHeld3
import Derived.Deep.DeepCutAuto
import Derived.StillTailTactics
import Derived.WalkSpells
import Derived.WalkLawsBesides
import Derived.Lib.SplitLaws
namespace Go.Proofs.YtfbfiikomlnllaaGreatDoor
open Go.RowKit Go.Deep Go.Lib
set_option maxHeartbeats 2000000
set_option linter.unusedVariables false
set_option linter.unusedSimpArgs false

-- (6)
theorem own_emptyS (W : World) (t : TypeId) (sz : Nat) : (W.alloc (.cells #[] t)).ownsRow W.heap.size t sz (.slice (some ⟨W.heap.size, 0, none⟩) 0 0) 0 [] :=
  ⟨by simp, .inr ⟨W.heap.size, 0, #[], rfl, Nat.le_refl _, World.alloc_heap_new W _, Nat.le_refl _, by unfold maxLen; omega, by simp, by simp⟩⟩
/-- the state of the cutting at a byte: j bytes are seen, the piece under way begins at a -/
def SplI (s : List UInt8) (c : UInt8) (j a : Nat) (os : List (List UInt8)) : Prop :=
  os.length ≤ j ∧ (j ≤ s.length ∧ a ≤ j ∧ c ∉ (s.take j).drop a ∧ split s [c] = os ++ split (s.drop a) [c] ∨ j = s.length + 1 ∧ split s [c] = os)
theorem SplI.start (s : List UInt8) (c : UInt8) : SplI s c 0 0 [] := ⟨Nat.le_refl _, .inl ⟨Nat.zero_le _, Nat.le_refl _, by simp, by simp⟩⟩
theorem cut_succ {s : List UInt8} {j a : Nat} {x : UInt8} (hx : s[j]? = some x) (ha : a ≤ j) : (s.take (j + 1)).drop a = (s.take j).drop a ++ [x] := by
  obtain ⟨hj, he⟩ := List.getElem?_eq_some_iff.1 hx
  rw [List.take_succ_eq_append_getElem hj, List.drop_append_of_le_length (by rw [List.length_take]; omega), he]
theorem SplI.skip {s : List UInt8} {c x : UInt8} {j a : Nat} {os : List (List UInt8)} (h : SplI s c j a os) (hx : s[j]? = some x) (hn : x ≠ c) : SplI s c (j + 1) a os := by
  have hj := (List.getElem?_eq_some_iff.1 hx).1
  obtain ⟨h0, h1⟩ := h
  rcases h1 with ⟨h1, h2, h3, h4⟩ | ⟨h1, -⟩
  · refine ⟨by omega, .inl ⟨hj, by omega, ?_, h4⟩⟩
    rw [cut_succ hx h2, List.mem_append, List.mem_singleton]
    rintro (h | h)
    · exact h3 h
    · exact hn h.symm
  · omega
theorem SplI.cut {s : List UInt8} {c : UInt8} {j a : Nat} {os : List (List UInt8)} (h : SplI s c j a os) (hx : s[j]? = some c) : SplI s c (j + 1) (j + 1) (os ++ [(s.take j).drop a]) := by
  obtain ⟨hj, he⟩ := List.getElem?_eq_some_iff.1 hx
  obtain ⟨h0, h1⟩ := h
  rcases h1 with ⟨h1, h2, h3, h4⟩ | ⟨h1, -⟩
  · refine ⟨by simp; omega, .inl ⟨hj, Nat.le_refl _, ?_, ?_⟩⟩
    · rw [List.drop_eq_nil_of_le (by rw [List.length_take]; omega)]; simp
    · have e : s.drop a = (s.take j).drop a ++ c :: s.drop (j + 1) := by
        have e1 : s.drop j = c :: s.drop (j + 1) := by rw [List.drop_eq_getElem_cons hj, he]
        rw [← e1]
        conv => lhs; rw [← List.take_append_drop j s]
        rw [List.drop_append_of_le_length (by rw [List.length_take]; omega)]
      rw [h4, e, split_cons h3, List.append_assoc]
      rfl
  · omega
theorem SplI.last {s : List UInt8} {c : UInt8} {a : Nat} {os : List (List UInt8)} (h : SplI s c s.length a os) : SplI s c (s.length + 1) (s.length + 1) (os ++ [(s.take s.length).drop a]) := by
  obtain ⟨h0, h1⟩ := h
  rcases h1 with ⟨h1, h2, h3, h4⟩ | ⟨h1, -⟩
  · refine ⟨by simp; omega, .inr ⟨rfl, ?_⟩⟩
    rw [List.take_length] at h3 ⊢
    rw [h4, split_one h3]
  · omega
theorem strs_of_own {t : TypeId} {B : Nat} {w : World} {v : Value} {os : List (List UInt8)} (h : w.ownsRow B t 1 v os.length (os.map strV)) (hn : 0 < os.length) :
    ∃ g c, v = .slice (some ⟨g, 0, none⟩) os.length c ∧ B ≤ g ∧ os.length ≤ c ∧ c ≤ maxLen ∧ Strs w (some ⟨g, 0, none⟩) os.length os := by
  rcases h.2 with ⟨rfl, h0⟩ | ⟨g, cap, cur, rfl, hB, hg, hnc, hcm, hsz, hxs⟩
  · omega
  · have hlt : g < w.heap.size := (Array.getElem?_eq_some_iff.1 hg).1
    refine ⟨g, cap, rfl, hB, hnc, hcm, rfl, fun _ => ⟨g, 0, rfl, hlt, fun i hi => ?_⟩⟩
    rw [Nat.mul_one] at hxs
    have h1 : (cur.toList.take os.length)[i]? = some (strV (os.getD i [])) := by
      rw [hxs, List.getElem?_map, List.getElem?_eq_getElem hi, List.getD_eq_getElem?_getD, List.getElem?_eq_getElem hi]
      rfl
    rw [List.getElem?_take_of_lt hi] at h1
    rw [Nat.zero_add]
    simp only [World.cell?, hg]
    simpa using h1
/-- what a cutting at a byte hands back -/
def SplQ (w : World) (os : List (List UInt8)) (e : Ending) (w' : World) : Prop :=
  ∃ g c, w.heap.size ≤ g ∧ e = .returned (.slice (some ⟨g, 0, none⟩) os.length c) ∧ os.length ≤ c ∧ c ≤ maxLen ∧ Strs w' (some ⟨g, 0, none⟩) os.length os

set_option maxRecDepth 100000 in
theorem s_l01Split (s : List UInt8) (hs : s.length ≤ 1048576) (c : UInt8) (w : World) : Calls Tryz.prog 18 #[strV s, .int .u8 (c.toNat : Int)] w fun e w' => SplQ w (split s [c]) e w' ∧ Below w.heap.size w w' := by
  obtain ⟨i0, hi, hz0, hz1, hz2⟩ := info_parts (P := Tryz.prog) (e := 9) (z := .string ⟨#[]⟩) (size := 1) (bytes := 16) (by kernel_rfl)
  have hsz : (⟨s.toArray⟩ : ByteArray).size = s.length := rfl
  have hc255 : c.toNat ≤ 255 := by have := c.toNat_lt; omega
  go_enter Tryz.func18, Tryz.ntmps18
  go_wp2
  go_loopw [5, 6, 7] (fun v f i wr => ∃ (j a : Nat) (os : List (List UInt8)), j ≤ s.length + 1 ∧ i = .int .i64 j ∧ a ≤ j ∧ f = .int .i64 a ∧ (∃ v0 : Value, v0 = v ∧ wr.ownsRow w.heap.size 9 1 v0 os.length (os.map strV)) ∧ SplI s c j a os ∧ Own w wr) (fun _ _ i _ => (s.length + 1 - RowKit.intOf i).toNat)
  case atStart => exact ⟨0, 0, [], Nat.zero_le _, rfl, Nat.le_refl _, rfl, ⟨_, rfl, own_emptyS _ _ _⟩, SplI.start s c, (Own.start _).alloc _⟩
  case round =>
    obtain ⟨j, a, os, hj, rfl, haj, rfl, ⟨v, rfl, how⟩, hI, hown⟩ := hrel
    obtain ⟨wB, rfl⟩ : ∃ wB : World, wB = wr := ⟨_, rfl⟩
    have HO := Lib.hid hown
    have HOWN := Lib.hid how
    have HI := Lib.hid hI
    have hol := hI.1
    have hlW := hown.le
    by_cases hlt : j ≤ s.length
    · have hji : (j : Int) ≤ (s.length : Int) := by omega
      have haji : (a : Int) ≤ (j : Int) := by omega
      have ha0 : (0 : Int) ≤ (a : Int) := by omega
      obtain ⟨p, hp⟩ : ∃ p, (s.take j).drop a = p := ⟨_, rfl⟩
      have hcut : (⟨s.toArray⟩ : ByteArray).extract a j = ⟨p.toArray⟩ := by rw [str_cut, hp]
      have HP := Lib.hid hp
      clear hp hown how hI
      by_cases hend : j = s.length
      · subst hend
        go_wp2_with (at_builtin; refine wpList_append_k _ rfl _ _ 36 rfl w.heap.size 9 i0 (.string ⟨#[]⟩) 1 16 Tryz.underlying36 hi hz0 hz1 hz2 rfl (by decide) _ _ _ rfl (HOWN.out.alloc _) ⟨wB.heap.size, 0, none⟩ 1 1 [strV p] rfl rfl (one_news _ _ _) (by simp [Value.oneCell']) (by decide) (by unfold maxLen; omega) (by omega) (by simp; omega) ?_; intro g2 c2 w1 hown1 hbel hkp hfar hsz1; have HOWN1 := Lib.hid hown1; have HBEL := Lib.hid hbel; clear hown1 hbel hkp hfar)
        go_roundw
        case rel => exact ⟨s.length + 1, s.length + 1, os ++ [p], Nat.le_refl _, by go_num, Nat.le_refl _, by go_num, ⟨_, rfl, by simpa using HOWN1.out⟩, by rw [← HP.out]; exact HI.out.last, Below.trans (HO.out.alloc _).below (HBEL.out.mono (Nat.le_refl _))⟩
        case measure => simp [RowKit.intOf]
      · have hlt2 : j < s.length := by omega
        obtain ⟨x, r, hcr⟩ : ∃ x r, s.drop j = x :: r := ⟨_, _, List.drop_eq_getElem_cons hlt2⟩
        have hat : s[j]? = some x := by
          have h := List.getElem?_drop (xs := s) (i := j) (j := 0)
          rw [hcr] at h
          simpa using h.symm
        obtain ⟨-, -, hk2, hget⟩ := strV_get hcr
        have hidx : 0 ≤ (j : Int) ∧ (j : Int) < (⟨s.toArray⟩ : ByteArray).size := ⟨by omega, by rw [hsz]; omega⟩
        have hx255 : x.toNat ≤ 255 := by have := x.toNat_lt; omega
        have hje : (((j : Int)) == (s.length : Int)) = false := by simp; omega
        have hje2 : ¬ (j : Int) = (s.length : Int) := by omega
        have hji2 : (j : Int) < (s.length : Int) := by omega
        by_cases hxc : x = c
        · have HC := Lib.hid (show SplI s c (j + 1) (j + 1) (os ++ [p]) by rw [← HP.out]; exact HI.out.cut (hxc ▸ hat))
          have hq : ((x.toNat : Int) == (c.toNat : Int)) = true := by rw [hxc]; simp
          have hq2 : (x.toNat : Int) = (c.toNat : Int) := by rw [hxc]
          clear hcr hat hxc
          subst hget
          go_wp2_with (at_builtin; refine wpList_append_k _ rfl _ _ 36 rfl w.heap.size 9 i0 (.string ⟨#[]⟩) 1 16 Tryz.underlying36 hi hz0 hz1 hz2 rfl (by decide) _ _ _ rfl (HOWN.out.alloc _) ⟨wB.heap.size, 0, none⟩ 1 1 [strV p] rfl rfl (one_news _ _ _) (by simp [Value.oneCell']) (by decide) (by unfold maxLen; omega) (by omega) (by simp; omega) ?_; intro g2 c2 w1 hown1 hbel hkp hfar hsz1; have HOWN1 := Lib.hid hown1; have HBEL := Lib.hid hbel; clear hown1 hbel hkp hfar)
          go_roundw
          case rel => exact ⟨j + 1, j + 1, os ++ [p], by omega, by go_num, Nat.le_refl _, by go_num, ⟨_, rfl, by simpa using HOWN1.out⟩, HC.out, Below.trans (HO.out.alloc _).below (HBEL.out.mono (Nat.le_refl _))⟩
          case measure => simp [RowKit.intOf]; omega
        · have HC := Lib.hid (HI.out.skip hat hxc)
          have hne : ¬ x.toNat = c.toNat := fun e => hxc (UInt8.toNat_inj.1 e)
          have hq : ((x.toNat : Int) == (c.toNat : Int)) = false := by simp; omega
          have hq2 : ¬ (x.toNat : Int) = (c.toNat : Int) := by omega
          clear hcr hat hxc hne
          subst hget
          go_wp2
          go_roundw
          case rel => exact ⟨j + 1, a, os, by omega, by go_num, by omega, rfl, ⟨_, rfl, HOWN.out⟩, HC.out, HO.out⟩
          case measure => simp [RowKit.intOf]; omega
    · obtain rfl : j = s.length + 1 := by omega
      have hall : split s [c] = os := by
        rcases hI.2 with ⟨h, _⟩ | ⟨_, h⟩
        · omega
        · exact h
      have hpos : 0 < os.length := by
        obtain ⟨k, r, h, _⟩ := split_back (c := c) s.length s (Nat.le_refl _)
        rw [← hall, h]
        simp
      obtain ⟨g, cap, rfl, hg1, hg2, hg3, hg4⟩ := strs_of_own how hpos
      have HQ := Lib.hid hg4
      have HG := Lib.hid hg1
      have HA := Lib.hid hall
      have HG2 := Lib.hid hg2
      have HG3 := Lib.hid hg3
      clear how hown hI hall hg4 hg1 hg2 hg3
      go_wp2
      go_ret
      exact ⟨by rw [HA.out]; exact ⟨g, cap, HG.out, rfl, HG2.out, HG3.out, HQ.out⟩, HO.out.below⟩

-- (6)
theorem rdsS_len : ∀ {ws : List (List UInt8)} {ys : List Int}, rdsS ws = some ys → ys.length = ws.length
  | [], ys, h => by simp only [rdsS, Option.some.injEq] at h; subst h; rfl
  | z :: r, ys, h => by
    simp only [rdsS] at h
    split at h
    · rename_i x ys' h1 h2
      cases h
      simp [rdsS_len h2]
    · cases h
theorem rdsS_snoc : ∀ (ws : List (List UInt8)) (z : List UInt8), rdsS (ws ++ [z]) = match rdsS ws, rdS z with
    | some ys, some x => some (ys ++ [x])
    | _, _ => none
  | [], z => by
    simp only [List.nil_append, rdsS]
    cases rdS z <;> rfl
  | a :: r, z => by
    simp only [List.cons_append, rdsS, rdsS_snoc r z]
    cases rdS a <;> cases rdsS r <;> cases rdS z <;> rfl
theorem rdsS_bad {ws : List (List UInt8)} {k : Nat} (hk : k < ws.length) (h : rdS (ws.getD k []) = none) : rdsS ws = none := by
  induction ws generalizing k with
  | nil => simp at hk
  | cons a r ih =>
    simp only [rdsS]
    cases k with
    | zero =>
      have : rdS a = none := by simpa using h
      rw [this]
    | succ k =>
      rw [ih (k := k) (by simpa using hk) (by simpa using h)]
      cases rdS a <;> rfl

set_option maxRecDepth 100000 in
theorem s_l01Numbers (q : Option Addr) (m c : Nat) (ws : List (List UInt8)) (w : World) (hq : Strs w q m ws) (hm : m ≤ 1048577) (hl : ∀ z ∈ ws, z.length ≤ 1048576) :
    Calls Tryz.prog 37 #[.slice q m c] w fun e w' => NumsQ 2 w (rdsS ws) e w' ∧ Below w.heap.size w w' := by
  obtain ⟨i0, hi, hz0, hz1, hz2⟩ := info_parts (P := Tryz.prog) (e := 2) (z := .int .i64 0) (size := 1) (bytes := 8) (by kernel_rfl)
  have HQ := Lib.hid hq
  have HZ := Lib.hid hq.1
  have HL := Lib.hid hl
  clear hq hl
  go_enter Tryz.func37, Tryz.ntmps37
  go_wp2
  go_loopw [4, 5] (fun v i wr => ∃ (j : Nat) (ys : List Int), j ≤ m ∧ i = .int .i64 j ∧ rdsS (ws.take j) = some ys ∧ (∃ v0 : Value, v0 = v ∧ wr.ownsRow w.heap.size 2 1 v0 ys.length (ys.map (Value.int .i64))) ∧ Own w wr) (fun _ i _ => (m - RowKit.intOf i).toNat)
  case atStart => exact ⟨0, [], Nat.zero_le _, rfl, rfl, ⟨_, rfl, own_emptyS _ _ _⟩, (Own.start _).alloc _⟩
  case round =>
    obtain ⟨j, ys, hj, rfl, hys, ⟨v, rfl, how⟩, hown⟩ := hrel
    obtain ⟨wB, rfl⟩ : ∃ wB : World, wB = wr := ⟨_, rfl⟩
    have HO := Lib.hid hown
    have HOWN := Lib.hid how
    have HYS := Lib.hid hys
    have hlen : ys.length = j := by rw [rdsS_len hys, List.length_take, HZ.out]; omega
    have hlW := hown.le
    by_cases hlt : j < m
    · obtain ⟨b, off, rfl, hlb, hc⟩ := (HQ.out.keep hown).2 (by omega)
      have hcj := hc j hlt
      have hji : (j : Int) < (m : Int) := by omega
      have hsn := take_snocW (ws := ws) (k := j) (by rw [HZ.out]; exact hlt)
      have hmem : ws.getD j [] ∈ ws := by rw [List.getD_eq_getElem?_getD, List.getElem?_eq_getElem (by rw [HZ.out]; exact hlt)]; exact List.getElem_mem _
      have hbad : rdS (ws.getD j []) = none → rdsS ws = none := rdsS_bad (by rw [HZ.out]; exact hlt)
      obtain ⟨z, hz⟩ : ∃ z, ws.getD j [] = z := ⟨_, rfl⟩
      rw [hz] at hcj hsn hmem hbad
      have HSN := Lib.hid hsn
      have HBD := Lib.hid hbad
      have CN := Lib.hid (s_l01Signed z (HL.out z hmem) wB)
      clear hc hz hsn hmem hbad hys how hown
      go_wp2_with fail
      refine CN.out.mono ?_
      rintro e w4 ⟨⟨x, b4, rfl, hbd, (⟨hx, rfl⟩ | ⟨hx, rfl⟩)⟩, hb4⟩
      · have O4 := Lib.hid (HO.out.join hb4)
        have W4 := Lib.hid (how_keep' HOWN.out hb4)
        have HX := Lib.hid hx
        have hsz4 := hb4.size
        clear hx hb4 hbd
        go_wp2_with (at_builtin; refine wpList_append_k _ rfl _ _ 49 rfl w.heap.size 2 i0 (.int .i64 0) 1 8 Tryz.underlying49 hi hz0 hz1 hz2 rfl (by decide) _ _ _ rfl (W4.out.alloc _) ⟨w4.heap.size, 0, none⟩ 1 1 [.int .i64 x] rfl rfl (one_news _ _ _) (by simp [Value.oneCell']) (by decide) (by unfold maxLen; omega) (by omega) (by simp; omega) ?_; intro g2 c2 w1 hown1 hbel hkp hfar hsz1; have HOWN1 := Lib.hid hown1; have HBEL := Lib.hid hbel; clear hown1 hbel hkp hfar)
        go_roundw
        case rel => exact ⟨j + 1, ys ++ [x], by omega, by go_num, by rw [HSN.out, rdsS_snoc, HYS.out, HX.out], ⟨_, rfl, by simpa [hlen] using HOWN1.out⟩, Below.trans (O4.out.alloc _).below (HBEL.out.mono (Nat.le_refl _))⟩
        case measure => simp [RowKit.intOf]; omega
      · have O4 := Lib.hid (HO.out.join hb4)
        have hn := HBD.out hx
        have HN := Lib.hid hn
        clear hx hb4 hn hbd
        go_wp2_with fail
        go_ret2
        exact ⟨by rw [HN.out]; exact rfl, O4.out.below⟩
    · obtain rfl : j = m := by omega
      have hall : rdsS ws = some ys := by
        have := HYS.out
        rwa [List.take_of_length_le (by rw [HZ.out]; omega)] at this
      obtain ⟨q2, c2, rfl, hq2⟩ := ownQ_of_own (sz := 1) (f := fun i => ys.getD i 0) (n := ys.length) (by rw [Nat.mul_one, ← map_rowV']; exact how) (by omega)
      have HQ2 := Lib.hid hq2
      have HA := Lib.hid hall
      clear hys how hown hq2 hall
      go_wp2
      go_ret2
      exact ⟨by rw [HA.out]; exact ⟨q2, c2, rfl, HQ2.out⟩, HO.out.below⟩

end Go.Proofs.YtfbfiikomlnllaaGreatDoor
