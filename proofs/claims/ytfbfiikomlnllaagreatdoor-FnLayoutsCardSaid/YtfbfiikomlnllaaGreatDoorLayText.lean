/- Contracts and lemmas for the proofs of this seat: LayText. -/
import Derived.Test.YtfbfiikomlnllaaGreatDoorBase
import Derived.Test.YtfbfiikomlnllaaGreatDoorNum
import Derived.Test.YtfbfiikomlnllaaGreatDoorSeg
import Derived.Test.YtfbfiikomlnllaaGreatDoorLay
import Derived.Test.YtfbfiikomlnllaaGreatDoorLay2
import Derived.Test.YtfbfiikomlnllaaGreatDoorShelf
import Derived.Test.YtfbfiikomlnllaaGreatDoorText1
import Derived.Lib.Hide
import Derived.BigQuiet
import Derived.Deep.QuietTactic
import Derived.Deep.OwnRows
import Derived.Deep.LoopGhost
import Derived.Deep.RegionHeld3
import Derived.Deep.DeepCutAuto
import Derived.StillTailTactics
import Derived.WalkSpells
import Derived.WalkLawsBesides
import Derived.Lib.Join
namespace Go.Proofs.YtfbfiikomlnllaaGreatDoor
open Go.RowKit Go.Deep Go.Lib
set_option maxHeartbeats 2000000
set_option linter.unusedVariables false
set_option linter.unusedSimpArgs false

def kw (k : Nat) : List UInt8 := match k with
  | 0 => [112, 108, 97, 105, 110]
  | 1 => [108, 105, 102, 116]
  | 2 => [108, 97, 117, 110, 99, 104]
  | 3 => [98, 114, 97, 107, 101]
  | _ => [115, 116, 97, 116, 105, 111, 110]
def nums (s : Seg) : List Int := [s.n, s.r, s.c, s.d, s.e, s.f]
def tailT (xs : List Int) : List UInt8 := xs.flatMap fun x => 32 :: itoa x
def lineT (s : Seg) : List UInt8 := kw s.k.toNat ++ tailT (nums s)
def layK (zs : List Seg) : Nat → List UInt8
  | 0 => []
  | k + 1 => layK zs k ++ (lineT (sg zs k) ++ [10])
def layT (zs : List Seg) : List UInt8 := layK zs zs.length
def layTR (zs : List Seg) : List UInt8 := if layOk zs = true then layT zs else []
theorem kw_len (k : Nat) : (kw k).length ≤ 7 := by
  unfold kw
  split <;> simp
theorem itoa_len {x : Int} (h : -1000000000000 ≤ x ∧ x ≤ 1000000000000) : (itoa x).length ≤ 14 := by
  unfold itoa
  split
  · have := decDigits_len (u := x.natAbs) (by omega)
    simp; omega
  · have := decDigits_len (u := x.toNat) (by omega)
    omega
theorem tailT_snoc (xs : List Int) (x : Int) : tailT (xs ++ [x]) = tailT xs ++ (32 :: itoa x) := by
  unfold tailT
  rw [List.flatMap_append]
  simp
theorem tailT_len : ∀ (xs : List Int), (∀ x ∈ xs, -1000000000000 ≤ x ∧ x ≤ 1000000000000) → (tailT xs).length ≤ 15 * xs.length
  | [], _ => by simp [tailT]
  | x :: xs, h => by
    have h1 := tailT_len xs (fun y hy => h y (List.mem_cons_of_mem _ hy))
    have h2 := itoa_len (h x List.mem_cons_self)
    have e : tailT (x :: xs) = (32 :: itoa x) ++ tailT xs := by unfold tailT; rw [List.flatMap_cons]
    rw [e, List.length_append]
    simp
    omega
theorem nums_bd {s : Seg} (h : s.ok = true) : ∀ x ∈ nums s, -1000000000000 ≤ x ∧ x ≤ 1000000000000 := by
  have hb := ok_bd h
  intro x hx
  simp only [nums, List.mem_cons, List.not_mem_nil, or_false] at hx
  rcases hx with rfl | rfl | rfl | rfl | rfl | rfl <;> omega
theorem lineT_len {s : Seg} (h : s.ok = true) : (lineT s).length ≤ 97 := by
  unfold lineT
  rw [List.length_append]
  have h1 := kw_len s.k.toNat
  have h2 := tailT_len _ (nums_bd h)
  have h3 : (nums s).length = 6 := rfl
  omega
theorem layK_len {zs : List Seg} : ∀ {k : Nat}, AllOk zs k → (layK zs k).length ≤ 98 * k := by
  intro k
  induction k with
  | zero => intro _; simp [layK]
  | succ k ih =>
    intro h
    have h1 := ih (fun i hi => h i (by omega))
    have h2 := lineT_len (h k (by omega))
    simp only [layK, List.length_append, List.length_cons, List.length_nil]
    omega
/-- as strings.Join puts it -/
theorem join_tail : ∀ (x : Int) (xs : List Int), join ((x :: xs).map itoa) [32] = itoa x ++ tailT xs := by
  intro x xs
  rw [List.map_cons, join_cons]
  congr 1
  unfold joinTail tailT
  rw [List.map_map, List.flatMap_def]
  congr 1
theorem line_join (s : Seg) : lineT s = kw s.k.toNat ++ [32] ++ join ((nums s).map itoa) [32] := by
  have e : nums s = s.n :: [s.r, s.c, s.d, s.e, s.f] := rfl
  rw [e, join_tail]
  unfold lineT
  rw [e]
  unfold tailT
  rw [List.flatMap_cons]
  simp

set_option maxRecDepth 100000 in
theorem s_l01Number (x : Int) (h : -1000000000000 ≤ x ∧ x ≤ 1000000000000) (w : World) : Calls Tryz.prog 50 #[.int .i64 x] w fun en w' => en = .returned (strV (itoa x)) ∧ Below w.heap.size w w' := by
  by_cases hneg : x < 0
  · have CD : Hid (∀ w, Calls Tryz.prog 65 #[.int .i64 (-x)] w fun en w' => en = .returned (strV (decDigits x.natAbs)) ∧ Below w.heap.size w w') := fun w => s_l01Dec' (-x) x.natAbs w (by omega) (by omega)
    have hR := Lib.hid (show itoa x = 45 :: decDigits x.natAbs by unfold itoa; rw [if_pos hneg])
    have hl := decDigits_len (u := x.natAbs) (by omega)
    generalize decDigits x.natAbs = d at *
    go_enter Tryz.func50, Tryz.ntmps50
    go_wp2_with fail
    refine (CD.out _).mono ?_
    rintro e w1 ⟨rfl, hb⟩
    have O1 := Lib.hid hb
    clear hb
    go_wp2_with fail
    go_ret
    refine ⟨ret_str ?_, O1.out⟩
    rw [hR.out]
    apply ByteArray.ext
    simp
  · have CD : Hid (∀ w, Calls Tryz.prog 65 #[.int .i64 x] w fun en w' => en = .returned (strV (decDigits x.toNat)) ∧ Below w.heap.size w w') := fun w => s_l01Dec' x x.toNat w (by omega) (by omega)
    have hR := Lib.hid (show itoa x = decDigits x.toNat by unfold itoa; rw [if_neg hneg])
    have hl := decDigits_len (u := x.toNat) (by omega)
    generalize decDigits x.toNat = d at *
    have hge : 0 ≤ x := by omega
    go_enter Tryz.func50, Tryz.ntmps50
    go_wp2_with fail
    refine (CD.out _).mono ?_
    rintro e w1 ⟨rfl, hb⟩
    have O1 := Lib.hid hb
    clear hb
    go_wp2_with fail
    go_ret
    exact ⟨by rw [hR.out]; rfl, O1.out⟩

set_option maxRecDepth 100000 in
theorem s_l03Kinds (k : Nat) (hk : k < 5) (w : World) : Calls Tryz.prog 38 #[] w fun e w' => ∃ g, e = .returned (.slice (some ⟨g, 0, none⟩) 5 5) ∧ w'.cell? ⟨g, k, none⟩ = some (strV (kw k)) ∧ Below w.heap.size w w' := by
  go_enter Tryz.func38, Tryz.ntmps38
  go_wp2
  go_ret
  refine ⟨w.heap.size, rfl, ?_, balloc (Below.refl _ _) _⟩
  have h : k = 0 ∨ k = 1 ∨ k = 2 ∨ k = 3 ∨ k = 4 := by omega
  rcases h with rfl | rfl | rfl | rfl | rfl <;> (go_simp; rfl)

def numsV (n r c d e f : Int) : List Int := [n, r, c, d, e, f]
theorem take_snoc6 {L : List Int} {i : Nat} (h : i < L.length) : L.take (i + 1) = L.take i ++ [L.getD i 0] := by
  rw [List.take_succ_eq_append_getElem h, List.getD_eq_getElem?_getD, List.getElem?_eq_getElem h]
  rfl
set_option maxRecDepth 100000 in
theorem s_l03Line (s : Seg) (h : s.ok = true) (w : World) : Calls Tryz.prog 33 #[segV s.k s.n s.r s.c s.d s.e s.f] w fun en w' => en = .returned (strV (lineT s)) ∧ Below w.heap.size w w' := by
  have hb0 := ok_bd h
  have hnb := nums_bd h
  obtain ⟨k, hk⟩ : ∃ k : Nat, s.k = k := ⟨s.k.toNat, by omega⟩
  have hk5 : k < 5 := by omega
  have CK := Lib.hid (s_l03Kinds k hk5)
  have hkl := kw_len k
  have hln : lineT s = kw k ++ tailT (nums s) := by unfold lineT; rw [hk, Int.toNat_natCast]
  have hL6 : (nums s).length = 6 := rfl
  have HN : Hid (nums s = [s.n, s.r, s.c, s.d, s.e, s.f]) := rfl
  obtain ⟨L, hL⟩ : ∃ L, nums s = L := ⟨_, rfl⟩
  rw [hL] at hnb hln hL6 HN
  obtain ⟨sk, n, r, c, d, e, f⟩ := s
  simp only at hk hb0 HN hln ⊢
  subst hk
  have hki : (k : Int) < 5 := by omega
  have hk0 : (0 : Int) ≤ (k : Int) := by omega
  obtain ⟨K, hK⟩ : ∃ K, kw k = K := ⟨_, rfl⟩
  rw [hK] at CK hkl hln
  have HLN := Lib.hid hln
  have HNB := Lib.hid hnb
  have HL6 := Lib.hid hL6
  clear hK hln hnb hL6 hL h hb0
  have O := Own.start (w.alloc (Obj.cells #[.int .i64 (k : Int), .int .i64 n, .int .i64 r, .int .i64 c, .int .i64 d, .int .i64 e, .int .i64 f] 41))
  go_enter Tryz.func33, Tryz.ntmps33
  go_upto_region 1 with fail
  go_region_with (go_at_call 38; refine (CK.out _).mono ?_; rintro e w2 ⟨g, rfl, hc, hb⟩; first | (have O2 := Lib.hid (O.drew.join hb); have hk3 := (below_box (k := w.heap.size) hb (by simp)).1 0) | (have O2 := Lib.hid (O.join hb); have hk3 := (below_box (k := w.heap.size) hb (by simp)).1 0); clear hb)
  all_goals
    have hq := (below_box (k := w.heap.size) O2.out.below (by simp)).1
    have c1 : w2.cell? ⟨w.heap.size, 1, none⟩ = some (.int .i64 n) := by rw [hq 1]; go_simp
    have c2 : w2.cell? ⟨w.heap.size, 2, none⟩ = some (.int .i64 r) := by rw [hq 2]; go_simp
    have c3 : w2.cell? ⟨w.heap.size, 3, none⟩ = some (.int .i64 c) := by rw [hq 3]; go_simp
    have c4 : w2.cell? ⟨w.heap.size, 4, none⟩ = some (.int .i64 d) := by rw [hq 4]; go_simp
    have c5 : w2.cell? ⟨w.heap.size, 5, none⟩ = some (.int .i64 e) := by rw [hq 5]; go_simp
    have c6 : w2.cell? ⟨w.heap.size, 6, none⟩ = some (.int .i64 f) := by rw [hq 6]; go_simp
    have l2 : w.heap.size < w2.heap.size := World.block_lt_of_cell? w2 _ c1
    have I3 : Hid (Ints .i64 (w2.alloc (Obj.cells #[.int .i64 n, .int .i64 r, .int .i64 c, .int .i64 d, .int .i64 e, .int .i64 f] 2)) (some ⟨w2.heap.size, 0, none⟩) 6 L) := by
      refine ⟨HL6.out, by unfold maxLen; omega, fun _ => ⟨w2.heap.size, 0, rfl, fun i hi => ?_⟩⟩
      rw [HN.out]
      have h : i = 0 ∨ i = 1 ∨ i = 2 ∨ i = 3 ∨ i = 4 ∨ i = 5 := by omega
      rcases h with rfl | rfl | rfl | rfl | rfl | rfl <;> go_simp
    have CN : Hid (∀ (x : Int) (w : World), x ∈ L → Calls Tryz.prog 50 #[.int .i64 x] w fun en w' => en = .returned (strV (itoa x)) ∧ Below w.heap.size w w') := fun x w hx => s_l01Number x (HNB.out x hx) w
    have O3 := Lib.hid (O2.out.alloc (Obj.cells #[.int .i64 n, .int .i64 r, .int .i64 c, .int .i64 d, .int .i64 e, .int .i64 f] 2))
    clear hq hk3 hc O O2
    go_wp2
    go_loopw [3, 5] (fun v i wr => ∃ j : Nat, j ≤ 6 ∧ i = .int .i64 j ∧ (∃ b : ByteArray, v = .string b ∧ b = ⟨(K ++ tailT (L.take j)).toArray⟩) ∧ Own (w2.alloc (Obj.cells #[.int .i64 n, .int .i64 r, .int .i64 c, .int .i64 d, .int .i64 e, .int .i64 f] 2)) wr) (fun _ i _ => (6 - RowKit.intOf i).toNat)
    case atStart => exact ⟨0, by omega, rfl, ⟨_, rfl, by simp [tailT]⟩, Own.start _⟩
    case round =>
      obtain ⟨j, hj, rfl, ⟨b, rfl, hb⟩, hown⟩ := hrel
      obtain ⟨wB, rfl⟩ : ∃ wB : World, wB = wr := ⟨_, rfl⟩
      have HO := Lib.hid hown
      obtain ⟨T, hT⟩ : ∃ T, tailT (L.take j) = T := ⟨_, rfl⟩
      have hTl : T.length ≤ 90 := by
        rw [← hT]
        refine Nat.le_trans (tailT_len _ fun x hx => HNB.out x (List.mem_of_mem_take hx)) ?_
        rw [List.length_take, HL6.out]; omega
      rw [hT] at hb
      subst hb
      by_cases hlt : j < 6
      · obtain ⟨gb, off, hge, hc⟩ := (I3.out.own hown).2.2 (by omega)
        have hcj := hc j hlt
        have hge := Option.some.inj hge
        simp only [Addr.mk.injEq, and_true] at hge
        obtain ⟨rfl, rfl⟩ := hge
        rw [Nat.zero_add] at hcj
        have hsn := take_snoc6 (L := L) (i := j) (by rw [HL6.out]; exact hlt)
        have hmem : L.getD j 0 ∈ L := by rw [List.getD_eq_getElem?_getD, List.getElem?_eq_getElem (by rw [HL6.out]; exact hlt)]; exact List.getElem_mem _
        obtain ⟨x, hx⟩ : ∃ x, L.getD j 0 = x := ⟨_, rfl⟩
        rw [hx] at hcj hsn hmem
        have hxl := itoa_len (HNB.out x hmem)
        have HM := Lib.hid hmem
        have HSN := Lib.hid hsn
        have HT := Lib.hid hT
        have hji : (j : Int) < 6 := by omega
        have hj0 : (0 : Int) ≤ (j : Int) := by omega
        clear hc hx hmem hsn hT hown
        go_wp2_with fail
        refine (CN.out x _ HM.out).mono ?_
        rintro e w4 ⟨rfl, hb4⟩
        have O4 := Lib.hid (HO.out.join hb4)
        clear hb4
        generalize hX : itoa x = X at *
        go_wp2_with fail
        go_roundw
        case rel => exact ⟨j + 1, by omega, by go_num, ⟨_, rfl, by rw [HSN.out, tailT_snoc, HT.out, hX]; apply ByteArray.ext; simp⟩, O4.out⟩
        case measure => simp [RowKit.intOf]; omega
      · obtain rfl : j = 6 := by omega
        have hT2 : T = tailT L := by rw [← hT, List.take_of_length_le (by rw [HL6.out]; omega)]
        have HT2 := Lib.hid hT2
        clear hT hT2 hown
        go_wp2
        go_ret
        exact ⟨by rw [HLN.out, ← HT2.out]; rfl, bto (bto (balloc (Below.refl _ _) _) (O3.out.below)) HO.out.below⟩

set_option maxRecDepth 100000 in
theorem s_LayoutText (p : Option Addr) (n cap : Nat) (zs : List Seg) (w : World) (hin : Segs w p n zs) : Calls Tryz.prog 14 #[.agg #[.slice p n cap]] w fun en w' => en = .returned (strV (layTR zs)) ∧ Below w.heap.size w w' := by
  have hz := hin.1
  have HIN' := Lib.hid (hin.keep ((Below.refl _ _).alloc (Nat.le_refl _) (Obj.cells #[.slice p n cap] 24)))
  have h0 := Own.start (w.alloc (Obj.cells #[.slice p n cap] 24))
  clear hin
  have CI : Hid (∀ W, Segs W p n zs → Calls Tryz.prog 16 #[.agg #[.slice p n cap]] W fun e w' => e = .returned (.bool (layOk zs)) ∧ Below W.heap.size W w') := fun W h => s_IsLayout p n cap zs W h
  have HZ := Lib.hid hz
  clear hz
  rcases Bool.eq_false_or_eq_true (layOk zs) with hl | hl
  · have HL := Lib.hid (layOk_iff.1 hl)
    have hr : layTR zs = layK zs n := by unfold layTR layT; rw [if_pos hl, HZ.out]
    have HR := Lib.hid hr
    have hn24 : n ≤ 24 := by have := HL.out.2.1; have := HZ.out; omega
    have hA : Hid (AllOk zs n) := fun i hi => HL.out.2.2.1 i (by have := HZ.out; omega)
    rw [hl] at CI
    clear hr hl
    go_enter Tryz.func14, Tryz.ntmps14
    go_wp2_with fail
    refine (CI.out _ HIN'.out).mono ?_
    rintro e w1 ⟨rfl, hb⟩
    have O1 := Lib.hid (h0.join hb)
    clear hb h0
    go_wp2
    go_loopw [3, 4] (fun v i wr => ∃ j : Nat, j ≤ n ∧ i = .int .i64 j ∧ (∃ b : ByteArray, v = .string b ∧ b = ⟨(layK zs j).toArray⟩) ∧ Own (w.alloc (Obj.cells #[.slice p n cap] 24)) wr) (fun _ i _ => (n - RowKit.intOf i).toNat)
    case atStart => exact ⟨0, Nat.zero_le _, rfl, ⟨_, rfl, rfl⟩, O1.out⟩
    case round =>
      obtain ⟨j, hj, rfl, ⟨b, rfl, hb⟩, hown⟩ := hrel
      obtain ⟨wB, rfl⟩ : ∃ wB : World, wB = wr := ⟨_, rfl⟩
      have HO := Lib.hid hown
      have hTl : (layK zs j).length ≤ 98 * j := layK_len (fun i hi => hA.out i (by omega))
      have hst : layK zs (j + 1) = layK zs j ++ (lineT (sg zs j) ++ [10]) := rfl
      have hbx : wB.cell? ⟨w.heap.size, 0, none⟩ = some (.slice p n cap) := by rw [(below_box (k := w.heap.size) hown.below (by simp)).1 0]; go_simp
      obtain ⟨T, hT⟩ : ∃ T, layK zs j = T := ⟨_, rfl⟩
      rw [hT] at hb hTl hst
      subst hb
      by_cases hlt : j < n
      · obtain ⟨b, off, rfl, hlb, hc⟩ := (HIN'.out.own hown).2.2 (by omega)
        obtain ⟨c0, c1, c2, c3, c4, c5, c6⟩ := hc j hlt
        obtain ⟨s, hs⟩ : ∃ s, s = sg zs j := ⟨_, rfl⟩
        have hok := hA.out j hlt
        rw [← hs] at c0 c1 c2 c3 c4 c5 c6 hst hok
        have CL : Hid (∀ w, Calls Tryz.prog 33 #[segV s.k s.n s.r s.c s.d s.e s.f] w fun en w' => en = .returned (strV (lineT s)) ∧ Below w.heap.size w w') := fun w => s_l03Line s hok w
        have hll := lineT_len hok
        obtain ⟨M, hM⟩ : ∃ M, lineT s = M := ⟨_, rfl⟩
        rw [hM] at CL hll hst
        have HST := Lib.hid hst
        have hji : (j : Int) < (n : Int) := by omega
        have hj0 : (0 : Int) ≤ (j : Int) := by omega
        clear hc hs hok hM hst hT hown
        go_wp2_with fail
        refine (CL.out _).mono ?_
        rintro e w4 ⟨rfl, hb4⟩
        have O4 := Lib.hid (HO.out.join hb4)
        clear hb4
        go_wp2_with fail
        go_roundw
        case rel => exact ⟨j + 1, by omega, by go_num, ⟨_, rfl, by rw [HST.out]; apply ByteArray.ext; simp⟩, O4.out⟩
        case measure => simp [RowKit.intOf]; omega
      · obtain rfl : j = n := by omega
        have HT := Lib.hid hT
        clear hT hst hown
        go_wp2
        go_ret
        exact ⟨by rw [HR.out, HT.out]; rfl, bto (balloc (Below.refl _ _) _) HO.out.below⟩
  · have hr : layTR zs = [] := by unfold layTR; rw [if_neg (by rw [hl]; simp)]
    rw [hr]
    rw [hl] at CI
    clear hr
    go_enter Tryz.func14, Tryz.ntmps14
    go_wp2_with fail
    refine (CI.out _ HIN'.out).mono ?_
    rintro e w1 ⟨rfl, hb⟩
    have O1 := Lib.hid (h0.join hb)
    clear hb h0
    go_wp2
    go_ret
    exact ⟨rfl, bto (balloc (Below.refl _ _) _) O1.out.below⟩

theorem words_step {w : World} {g : Nat} {t : TypeId} {n k : Nat} {ys : List Int} (h : w.rowIs g t n (fun j => if j < k then strV (itoa (ys.getD j 0)) else .string ByteArray.empty)) :
    (w.setCell ⟨g, k, none⟩ (strV (itoa (ys.getD k 0)))).rowIs g t n (fun j => if j < k + 1 then strV (itoa (ys.getD j 0)) else .string ByteArray.empty) :=
  (h.set k _).congr fun j hj => by
    by_cases e : j = k
    · subst e; simp
    · rw [if_neg e]
      by_cases c : j < k
      · rw [if_pos c, if_pos (by omega)]
      · rw [if_neg c, if_neg (by omega)]
theorem join_len (ys : List Int) (hb : ∀ x ∈ ys, -1000000000000 ≤ x ∧ x ≤ 1000000000000) : (join (ys.map itoa) [32]).length ≤ 15 * ys.length := by
  cases ys with
  | nil => simp [join_nil]
  | cons x r =>
    rw [join_tail, List.length_append]
    have h1 := itoa_len (hb x List.mem_cons_self)
    have h2 := tailT_len r fun y hy => hb y (List.mem_cons_of_mem _ hy)
    simp only [List.length_cons]
    omega
set_option maxRecDepth 100000 in
theorem i_join (q : Option Addr) (m c : Nat) (ys : List Int) (w : World) (hq : Ints .i64 w q m ys) (hm : m ≤ 100) (hm0 : 0 < m) (hb : ∀ x ∈ ys, -1000000000000 ≤ x ∧ x ≤ 1000000000000) (ht : Pow Tryz.prog w) :
    Calls Tryz.prog 44 #[.slice q m c, strV [32]] w fun en w' => en = .returned (strV (join (ys.map itoa) [32])) ∧ Below w.heap.size w w' := by
  have hmk := run_make_row' (P := Tryz.prog) 36 9 (.string ByteArray.empty) 16 Tryz.underlying36 (by kernel_rfl) rfl .i64 .i64 m (by omega) (by omega)
  have hrow0 := Lib.hid (World.rowIs_made w (.string ByteArray.empty) m 9)
  have hown0 : Hid (Own w (w.alloc (Obj.cells (madeCells #[Value.string ByteArray.empty] m) 9))) := (Own.start w).alloc _
  have HQ := Lib.hid hq
  have HZ := Lib.hid hq.1
  have HB := Lib.hid hb
  have HT := Lib.hid ht
  clear hq hb ht
  go_enter Tryz.func44, Tryz.ntmps44
  go_wp2
  go_loopw [13] (fun i wr => ∃ k : Nat, k ≤ m ∧ i = .int .i64 k ∧ wr.rowIs w.heap.size 9 m (fun j => if j < k then strV (itoa (ys.getD j 0)) else .string ByteArray.empty) ∧ Own w wr) (fun i _ => m - (RowKit.intOf i).toNat)
  case atStart => exact ⟨0, Nat.zero_le _, rfl, hrow0.out.congr (fun i hi => by simp), hown0.out⟩
  case round =>
    obtain ⟨k, hk, rfl, hrow, hown⟩ := hrel
    obtain ⟨wB, rfl⟩ : ∃ wB : World, wB = wr := ⟨_, rfl⟩
    have HO := Lib.hid hown
    by_cases hlt : k < m
    · obtain ⟨b, off, rfl, hc⟩ := (HQ.out.own hown).2.2 (by omega)
      have hck := hc k hlt
      have hkm : ys.getD k 0 ∈ ys := by rw [List.getD_eq_getElem?_getD, List.getElem?_eq_getElem (by rw [HZ.out]; exact hlt)]; exact List.getElem_mem _
      have hbk := HB.out _ hkm
      obtain ⟨x, hx⟩ : ∃ x, x = ys.getD k 0 := ⟨_, rfl⟩
      rw [← hx] at hck hbk
      have HX := Lib.hid hx
      have CD : Hid (∀ w, Pow Tryz.prog w → Calls Tryz.prog 61 #[.int .i64 x] w fun en w' => en = .returned (strV (itoa x)) ∧ Below w.heap.size w w') := fun w ht => i_decimal x (by omega) (by omega) w ht
      have HR := Lib.hid hrow
      have hlw : w.heap.size < wB.heap.size := hrow.lt
      have hlen : (k : Int) < m := by omega
      clear hc hkm hx hrow hown
      go_wp2_with fail
      refine (CD.out _ (HT.out.keep HO.out.below)).mono ?_
      rintro e w4 ⟨rfl, hb4⟩
      have O4 := Lib.hid (HO.out.join hb4)
      have R4 : w4.rowIs w.heap.size 9 m (fun j => if j < k then strV (itoa (ys.getD j 0)) else .string ByteArray.empty) := by
        obtain ⟨cur, r1, r2, r3⟩ := HR.out
        exact ⟨cur, (hb4.block _ hlw).trans r1, r2, r3⟩
      have hrk := R4.cell hlt
      have hfk := R4.frozen k
      rw [if_neg (by omega)] at hrk
      have hstep := words_step R4
      rw [← HX.out] at hstep
      have HS := Lib.hid hstep
      clear hb4 R4 hstep
      go_wp2
      go_roundw
      case rel => exact ⟨k + 1, by omega, by go_num, HS.out, O4.out.setCell (Nat.le_refl _) _⟩
      case measure => simp [RowKit.intOf]; omega
    · obtain rfl : k = m := by omega
      have hl2 := hrow.lt
      have CJ := Tryz.strings_Join w.heap.size 0 k (ys.map fun x => (⟨(itoa x).toArray⟩ : ByteArray)) ⟨#[32]⟩ wB (fun j x hx => by
        rw [List.getElem?_map] at hx
        have hj : j < k := by
          rcases Nat.lt_or_ge j k with h | h
          · exact h
          · rw [List.getElem?_eq_none (by rw [HZ.out]; exact h)] at hx; cases hx
        rw [List.getElem?_eq_getElem (by rw [HZ.out]; exact hj)] at hx
        simp only [Option.map_some, Option.some.injEq] at hx
        rw [Nat.zero_add, hrow.cell hj, if_pos hj, ← hx, List.getD_eq_getElem?_getD, List.getElem?_eq_getElem (by rw [HZ.out]; exact hj)]
        rfl) hl2 (by rw [List.length_map, HZ.out]; omega) (by rw [List.length_map, HZ.out]; exact Nat.le_refl _) (by
          rw [List.map_map]
          have := join_len ys HB.out
          have := HZ.out
          show (join (ys.map itoa) [32]).length ≤ _
          omega)
      rw [List.length_map, HZ.out, List.map_map] at CJ
      have HC : Hid (Calls Tryz.prog 62 #[.slice (some ⟨w.heap.size, 0, none⟩) k k, .string ⟨#[32]⟩] wB fun e w' => e = .returned (strV (join (ys.map itoa) [32])) ∧ Below wB.heap.size wB w') := CJ
      clear CJ hrow hown
      go_wp2_with fail
      refine HC.out.mono ?_
      rintro e w4 ⟨rfl, hb4⟩
      have O4 := Lib.hid (HO.out.join hb4)
      clear hb4
      go_wp2_with fail
      go_ret
      exact ⟨rfl, O4.out.below⟩

/-- the table of the kinds' names, as the program's variable holds it -/
def Words (w : World) : Prop := ∀ k, k < 5 → w.cell? ⟨0, k, none⟩ = some (strV (kw k))
theorem Words.lt {w : World} (h : Words w) : 0 < w.heap.size := World.block_lt_of_cell? w _ (h 0 (by omega))
theorem Words.keep {w w' : World} (h : Words w) (hb : Below w.heap.size w w') : Words w' := fun k hk => by
  rw [(below_box (k := 0) hb h.lt).1 k]; exact h k hk

set_option maxRecDepth 100000 in
theorem i_layoutText (p : Option Addr) (n cap : Nat) (zs : List Seg) (w : World) (hin : Segs w p n zs) (hL : LayOk zs) (ht : Pow Tryz.prog w) (hw : Words w) : Calls Tryz.prog 25 #[.agg #[.slice p n cap]] w fun en w' => en = .returned (strV (layT zs)) ∧ Below w.heap.size w w' := by
  have hz := hin.1
  have hb0 := (Below.refl w.heap.size w).alloc (Nat.le_refl _) (Obj.cells #[.slice p n cap] 24)
  have HIN' := Lib.hid (hin.keep hb0)
  have h0 := Own.start (w.alloc (Obj.cells #[.slice p n cap] 24))
  have HT := Lib.hid (ht.keep hb0)
  have HW := Lib.hid (hw.keep hb0)
  clear hin ht hw hb0
  have HZ := Lib.hid hz
  have HL := Lib.hid hL
  have HR : Hid (layT zs = layK zs n) := by unfold layT; rw [HZ.out]; exact rfl
  have hn24 : n ≤ 24 := by have := HL.out.2.1; have := HZ.out; omega
  have hA : Hid (AllOk zs n) := fun i hi => HL.out.2.2.1 i (by have := HZ.out; omega)
  clear hz hL
  go_enter Tryz.func25, Tryz.ntmps25
  go_wp2
  go_loopw [3, 9] (fun v i wr => ∃ j : Nat, j ≤ n ∧ i = .int .i64 j ∧ (∃ b : ByteArray, v = .string b ∧ b = ⟨(layK zs j).toArray⟩) ∧ Own (w.alloc (Obj.cells #[.slice p n cap] 24)) wr) (fun _ i _ => (n - RowKit.intOf i).toNat)
  case atStart => exact ⟨0, Nat.zero_le _, rfl, ⟨_, rfl, rfl⟩, h0⟩
  case round =>
    obtain ⟨j, hj, rfl, ⟨b, rfl, hb⟩, hown⟩ := hrel
    obtain ⟨wB, rfl⟩ : ∃ wB : World, wB = wr := ⟨_, rfl⟩
    have HO := Lib.hid hown
    have hTl : (layK zs j).length ≤ 98 * j := layK_len (fun i hi => hA.out i (by omega))
    have hst : layK zs (j + 1) = layK zs j ++ (lineT (sg zs j) ++ [10]) := rfl
    have hbx : wB.cell? ⟨w.heap.size, 0, none⟩ = some (.slice p n cap) := by rw [(below_box (k := w.heap.size) hown.below (by simp)).1 0]; go_simp
    obtain ⟨T, hT⟩ : ∃ T, layK zs j = T := ⟨_, rfl⟩
    rw [hT] at hb hTl hst
    subst hb
    by_cases hlt : j < n
    · obtain ⟨b, off, rfl, hlb, hc⟩ := (HIN'.out.own hown).2.2 (by omega)
      obtain ⟨c0, c1, c2, c3, c4, c5, c6⟩ := hc j hlt
      obtain ⟨s, hs⟩ : ∃ s, s = sg zs j := ⟨_, rfl⟩
      have hok := hA.out j hlt
      rw [← hs] at c0 c1 c2 c3 c4 c5 c6 hst hok
      have hb2 := ok_bd hok
      have hll := lineT_len hok
      rw [line_join] at hst hll
      have HNB := Lib.hid (nums_bd hok)
      obtain ⟨k, hk⟩ : ∃ k : Nat, s.k = k := ⟨s.k.toNat, by omega⟩
      have hk5 : k < 5 := by omega
      rw [hk] at c0
      have hki : (k : Int) < 5 := by omega
      have hk0 : (0 : Int) ≤ (k : Int) := by omega
      rw [hk, Int.toNat_natCast] at hst hll
      obtain ⟨J, hJ⟩ : ∃ J, join ((nums s).map itoa) [32] = J := ⟨_, rfl⟩
      obtain ⟨sk, sn, sr, sc, sd, se, sf⟩ := s
      simp only at c0 c1 c2 c3 c4 c5 c6 hk hb2
      have CJ : Hid (∀ (q : Option Addr) (W : World), Pow Tryz.prog W → Ints .i64 W q 6 [sn, sr, sc, sd, se, sf] → Calls Tryz.prog 44 #[.slice q 6 6, .string ⟨#[32]⟩] W fun en w' => en = .returned (strV J) ∧ Below W.heap.size W w') := fun q W ht hq => by
        rw [← hJ]
        exact i_join q 6 6 _ W hq (by omega) (by omega) HNB.out ht
      rw [hJ] at hst hll
      obtain ⟨K, hK⟩ : ∃ K, kw k = K := ⟨_, rfl⟩
      have hkl := kw_len k
      rw [hK] at hst hll hkl
      simp only [List.length_append, List.length_cons, List.length_nil] at hll
      have hJl : J.length ≤ 97 := by omega
      have HST := Lib.hid hst
      have hji : (j : Int) < (n : Int) := by omega
      have hj0 : (0 : Int) ≤ (j : Int) := by omega
      obtain ⟨W, hW⟩ : ∃ W, W = wB.alloc (Obj.cells #[.int .i64 (k : Int), .int .i64 sn, .int .i64 sr, .int .i64 sc, .int .i64 sd, .int .i64 se, .int .i64 sf] 41) := ⟨_, rfl⟩
      have O1 := Lib.hid (show Own _ W by rw [hW]; exact HO.out.alloc _)
      have d0 : W.cell? ⟨wB.heap.size, 0, none⟩ = some (.int .i64 (k : Int)) := by rw [hW]; go_simp
      have d1 : W.cell? ⟨wB.heap.size, 1, none⟩ = some (.int .i64 sn) := by rw [hW]; go_simp
      have d2 : W.cell? ⟨wB.heap.size, 2, none⟩ = some (.int .i64 sr) := by rw [hW]; go_simp
      have d3 : W.cell? ⟨wB.heap.size, 3, none⟩ = some (.int .i64 sc) := by rw [hW]; go_simp
      have d4 : W.cell? ⟨wB.heap.size, 4, none⟩ = some (.int .i64 sd) := by rw [hW]; go_simp
      have d5 : W.cell? ⟨wB.heap.size, 5, none⟩ = some (.int .i64 se) := by rw [hW]; go_simp
      have d6 : W.cell? ⟨wB.heap.size, 6, none⟩ = some (.int .i64 sf) := by rw [hW]; go_simp
      have dw : W.cell? ⟨0, k, none⟩ = some (strV K) := by rw [← hK]; exact HW.out.keep O1.out.below k hk5
      clear hc hs hok hst hT hown hJ hK hk hb2 hll
      go_wp2
      rw [← hW]
      clear hW c0 c1 c2 c3 c4 c5 c6 hbx
      have hs1 : ¬ 9223372036854775807 < K.length + 1 := by omega
      have hs2 : ¬ 9223372036854775807 < K.length + 1 + J.length := by omega
      have hs3 : ¬ 9223372036854775807 < K.length + 1 + J.length + 1 := by omega
      have hs4 : ¬ 9223372036854775807 < T.length + (K.length + 1 + J.length + 1) := by omega
      have lg : 0 < W.heap.size := World.block_lt_of_cell? W _ dw
      have lb : wB.heap.size < W.heap.size := World.block_lt_of_cell? W _ d0
      have O2 := Lib.hid (O1.out.drew.alloc (Obj.cells #[.int .i64 sn, .int .i64 sr, .int .i64 sc, .int .i64 sd, .int .i64 se, .int .i64 sf] 2))
      have P3 : Pow Tryz.prog (W.drew.alloc (Obj.cells #[.int .i64 sn, .int .i64 sr, .int .i64 sc, .int .i64 sd, .int .i64 se, .int .i64 sf] 2)) := HT.out.keep O2.out.below
      have I3 : Ints .i64 (W.drew.alloc (Obj.cells #[.int .i64 sn, .int .i64 sr, .int .i64 sc, .int .i64 sd, .int .i64 se, .int .i64 sf] 2)) (some ⟨W.heap.size, 0, none⟩) 6 [sn, sr, sc, sd, se, sf] := by
        refine ⟨rfl, by unfold maxLen; omega, fun _ => ⟨W.heap.size, 0, rfl, fun i hi => ?_⟩⟩
        have h : i = 0 ∨ i = 1 ∨ i = 2 ∨ i = 3 ∨ i = 4 ∨ i = 5 := by omega
        rcases h with rfl | rfl | rfl | rfl | rfl | rfl <;> go_simp
      have CJ3 := Lib.hid (CJ.out _ _ P3 I3)
      have HD : Hid ((W.drew.alloc (Obj.cells #[.int .i64 sn, .int .i64 sr, .int .i64 sc, .int .i64 sd, .int .i64 se, .int .i64 sf] 2)).cell? ⟨wB.heap.size, 0, none⟩ = some (.int .i64 (k : Int)) ∧ (W.drew.alloc (Obj.cells #[.int .i64 sn, .int .i64 sr, .int .i64 sc, .int .i64 sd, .int .i64 se, .int .i64 sf] 2)).cell? ⟨wB.heap.size, 1, none⟩ = some (.int .i64 sn) ∧ (W.drew.alloc (Obj.cells #[.int .i64 sn, .int .i64 sr, .int .i64 sc, .int .i64 sd, .int .i64 se, .int .i64 sf] 2)).cell? ⟨wB.heap.size, 2, none⟩ = some (.int .i64 sr) ∧ (W.drew.alloc (Obj.cells #[.int .i64 sn, .int .i64 sr, .int .i64 sc, .int .i64 sd, .int .i64 se, .int .i64 sf] 2)).cell? ⟨wB.heap.size, 3, none⟩ = some (.int .i64 sc) ∧ (W.drew.alloc (Obj.cells #[.int .i64 sn, .int .i64 sr, .int .i64 sc, .int .i64 sd, .int .i64 se, .int .i64 sf] 2)).cell? ⟨wB.heap.size, 4, none⟩ = some (.int .i64 sd) ∧ (W.drew.alloc (Obj.cells #[.int .i64 sn, .int .i64 sr, .int .i64 sc, .int .i64 sd, .int .i64 se, .int .i64 sf] 2)).cell? ⟨wB.heap.size, 5, none⟩ = some (.int .i64 se) ∧ (W.drew.alloc (Obj.cells #[.int .i64 sn, .int .i64 sr, .int .i64 sc, .int .i64 sd, .int .i64 se, .int .i64 sf] 2)).cell? ⟨wB.heap.size, 6, none⟩ = some (.int .i64 sf) ∧ (W.drew.alloc (Obj.cells #[.int .i64 sn, .int .i64 sr, .int .i64 sc, .int .i64 sd, .int .i64 se, .int .i64 sf] 2)).cell? ⟨0, k, none⟩ = some (strV K)) := ⟨by go_simp, by go_simp, by go_simp, by go_simp, by go_simp, by go_simp, by go_simp, by go_simp⟩
      clear P3 I3 CJ
      go_region_held3 (fun w' => w'.cell? ⟨wB.heap.size, 0, none⟩ = some (.int .i64 (k : Int)) ∧ w'.cell? ⟨wB.heap.size, 1, none⟩ = some (.int .i64 sn) ∧ w'.cell? ⟨wB.heap.size, 2, none⟩ = some (.int .i64 sr) ∧ w'.cell? ⟨wB.heap.size, 3, none⟩ = some (.int .i64 sc) ∧ w'.cell? ⟨wB.heap.size, 4, none⟩ = some (.int .i64 sd) ∧ w'.cell? ⟨wB.heap.size, 5, none⟩ = some (.int .i64 se) ∧ w'.cell? ⟨wB.heap.size, 6, none⟩ = some (.int .i64 sf) ∧ w'.cell? ⟨0, k, none⟩ = some (strV K)) (first | (go_simp; done) | go_keep | exact hS) (first | (go_at_call 44; refine CJ3.out.mono ?_; rintro e w2 ⟨rfl, hb⟩; have k8 := (below_box (k := wB.heap.size) hb (by first | (simp; done) | (simp; omega))).1; have kg := (below_box (k := 0) hb (by first | (simp; done) | (simp; omega))).1 k; have O4 := Lib.hid (O2.out.join hb); have hS := (show w2.cell? ⟨wB.heap.size, 0, none⟩ = some (.int .i64 (k : Int)) ∧ w2.cell? ⟨wB.heap.size, 1, none⟩ = some (.int .i64 sn) ∧ w2.cell? ⟨wB.heap.size, 2, none⟩ = some (.int .i64 sr) ∧ w2.cell? ⟨wB.heap.size, 3, none⟩ = some (.int .i64 sc) ∧ w2.cell? ⟨wB.heap.size, 4, none⟩ = some (.int .i64 sd) ∧ w2.cell? ⟨wB.heap.size, 5, none⟩ = some (.int .i64 se) ∧ w2.cell? ⟨wB.heap.size, 6, none⟩ = some (.int .i64 sf) ∧ w2.cell? ⟨0, k, none⟩ = some (strV K) from ⟨(k8 0).trans HD.out.1, (k8 1).trans HD.out.2.1, (k8 2).trans HD.out.2.2.1, (k8 3).trans HD.out.2.2.2.1, (k8 4).trans HD.out.2.2.2.2.1, (k8 5).trans HD.out.2.2.2.2.2.1, (k8 6).trans HD.out.2.2.2.2.2.2.1, kg.trans HD.out.2.2.2.2.2.2.2⟩); clear hb k8 kg))
      all_goals
        clear hS d0 d1 d2 d3 d4 d5 d6 dw hs1 hs2 hs3 hs4
        go_wp2
        go_roundw
        case rel => exact ⟨j + 1, by omega, by go_num, ⟨_, rfl, by rw [HST.out]; apply ByteArray.ext; simp⟩, O4.out⟩
        case measure => simp [RowKit.intOf]; omega
    · obtain rfl : j = n := by omega
      have HT2 := Lib.hid hT
      clear hT hst hown
      go_wp2
      go_ret
      exact ⟨by rw [HR.out, HT2.out]; rfl, bto (balloc (Below.refl _ _) _) HO.out.below⟩

theorem i_LayoutText (p : Option Addr) (n cap : Nat) (zs : List Seg) (w : World) (hin : Segs w p n zs) (hn : n ≤ 1048576) (ht : Pow Tryz.prog w) (hw : Words w) : Calls Tryz.prog 12 #[.agg #[.slice p n cap]] w fun en w' => en = .returned (strV (layTR zs)) ∧ Below w.heap.size w w' := by
  have hb0 := (Below.refl w.heap.size w).alloc (Nat.le_refl _) (Obj.cells #[.slice p n cap] 24)
  have HIN' := Lib.hid (hin.keep hb0)
  have h0 := Own.start (w.alloc (Obj.cells #[.slice p n cap] 24))
  have HT := Lib.hid (ht.keep hb0)
  have HW := Lib.hid (hw.keep hb0)
  clear hin ht hw hb0
  have CI : Hid (∀ W, Segs W p n zs → Calls Tryz.prog 15 #[.agg #[.slice p n cap]] W fun e w' => e = .returned (.bool (layOk zs)) ∧ Below W.heap.size W w') := fun W h => i_IsLayout p n cap zs W h hn
  rcases Bool.eq_false_or_eq_true (layOk zs) with hl | hl
  · have hr : layTR zs = layT zs := by unfold layTR; rw [if_pos hl]
    rw [hr]
    have CT : Hid (∀ W, Segs W p n zs → Pow Tryz.prog W → Words W → Calls Tryz.prog 25 #[.agg #[.slice p n cap]] W fun e w' => e = .returned (strV (layT zs)) ∧ Below W.heap.size W w') := fun W h h1 h2 => i_layoutText p n cap zs W h (layOk_iff.1 hl) h1 h2
    rw [hl] at CI
    clear hr hl
    go_enter Tryz.func12, Tryz.ntmps12
    go_wp2_with fail
    refine (CI.out _ HIN'.out).mono ?_
    rintro e w1 ⟨rfl, hb⟩
    have hbx := (below_box (k := w.heap.size) hb (by simp)).1 0
    rw [show (w.alloc (Obj.cells #[.slice p n cap] 24)).cell? ⟨w.heap.size, 0, none⟩ = some (.slice p n cap) by go_simp] at hbx
    have O1 := h0.join hb
    clear hb h0
    go_wp2_with fail
    refine (CT.out _ (HIN'.out.own O1) (HT.out.keep O1.below) (HW.out.keep O1.below)).mono ?_
    rintro e w2 ⟨rfl, hb⟩
    have O2 := Lib.hid (O1.join hb)
    clear hb O1 hbx
    go_wp2_with fail
    go_ret
    exact ⟨rfl, bto (balloc (Below.refl _ _) _) O2.out.below⟩
  · have hr : layTR zs = [] := by unfold layTR; rw [if_neg (by rw [hl]; simp)]
    rw [hr]
    rw [hl] at CI
    clear hr
    go_enter Tryz.func12, Tryz.ntmps12
    go_wp2_with fail
    refine (CI.out _ HIN'.out).mono ?_
    rintro e w1 ⟨rfl, hb⟩
    have O1 := Lib.hid (h0.join hb)
    clear hb h0
    go_wp2
    go_ret
    exact ⟨rfl, bto (balloc (Below.refl _ _) _) O1.out.below⟩

end Go.Proofs.YtfbfiikomlnllaaGreatDoor
