/- Contracts and lemmas for the proofs of this seat: Lay21. -/
import Derived.Test.YtgkfnggnhphboaaBase
import Derived.Test.YtgkfnggnhphboaaNum
import Derived.Test.YtgkfnggnhphboaaIv
import Derived.Test.YtgkfnggnhphboaaIv2
import Derived.Test.YtgkfnggnhphboaaScale
import Derived.Test.YtgkfnggnhphboaaDiv
import Derived.Test.YtgkfnggnhphboaaRoot
import Derived.Test.YtgkfnggnhphboaaEn
import Derived.Test.YtgkfnggnhphboaaEn2
import Derived.Test.YtgkfnggnhphboaaSeg
import Derived.Test.YtgkfnggnhphboaaStop
import Derived.Test.YtgkfnggnhphboaaStop2
import Derived.Test.YtgkfnggnhphboaaList
import Derived.Test.YtgkfnggnhphboaaLay
import Derived.Test.YtgkfnggnhphboaaLay2
import Derived.Test.YtgkfnggnhphboaaLay3
import Derived.Test.YtgkfnggnhphboaaLay9
import Derived.Test.YtgkfnggnhphboaaLay10
import Derived.Test.YtgkfnggnhphboaaLay11
import Derived.Test.YtgkfnggnhphboaaLay12
import Derived.Test.YtgkfnggnhphboaaLay13
import Derived.Test.YtgkfnggnhphboaaLay15
import Derived.Test.YtgkfnggnhphboaaLay16
import Derived.Test.YtgkfnggnhphboaaLay17
import Derived.Test.YtgkfnggnhphboaaLay18
import Derived.Lib.Hide
import Derived.BigQuiet
import Derived.Deep.QuietTactic
import Derived.Deep.OwnRows
import Derived.Deep.LoopGhost
import Derived.Deep.RegionHeld3
import Derived.Deep.DeepCutAuto
import Derived.StillTailTactics
import Derived.Deep.AppendLies
import Derived.Deep.DrawnRows
import Derived.Outline
namespace Go.Proofs.Ytgkfnggnhphboaa
open Go.RowKit Go.Deep
set_option maxHeartbeats 2000000
set_option linter.unusedVariables false
set_option linter.unusedSimpArgs false

/-- the energy behind j segments, from the f-th on, and the code of the first that fails -/
def eaA (zs : List Seg) (f : Nat) (a b : Int) : Nat → Int × Int × Int
  | 0 => (a, b, 0)
  | j + 1 => if (eaA zs f a b j).2.2 = 0 then enAfter (runAt zs f j).k (runAt zs f j).n (runAt zs f j).r (runAt zs f j).c (runAt zs f j).d (runAt zs f j).e (runAt zs f j).f (eaA zs f a b j).1 (eaA zs f a b j).2.1 else eaA zs f a b j
def eaF (zs : List Seg) (f : Nat) (a b : Int) (i : Nat) : Int := if i % 2 = 0 then (eaA zs f a b (i / 2 + 1)).1 else (eaA zs f a b (i / 2 + 1)).2.1
def eaM (zs : List Seg) (x y a b : Int) : Nat := if layOk zs = true ∧ isEn a b = true ∧ rangeB zs x y = true ∧ (eaA zs x.toNat a b y.toNat).2.2 = 0 then y.toNat else 0
def eaC (zs : List Seg) (x y a b : Int) : Int := if layOk zs = true ∧ isEn a b = true then (if rangeB zs x y = true then (eaA zs x.toNat a b y.toNat).2.2 else 2) else 1
theorem eaA_stick {zs : List Seg} {f : Nat} {a b : Int} {j : Nat} (h : (eaA zs f a b j).2.2 ≠ 0) : ∀ m, j ≤ m → eaA zs f a b m = eaA zs f a b j := by
  intro m hm
  induction m with
  | zero => obtain rfl : j = 0 := by omega
            rfl
  | succ m ih =>
    rcases Nat.lt_or_ge m j with h1 | h1
    · obtain rfl : j = m + 1 := by omega
      rfl
    · have e := ih h1
      rw [← e] at h
      have : eaA zs f a b (m + 1) = eaA zs f a b m := by simp only [eaA]; rw [if_neg h]
      rw [this, e]
theorem enCheck_ok {lo hi : Int} (h : (enCheck lo hi).2.2 = 0) (hle : lo ≤ hi) : isEn (enCheck lo hi).1 (enCheck lo hi).2.1 = true := by
  unfold enCheck at *
  by_cases h1 : lo < 0
  · rw [if_pos h1] at h; cases h
  · by_cases h2 : 10000000000 < hi
    · rw [if_neg h1, if_pos h2] at h; cases h
    · rw [if_neg h1, if_neg h2]; exact isEn_iff.2 (by simp only; omega)
theorem enAfter_ok {s : Seg} {a b : Int} (hs : s.ok = true) (h : isEn a b = true) (hc : (enAfter s.k s.n s.r s.c s.d s.e s.f a b).2.2 = 0) : isEn (enAfter s.k s.n s.r s.c s.d s.e s.f a b).1 (enAfter s.k s.n s.r s.c s.d s.e s.f a b).2.1 = true := by
  have hb := ok_bd hs
  have g := isEn_iff.1 h
  have hl := ch_le (n := s.n) (r := s.r) (c := s.c) (d := s.d) (by omega) (by omega)
  have e : enAfter s.k s.n s.r s.c s.d s.e s.f a b = enCheck (a + chLo s.n s.r s.d) (b + chHi s.n s.r s.c) := by unfold enAfter; rw [if_pos ⟨hs, h⟩]
  rw [e] at hc ⊢
  exact enCheck_ok hc (by omega)
theorem eaA_isEn {zs : List Seg} (hL : LayOk zs) {f : Nat} {a b : Int} (h : isEn a b = true) : ∀ j, (eaA zs f a b j).2.2 = 0 → isEn (eaA zs f a b j).1 (eaA zs f a b j).2.1 = true := by
  intro j
  induction j with
  | zero => intro _; exact h
  | succ j ih =>
    intro hc
    by_cases h0 : (eaA zs f a b j).2.2 = 0
    · simp only [eaA, if_pos h0] at hc ⊢
      exact enAfter_ok (runAt_ok hL f j) (ih h0) hc
    · simp only [eaA, if_neg h0] at hc ⊢
      exact absurd hc h0
theorem rowV_snoc2 (f : Nat → Int) (j : Nat) {x y : Int} (h1 : f (j * 2) = x) (h2 : f (j * 2 + 1) = y) : rowV f (j * 2) ++ [.int .i64 x, .int .i64 y] = rowV f ((j + 1) * 2) := by
  subst h1
  subst h2
  have e1 := rowV_snoc f (j * 2)
  have e2 := rowV_snoc f (j * 2 + 1)
  rw [show (j + 1) * 2 = j * 2 + 1 + 1 from by omega, ← e2, ← e1]
  simp
theorem eaF_0 (zs : List Seg) (f : Nat) (a b : Int) (j : Nat) : eaF zs f a b (j * 2) = (eaA zs f a b (j + 1)).1 := by
  unfold eaF; rw [if_pos (by omega), show j * 2 / 2 = j from by omega]
theorem eaF_1 (zs : List Seg) (f : Nat) (a b : Int) (j : Nat) : eaF zs f a b (j * 2 + 1) = (eaA zs f a b (j + 1)).2.1 := by
  unfold eaF; rw [if_neg (by omega), show (j * 2 + 1) / 2 = j from by omega]
theorem how_keep' {w w' : World} {B : Nat} {t : TypeId} {sz : Nat} {v : Value} {n : Nat} {xs : List Value} (h : w.ownsRow B t sz v n xs) (hb : Below w.heap.size w w') : w'.ownsRow B t sz v n xs := by
  obtain ⟨h1, h2⟩ := h
  refine ⟨h1, ?_⟩
  rcases h2 with h2 | ⟨g, cap, cur, e, hB, hg, r⟩
  · exact .inl h2
  · exact .inr ⟨g, cap, cur, e, hB, (hb.block g (Array.getElem?_eq_some_iff.1 hg).1).trans hg, r⟩
theorem how_set {w : World} {B : Nat} {t : TypeId} {sz : Nat} {v : Value} {n : Nat} {xs : List Value} (h : w.ownsRow B t sz v n xs) {a : Addr} (ha : a.block < B) (u : Value) : (w.setCell a u).ownsRow B t sz v n xs := by
  obtain ⟨h1, h2⟩ := h
  refine ⟨h1, ?_⟩
  rcases h2 with h2 | ⟨g, cap, cur, e, hB, hg, r⟩
  · exact .inl h2
  · exact .inr ⟨g, cap, cur, e, hB, (Below.heap_setCell w a u g (by omega)).trans hg, r⟩
theorem first_le {a b c : Nat} (h : b ≤ c) (h2 : a ≤ b) : a ≤ c := Nat.le_trans h2 h
/-- what a round keeps: the frame, the row, the box of the energy -/
structure KpE (W1 : World) (B B2 : Nat) (t : TypeId) (v : Value) (j : Nat) (xs : List Value) (o : Obj) (W : World) : Prop where
  own : Own W1 W
  how : W.ownsRow B2 t 2 v j xs
  box : W.heap[B]? = some o
theorem KpE.join {W1 W W' : World} {B B2 : Nat} {t : TypeId} {v : Value} {j : Nat} {xs : List Value} {o : Obj} (h : KpE W1 B B2 t v j xs o W) (hb : Below W.heap.size W W') : KpE W1 B B2 t v j xs o W' :=
  ⟨h.own.join hb, how_keep' h.how hb, (hb.block _ (Array.getElem?_eq_some_iff.1 h.box).1).trans h.box⟩
theorem KpE.alloc {W1 W : World} {B B2 : Nat} {t : TypeId} {v : Value} {j : Nat} {xs : List Value} {o : Obj} (h : KpE W1 B B2 t v j xs o W) (o2 : Obj) : KpE W1 B B2 t v j xs o (W.alloc o2) := h.join (balloc (Below.refl _ _) _)
theorem KpE.drew {W1 W : World} {B B2 : Nat} {t : TypeId} {v : Value} {j : Nat} {xs : List Value} {o : Obj} (h : KpE W1 B B2 t v j xs o W) : KpE W1 B B2 t v j xs o W.drew := h.join (Below.drew (Below.refl _ _))
theorem KpE.lt {W1 W : World} {B B2 : Nat} {t : TypeId} {v : Value} {j : Nat} {xs : List Value} {o : Obj} (h : KpE W1 B B2 t v j xs o W) : B < W.heap.size := (Array.getElem?_eq_some_iff.1 h.box).1
theorem KpE.far {W1 W : World} {B B2 : Nat} {t : TypeId} {v : Value} {j : Nat} {xs : List Value} {o : Obj} (h : KpE W1 B B2 t v j xs o W) {a : Addr} (u : Value) (h1 : W1.heap.size ≤ a.block) (h2 : B ≠ a.block) (h3 : a.block < B2 ∨ ∀ g0, v.ownBlock = some g0 → a.block ≠ g0) : KpE W1 B B2 t v j xs o (W.setCell a u) := by
  refine ⟨h.own.setCell h1 u, ?_, (Below.heap_setCell W a u B h2).trans h.box⟩
  obtain ⟨e1, e2⟩ := h.how
  refine ⟨e1, ?_⟩
  rcases e2 with e2 | ⟨g, cap, cur, e, hB, hg, r⟩
  · exact .inl e2
  · refine .inr ⟨g, cap, cur, e, hB, (Below.heap_setCell W a u g ?_).trans hg, r⟩
    rcases h3 with h3 | h3
    · omega
    · exact fun q => h3 g (by rw [e]; rfl) q.symm
theorem iv_news (w : World) (x y : Value) (t : TypeId) : ∀ j u, [x, y][j]? = some u → (w.alloc (.cells #[x, y] t)).cell? ((⟨w.heap.size, 0, none⟩ : Addr).add j) = some u := by
  have h := World.news_of_block (w := w.alloc (.cells #[x, y] t)) (B := w.heap.size) (cs := #[x, y]) (t := t) (heap_alloc_new w _)
  exact fun j u hu => h j u hu
theorem iv_newsB (w : World) (B : Nat) (hB : B = w.heap.size) (x y : Value) (t : TypeId) : ∀ j u, [x, y][j]? = some u → (w.alloc (.cells #[x, y] t)).cell? ((⟨B, 0, none⟩ : Addr).add j) = some u := by
  subst hB
  exact iv_news w x y t
theorem box_cells {w : World} {B : Nat} {x y : Value} {t : TypeId} (h : w.heap[B]? = some (.cells #[x, y] t (0, 0))) : w.cell? ⟨B, 0, none⟩ = some x ∧ w.cell? ⟨B, 1, none⟩ = some y ∧ w.frozen? ⟨B, 0, none⟩ = false ∧ w.frozen? ⟨B, 1, none⟩ = false ∧ B < w.heap.size := by
  refine ⟨by simp [World.cell?, h], by simp [World.cell?, h], by simp [World.frozen?, h], by simp [World.frozen?, h], (Array.getElem?_eq_some_iff.1 h).1⟩
theorem resQ_fail {t : TypeId} {sz : Nat} {f : Nat → Int} {code : Int} {w w' : World} (h : Below w.heap.size w w') : ResQ t sz 0 f code w (.returned (.tuple #[.slice none 0 0, .int .i64 code])) w' := ⟨none, 0, rfl, OwnQ.nil _ _ _ _ _, h⟩
theorem resQ_of_own {t : TypeId} {sz B m : Nat} {f : Nat → Int} {w w' : World} {q : Option Addr} {c : Nat} (h : OwnQ t sz B w' q m f) (hB : w.heap.size ≤ B) (hb : Below w.heap.size w w') : ResQ t sz m f 0 w (.returned (.tuple #[.slice q m c, .int .i64 0])) w' :=
  ⟨q, c, rfl, ⟨h.1, fun a ha => ⟨Nat.le_trans hB (h.2.1 a ha).1, (h.2.1 a ha).2⟩, h.2.2⟩, hb⟩

set_option maxRecDepth 100000 in
theorem s_EnergyAlong (p : Option Addr) (n cap : Nat) (zs : List Seg) (x y a b : Int) (w : World) (hin : Segs w p n zs) (hn : n ≤ 1048576) :
    Calls Try.prog 33 #[.agg #[.slice p n cap], .int .i64 x, .int .i64 y, ivV a b] w (ResQ 35 2 (eaM zs x y a b) (eaF zs x.toNat a b) (eaC zs x y a b) w) := by
  obtain ⟨i0, hi, hz0, hz1, hz2⟩ := info_parts (P := Try.prog) (e := 35) (z := ivV 0 0) (size := 2) (bytes := 16) (by kernel_rfl)
  have hz := hin.1
  have HIN1 := Lib.hid (hin.alloc (Obj.cells #[.slice p n cap] 26))
  have HIN' : Hid (Segs ((w.alloc (Obj.cells #[.slice p n cap] 26)).alloc (Obj.cells #[.int .i64 a, .int .i64 b] 35)) p n zs) := ((hin.alloc _).alloc _); have h0 := Own.start ((w.alloc (Obj.cells #[.slice p n cap] 26)).alloc (Obj.cells #[.int .i64 a, .int .i64 b] 35)); clear hin
  have HZ := Lib.hid hz
  have cR := Lib.hid (fun W => s_l06Range p n cap zs x y W hz hn)
  clear hz
  rcases Bool.eq_false_or_eq_true (layOk zs) with hl | hl
  · rcases Bool.eq_false_or_eq_true (isEn a b) with he | he
    · rcases Bool.eq_false_or_eq_true (rangeB zs x y) with h1 | h1
      · have HL := Lib.hid (layOk_iff.1 hl)
        obtain ⟨f, m, rfl, rfl, hf, hm⟩ := rangeB_nat h1
        have hC : eaC zs f m a b = (eaA zs f a b m).2.2 := by unfold eaC; rw [if_pos ⟨hl, he⟩, if_pos h1]; rfl
        have hM : eaM zs f m a b = if (eaA zs f a b m).2.2 = 0 then m else 0 := by unfold eaM; by_cases h : (eaA zs f a b m).2.2 = 0; (rw [if_pos ⟨hl, he, h1, h⟩, if_pos h]; rfl); (rw [if_neg (fun q => h q.2.2.2), if_neg h])
        rw [Int.toNat_natCast]
        obtain ⟨C, hC2⟩ : ∃ C, C = eaC zs f m a b := ⟨_, rfl⟩
        obtain ⟨M, hM2⟩ : ∃ M, M = eaM zs f m a b := ⟨_, rfl⟩
        rw [← hC2, ← hM2]
        have HC := Lib.hid (hC2.trans hC)
        have HM := Lib.hid (hM2.trans hM)
        have HE := Lib.hid he
        have hfi : (f : Int) ≤ 24 := by have := HL.out.2.1; omega
        have hmi : (m : Int) ≤ 24 := by omega
        have hn24 : n ≤ 24 := by have := HL.out.2.1; have := HZ.out; omega
        have hfn : f < n := by have := HZ.out; omega
        clear hC hM hf hC2 hM2
        go_enter Try.func33, Try.ntmps33
        go_wp2_with first | (go_at_call 62; refine (s_IsLayout p n cap zs _ ?_).mono ?_; (focus (exact HIN'.out.own (by first | assumption | exact Own.alloc (by assumption) _ | exact Own.drew (by assumption) | exact Own.drew (Own.alloc (by assumption) _)))); rintro e w' ⟨rfl, hb⟩; obtain ⟨hc0, hf0, hl0⟩ := below_box (k := w.heap.size) hb (by first | omega | (simp; done) | (simp; omega)); obtain ⟨hc1, hf1, hl1⟩ := below_box (k := w.heap.size + 1) hb (by first | omega | (simp; done) | (simp; omega)); replace hb := Own.join (by first | assumption | exact Own.alloc (by assumption) _ | exact Own.drew (by assumption) | exact Own.drew (Own.alloc (by assumption) _) | exact Own.alloc (Own.alloc (by assumption) _) _ | exact Own.alloc (Own.alloc (Own.alloc (by assumption) _) _) _ | exact Own.drewN (by assumption) _ | exact Own.drew (Own.start _) | exact Own.drewN (Own.start _) _ | exact Own.start _) hb) | (go_at_call 90; refine (s_IsEnergy _ _ _).mono ?_; rintro e w' ⟨rfl, hb⟩; obtain ⟨hc0, hf0, hl0⟩ := below_box (k := w.heap.size) hb (by first | omega | (simp; done) | (simp; omega)); obtain ⟨hc1, hf1, hl1⟩ := below_box (k := w.heap.size + 1) hb (by first | omega | (simp; done) | (simp; omega)); replace hb := Own.join (by first | assumption | exact Own.alloc (by assumption) _ | exact Own.drew (by assumption) | exact Own.drew (Own.alloc (by assumption) _) | exact Own.alloc (Own.alloc (by assumption) _) _ | exact Own.alloc (Own.alloc (Own.alloc (by assumption) _) _) _ | exact Own.drewN (by assumption) _ | exact Own.drew (Own.start _) | exact Own.drewN (Own.start _) _ | exact Own.start _) hb) | (go_at_call 63; refine (cR.out _).mono ?_; rintro e w' ⟨rfl, hb⟩; obtain ⟨hc0, hf0, hl0⟩ := below_box (k := w.heap.size) hb (by first | omega | (simp; done) | (simp; omega)); obtain ⟨hc1, hf1, hl1⟩ := below_box (k := w.heap.size + 1) hb (by first | omega | (simp; done) | (simp; omega)); replace hb := Own.join (by first | assumption | exact Own.alloc (by assumption) _ | exact Own.drew (by assumption) | exact Own.drew (Own.alloc (by assumption) _) | exact Own.alloc (Own.alloc (by assumption) _) _ | exact Own.alloc (Own.alloc (Own.alloc (by assumption) _) _) _ | exact Own.drewN (by assumption) _ | exact Own.drew (Own.start _) | exact Own.drewN (Own.start _) _ | exact Own.start _) hb)
        have hO : Own ((w.alloc (Obj.cells #[.slice p n cap] 26)).alloc (Obj.cells #[.int .i64 a, .int .i64 b] 35)) w' := by assumption
        have hlw : w.heap.size + 2 ≤ w'.heap.size := by have := hO.le; simpa using this
        have hO1 : Own (w.alloc (Obj.cells #[.slice p n cap] 26)) w' := Below.trans ((Own.start _).alloc _) (hO.mono (by simp))
        have hebx : w'.heap[w.heap.size + 1]? = some (.cells #[.int .i64 a, .int .i64 b] 35 (0, 0)) := (hO.block (w.heap.size + 1) (by simp)).trans (alloc2_new _ _ _)
        generalize w' = wA at *
        have hown0 : (wA.alloc (Obj.cells #[] 35)).ownsRow (w.heap.size + 2) 35 2 (.slice (some ⟨wA.heap.size, 0, none⟩) 0 0) 0 [] :=
          ⟨rfl, .inr ⟨wA.heap.size, 0, #[], rfl, hlw, heap_alloc_new _ _, Nat.le_refl _, Nat.zero_le _, rfl, rfl⟩⟩
        have hebx0 : (wA.alloc (Obj.cells #[] 35)).heap[w.heap.size + 1]? = some (.cells #[.int .i64 a, .int .i64 b] 35 (0, 0)) := ((balloc (Below.refl wA.heap.size wA) _).block _ (by omega)).trans hebx
        go_loopw [10, 11] (fun v i wr => ∃ j : Nat, j ≤ m ∧ i = .int .i64 ((f : Int) + (j : Int)) ∧ (∃ v0 : Value, v0 = v ∧ wr.ownsRow (w.heap.size + 2) 35 2 v0 j (rowV (eaF zs f a b) (j * 2))) ∧ (eaA zs f a b j).2.2 = 0 ∧ wr.heap[w.heap.size + 1]? = some (.cells #[.int .i64 (eaA zs f a b j).1, .int .i64 (eaA zs f a b j).2.1] 35 (0, 0)) ∧ Own (w.alloc (Obj.cells #[.slice p n cap] 26)) wr) (fun _ i _ => ((f : Int) + m - intOf i).toNat)
        case atStart => exact ⟨0, Nat.zero_le _, by simp, ⟨_, rfl, hown0⟩, rfl, hebx0, hO1.alloc _⟩
        case round =>
          obtain ⟨j, hj, rfl, ⟨v, rfl, how⟩, hcd, hebx, hown⟩ := hrel
          obtain ⟨wB, rfl⟩ : ∃ wB : World, wB = wr := ⟨_, rfl⟩
          have HO := Lib.hid hown
          have HOWN := Lib.hid how
          have HBX := Lib.hid hebx
          have hbx : wB.cell? ⟨w.heap.size, 0, none⟩ = some (.slice p n cap) := by rw [(below_box (k := w.heap.size) hown.below (by simp)).1 0]; go_simp
          have hbl := World.block_lt_of_cell? wB _ hbx
          simp only at hbl
          obtain ⟨e0, e1, ef0, ef1, hel⟩ := box_cells hebx
          have hsl := how.lt
          have hie := eaA_isEn HL.out HE.out (f := f) j hcd
          have HCD := Lib.hid hcd
          clear hown0 hebx0
          by_cases hlt : j < m
          · have hlti : (f : Int) + j < (f : Int) + m := by omega
            have hrun : runAt zs f j = sg zs ((f + j) % n) := by unfold runAt; rw [HZ.out]
            obtain ⟨s, hs⟩ : ∃ s, s = sg zs ((f + j) % n) := ⟨_, rfl⟩
            have cS := fun W h => s_l06Segment' p n cap zs ((f : Int) + j) (f + j) (by simp) (by omega) W h (by omega) (by omega)
            rw [← hs] at cS
            have CS := Lib.hid cS
            have hnx : eaA zs f a b (j + 1) = enAfter s.k s.n s.r s.c s.d s.e s.f (eaA zs f a b j).1 (eaA zs f a b j).2.1 := by rw [hs, ← hrun]; simp only [eaA]; rw [if_pos hcd]
            obtain ⟨⟨lo, hi2, cd⟩, hea⟩ : ∃ t, t = eaA zs f a b (j + 1) := ⟨_, rfl⟩
            have cE := fun W => s_EnergyAfter s.k s.n s.r s.c s.d s.e s.f (eaA zs f a b j).1 (eaA zs f a b j).2.1 W
            rw [← hnx, ← hea] at cE
            have CE := Lib.hid cE
            have HEA := Lib.hid hea
            generalize eaA zs f a b j = st at *
            obtain ⟨sa, sb, sc⟩ := st
            simp only at e0 e1 ef0 ef1 hie
            clear hebx hown how hrun hs cS cE hnx hea hcd
            by_cases hcd : cd = 0
            · subst hcd
              have q30 : ¬ w.heap.size = wB.heap.size := by omega
              have q31 : ¬ w.heap.size + 1 = wB.heap.size := by omega
              have KP : Hid (KpE (w.alloc (Obj.cells #[.slice p n cap] 26)) (w.heap.size + 1) (w.heap.size + 2) 35 v j (rowV (eaF zs f a b) (j * 2)) (.cells #[.int .i64 sa, .int .i64 sb] 35 (0, 0)) wB) := ⟨HO.out, HOWN.out, HBX.out⟩
              go_wp2
              go_region_held3 (fun w' => w'.cell? ⟨w.heap.size, 0, none⟩ = some (.slice p n cap) ∧ w'.cell? ⟨w.heap.size + 1, 0, none⟩ = some (.int .i64 sa) ∧ w'.cell? ⟨w.heap.size + 1, 1, none⟩ = some (.int .i64 sb)) ((first | (go_simp; done) | go_keep)) (first | (go_at_call 92; refine (CS.out _ (HIN1.out.own ?_)).mono ?_; (focus (first | exact KP.out.drew.own | exact (KP.out.alloc _).drew.own)); rintro e w4 ⟨rfl, hb4⟩; (first | (have K4 := Lib.hid (KP.out.drew.join hb4)) | (have K4 := Lib.hid ((KP.out.alloc _).drew.join hb4))); have hkx := (below_box (k := w.heap.size) hb4 (by first | exact hbl | (change _ < (World.alloc _ _).heap.size; rw [World.size_alloc] <;> exact Nat.lt_succ_of_lt hbl))).1 0; have hke := (below_box (k := w.heap.size + 1) hb4 (by first | exact hel | (change _ < (World.alloc _ _).heap.size; rw [World.size_alloc] <;> exact Nat.lt_succ_of_lt hel))).1; (try have hn4 := below_box (k := wB.heap.size) hb4 (by change _ < (World.alloc _ _).heap.size; rw [World.size_alloc] <;> exact Nat.lt_succ_self _)); (try have N4 : Hid (w4.heap[wB.heap.size]? = some (.cells #[.int .i64 0, .int .i64 0] 35 (0, 0))) := (hb4.block wB.heap.size (by change _ < (World.alloc _ _).heap.size; rw [World.size_alloc] <;> exact Nat.lt_succ_self _)).trans (heap_alloc_new wB _)); have z4 : wB.heap.size ≤ w4.heap.size := (first_le hb4.size (by first | exact Nat.le_refl _ | (change _ ≤ (World.alloc _ _).heap.size; rw [World.size_alloc] <;> exact Nat.le_succ _))); have hl4 := K4.out.lt; have hl40 : w.heap.size < w4.heap.size := (by omega); have q40 : ¬ w.heap.size = w4.heap.size := (by omega); have q41 : ¬ w.heap.size + 1 = w4.heap.size := (by omega); clear hb4) | (go_at_call 91; refine (CE.out _).mono ?_; rintro e w5 ⟨rfl, hb5⟩; (first | (have K5 := Lib.hid (K4.out.join hb5)) | (have K5 := Lib.hid ((K4.out.alloc _).join hb5))); have hkx5 := (below_box (k := w.heap.size) hb5 (by first | exact hl40 | (rw [World.size_alloc] <;> exact Nat.lt_succ_of_lt hl40))).1 0; have hke5 := (below_box (k := w.heap.size + 1) hb5 (by first | exact hl4 | (rw [World.size_alloc] <;> exact Nat.lt_succ_of_lt hl4))).1; (try have hn5 := below_box (k := w4.heap.size) hb5 (by rw [World.size_alloc] <;> exact Nat.lt_succ_self _)); (first | have N5 : Hid (w5.heap[w4.heap.size]? = some (.cells #[.int .i64 0, .int .i64 0] 35 (0, 0))) := (hb5.block w4.heap.size (by rw [World.size_alloc] <;> exact Nat.lt_succ_self _)).trans (heap_alloc_new w4 _) | have N5 : Hid (w5.heap[wB.heap.size]? = some (.cells #[.int .i64 0, .int .i64 0] 35 (0, 0))) := (hb5.block wB.heap.size (Array.getElem?_eq_some_iff.1 N4.out).1).trans N4.out | skip); have z5 : w4.heap.size ≤ w5.heap.size := (first_le hb5.size (by first | exact Nat.le_refl _ | (rw [World.size_alloc] <;> exact Nat.le_succ _))); have hl5 := K5.out.lt; have hl50 : w.heap.size < w5.heap.size := (by omega); have q50 : ¬ w.heap.size = w5.heap.size := (by omega); have q51 : ¬ w.heap.size + 1 = w5.heap.size := (by omega); (try have hn5 := below_box (k := wB.heap.size) hb5 (by exact hn4.2.2)); clear hb5))
              rotate_left
              · have K6 := Lib.hid ((K5.out.far (a := ⟨w4.heap.size, 0, none⟩) (.int .i64 lo) (by simp only [World.size_alloc]; omega) q41 (.inr fun g0 hg => by have := hsl g0 hg; simp only; omega)).far (a := ⟨w4.heap.size, 1, none⟩) (.int .i64 hi2) (by simp only [World.size_alloc]; omega) q41 (.inr fun g0 hg => by have := hsl g0 hg; simp only; omega))
                have B6 := box_set2 N5.out (.int .i64 lo) (.int .i64 hi2)
                have n6 : ¬ w.heap.size + 1 = w4.heap.size := q41
                generalize (w5.setCell ⟨w4.heap.size, 0, none⟩ (.int .i64 lo)).setCell ⟨w4.heap.size, 1, none⟩ (.int .i64 hi2) = w6 at K6 B6 ⊢
                generalize w4.heap.size = g6 at B6 n6 ⊢
                obtain ⟨c60, c61, cf60, cf61, hg6l⟩ := box_cells B6
                obtain ⟨e60, e61, ef60, ef61, hel6⟩ := box_cells K6.out.box
                have hB7 := box_set2 K6.out.box (.int .i64 lo) (.int .i64 hi2)
                have HB7 := Lib.hid hB7
                have hW7 := how_set (how_set K6.out.how (a := ⟨w.heap.size + 1, 0, none⟩) (by simp) (.int .i64 lo)) (a := ⟨w.heap.size + 1, 1, none⟩) (by simp) (.int .i64 hi2)
                have W7 := Lib.hid hW7
                have O7 := Lib.hid ((K6.out.own.setCell (p := ⟨w.heap.size + 1, 0, none⟩) (by simp) (.int .i64 lo)).setCell (p := ⟨w.heap.size + 1, 1, none⟩) (by simp) (.int .i64 hi2))
                clear hB7 hW7 B6
                go_wp2_with (at_builtin; refine wpList_append_k _ rfl _ _ 31 rfl (w.heap.size + 2) 35 i0 (ivV 0 0) 2 16 Try.underlying31 hi hz0 hz1 hz2 rfl (by decide) _ _ _ rfl (W7.out.alloc _) ⟨w6.heap.size, 0, none⟩ 1 1 [.int .i64 lo, .int .i64 hi2] rfl rfl (iv_newsB _ _ (by simp [setsize]) _ _ _) (by simp [Value.oneCell']) (by decide) (by unfold maxLen; omega) (by omega) (by simp [setsize]; omega) ?_; intro g2 c2 w1 hown1 hbel hkp hfar hsz1; have HOWN1 := Lib.hid hown1; have HBEL := Lib.hid hbel; clear hown1 hbel hkp hfar)
                go_roundw
                case rel => exact ⟨j + 1, by omega, by go_num, ⟨_, rfl, by rw [← rowV_snoc2 (eaF zs f a b) j (x := lo) (y := hi2) (by rw [eaF_0, ← HEA.out]) (by rw [eaF_1, ← HEA.out])]; exact HOWN1.out⟩, by rw [← HEA.out], by rw [← HEA.out]; exact (HBEL.out.block _ (by omega)).trans ((balloc (Below.refl _ _) _ |>.block _ (by simp [setsize]; omega)).trans HB7.out), Below.trans (O7.out.alloc _).below (HBEL.out.mono (by simp))⟩
                case measure => simp [intOf]; omega
              · have K6 := Lib.hid ((K5.out.far (a := ⟨wB.heap.size, 0, none⟩) (.int .i64 lo) (by simp only [World.size_alloc]; omega) q31 (.inr fun g0 hg => by have := hsl g0 hg; simp only; omega)).far (a := ⟨wB.heap.size, 1, none⟩) (.int .i64 hi2) (by simp only [World.size_alloc]; omega) q31 (.inr fun g0 hg => by have := hsl g0 hg; simp only; omega))
                have B6 := box_set2 N5.out (.int .i64 lo) (.int .i64 hi2)
                have n6 : ¬ w.heap.size + 1 = wB.heap.size := q31
                generalize (w5.setCell ⟨wB.heap.size, 0, none⟩ (.int .i64 lo)).setCell ⟨wB.heap.size, 1, none⟩ (.int .i64 hi2) = w6 at K6 B6 ⊢
                generalize hgB : wB.heap.size = g6 at B6 n6 ⊢
                obtain ⟨c60, c61, cf60, cf61, hg6l⟩ := box_cells B6
                obtain ⟨e60, e61, ef60, ef61, hel6⟩ := box_cells K6.out.box
                have hB7 := box_set2 K6.out.box (.int .i64 lo) (.int .i64 hi2)
                have HB7 := Lib.hid hB7
                have hW7 := how_set (how_set K6.out.how (a := ⟨w.heap.size + 1, 0, none⟩) (by simp) (.int .i64 lo)) (a := ⟨w.heap.size + 1, 1, none⟩) (by simp) (.int .i64 hi2)
                have W7 := Lib.hid hW7
                have O7 := Lib.hid ((K6.out.own.setCell (p := ⟨w.heap.size + 1, 0, none⟩) (by simp) (.int .i64 lo)).setCell (p := ⟨w.heap.size + 1, 1, none⟩) (by simp) (.int .i64 hi2))
                clear hB7 hW7 B6
                go_wp2_with (at_builtin; refine wpList_append_k _ rfl _ _ 31 rfl (w.heap.size + 2) 35 i0 (ivV 0 0) 2 16 Try.underlying31 hi hz0 hz1 hz2 rfl (by decide) _ _ _ rfl (W7.out.alloc _) ⟨w6.heap.size, 0, none⟩ 1 1 [.int .i64 lo, .int .i64 hi2] rfl rfl (iv_newsB _ _ (by simp [setsize]) _ _ _) (by simp [Value.oneCell']) (by decide) (by unfold maxLen; omega) (by omega) (by simp [setsize]; omega) ?_; intro g2 c2 w1 hown1 hbel hkp hfar hsz1; have HOWN1 := Lib.hid hown1; have HBEL := Lib.hid hbel; clear hown1 hbel hkp hfar)
                go_roundw
                case rel => exact ⟨j + 1, by omega, by go_num, ⟨_, rfl, by rw [← rowV_snoc2 (eaF zs f a b) j (x := lo) (y := hi2) (by rw [eaF_0, ← HEA.out]) (by rw [eaF_1, ← HEA.out])]; exact HOWN1.out⟩, by rw [← HEA.out], by rw [← HEA.out]; exact (HBEL.out.block _ (by omega)).trans ((balloc (Below.refl _ _) _ |>.block _ (by simp [setsize]; omega)).trans HB7.out), Below.trans (O7.out.alloc _).below (HBEL.out.mono (by simp))⟩
                case measure => simp [intOf]; omega
              · have K6 := Lib.hid (K5.out.alloc (Obj.cells #[.int .i64 lo, .int .i64 hi2] 35))
                have B6 := heap_alloc_new w5 (Obj.cells #[.int .i64 lo, .int .i64 hi2] 35)
                have n6 : ¬ w.heap.size + 1 = w5.heap.size := q51
                generalize w5.alloc (Obj.cells #[.int .i64 lo, .int .i64 hi2] 35) = w6 at K6 B6 ⊢
                generalize w5.heap.size = g6 at B6 n6 ⊢
                obtain ⟨c60, c61, cf60, cf61, hg6l⟩ := box_cells B6
                obtain ⟨e60, e61, ef60, ef61, hel6⟩ := box_cells K6.out.box
                have hB7 := box_set2 K6.out.box (.int .i64 lo) (.int .i64 hi2)
                have HB7 := Lib.hid hB7
                have hW7 := how_set (how_set K6.out.how (a := ⟨w.heap.size + 1, 0, none⟩) (by simp) (.int .i64 lo)) (a := ⟨w.heap.size + 1, 1, none⟩) (by simp) (.int .i64 hi2)
                have W7 := Lib.hid hW7
                have O7 := Lib.hid ((K6.out.own.setCell (p := ⟨w.heap.size + 1, 0, none⟩) (by simp) (.int .i64 lo)).setCell (p := ⟨w.heap.size + 1, 1, none⟩) (by simp) (.int .i64 hi2))
                clear hB7 hW7 B6
                go_wp2_with (at_builtin; refine wpList_append_k _ rfl _ _ 31 rfl (w.heap.size + 2) 35 i0 (ivV 0 0) 2 16 Try.underlying31 hi hz0 hz1 hz2 rfl (by decide) _ _ _ rfl (W7.out.alloc _) ⟨w6.heap.size, 0, none⟩ 1 1 [.int .i64 lo, .int .i64 hi2] rfl rfl (iv_newsB _ _ (by simp [setsize]) _ _ _) (by simp [Value.oneCell']) (by decide) (by unfold maxLen; omega) (by omega) (by simp [setsize]; omega) ?_; intro g2 c2 w1 hown1 hbel hkp hfar hsz1; have HOWN1 := Lib.hid hown1; have HBEL := Lib.hid hbel; clear hown1 hbel hkp hfar)
                go_roundw
                case rel => exact ⟨j + 1, by omega, by go_num, ⟨_, rfl, by rw [← rowV_snoc2 (eaF zs f a b) j (x := lo) (y := hi2) (by rw [eaF_0, ← HEA.out]) (by rw [eaF_1, ← HEA.out])]; exact HOWN1.out⟩, by rw [← HEA.out], by rw [← HEA.out]; exact (HBEL.out.block _ (by omega)).trans ((balloc (Below.refl _ _) _ |>.block _ (by simp [setsize]; omega)).trans HB7.out), Below.trans (O7.out.alloc _).below (HBEL.out.mono (by simp))⟩
                case measure => simp [intOf]; omega
            · have hz9 : (cd == 0) = false := by simpa using hcd
              have hst := eaA_stick (zs := zs) (f := f) (a := a) (b := b) (j := j + 1) (by rw [← HEA.out]; exact hcd) m (by omega)
              rw [← HEA.out] at hst
              have hM : M = 0 := by rw [HM.out, hst, if_neg hcd]
              have hC : C = cd := by rw [HC.out, hst]
              subst hM
              subst hC
              clear hst hcd
              have q30 : ¬ w.heap.size = wB.heap.size := by omega
              have q31 : ¬ w.heap.size + 1 = wB.heap.size := by omega
              have KP : Hid (KpE (w.alloc (Obj.cells #[.slice p n cap] 26)) (w.heap.size + 1) (w.heap.size + 2) 35 v j (rowV (eaF zs f a b) (j * 2)) (.cells #[.int .i64 sa, .int .i64 sb] 35 (0, 0)) wB) := ⟨HO.out, HOWN.out, HBX.out⟩
              go_wp2
              go_region_held3 (fun w' => w'.cell? ⟨w.heap.size, 0, none⟩ = some (.slice p n cap) ∧ w'.cell? ⟨w.heap.size + 1, 0, none⟩ = some (.int .i64 sa) ∧ w'.cell? ⟨w.heap.size + 1, 1, none⟩ = some (.int .i64 sb)) ((first | (go_simp; done) | go_keep)) (first | (go_at_call 92; refine (CS.out _ (HIN1.out.own ?_)).mono ?_; (focus (first | exact KP.out.drew.own | exact (KP.out.alloc _).drew.own)); rintro e w4 ⟨rfl, hb4⟩; (first | (have K4 := Lib.hid (KP.out.drew.join hb4)) | (have K4 := Lib.hid ((KP.out.alloc _).drew.join hb4))); have hkx := (below_box (k := w.heap.size) hb4 (by first | exact hbl | (change _ < (World.alloc _ _).heap.size; rw [World.size_alloc] <;> exact Nat.lt_succ_of_lt hbl))).1 0; have hke := (below_box (k := w.heap.size + 1) hb4 (by first | exact hel | (change _ < (World.alloc _ _).heap.size; rw [World.size_alloc] <;> exact Nat.lt_succ_of_lt hel))).1; (try have hn4 := below_box (k := wB.heap.size) hb4 (by change _ < (World.alloc _ _).heap.size; rw [World.size_alloc] <;> exact Nat.lt_succ_self _)); (try have N4 : Hid (w4.heap[wB.heap.size]? = some (.cells #[.int .i64 0, .int .i64 0] 35 (0, 0))) := (hb4.block wB.heap.size (by change _ < (World.alloc _ _).heap.size; rw [World.size_alloc] <;> exact Nat.lt_succ_self _)).trans (heap_alloc_new wB _)); have z4 : wB.heap.size ≤ w4.heap.size := (first_le hb4.size (by first | exact Nat.le_refl _ | (change _ ≤ (World.alloc _ _).heap.size; rw [World.size_alloc] <;> exact Nat.le_succ _))); have hl4 := K4.out.lt; have hl40 : w.heap.size < w4.heap.size := (by omega); have q40 : ¬ w.heap.size = w4.heap.size := (by omega); have q41 : ¬ w.heap.size + 1 = w4.heap.size := (by omega); clear hb4) | (go_at_call 91; refine (CE.out _).mono ?_; rintro e w5 ⟨rfl, hb5⟩; (first | (have K5 := Lib.hid (K4.out.join hb5)) | (have K5 := Lib.hid ((K4.out.alloc _).join hb5))); have hkx5 := (below_box (k := w.heap.size) hb5 (by first | exact hl40 | (rw [World.size_alloc] <;> exact Nat.lt_succ_of_lt hl40))).1 0; have hke5 := (below_box (k := w.heap.size + 1) hb5 (by first | exact hl4 | (rw [World.size_alloc] <;> exact Nat.lt_succ_of_lt hl4))).1; (try have hn5 := below_box (k := w4.heap.size) hb5 (by rw [World.size_alloc] <;> exact Nat.lt_succ_self _)); (first | have N5 : Hid (w5.heap[w4.heap.size]? = some (.cells #[.int .i64 0, .int .i64 0] 35 (0, 0))) := (hb5.block w4.heap.size (by rw [World.size_alloc] <;> exact Nat.lt_succ_self _)).trans (heap_alloc_new w4 _) | have N5 : Hid (w5.heap[wB.heap.size]? = some (.cells #[.int .i64 0, .int .i64 0] 35 (0, 0))) := (hb5.block wB.heap.size (Array.getElem?_eq_some_iff.1 N4.out).1).trans N4.out | skip); have z5 : w4.heap.size ≤ w5.heap.size := (first_le hb5.size (by first | exact Nat.le_refl _ | (rw [World.size_alloc] <;> exact Nat.le_succ _))); have hl5 := K5.out.lt; have hl50 : w.heap.size < w5.heap.size := (by omega); have q50 : ¬ w.heap.size = w5.heap.size := (by omega); have q51 : ¬ w.heap.size + 1 = w5.heap.size := (by omega); (try have hn5 := below_box (k := wB.heap.size) hb5 (by exact hn4.2.2)); clear hb5))
              rotate_left
              · have K6 := Lib.hid ((K5.out.far (a := ⟨w4.heap.size, 0, none⟩) (.int .i64 lo) (by simp only [World.size_alloc]; omega) q41 (.inr fun g0 hg => by have := hsl g0 hg; simp only; omega)).far (a := ⟨w4.heap.size, 1, none⟩) (.int .i64 hi2) (by simp only [World.size_alloc]; omega) q41 (.inr fun g0 hg => by have := hsl g0 hg; simp only; omega))
                have B6 := box_set2 N5.out (.int .i64 lo) (.int .i64 hi2)
                have n6 : ¬ w.heap.size + 1 = w4.heap.size := q41
                generalize (w5.setCell ⟨w4.heap.size, 0, none⟩ (.int .i64 lo)).setCell ⟨w4.heap.size, 1, none⟩ (.int .i64 hi2) = w6 at K6 B6 ⊢
                generalize w4.heap.size = g6 at B6 n6 ⊢
                have K7 := Lib.hid K6.out.own
                clear K6 B6
                go_wp2
                go_ret2
                exact resQ_fail (bto (balloc (Below.refl _ _) _) K7.out.below)
              · have K6 := Lib.hid ((K5.out.far (a := ⟨wB.heap.size, 0, none⟩) (.int .i64 lo) (by simp only [World.size_alloc]; omega) q31 (.inr fun g0 hg => by have := hsl g0 hg; simp only; omega)).far (a := ⟨wB.heap.size, 1, none⟩) (.int .i64 hi2) (by simp only [World.size_alloc]; omega) q31 (.inr fun g0 hg => by have := hsl g0 hg; simp only; omega))
                have B6 := box_set2 N5.out (.int .i64 lo) (.int .i64 hi2)
                have n6 : ¬ w.heap.size + 1 = wB.heap.size := q31
                generalize (w5.setCell ⟨wB.heap.size, 0, none⟩ (.int .i64 lo)).setCell ⟨wB.heap.size, 1, none⟩ (.int .i64 hi2) = w6 at K6 B6 ⊢
                generalize hgB : wB.heap.size = g6 at B6 n6 ⊢
                have K7 := Lib.hid K6.out.own
                clear K6 B6
                go_wp2
                go_ret2
                exact resQ_fail (bto (balloc (Below.refl _ _) _) K7.out.below)
              · have K6 := Lib.hid (K5.out.alloc (Obj.cells #[.int .i64 lo, .int .i64 hi2] 35))
                have B6 := heap_alloc_new w5 (Obj.cells #[.int .i64 lo, .int .i64 hi2] 35)
                have n6 : ¬ w.heap.size + 1 = w5.heap.size := q51
                generalize w5.alloc (Obj.cells #[.int .i64 lo, .int .i64 hi2] 35) = w6 at K6 B6 ⊢
                generalize w5.heap.size = g6 at B6 n6 ⊢
                have K7 := Lib.hid K6.out.own
                clear K6 B6
                go_wp2
                go_ret2
                exact resQ_fail (bto (balloc (Below.refl _ _) _) K7.out.below)
          · obtain rfl : j = m := by omega
            obtain ⟨q2, c2, rfl, hq2⟩ := ownQ_of_own (sz := 2) (f := eaF zs f a b) (n := j) how (by omega)
            have hM : M = j := by rw [HM.out, if_pos HCD.out]
            have hC : C = 0 := by rw [HC.out, HCD.out]
            subst hM
            subst hC
            have HQ2 := Lib.hid hq2
            clear hown how hq2 hebx
            go_wp2
            go_ret2
            exact resQ_of_own HQ2.out (by omega) (bto (balloc (Below.refl _ _) _) HO.out.below)
      · have hC : eaC zs x y a b = 2 := by unfold eaC; rw [if_pos ⟨hl, he⟩, if_neg (by rw [h1]; simp)]
        have hM : eaM zs x y a b = 0 := by unfold eaM; rw [if_neg (fun q => by rw [h1] at q; exact absurd q.2.2.1 (by simp))]
        rw [hC, hM]
        clear hC hM
        go_enter Try.func33, Try.ntmps33
        go_wp2_with first | (go_at_call 62; refine (s_IsLayout p n cap zs _ ?_).mono ?_; (focus (exact HIN'.out.own (by first | assumption | exact Own.alloc (by assumption) _ | exact Own.drew (by assumption) | exact Own.drew (Own.alloc (by assumption) _)))); rintro e w' ⟨rfl, hb⟩; obtain ⟨hc0, hf0, hl0⟩ := below_box (k := w.heap.size) hb (by first | omega | (simp; done) | (simp; omega)); obtain ⟨hc1, hf1, hl1⟩ := below_box (k := w.heap.size + 1) hb (by first | omega | (simp; done) | (simp; omega)); replace hb := Own.join (by first | assumption | exact Own.alloc (by assumption) _ | exact Own.drew (by assumption) | exact Own.drew (Own.alloc (by assumption) _) | exact Own.alloc (Own.alloc (by assumption) _) _ | exact Own.alloc (Own.alloc (Own.alloc (by assumption) _) _) _ | exact Own.drewN (by assumption) _ | exact Own.drew (Own.start _) | exact Own.drewN (Own.start _) _ | exact Own.start _) hb) | (go_at_call 90; refine (s_IsEnergy _ _ _).mono ?_; rintro e w' ⟨rfl, hb⟩; obtain ⟨hc0, hf0, hl0⟩ := below_box (k := w.heap.size) hb (by first | omega | (simp; done) | (simp; omega)); obtain ⟨hc1, hf1, hl1⟩ := below_box (k := w.heap.size + 1) hb (by first | omega | (simp; done) | (simp; omega)); replace hb := Own.join (by first | assumption | exact Own.alloc (by assumption) _ | exact Own.drew (by assumption) | exact Own.drew (Own.alloc (by assumption) _) | exact Own.alloc (Own.alloc (by assumption) _) _ | exact Own.alloc (Own.alloc (Own.alloc (by assumption) _) _) _ | exact Own.drewN (by assumption) _ | exact Own.drew (Own.start _) | exact Own.drewN (Own.start _) _ | exact Own.start _) hb) | (go_at_call 63; refine (cR.out _).mono ?_; rintro e w' ⟨rfl, hb⟩; obtain ⟨hc0, hf0, hl0⟩ := below_box (k := w.heap.size) hb (by first | omega | (simp; done) | (simp; omega)); obtain ⟨hc1, hf1, hl1⟩ := below_box (k := w.heap.size + 1) hb (by first | omega | (simp; done) | (simp; omega)); replace hb := Own.join (by first | assumption | exact Own.alloc (by assumption) _ | exact Own.drew (by assumption) | exact Own.drew (Own.alloc (by assumption) _) | exact Own.alloc (Own.alloc (by assumption) _) _ | exact Own.alloc (Own.alloc (Own.alloc (by assumption) _) _) _ | exact Own.drewN (by assumption) _ | exact Own.drew (Own.start _) | exact Own.drewN (Own.start _) _ | exact Own.start _) hb)
        go_ret2
        exact resQ_fail (by repeat (first | exact Below.refl _ _ | refine balloc ?_ _ | refine Below.drew ?_ | refine bdrewN ?_ _ | refine bto ?_ (Own.below (by assumption)) | refine bset ?_ (by first | (simp; done) | (simp; omega) | exact Own.le_w (by assumption) (by first | (simp; done) | (simp; omega))) _))
    · have hC : eaC zs x y a b = 1 := by unfold eaC; rw [if_neg (fun q => by rw [he] at q; exact absurd q.2 (by simp))]
      have hM : eaM zs x y a b = 0 := by unfold eaM; rw [if_neg (fun q => by rw [he] at q; exact absurd q.2.1 (by simp))]
      rw [hC, hM]
      clear hC hM
      go_enter Try.func33, Try.ntmps33
      go_wp2_with first | (go_at_call 62; refine (s_IsLayout p n cap zs _ ?_).mono ?_; (focus (exact HIN'.out.own (by first | assumption | exact Own.alloc (by assumption) _ | exact Own.drew (by assumption) | exact Own.drew (Own.alloc (by assumption) _)))); rintro e w' ⟨rfl, hb⟩; obtain ⟨hc0, hf0, hl0⟩ := below_box (k := w.heap.size) hb (by first | omega | (simp; done) | (simp; omega)); obtain ⟨hc1, hf1, hl1⟩ := below_box (k := w.heap.size + 1) hb (by first | omega | (simp; done) | (simp; omega)); replace hb := Own.join (by first | assumption | exact Own.alloc (by assumption) _ | exact Own.drew (by assumption) | exact Own.drew (Own.alloc (by assumption) _) | exact Own.alloc (Own.alloc (by assumption) _) _ | exact Own.alloc (Own.alloc (Own.alloc (by assumption) _) _) _ | exact Own.drewN (by assumption) _ | exact Own.drew (Own.start _) | exact Own.drewN (Own.start _) _ | exact Own.start _) hb) | (go_at_call 90; refine (s_IsEnergy _ _ _).mono ?_; rintro e w' ⟨rfl, hb⟩; obtain ⟨hc0, hf0, hl0⟩ := below_box (k := w.heap.size) hb (by first | omega | (simp; done) | (simp; omega)); obtain ⟨hc1, hf1, hl1⟩ := below_box (k := w.heap.size + 1) hb (by first | omega | (simp; done) | (simp; omega)); replace hb := Own.join (by first | assumption | exact Own.alloc (by assumption) _ | exact Own.drew (by assumption) | exact Own.drew (Own.alloc (by assumption) _) | exact Own.alloc (Own.alloc (by assumption) _) _ | exact Own.alloc (Own.alloc (Own.alloc (by assumption) _) _) _ | exact Own.drewN (by assumption) _ | exact Own.drew (Own.start _) | exact Own.drewN (Own.start _) _ | exact Own.start _) hb)
      go_ret2
      exact resQ_fail (by repeat (first | exact Below.refl _ _ | refine balloc ?_ _ | refine Below.drew ?_ | refine bdrewN ?_ _ | refine bto ?_ (Own.below (by assumption)) | refine bset ?_ (by first | (simp; done) | (simp; omega) | exact Own.le_w (by assumption) (by first | (simp; done) | (simp; omega))) _))
  · have hC : eaC zs x y a b = 1 := by unfold eaC; rw [if_neg (fun q => by rw [hl] at q; exact absurd q.1 (by simp))]
    have hM : eaM zs x y a b = 0 := by unfold eaM; rw [if_neg (fun q => by rw [hl] at q; exact absurd q.1 (by simp))]
    rw [hC, hM]
    clear hC hM
    go_enter Try.func33, Try.ntmps33
    go_wp2_with (go_at_call 62; refine (s_IsLayout p n cap zs _ ?_).mono ?_; (focus (exact HIN'.out.own (by first | assumption | exact Own.alloc (by assumption) _ | exact Own.drew (by assumption) | exact Own.drew (Own.alloc (by assumption) _)))); rintro e w' ⟨rfl, hb⟩; obtain ⟨hc0, hf0, hl0⟩ := below_box (k := w.heap.size) hb (by first | omega | (simp; done) | (simp; omega)); obtain ⟨hc1, hf1, hl1⟩ := below_box (k := w.heap.size + 1) hb (by first | omega | (simp; done) | (simp; omega)); replace hb := Own.join (by first | assumption | exact Own.alloc (by assumption) _ | exact Own.drew (by assumption) | exact Own.drew (Own.alloc (by assumption) _) | exact Own.alloc (Own.alloc (by assumption) _) _ | exact Own.alloc (Own.alloc (Own.alloc (by assumption) _) _) _ | exact Own.drewN (by assumption) _ | exact Own.drew (Own.start _) | exact Own.drewN (Own.start _) _ | exact Own.start _) hb)
    go_ret2
    exact resQ_fail (by repeat (first | exact Below.refl _ _ | refine balloc ?_ _ | refine Below.drew ?_ | refine bdrewN ?_ _ | refine bto ?_ (Own.below (by assumption)) | refine bset ?_ (by first | (simp; done) | (simp; omega) | exact Own.le_w (by assumption) (by first | (simp; done) | (simp; omega))) _))

theorem below_alloc2 (w : World) (o1 o2 : Obj) : Below w.heap.size w ((w.alloc o1).alloc o2) := balloc (balloc (Below.refl _ _) _) _
theorem Chg.over {q : Option Addr} {u v v' : World} (h : Chg q u v) (hb : Below u.heap.size v v') : Chg q u v' :=
  ⟨hb.os.trans h.os, hb.tape.trans h.tape, hb.output.trans h.output, Nat.le_trans h.size hb.size, fun j hj hne => (hb.block j hj).trans (h.block j hj hne)⟩
set_option maxRecDepth 100000 in
theorem i_EnergyAlong (p : Option Addr) (n cap : Nat) (zs : List Seg) (x y a b : Int) (w : World) (hin : Segs w p n zs) (hn : n ≤ 1048576) :
    Calls Try.prog 15 #[.agg #[.slice p n cap], .int .i64 x, .int .i64 y, ivV a b] w (ResQ 35 2 (eaM zs x y a b) (eaF zs x.toNat a b) (eaC zs x y a b) w) := by
  obtain ⟨i0, hi, hz0, hz1, hz2⟩ := info_parts (P := Try.prog) (e := 35) (z := ivV 0 0) (size := 2) (bytes := 16) (by kernel_rfl)
  have hz := hin.1
  have HIN' : Hid (Segs ((w.alloc (Obj.cells #[.slice p n cap] 26)).alloc (Obj.cells #[.int .i64 a, .int .i64 b] 35)) p n zs) := ((hin.alloc _).alloc _); have h0 := Own.start ((w.alloc (Obj.cells #[.slice p n cap] 26)).alloc (Obj.cells #[.int .i64 a, .int .i64 b] 35)); clear hin
  have HZ := Lib.hid hz
  have cR := Lib.hid (fun W => i_isRun p n cap zs x y W hz hn)
  clear hz
  rcases Bool.eq_false_or_eq_true (layOk zs) with hl | hl
  · rcases Bool.eq_false_or_eq_true (isEn a b) with he | he
    · rcases Bool.eq_false_or_eq_true (rangeB zs x y) with h1 | h1
      · have HL := Lib.hid (layOk_iff.1 hl)
        obtain ⟨f, m, rfl, rfl, hf, hm⟩ := rangeB_nat h1
        have hC : eaC zs f m a b = (eaA zs f a b m).2.2 := by unfold eaC; rw [if_pos ⟨hl, he⟩, if_pos h1]; rfl
        have hM : eaM zs f m a b = if (eaA zs f a b m).2.2 = 0 then m else 0 := by unfold eaM; by_cases h : (eaA zs f a b m).2.2 = 0; (rw [if_pos ⟨hl, he, h1, h⟩, if_pos h]; rfl); (rw [if_neg (fun q => h q.2.2.2), if_neg h])
        rw [Int.toNat_natCast]
        obtain ⟨C, hC2⟩ : ∃ C, C = eaC zs f m a b := ⟨_, rfl⟩
        obtain ⟨M, hM2⟩ : ∃ M, M = eaM zs f m a b := ⟨_, rfl⟩
        rw [← hC2, ← hM2]
        have HC := Lib.hid (hC2.trans hC)
        have HM := Lib.hid (hM2.trans hM)
        have HE := Lib.hid he
        have hfi : (f : Int) ≤ 24 := by have := HL.out.2.1; omega
        have hmi : (m : Int) ≤ 24 := by omega
        have hn24 : n ≤ 24 := by have := HL.out.2.1; have := HZ.out; omega
        have hfn : f < n := by have := HZ.out; omega
        clear hC hM hf hC2 hM2
        go_enter Try.func15, Try.ntmps15
        go_wp2_with first | (go_at_call 58; refine (i_IsLayout p n cap zs _ ?_ hn).mono ?_; (focus (exact HIN'.out.own (by first | assumption | exact Own.alloc (by assumption) _ | exact Own.drew (by assumption) | exact Own.drew (Own.alloc (by assumption) _)))); rintro e w' ⟨rfl, hb⟩; obtain ⟨hc0, hf0, hl0⟩ := below_box (k := w.heap.size) hb (by first | omega | (simp; done) | (simp; omega)); obtain ⟨hc1, hf1, hl1⟩ := below_box (k := w.heap.size + 1) hb (by first | omega | (simp; done) | (simp; omega)); replace hb := Own.join (by first | assumption | exact Own.alloc (by assumption) _ | exact Own.drew (by assumption) | exact Own.drew (Own.alloc (by assumption) _) | exact Own.alloc (Own.alloc (by assumption) _) _ | exact Own.alloc (Own.alloc (Own.alloc (by assumption) _) _) _ | exact Own.drewN (by assumption) _ | exact Own.drew (Own.start _) | exact Own.drewN (Own.start _) _ | exact Own.start _) hb) | (go_at_call 65; refine (i_IsEnergy _ _ _).mono ?_; rintro e w' ⟨rfl, hb⟩; obtain ⟨hc0, hf0, hl0⟩ := below_box (k := w.heap.size) hb (by first | omega | (simp; done) | (simp; omega)); obtain ⟨hc1, hf1, hl1⟩ := below_box (k := w.heap.size + 1) hb (by first | omega | (simp; done) | (simp; omega)); replace hb := Own.join (by first | assumption | exact Own.alloc (by assumption) _ | exact Own.drew (by assumption) | exact Own.drew (Own.alloc (by assumption) _) | exact Own.alloc (Own.alloc (by assumption) _) _ | exact Own.alloc (Own.alloc (Own.alloc (by assumption) _) _) _ | exact Own.drewN (by assumption) _ | exact Own.drew (Own.start _) | exact Own.drewN (Own.start _) _ | exact Own.start _) hb) | (go_at_call 59; refine (cR.out _).mono ?_; rintro e w' ⟨rfl, hb⟩; obtain ⟨hc0, hf0, hl0⟩ := below_box (k := w.heap.size) hb (by first | omega | (simp; done) | (simp; omega)); obtain ⟨hc1, hf1, hl1⟩ := below_box (k := w.heap.size + 1) hb (by first | omega | (simp; done) | (simp; omega)); replace hb := Own.join (by first | assumption | exact Own.alloc (by assumption) _ | exact Own.drew (by assumption) | exact Own.drew (Own.alloc (by assumption) _) | exact Own.alloc (Own.alloc (by assumption) _) _ | exact Own.alloc (Own.alloc (Own.alloc (by assumption) _) _) _ | exact Own.drewN (by assumption) _ | exact Own.drew (Own.start _) | exact Own.drewN (Own.start _) _ | exact Own.start _) hb)
        have hO : Own ((w.alloc (Obj.cells #[.slice p n cap] 26)).alloc (Obj.cells #[.int .i64 a, .int .i64 b] 35)) w' := by assumption
        refine (i_along p n cap zs f m hfn hm _ (HIN'.out.own hO) hn24).mono ?_
        rintro e w3 ⟨q, c3, rfl, hsg, hb3⟩
        have hO3 := hO.join hb3
        have HSG := Lib.hid hsg
        have hlw : w.heap.size + 2 ≤ w3.heap.size := by have := hO3.le; simpa using this
        have hO1 : Own (w.alloc (Obj.cells #[.slice p n cap] 26)) w3 := Below.trans ((Own.start _).alloc _) (hO3.mono (by simp))
        have hebx : w3.heap[w.heap.size + 1]? = some (.cells #[.int .i64 a, .int .i64 b] 35 (0, 0)) := (hO3.block (w.heap.size + 1) (by simp)).trans (alloc2_new _ _ _)
        have HBE := Lib.hid hebx
        have O3 := Lib.hid hO1
        clear hsg hb3 hO hO3 hebx hO1
        go_wp2
        go_loopw [10, 35] (fun v i wr => ∃ j : Nat, j ≤ m ∧ i = .int .i64 j ∧ (∃ v0 : Value, v0 = v ∧ wr.ownsRow w3.heap.size 35 2 v0 j (rowV (eaF zs f a b) (j * 2))) ∧ (eaA zs f a b j).2.2 = 0 ∧ wr.heap[w.heap.size + 1]? = some (.cells #[.int .i64 (eaA zs f a b j).1, .int .i64 (eaA zs f a b j).2.1] 35 (0, 0)) ∧ Chg (some ⟨w.heap.size + 1, 0, none⟩) w3 wr) (fun _ i _ => (m - intOf i).toNat)
        case atStart => exact ⟨0, Nat.zero_le _, rfl, ⟨_, rfl, World.ownsRow_nil _ _ _ _⟩, rfl, HBE.out, Chg.refl _ _⟩
        case round =>
          obtain ⟨j, hj, rfl, ⟨v, rfl, how⟩, hcd, hebx, hchg⟩ := hrel
          obtain ⟨wB, rfl⟩ : ∃ wB : World, wB = wr := ⟨_, rfl⟩
          have hown : Own (w.alloc (Obj.cells #[.slice p n cap] 26)) wB := Below.trans O3.out.below (hchg.below (by simp; omega) (fun a ha => by simp only [Option.some.injEq] at ha; subst ha; simp))
          have HO := Lib.hid hown
          have HOWN := Lib.hid how
          have HBX := Lib.hid hebx
          have HCH := Lib.hid hchg
          obtain ⟨e0, e1, ef0, ef1, hel⟩ := box_cells hebx
          have hsl := how.lt
          have h3B := hchg.size
          have hie := eaA_isEn HL.out HE.out (f := f) j hcd
          have HCD := Lib.hid hcd
          by_cases hlt : j < m
          · have hlti : (j : Int) < (m : Int) := by omega
            obtain ⟨b9, off, rfl, hlb, hc⟩ := HSG.out.2.2 (by omega)
            have hc1 := hc j hlt
            have hb9 : b9 ≠ w.heap.size + 1 := by
              intro hb9
              have h6 := hc1.2.2.2.2.2.2
              rw [hb9] at h6
              simp [World.cell?, HBE.out] at h6
            have hc2 := hc1.keep (hchg.block b9 hlb (fun a ha => by simp only [Option.some.injEq] at ha; subst ha; exact hb9))
            obtain ⟨c0, c1, c2, c3', c4, c5, c6⟩ := hc2
            have hrs : sg (runL zs f m) j = runAt zs f j := runL_sg zs f m j hlt
            have hok := runAt_ok HL.out f j
            obtain ⟨s, hs⟩ : ∃ s, s = runAt zs f j := ⟨_, rfl⟩
            rw [hrs, ← hs] at c0 c1 c2 c3' c4 c5 c6
            rw [← hs] at hok
            have g := isEn_iff.1 hie
            have hnx : eaA zs f a b (j + 1) = enCheck ((eaA zs f a b j).1 + chLo s.n s.r s.d) ((eaA zs f a b j).2.1 + chHi s.n s.r s.c) := by
              simp only [eaA]; rw [if_pos hcd, ← hs]; unfold enAfter; rw [if_pos ⟨hok, hie⟩]
            obtain ⟨⟨lo, hi2, cd⟩, hea⟩ : ∃ t, t = eaA zs f a b (j + 1) := ⟨_, rfl⟩
            have cE := fun W => i_after s.k s.n s.r s.c s.d s.e s.f (eaA zs f a b j).1 (eaA zs f a b j).2.1 hok (by omega) (by omega) W
            rw [← hnx, ← hea] at cE
            have CE := Lib.hid cE
            have HEA := Lib.hid hea
            generalize eaA zs f a b j = st at *
            obtain ⟨sa, sb, sc⟩ := st
            simp only at e0 e1 ef0 ef1
            have KP : Hid (KpE (w.alloc (Obj.cells #[.slice p n cap] 26)) (w.heap.size + 1) w3.heap.size 35 v j (rowV (eaF zs f a b) (j * 2)) (.cells #[.int .i64 sa, .int .i64 sb] 35 (0, 0)) wB) := ⟨HO.out, HOWN.out, HBX.out⟩
            clear hebx hown how hrs hs cE hnx hea hcd hc hc1 hok g hie hchg hb9
            go_wp2_with fail
            refine (CE.out _).mono ?_
            rintro e w5 ⟨rfl, hb5⟩
            have K5 := Lib.hid ((KP.out.alloc (Obj.cells #[.int .i64 s.k, .int .i64 s.n, .int .i64 s.r, .int .i64 s.c, .int .i64 s.d, .int .i64 s.e, .int .i64 s.f] 45)).join hb5)
            have C5 := Lib.hid (HCH.out.over ((balloc (Below.refl _ _) _ |>.mono h3B).trans (hb5.mono (by rw [World.size_alloc]; omega))))
            have z5 : wB.heap.size ≤ w5.heap.size := first_le hb5.size (by rw [World.size_alloc] <;> exact Nat.le_succ _)
            have q51 : ¬ w.heap.size + 1 = w5.heap.size := by have := K5.out.lt; omega
            obtain ⟨e50, e51, ef50, ef51, hel5⟩ := box_cells K5.out.box
            clear hb5
            by_cases hcd : cd = 0
            · subst hcd
              have hz5 : w3.heap.size ≤ w5.heap.size := by omega
              have hB7 := box_set2 K5.out.box (.int .i64 lo) (.int .i64 hi2)
              have HB7 := Lib.hid hB7
              have hW7 := how_set (how_set K5.out.how (a := ⟨w.heap.size + 1, 0, none⟩) (by simp; omega) (.int .i64 lo)) (a := ⟨w.heap.size + 1, 1, none⟩) (by simp; omega) (.int .i64 hi2)
              have W7 := Lib.hid hW7
              have C7 := Lib.hid ((C5.out.setCell 0 (.int .i64 lo)).setCell 1 (.int .i64 hi2))
              clear hB7 hW7
              go_wp2_with (at_builtin; refine wpList_append_k _ rfl _ _ 31 rfl w3.heap.size 35 i0 (ivV 0 0) 2 16 Try.underlying31 hi hz0 hz1 hz2 rfl (by decide) _ _ _ rfl ((W7.out.alloc _).alloc _) ⟨w5.heap.size + 1, 0, none⟩ 1 1 [.int .i64 lo, .int .i64 hi2] rfl rfl (iv_newsB _ _ (by simp [setsize]) _ _ _) (by simp [Value.oneCell']) (by decide) (by unfold maxLen; omega) (by omega) (by simp [setsize]; omega) ?_; intro g2 c2 w1 hown1 hbel hkp hfar hsz1; have HOWN1 := Lib.hid hown1; have HBEL := Lib.hid hbel; clear hown1 hbel hkp hfar)
              go_roundw
              case rel => exact ⟨j + 1, by omega, by go_num, ⟨_, rfl, by rw [← rowV_snoc2 (eaF zs f a b) j (x := lo) (y := hi2) (by rw [eaF_0, ← HEA.out]) (by rw [eaF_1, ← HEA.out])]; exact HOWN1.out⟩, by rw [← HEA.out], by rw [← HEA.out]; exact (HBEL.out.block _ (by omega)).trans ((below_alloc2 _ _ _ |>.block _ (by simp [setsize]; omega)).trans HB7.out), C7.out.over (Below.trans (below_alloc2 _ _ _ |>.mono (by simp [setsize]; omega)) HBEL.out)⟩
              case measure => simp [intOf]; omega
            · have hz9 : (cd == 0) = false := by simpa using hcd
              have hst := eaA_stick (zs := zs) (f := f) (a := a) (b := b) (j := j + 1) (by rw [← HEA.out]; exact hcd) m (by omega)
              rw [← HEA.out] at hst
              have hM : M = 0 := by rw [HM.out, hst, if_neg hcd]
              have hC : C = cd := by rw [HC.out, hst]
              subst hM
              subst hC
              have K7 := Lib.hid (K5.out.alloc (Obj.cells #[.int .i64 lo, .int .i64 hi2] 35)).own
              clear hst hcd
              go_wp2
              go_ret2
              exact resQ_fail (bto (balloc (Below.refl _ _) _) K7.out.below)
          · obtain rfl : j = m := by omega
            obtain ⟨q2, c2, rfl, hq2⟩ := ownQ_of_own (sz := 2) (f := eaF zs f a b) (n := j) how (by omega)
            have hM : M = j := by rw [HM.out, if_pos HCD.out]
            have hC : C = 0 := by rw [HC.out, HCD.out]
            subst hM
            subst hC
            have HQ2 := Lib.hid hq2
            clear hown how hq2 hebx hchg
            go_wp2
            go_ret2
            exact resQ_of_own HQ2.out (by omega) (bto (balloc (Below.refl _ _) _) HO.out.below)
      · have hC : eaC zs x y a b = 2 := by unfold eaC; rw [if_pos ⟨hl, he⟩, if_neg (by rw [h1]; simp)]
        have hM : eaM zs x y a b = 0 := by unfold eaM; rw [if_neg (fun q => by rw [h1] at q; exact absurd q.2.2.1 (by simp))]
        rw [hC, hM]
        clear hC hM
        go_enter Try.func15, Try.ntmps15
        go_wp2_with first | (go_at_call 58; refine (i_IsLayout p n cap zs _ ?_ hn).mono ?_; (focus (exact HIN'.out.own (by first | assumption | exact Own.alloc (by assumption) _ | exact Own.drew (by assumption) | exact Own.drew (Own.alloc (by assumption) _)))); rintro e w' ⟨rfl, hb⟩; obtain ⟨hc0, hf0, hl0⟩ := below_box (k := w.heap.size) hb (by first | omega | (simp; done) | (simp; omega)); obtain ⟨hc1, hf1, hl1⟩ := below_box (k := w.heap.size + 1) hb (by first | omega | (simp; done) | (simp; omega)); replace hb := Own.join (by first | assumption | exact Own.alloc (by assumption) _ | exact Own.drew (by assumption) | exact Own.drew (Own.alloc (by assumption) _) | exact Own.alloc (Own.alloc (by assumption) _) _ | exact Own.alloc (Own.alloc (Own.alloc (by assumption) _) _) _ | exact Own.drewN (by assumption) _ | exact Own.drew (Own.start _) | exact Own.drewN (Own.start _) _ | exact Own.start _) hb) | (go_at_call 65; refine (i_IsEnergy _ _ _).mono ?_; rintro e w' ⟨rfl, hb⟩; obtain ⟨hc0, hf0, hl0⟩ := below_box (k := w.heap.size) hb (by first | omega | (simp; done) | (simp; omega)); obtain ⟨hc1, hf1, hl1⟩ := below_box (k := w.heap.size + 1) hb (by first | omega | (simp; done) | (simp; omega)); replace hb := Own.join (by first | assumption | exact Own.alloc (by assumption) _ | exact Own.drew (by assumption) | exact Own.drew (Own.alloc (by assumption) _) | exact Own.alloc (Own.alloc (by assumption) _) _ | exact Own.alloc (Own.alloc (Own.alloc (by assumption) _) _) _ | exact Own.drewN (by assumption) _ | exact Own.drew (Own.start _) | exact Own.drewN (Own.start _) _ | exact Own.start _) hb) | (go_at_call 59; refine (cR.out _).mono ?_; rintro e w' ⟨rfl, hb⟩; obtain ⟨hc0, hf0, hl0⟩ := below_box (k := w.heap.size) hb (by first | omega | (simp; done) | (simp; omega)); obtain ⟨hc1, hf1, hl1⟩ := below_box (k := w.heap.size + 1) hb (by first | omega | (simp; done) | (simp; omega)); replace hb := Own.join (by first | assumption | exact Own.alloc (by assumption) _ | exact Own.drew (by assumption) | exact Own.drew (Own.alloc (by assumption) _) | exact Own.alloc (Own.alloc (by assumption) _) _ | exact Own.alloc (Own.alloc (Own.alloc (by assumption) _) _) _ | exact Own.drewN (by assumption) _ | exact Own.drew (Own.start _) | exact Own.drewN (Own.start _) _ | exact Own.start _) hb)
        go_ret2
        exact resQ_fail (by repeat (first | exact Below.refl _ _ | refine balloc ?_ _ | refine Below.drew ?_ | refine bdrewN ?_ _ | refine bto ?_ (Own.below (by assumption)) | refine bset ?_ (by first | (simp; done) | (simp; omega) | exact Own.le_w (by assumption) (by first | (simp; done) | (simp; omega))) _))
    · have hC : eaC zs x y a b = 1 := by unfold eaC; rw [if_neg (fun q => by rw [he] at q; exact absurd q.2 (by simp))]
      have hM : eaM zs x y a b = 0 := by unfold eaM; rw [if_neg (fun q => by rw [he] at q; exact absurd q.2.1 (by simp))]
      rw [hC, hM]
      clear hC hM
      go_enter Try.func15, Try.ntmps15
      go_wp2_with first | (go_at_call 58; refine (i_IsLayout p n cap zs _ ?_ hn).mono ?_; (focus (exact HIN'.out.own (by first | assumption | exact Own.alloc (by assumption) _ | exact Own.drew (by assumption) | exact Own.drew (Own.alloc (by assumption) _)))); rintro e w' ⟨rfl, hb⟩; obtain ⟨hc0, hf0, hl0⟩ := below_box (k := w.heap.size) hb (by first | omega | (simp; done) | (simp; omega)); obtain ⟨hc1, hf1, hl1⟩ := below_box (k := w.heap.size + 1) hb (by first | omega | (simp; done) | (simp; omega)); replace hb := Own.join (by first | assumption | exact Own.alloc (by assumption) _ | exact Own.drew (by assumption) | exact Own.drew (Own.alloc (by assumption) _) | exact Own.alloc (Own.alloc (by assumption) _) _ | exact Own.alloc (Own.alloc (Own.alloc (by assumption) _) _) _ | exact Own.drewN (by assumption) _ | exact Own.drew (Own.start _) | exact Own.drewN (Own.start _) _ | exact Own.start _) hb) | (go_at_call 65; refine (i_IsEnergy _ _ _).mono ?_; rintro e w' ⟨rfl, hb⟩; obtain ⟨hc0, hf0, hl0⟩ := below_box (k := w.heap.size) hb (by first | omega | (simp; done) | (simp; omega)); obtain ⟨hc1, hf1, hl1⟩ := below_box (k := w.heap.size + 1) hb (by first | omega | (simp; done) | (simp; omega)); replace hb := Own.join (by first | assumption | exact Own.alloc (by assumption) _ | exact Own.drew (by assumption) | exact Own.drew (Own.alloc (by assumption) _) | exact Own.alloc (Own.alloc (by assumption) _) _ | exact Own.alloc (Own.alloc (Own.alloc (by assumption) _) _) _ | exact Own.drewN (by assumption) _ | exact Own.drew (Own.start _) | exact Own.drewN (Own.start _) _ | exact Own.start _) hb)
      go_ret2
      exact resQ_fail (by repeat (first | exact Below.refl _ _ | refine balloc ?_ _ | refine Below.drew ?_ | refine bdrewN ?_ _ | refine bto ?_ (Own.below (by assumption)) | refine bset ?_ (by first | (simp; done) | (simp; omega) | exact Own.le_w (by assumption) (by first | (simp; done) | (simp; omega))) _))
  · have hC : eaC zs x y a b = 1 := by unfold eaC; rw [if_neg (fun q => by rw [hl] at q; exact absurd q.1 (by simp))]
    have hM : eaM zs x y a b = 0 := by unfold eaM; rw [if_neg (fun q => by rw [hl] at q; exact absurd q.1 (by simp))]
    rw [hC, hM]
    clear hC hM
    go_enter Try.func15, Try.ntmps15
    go_wp2_with (go_at_call 58; refine (i_IsLayout p n cap zs _ ?_ hn).mono ?_; (focus (exact HIN'.out.own (by first | assumption | exact Own.alloc (by assumption) _ | exact Own.drew (by assumption) | exact Own.drew (Own.alloc (by assumption) _)))); rintro e w' ⟨rfl, hb⟩; obtain ⟨hc0, hf0, hl0⟩ := below_box (k := w.heap.size) hb (by first | omega | (simp; done) | (simp; omega)); obtain ⟨hc1, hf1, hl1⟩ := below_box (k := w.heap.size + 1) hb (by first | omega | (simp; done) | (simp; omega)); replace hb := Own.join (by first | assumption | exact Own.alloc (by assumption) _ | exact Own.drew (by assumption) | exact Own.drew (Own.alloc (by assumption) _) | exact Own.alloc (Own.alloc (by assumption) _) _ | exact Own.alloc (Own.alloc (Own.alloc (by assumption) _) _) _ | exact Own.drewN (by assumption) _ | exact Own.drew (Own.start _) | exact Own.drewN (Own.start _) _ | exact Own.start _) hb)
    go_ret2
    exact resQ_fail (by repeat (first | exact Below.refl _ _ | refine balloc ?_ _ | refine Below.drew ?_ | refine bdrewN ?_ _ | refine bto ?_ (Own.below (by assumption)) | refine bset ?_ (by first | (simp; done) | (simp; omega) | exact Own.le_w (by assumption) (by first | (simp; done) | (simp; omega))) _))

theorem box_of_own {w W : World} {p : Option Addr} {n c : Nat} {a b : Int} {T1 T2 : TypeId} (h : Own ((w.alloc (Obj.cells #[.slice p n c] T1)).alloc (Obj.cells #[.int .i64 a, .int .i64 b] T2)) W) :
    W.cell? ⟨w.heap.size, 0, none⟩ = some (.slice p n c) ∧ W.cell? ⟨w.heap.size + 1, 0, none⟩ = some (.int .i64 a) ∧ W.cell? ⟨w.heap.size + 1, 1, none⟩ = some (.int .i64 b) ∧ w.heap.size + 2 ≤ W.heap.size := by
  have hl := h.le
  simp only [World.size_alloc] at hl
  refine ⟨?_, ?_, ?_, hl⟩
  · rw [(below_box (k := w.heap.size) h (by simp only [World.size_alloc]; omega)).1 0]; go_simp
  · rw [(below_box (k := w.heap.size + 1) h (by simp only [World.size_alloc]; omega)).1 0]; go_simp
  · rw [(below_box (k := w.heap.size + 1) h (by simp only [World.size_alloc]; omega)).1 1]; go_simp
theorem xbox_of_own {w W : World} {v : Value} {T1 : TypeId} (h : Own (w.alloc (Obj.cells #[v] T1)) W) : W.cell? ⟨w.heap.size, 0, none⟩ = some v := by
  rw [(below_box (k := w.heap.size) h (by simp only [World.size_alloc]; omega)).1 0]; go_simp

end Go.Proofs.Ytgkfnggnhphboaa
