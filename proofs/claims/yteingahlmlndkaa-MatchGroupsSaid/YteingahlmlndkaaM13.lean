/-
  What is proved: helpers of the statements of layer 08: 34 ints, 26 full, 36 Is.
-/
import Derived.Test.YteingahlmlndkaaM12
import Derived.Test.YteingahlmlndkaaM7
import Derived.Test.YteingahlmlndkaaM10
import Derived.Test.YteingahlmlndkaaM3
import Derived.Test.YteingahlmlndkaaM6
import Derived.Test.YteingahlmlndkaaM1
import Derived.ProofKit
import Derived.OpenShut
import Derived.SizedLaws
import Derived.Deep.Slices
import Derived.Lib.SmallJoins
import Derived.Test.YteingahlmlndkaaM2
import Derived.Test.YteingahlmlndkaaM11
set_option linter.all false
namespace Go.Proofs.Yteingahlmlndkaa
open Go.RowKit
attribute [local irreducible] Go.wpCalm
def eqL (f g : Nat → Int) (n : Nat) : Bool := decide (∀ i, i < n → f i = g i)
theorem eqL_yes {f g : Nat → Int} {n : Nat} (h : ∀ i, i < n → f i = g i) : eqL f g n = true := decide_eq_true h
theorem eqL_no {f g : Nat → Int} {n k : Nat} (hk : k < n) (h : f k ≠ g k) : eqL f g n = false := decide_eq_false fun h2 => h (h2 k hk)
set_option maxHeartbeats 1000000 in
theorem ints_c (w : World) (av bv : Value) (n m : Nat) (f g : Nat → Int) (ha : IntsAt w av n f) (hb : IntsAt w bv m g) :
    Calls Try.prog 34 #[av, bv] w fun e w' => e = .returned (.bool (decide (n = m) && eqL f g n)) ∧ w.grows w' := by
  obtain ⟨aa, ac, rfl, a1, a2, ha⟩ := ha
  obtain ⟨ba, bc, rfl, b1, b2, hb⟩ := hb
  unfold maxLen at a2 b2
  go_enter Try.func34, Try.ntmps34
  by_cases hn : n = m
  · subst hn
    go_wp2
    go_loopw [5] (fun i wr => ∃ k : Nat, k ≤ n ∧ i = .int .i64 k ∧ Hid (∀ j, j < k → f j = g j) ∧ w.grows wr) (fun i _ => n - (intOf i).toNat)
    case atStart => exact ⟨0, by omega, rfl, Lib.hid fun j hj => by omega, by (repeat (first | exact World.grows.refl _ | assumption | refine World.grows.alloc ?_ _ | refine World.grows.plus ?_ _ _ | refine World.grows.drew ?_))⟩
    case round =>
      obtain ⟨k, hk, rfl, hl, hg⟩ := hrel
      obtain ⟨n1, x1, rfl⟩ := World.plus_of hg
      by_cases hlt : k < n
      · obtain ⟨b, o, rfl, h0⟩ := ha k 0 hlt (by omega)
        obtain ⟨b', o', rfl, h1⟩ := hb k 0 hlt (by omega)
        simp only [Nat.mul_one, Nat.add_zero] at h0 h1
        by_cases he : f k = g k
        · have hnx := Lib.hid (upto_succ hl.out he)
          rw [he] at h0
          clear he
          go_wp2
          (refine wp_region_calm (by kernel_rfl) (by kernel_rfl) ?_; (repeat (refine wpCalm_step (fun K hK => ?_); go_simp; first | (refine hK _ ?_; clear hK K) | (apply Exists.intro; refine ⟨fun n' x' => ?_, hK _ ?_⟩; (fail); clear hK K))); refine wpCalm_nil ?_; intro nq xq)
          go_wp2
          go_roundw
          case rel => exact ⟨k + 1, by omega, by go_num, hnx, by (repeat (first | exact World.grows.refl _ | assumption | refine World.grows.alloc ?_ _ | refine World.grows.plus ?_ _ _ | refine World.grows.drew ?_))⟩
          case measure => simp [intOf]; omega
        · have hx := Lib.hid (eqL_no hlt he)
          have heb : (f k == g k) = false := beq_eq_false_iff_ne.2 he
          go_wp2
          (refine wp_region_calm (by kernel_rfl) (by kernel_rfl) ?_; (repeat (refine wpCalm_step (fun K hK => ?_); go_simp; first | (refine hK _ ?_; clear hK K) | (apply Exists.intro; refine ⟨fun n' x' => ?_, hK _ ?_⟩; (fail); clear hK K))); refine wpCalm_nil ?_; intro nq xq)
          go_wp2
          (refine bodyPost_ret (v := .bool false) (by simp [results, Try.results34, go_sem]) rfl ?_)
          exact ⟨by simp [hx.out], by (repeat (first | exact World.grows.refl _ | assumption | refine World.grows.alloc ?_ _ | refine World.grows.plus ?_ _ _ | refine World.grows.drew ?_))⟩
      · have hke : k = n := by omega
        subst hke
        have hx := Lib.hid (eqL_yes hl.out)
        go_wp2
        (refine bodyPost_ret (v := .bool true) (by simp [results, Try.results34, go_sem]) rfl ?_)
        exact ⟨by simp [hx.out], by (repeat (first | exact World.grows.refl _ | assumption | refine World.grows.alloc ?_ _ | refine World.grows.plus ?_ _ _ | refine World.grows.drew ?_))⟩
  · have hn' : ¬ (n : Int) = (m : Int) := by omega
    have hnb : ((n : Int) == (m : Int)) = false := beq_eq_false_iff_ne.2 hn'
    go_wp2
    (refine bodyPost_ret (v := .bool false) (by simp [results, Try.results34, go_sem]) rfl ?_)
    exact ⟨by simp [hn], by (repeat (first | exact World.grows.refl _ | assumption | refine World.grows.alloc ?_ _ | refine World.grows.plus ?_ _ _ | refine World.grows.drew ?_))⟩

/-- a valid stock of more than eight things -/
def Stk.full (t : Stk) : Bool := decide (t.check = 0) && decide (8 < t.nt)
set_option maxHeartbeats 1000000 in
theorem is36_c (w : World) (tv : Value) (s : Stk) (ht : StkAt w tv s) (x : Int) : Calls Try.prog 36 #[tv, .int .i64 x] w fun e w' => e = .returned (.bool (s.isT x)) ∧ w.grows w' := by
  obtain ⟨sv, vv, rfl, ⟨sa, sc, rfl, v1, v2, -⟩, ⟨va, vc, rfl, -⟩⟩ := ht
  unfold maxLen at v2
  have HF : Hid (s.isT x = (decide (0 ≤ x) && decide (x < s.nt))) := Lib.hid rfl
  obtain ⟨NT, hNT⟩ : ∃ N : Nat, s.nt = N := ⟨_, rfl⟩
  rw [hNT] at HF v1 ⊢
  clear hNT
  go_enter Try.func36, Try.ntmps36
  by_cases h0 : 0 ≤ x
  · by_cases h1 : x < NT
    · go_wp2
      (refine bodyPost_ret (v := .bool true) (by simp [results, Try.results36, go_sem]) rfl ?_)
      exact ⟨by rw [HF.out, decide_eq_true h0, decide_eq_true h1]; rfl, by (repeat (first | exact World.grows.refl _ | assumption | refine World.grows.alloc ?_ _ | refine World.grows.plus ?_ _ _ | refine World.grows.drew ?_))⟩
    · go_wp2
      (refine bodyPost_ret (v := .bool false) (by simp [results, Try.results36, go_sem]) rfl ?_)
      exact ⟨by rw [HF.out, decide_eq_true h0, decide_eq_false (Int.not_lt.2 h1)]; rfl, by (repeat (first | exact World.grows.refl _ | assumption | refine World.grows.alloc ?_ _ | refine World.grows.plus ?_ _ _ | refine World.grows.drew ?_))⟩
  · go_wp2
    (refine bodyPost_ret (v := .bool false) (by simp [results, Try.results36, go_sem]) rfl ?_)
    exact ⟨by rw [HF.out, decide_eq_false (Int.not_le.2 h0)]; rfl, by (repeat (first | exact World.grows.refl _ | assumption | refine World.grows.alloc ?_ _ | refine World.grows.plus ?_ _ _ | refine World.grows.drew ?_))⟩
/-- too many parts for a statement -/
def Stk.great (t : Stk) : Bool := decide (25 < t.nt) || decide (30 < t.nm)
theorem Stk.great_ok {t : Stk} (h : t.check = 0) : t.great = false := by
  have hok := t.ok_iff.1 h
  have := hok.n16
  have := hok.m20
  unfold Stk.great
  have a : ¬ 25 < t.nt := by omega
  have b : ¬ 30 < t.nm := by omega
  simp [a, b]
set_option maxHeartbeats 1000000 in
theorem great_c (w : World) (tv : Value) (t : Stk) (ht : StkAt w tv t) : Calls Try.prog 13 #[tv] w fun e w' => e = .returned (.bool t.great) ∧ w.grows w' := by
  obtain ⟨sv, vv, rfl, ⟨sa, sc, rfl, s1, s2, -⟩, ⟨va, vc, rfl, v1, v2, -⟩⟩ := ht
  unfold maxLen at s2 v2
  go_enter Try.func13, Try.ntmps13
  by_cases h1 : 25 < t.nt
  · have h1' : (25 : Int) < t.nt := by omega
    go_wp2
    (refine bodyPost_ret (v := .bool true) (by simp [results, Try.results13, go_sem]) rfl ?_)
    exact ⟨by unfold Stk.great; simp [h1], by (repeat (first | exact World.grows.refl _ | assumption | refine World.grows.alloc ?_ _ | refine World.grows.plus ?_ _ _ | refine World.grows.drew ?_))⟩
  · have h1' : ¬ (25 : Int) < t.nt := by omega
    by_cases h2 : 30 < t.nm
    · have h2' : (30 : Int) < t.nm := by omega
      go_wp2
      (refine bodyPost_ret (v := .bool true) (by simp [results, Try.results13, go_sem]) rfl ?_)
      exact ⟨by unfold Stk.great; simp [h2], by (repeat (first | exact World.grows.refl _ | assumption | refine World.grows.alloc ?_ _ | refine World.grows.plus ?_ _ _ | refine World.grows.drew ?_))⟩
    · have h2' : ¬ (30 : Int) < t.nm := by omega
      go_wp2
      (refine bodyPost_ret (v := .bool false) (by simp [results, Try.results13, go_sem]) rfl ?_)
      exact ⟨by unfold Stk.great; simp; omega, by (repeat (first | exact World.grows.refl _ | assumption | refine World.grows.alloc ?_ _ | refine World.grows.plus ?_ _ _ | refine World.grows.drew ?_))⟩
set_option maxHeartbeats 1000000 in
theorem fine_c (w : World) (tv : Value) (t : Stk) (ht : StkAt w tv t) : Calls Try.prog 38 #[tv] w fun e w' => e = .returned (.bool (decide (t.check = 0))) ∧ w.grows w' := by
  have Ht := Lib.hid ht
  obtain ⟨sv, vv, rfl, ⟨sa, sc, rfl, -⟩, ⟨va, vc, rfl, -⟩⟩ := ht
  have h15 := fun W (g : w.grows W) => great_c W _ t (Ht.out.mono g)
  have h20 := fun W (g : w.grows W) => rcheck_c W _ t (Ht.out.mono g)
  have HG := Lib.hid (Stk.great_ok (t := t))
  obtain ⟨C, hC⟩ : ∃ C : Nat, t.check = C := ⟨_, rfl⟩
  simp only [hC] at h20
  rw [hC] at HG ⊢
  clear hC
  cases hg : t.great with
  | true =>
    rw [hg] at h15 HG
    have hc : ¬ C = 0 := fun h => by have := HG.out h; cases this
    have HC := Lib.hid hc
    clear hg hc
    go_enter Try.func38, Try.ntmps38
    go_wp2_with (go_at_call 99; fail)
    refine (h15 _ (by (repeat (first | exact World.grows.refl _ | assumption | refine World.grows.alloc ?_ _ | refine World.grows.plus ?_ _ _ | refine World.grows.drew ?_)))).mono ?_
    rintro e w' ⟨rfl, g⟩
    obtain ⟨n2, x2, rfl⟩ := World.plus_of g
    clear h15 h20
    go_wp2
    (refine bodyPost_ret (v := .bool false) (by simp [results, Try.results38, go_sem]) rfl ?_)
    exact ⟨by rw [decide_eq_false HC.out], by (repeat (first | exact World.grows.refl _ | assumption | refine World.grows.alloc ?_ _ | refine World.grows.plus ?_ _ _ | refine World.grows.drew ?_))⟩
  | false =>
    rw [hg] at h15
    clear hg HG
    go_enter Try.func38, Try.ntmps38
    go_wp2_with (go_at_call 99; fail)
    refine (h15 _ (by (repeat (first | exact World.grows.refl _ | assumption | refine World.grows.alloc ?_ _ | refine World.grows.plus ?_ _ _ | refine World.grows.drew ?_)))).mono ?_
    rintro e w' ⟨rfl, g⟩
    obtain ⟨n2, x2, rfl⟩ := World.plus_of g
    clear h15
    go_wp2_with (go_at_call 99; fail)
    refine (h20 _ (by (repeat (first | exact World.grows.refl _ | assumption | refine World.grows.alloc ?_ _ | refine World.grows.plus ?_ _ _ | refine World.grows.drew ?_)))).mono ?_
    rintro e w' ⟨rfl, g⟩
    obtain ⟨n3, x3, rfl⟩ := World.plus_of g
    clear h20
    by_cases h : C = 0
    · subst h
      go_wp2
      (refine bodyPost_ret (v := .bool true) (by simp [results, Try.results38, go_sem]) rfl ?_)
      exact ⟨rfl, by (repeat (first | exact World.grows.refl _ | assumption | refine World.grows.alloc ?_ _ | refine World.grows.plus ?_ _ _ | refine World.grows.drew ?_))⟩
    · have h' : ¬ (C : Int) = 0 := by omega
      have HC := Lib.hid h
      clear h
      go_wp2
      (refine bodyPost_ret (v := .bool ((C : Int) == 0)) (by simp [results, Try.results38, go_sem]) rfl ?_)
      exact ⟨by
        have e : ((C : Int) == 0) = decide (C = 0) := by
          rw [decide_eq_false HC.out]
          simpa using HC.out
        rw [e], by (repeat (first | exact World.grows.refl _ | assumption | refine World.grows.alloc ?_ _ | refine World.grows.plus ?_ _ _ | refine World.grows.drew ?_))⟩
end Go.Proofs.Yteingahlmlndkaa

/-
  What is proved: whether two things of a valid stock suit each other, by the definition (41).
-/
namespace Go.Proofs.Yteingahlmlndkaa
open Go.RowKit
attribute [local irreducible] Go.wpCalm rowV
def kV0 (c : Value) (_ : List Value) (v : Value) (_ : World) : Prop := v = c
def kA0 (n : Nat) (_ : List Value) (v : Value) (W : World) : Prop := ∃ b c, v = .pointer (some ⟨b, 0, none⟩) ∧ n ≤ b ∧ W.heap[b]? = some (.cells c 62) ∧ c.size = 3
def kS0 (T : Array Value) (us : List Value) (_ : Value) (W : World) : Prop := ∀ b, us.head? = some (.pointer (some ⟨b, 0, none⟩)) → W.heap[b]? = some (.cells T 62)
def kT0 (_ : Value) (_ : World) : Prop := True
def kN0 (v : Value) (W : World) : Prop := v = .pointer (some ⟨W.heap.size, 0, none⟩)
def kD0 (i j : Nat) (v u : Value) : Prop := (i = 10 ∨ i = 11) → (j = 10 ∨ j = 11) → v ≠ u
/-- things in memory stay things, and T stays T -/
def gT0 (T : Array Value) (W W' : World) : Prop := ∀ (k : Nat) (c : Array Value), W.heap[k]? = some (.cells c 62) → ∃ c', W'.heap[k]? = some (.cells c' 62) ∧ c'.size = c.size ∧ (c = T → c' = T)
theorem gT0.of {T : Array Value} {W W' : World} (g : W.grows W') : gT0 T W W' := fun _ c h => ⟨c, g.heap_of h, rfl, id⟩
theorem gT0.put {T : Array Value} {W : World} {b : Nat} {c : Array Value} (h : W.heap[b]? = some (.cells c 62)) (hs : T.size = c.size) : gT0 T W (W.putObj b (.cells T 62)) := fun k d hk => by
  by_cases e : k = b
  · subst e
    rw [h] at hk
    cases hk
    exact ⟨T, World.putObj_heap_same (World.lt_of_block h), hs, fun _ => rfl⟩
  · exact ⟨d, by rw [World.putObj_heap_other e]; exact hk, rfl, id⟩
theorem kA0_ne {n : Nat} {v u : Value} {us : List Value} {W : World} (h : kN0 v W) (h' : kA0 n us u W) : v ≠ u := by
  obtain ⟨b, c, rfl, -, h2, -⟩ := h'
  unfold kN0 at h
  subst h
  intro e
  cases e
  exact absurd (World.lt_of_block h2) (by omega)
def thV (s : Stk) (i : Nat) : Array Value := #[.int .i64 (s.tk i), .int .i64 (s.tw i), .int .i64 (s.tg i)]
theorem thV_one (s : Stk) (i : Nat) : (thV s i).all (·.oneCell') = true := by simp [thV, Value.oneCell']
def R0 (p0 : Value) (sv : Value) (i k : Nat) (pi pk : Value) (ti tk : Array Value) (n : Nat) : List (List Value → Value → World → Prop) := [kV0 p0, kV0 sv, kV0 (.int .i64 (i : Nat)), kV0 pi, kV0 (.agg ti), kV0 p0, kV0 sv, kV0 (.int .i64 (k : Nat)), kV0 pk, kV0 (.agg tk), kA0 n, kA0 n, kS0 ti]
def N0 : List (Value → World → Prop) := [kT0, kT0, kT0, kT0, kT0, kT0, kT0, kT0, kT0, kT0, kN0, kN0, kT0]
theorem R0_stays (p0 sv : Value) (i k : Nat) (pi pk : Value) (ti tk : Array Value) (n : Nat) : ∀ r ∈ R0 p0 sv i k pi pk ti tk n, ∀ us v W W', r us v W → gT0 ti W W' → r us v W' := by
  intro r hr us v W W' h g
  simp only [R0, List.mem_cons, List.not_mem_nil, or_false] at hr
  rcases hr with rfl | rfl | rfl | rfl | rfl | rfl | rfl | rfl | rfl | rfl | rfl | rfl | rfl
  iterate 10 exact h
  iterate 2
    obtain ⟨b, c, h1, h2, h3, h4⟩ := h
    obtain ⟨c', h5, h6, -⟩ := g b c h3
    exact ⟨b, c', h1, h2, h5, h6.trans h4⟩
  intro b hb
  obtain ⟨c', h5, h6, h7⟩ := g b _ (h b hb)
  rw [h7 rfl] at h5
  exact h5
theorem hD0 (p0 sv : Value) (i k : Nat) (pi pk : Value) (ti tk : Array Value) (m : Nat) : ∀ i' j, i' < 13 → j < 13 → i' ≠ j → ∀ us v u W, N0.getD i' (fun _ _ => True) v W → (R0 p0 sv i k pi pk ti tk m).getD j (fun _ _ _ => True) us u W → kD0 i' j v u ∧ kD0 j i' u v := by
  intro i' j hi hj hij us v u W hN hR
  by_cases h6 : (i' = 10 ∨ i' = 11) ∧ (j = 10 ∨ j = 11)
  · have hN' : kN0 v W := by
      rcases h6.1 with rfl | rfl <;> exact hN
    have hR' : kA0 m us u W := by
      rcases h6.2 with rfl | rfl <;> exact hR
    exact ⟨fun _ _ => kA0_ne hN' hR', fun _ _ e => kA0_ne hN' hR' e.symm⟩
  · exact ⟨fun h1 h2 => absurd ⟨h1, h2⟩ h6, fun h1 h2 => absurd ⟨h2, h1⟩ h6⟩
/-- that two things cannot suit each other, whatever their kinds -/
def farB (s : Stk) (i k : Nat) : Bool := decide (i = k) || decide (s.wide < s.tw i - s.tw k) || decide (s.wide < s.tw k - s.tw i) || (!decide (s.tg i = s.tg k) && !decide (s.tg i = 0) && !decide (s.tg k = 0))
theorem suits_far (s : Stk) (i k : Nat) : s.suits i k = (!farB s i k && s.goes (s.tk i) (s.tk k)) := by
  unfold Stk.suits farB
  by_cases e1 : i = k
  · simp [e1]
  · by_cases e2 : s.wide < s.tw i - s.tw k
    · rw [decide_eq_true e2, decide_eq_false (show ¬ s.tw i - s.tw k ≤ s.wide by omega)]; simp
    · by_cases e3 : s.wide < s.tw k - s.tw i
      · rw [decide_eq_true e3, decide_eq_false (show ¬ s.tw k - s.tw i ≤ s.wide by omega)]; simp
      · rw [decide_eq_false e1, decide_eq_false e2, decide_eq_false e3, decide_eq_true (show s.tw i - s.tw k ≤ s.wide by omega), decide_eq_true (show s.tw k - s.tw i ≤ s.wide by omega)]
        cases decide (s.tg i = s.tg k) <;> cases decide (s.tg i = 0) <;> cases decide (s.tg k = 0) <;> simp
set_option maxRecDepth 100000 in
set_option maxHeartbeats 4000000 in
theorem suits_c (w : World) (v : Value) (s : Stk) (ht : StkAt w v s) (hok : s.Ok) (i k : Nat) (hi : i < s.nt) (hk : k < s.nt) : Calls Try.prog 41 #[v, .int .i64 (i : Nat), .int .i64 (k : Nat)] w fun e w' => e = .returned (.bool (s.suits i k)) ∧ w.grows w' := by
  have Ht := Lib.hid ht
  obtain ⟨tv, mv, rfl, hT, hM⟩ := ht
  have HT := Lib.hid hT
  have HM := Lib.hid hM
  obtain ⟨sa, sc, rfl, s1, s2, hsa⟩ := hT
  obtain ⟨va, vc, rfl, v1, v2, -⟩ := hM
  have hiI : (i : Int) < s.nt := by omega
  have hkI : (k : Int) < s.nt := by omega
  have h16 := hok.n16
  have h20 := hok.m20
  have wi := hok.tw i hi
  have wk := hok.tw k hk
  have wd := hok.wide
  clear hok
  obtain ⟨tb, tq, rfl, -⟩ := hsa i 0 hi (by omega)
  have hcell : ∀ j, j < s.nt → ∀ W, w.grows W → W.cell? ⟨tb, tq + j * 3, none⟩ = some (.int .i64 (s.tk j)) ∧ W.cell? ⟨tb, tq + j * 3 + 1, none⟩ = some (.int .i64 (s.tw j)) ∧ W.cell? ⟨tb, tq + j * 3 + 2, none⟩ = some (.int .i64 (s.tg j)) := fun j hj W g => by
    have h : ∀ c, c < 3 → W.cell? ⟨tb, tq + j * 3 + c, none⟩ = some (tcell s j c) := fun c hc => by
      obtain ⟨b, o, he, h⟩ := hsa j c hj hc
      cases he
      exact g.cell_of h
    exact ⟨h 0 (by omega), h 1 (by omega), h 2 (by omega)⟩
  have HC := Lib.hid hcell
  clear hcell hsa
  go_enter Try.func41, Try.ntmps41
  go_upto_region 1 with fail
  obtain ⟨x3, hx3⟩ : ∃ x, w.heap.size = x := ⟨_, rfl⟩
  have B := World.heap_at w (.cells #[.slice (some ⟨tb, tq, none⟩) s.nt sc, .slice va s.nm vc, .int .i64 s.wide] 25) _ rfl
  have g1 : w.grows (w.alloc (.cells #[.slice (some ⟨tb, tq, none⟩) s.nt sc, .slice va s.nm vc, .int .i64 s.wide] 25)) := by (repeat (first | exact World.grows.refl _ | assumption | refine World.grows.alloc ?_ _ | refine World.grows.plus ?_ _ _ | refine World.grows.drew ?_))
  rw [hx3] at B
  simp only [hx3]
  generalize w.alloc (.cells #[.slice (some ⟨tb, tq, none⟩) s.nt sc, .slice va s.nm vc, .int .i64 s.wide] 25) = V2 at B g1 ⊢
  have hb0 := fun nc xc => cell_of_heap ((World.grows_plus V2 nc xc).heap_of B) (i := 0) rfl
  have hci := fun nc xc => HC.out i hi (V2.plus nc xc) (g1.trans (World.grows_plus V2 nc xc))
  have hck := fun nc xc => HC.out k hk (V2.plus nc xc) (g1.trans (World.grows_plus V2 nc xc))
  refine wp_region_invD 13 [[], [0], [], [1, 2], [3], [], [5], [], [6, 7], [8], [], [], [10, 4]] [some 11, some 12, some 13, some 14, some 15, some 16, some 17, some 18, some 19, some 20, some 7, some 8, none] (R0 (.pointer (some ⟨x3, 0, none⟩)) (.slice (some ⟨tb, tq, none⟩) s.nt sc) i k (.pointer (some ⟨tb, tq + i * 3, none⟩)) (.pointer (some ⟨tb, tq + k * 3, none⟩)) (thV s i) (thV s k) V2.heap.size) N0 kD0 (gT0 (thV s i)) (by kernel_rfl) (by kernel_rfl) (by decide) (by simp [R0]) (by simp [N0]) (R0_stays _ _ _ _ _ _ _ _ _) (hD0 _ _ _ _ _ _ _ _ _) ?_ ?_
  · simp only [List.take_succ_cons, List.take_zero, R0, N0, zipD, oblD, depD, List.getD_cons_zero, List.getD_cons_succ, List.nil_append, List.cons_append, and_true]
    refine ⟨?_, ?_, ?_, ?_, ?_, ?_, ?_, ?_, ?_, ?_, ?_, ?_, ?_⟩
    · intro nc xc K hK
      go_simp
      exact ⟨by (repeat (first | exact World.grows.refl _ | assumption | refine World.grows.alloc ?_ _ | refine World.grows.plus ?_ _ _ | refine World.grows.drew ?_)), hK _ _ (gT0.of (World.grows.refl _)) rfl trivial⟩
    · rintro nc xc v0 ⟨us0, h0⟩ K hK
      obtain rfl : v0 = _ := h0
      have := hb0 nc xc
      go_simp
      exact ⟨by (repeat (first | exact World.grows.refl _ | assumption | refine World.grows.alloc ?_ _ | refine World.grows.plus ?_ _ _ | refine World.grows.drew ?_)), hK _ _ (gT0.of (World.grows.refl _)) rfl trivial⟩
    · intro nc xc K hK
      go_simp
      exact ⟨by (repeat (first | exact World.grows.refl _ | assumption | refine World.grows.alloc ?_ _ | refine World.grows.plus ?_ _ _ | refine World.grows.drew ?_)), hK _ _ (gT0.of (World.grows.refl _)) rfl trivial⟩
    · rintro nc xc v0 ⟨us0, h0⟩ v1 ⟨us1, h1⟩ K hK
      obtain rfl : v0 = _ := h0
      obtain rfl : v1 = _ := h1
      go_simp
      exact ⟨by (repeat (first | exact World.grows.refl _ | assumption | refine World.grows.alloc ?_ _ | refine World.grows.plus ?_ _ _ | refine World.grows.drew ?_)), hK _ _ (gT0.of (World.grows.refl _)) rfl trivial⟩
    · rintro nc xc v0 ⟨us0, h0⟩ K hK
      obtain rfl : v0 = _ := h0
      obtain ⟨a0, a1, a2⟩ := hci nc xc
      go_simp
      exact ⟨by (repeat (first | exact World.grows.refl _ | assumption | refine World.grows.alloc ?_ _ | refine World.grows.plus ?_ _ _ | refine World.grows.drew ?_)), hK _ _ (gT0.of (World.grows.refl _)) rfl trivial⟩
    · intro nc xc K hK
      go_simp
      exact ⟨by (repeat (first | exact World.grows.refl _ | assumption | refine World.grows.alloc ?_ _ | refine World.grows.plus ?_ _ _ | refine World.grows.drew ?_)), hK _ _ (gT0.of (World.grows.refl _)) rfl trivial⟩
    · rintro nc xc v0 ⟨us0, h0⟩ K hK
      obtain rfl : v0 = _ := h0
      have := hb0 nc xc
      go_simp
      exact ⟨by (repeat (first | exact World.grows.refl _ | assumption | refine World.grows.alloc ?_ _ | refine World.grows.plus ?_ _ _ | refine World.grows.drew ?_)), hK _ _ (gT0.of (World.grows.refl _)) rfl trivial⟩
    · intro nc xc K hK
      go_simp
      exact ⟨by (repeat (first | exact World.grows.refl _ | assumption | refine World.grows.alloc ?_ _ | refine World.grows.plus ?_ _ _ | refine World.grows.drew ?_)), hK _ _ (gT0.of (World.grows.refl _)) rfl trivial⟩
    · rintro nc xc v0 ⟨us0, h0⟩ v1 ⟨us1, h1⟩ K hK
      obtain rfl : v0 = _ := h0
      obtain rfl : v1 = _ := h1
      go_simp
      exact ⟨by (repeat (first | exact World.grows.refl _ | assumption | refine World.grows.alloc ?_ _ | refine World.grows.plus ?_ _ _ | refine World.grows.drew ?_)), hK _ _ (gT0.of (World.grows.refl _)) rfl trivial⟩
    · rintro nc xc v0 ⟨us0, h0⟩ K hK
      obtain rfl : v0 = _ := h0
      obtain ⟨a0, a1, a2⟩ := hck nc xc
      go_simp
      exact ⟨by (repeat (first | exact World.grows.refl _ | assumption | refine World.grows.alloc ?_ _ | refine World.grows.plus ?_ _ _ | refine World.grows.drew ?_)), hK _ _ (gT0.of (World.grows.refl _)) rfl trivial⟩
    · intro nc xc K hK
      go_simp
      exact ⟨by (repeat (first | exact World.grows.refl _ | assumption | refine World.grows.alloc ?_ _ | refine World.grows.plus ?_ _ _ | refine World.grows.drew ?_)), hK _ _ (gT0.of (by (repeat (first | exact World.grows.refl _ | assumption | refine World.grows.alloc ?_ _ | refine World.grows.plus ?_ _ _ | refine World.grows.drew ?_)))) ⟨_, _, rfl, by simp, World.heap_at _ _ _ (by simp), rfl⟩ (by unfold kN0; simp)⟩
    · intro nc xc K hK
      go_simp
      exact ⟨by (repeat (first | exact World.grows.refl _ | assumption | refine World.grows.alloc ?_ _ | refine World.grows.plus ?_ _ _ | refine World.grows.drew ?_)), hK _ _ (gT0.of (by (repeat (first | exact World.grows.refl _ | assumption | refine World.grows.alloc ?_ _ | refine World.grows.plus ?_ _ _ | refine World.grows.drew ?_)))) ⟨_, _, rfl, by simp, World.heap_at _ _ _ (by simp), rfl⟩ (by unfold kN0; simp)⟩
    · rintro nc xc v0 ⟨us0, b, c, rfl, h1, h2, h3⟩ v1 ⟨us1, h4⟩ K hK
      obtain rfl : v1 = _ := h4
      refine goesO_store_row 62 (.tmp 7) (.tmp 15) rfl b c (thV s i) h2 (by rfl) (by rfl) (by kernel_rfl) (by rw [h3]; rfl) (thV_one s i) ⟨World.putObj_grows (World.grows_plus _ _ _) _ h1, hK _ _ (gT0.put h2 h3.symm) ?_ trivial⟩
      intro b' hb'
      cases hb'
      exact World.putObj_heap_same (World.lt_of_block h2)
  · intro val V gV hv hd
    have q0 : val 0 = .pointer (some ⟨x3, 0, none⟩) := hv 0 (by omega)
    have q1 : val 1 = .slice (some ⟨tb, tq, none⟩) s.nt sc := hv 1 (by omega)
    have q2 : val 2 = .int .i64 (i : Nat) := hv 2 (by omega)
    have q3 : val 3 = .pointer (some ⟨tb, tq + i * 3, none⟩) := hv 3 (by omega)
    have q4 : val 4 = .agg (thV s i) := hv 4 (by omega)
    have q5 : val 5 = .pointer (some ⟨x3, 0, none⟩) := hv 5 (by omega)
    have q6 : val 6 = .slice (some ⟨tb, tq, none⟩) s.nt sc := hv 6 (by omega)
    have q7 : val 7 = .int .i64 (k : Nat) := hv 7 (by omega)
    have q8 : val 8 = .pointer (some ⟨tb, tq + k * 3, none⟩) := hv 8 (by omega)
    have q9 : val 9 = .agg (thV s k) := hv 9 (by omega)
    obtain ⟨b7, c7, q10, s7, h7, -⟩ := hv 10 (by omega)
    obtain ⟨b8, c8, q11, s8, h8, z8⟩ := hv 11 (by omega)
    have h7' : V.heap[b7]? = some (.cells (thV s i) 62) := hv 12 (by omega) b7 (by show some (val 10) = _; rw [q10])
    have hne : b7 ≠ b8 := fun e => hd 10 11 (by omega) (by omega) (by omega) (.inl rfl) (.inr rfl) (by rw [q10, q11, e])
    rw [show List.range 13 = [0, 1, 2, 3, 4, 5, 6, 7, 8, 9, 10, 11, 12] from rfl]
    simp only [putL, List.getD_cons_zero, List.getD_cons_succ, q0, q1, q2, q3, q4, q5, q6, q7, q8, q9, q10, q11, List.drop_succ_cons, List.drop_zero, Act.put, List.setIfInBounds_toArray, List.set_cons_zero, List.set_cons_succ]
    clear hv hd q0 q1 q2 q3 q4 q5 q6 q7 q8 q9 q10 q11 h7 hb0 hci hck
    refine wpList_store_row rfl 62 (.tmp 8) (.tmp 20) rfl b8 c8 (thV s k) h8 (by rfl) (by rfl) (by kernel_rfl) (by rw [z8]; rfl) (thV_one s k) ?_
    refine wpList_nil ?_
    have gV4 : V2.grows (V.putObj b8 (.cells (thV s k) 62)) := World.putObj_grows gV _ s8
    have e7 : (V.putObj b8 (.cells (thV s k) 62)).heap[b7]? = some (.cells (thV s i) 62) := by rw [World.putObj_heap_other hne]; exact h7'
    have e8 : (V.putObj b8 (.cells (thV s k) 62)).heap[b8]? = some (.cells (thV s k) 62) := World.putObj_heap_same (World.lt_of_block h8)
    generalize V.putObj b8 (.cells (thV s k) 62) = V4 at gV4 e7 e8 ⊢
    have gw4 := g1.trans gV4
    have B4 := gV4.heap_of B
    clear h7' h8 gV s8 z8 s7 gV4 B g1
    simp only [Act.put]
    have a0 : V4.cell? ⟨b7, 0, none⟩ = some (.int .i64 (s.tk i)) := cell_of_heap e7 (i := 0) rfl
    have a1 : V4.cell? ⟨b7, 1, none⟩ = some (.int .i64 (s.tw i)) := cell_of_heap e7 (i := 1) rfl
    have a2 : V4.cell? ⟨b7, 2, none⟩ = some (.int .i64 (s.tg i)) := cell_of_heap e7 (i := 2) rfl
    have d0 : V4.cell? ⟨b8, 0, none⟩ = some (.int .i64 (s.tk k)) := cell_of_heap e8 (i := 0) rfl
    have d1 : V4.cell? ⟨b8, 1, none⟩ = some (.int .i64 (s.tw k)) := cell_of_heap e8 (i := 1) rfl
    have d2 : V4.cell? ⟨b8, 2, none⟩ = some (.int .i64 (s.tg k)) := cell_of_heap e8 (i := 2) rfl
    have x2 := cell_of_heap B4 (i := 2) rfl
    have HE7 := Lib.hid (show V4.heap[b7]? = some (.cells #[.int .i64 (s.tk i), .int .i64 (s.tw i), .int .i64 (s.tg i)] 62) from e7)
    have HE8 := Lib.hid (show V4.heap[b8]? = some (.cells #[.int .i64 (s.tk k), .int .i64 (s.tw k), .int .i64 (s.tg k)] 62) from e8)
    have HB4 := Lib.hid B4
    have HG4 := Lib.hid gw4
    have HS := Lib.hid (suits_far s i k)
    have HFar : Hid (farB s i k = (decide (i = k) || decide (s.wide < s.tw i - s.tw k) || decide (s.wide < s.tw k - s.tw i) || (!decide (s.tg i = s.tg k) && !decide (s.tg i = 0) && !decide (s.tg k = 0)))) := Lib.hid rfl
    clear e7 e8 B4 gw4 hne
    obtain ⟨wI, hwI⟩ : ∃ z, s.tw i = z := ⟨_, rfl⟩
    obtain ⟨wK, hwK⟩ : ∃ z, s.tw k = z := ⟨_, rfl⟩
    obtain ⟨gI, hgI⟩ : ∃ z, s.tg i = z := ⟨_, rfl⟩
    obtain ⟨gK, hgK⟩ : ∃ z, s.tg k = z := ⟨_, rfl⟩
    obtain ⟨wide, hwide⟩ : ∃ z, s.wide = z := ⟨_, rfl⟩
    obtain ⟨far, hfar⟩ : ∃ z, farB s i k = z := ⟨_, rfl⟩
    rw [hwI] at a1 HFar wi
    rw [hwK] at d1 HFar wk
    rw [hgI] at a2 HFar
    rw [hgK] at d2 HFar
    rw [hwide] at x2 HFar wd
    rw [hfar] at HFar HS
    have e1 : wrap64 (wI - wK) = wI - wK := by unfold wrap64; omega
    have e2 : wrap64 (wK - wI) = wK - wI := by unfold wrap64; omega
    clear hwI hwK hgI hgK hwide hfar
    go_upto_region 2 with fail
    go_cut [60] from 21 (fun z w' => z = .bool far ∧ w' = V4)
    case first =>
      by_cases h1 : i = k
      · have b1 : (((i : Nat) : Int) == ((k : Nat) : Int)) = true := beq_iff_eq.2 (by omega)
        have : far = true := by rw [HFar.out, decide_eq_true h1]; rfl
        subst this
        clear h1
        go_wp2
        go_meet
        exact ⟨rfl, rfl⟩
      · have b1 : (((i : Nat) : Int) == ((k : Nat) : Int)) = false := beq_eq_false_iff_ne.2 (by omega)
        by_cases h2 : wide < wI - wK
        · have : far = true := by rw [HFar.out, decide_eq_true h2]; simp
          subst this
          have b2 : decide (wide < wI - wK) = true := decide_eq_true h2
          clear h1
          go_wp2
          go_meet
          exact ⟨rfl, rfl⟩
        · have b2 : decide (wide < wI - wK) = false := decide_eq_false h2
          by_cases h3 : wide < wK - wI
          · have : far = true := by rw [HFar.out, decide_eq_true h3]; simp
            subst this
            have b3 : decide (wide < wK - wI) = true := decide_eq_true h3
            clear h1
            go_wp2
            go_meet
            exact ⟨rfl, rfl⟩
          · have b3 : decide (wide < wK - wI) = false := decide_eq_false h3
            by_cases h4 : gI = gK
            · have b4 : (gI != gK) = false := by rw [h4]; simp
              have : far = false := by rw [HFar.out, decide_eq_false h1, b2, b3, decide_eq_true h4]; rfl
              subst this
              clear h1 h4
              go_wp2
              go_meet
              exact ⟨rfl, rfl⟩
            · have b4 : (gI != gK) = true := by simp [h4]
              by_cases h5 : gI = 0
              · have b5 : (gI != 0) = false := by rw [h5]; simp
                have : far = false := by rw [HFar.out, decide_eq_false h1, b2, b3, decide_eq_true h5]; simp
                subst this
                clear h1 h4 h5
                go_wp2
                go_meet
                exact ⟨rfl, rfl⟩
              · have b5 : (gI != 0) = true := by simp [h5]
                by_cases h6 : gK = 0
                · have b6 : (gK != 0) = false := by rw [h6]; simp
                  have : far = false := by rw [HFar.out, decide_eq_false h1, b2, b3, decide_eq_true h6]; simp
                  subst this
                  clear h1 h4 h5 h6
                  go_wp2
                  go_meet
                  exact ⟨rfl, rfl⟩
                · have b6 : (gK != 0) = true := by simp [h6]
                  have : far = true := by rw [HFar.out, decide_eq_false h4, decide_eq_false h5, decide_eq_false h6]; simp
                  subst this
                  clear h1 h4 h5 h6
                  go_wp2
                  go_meet
                  exact ⟨rfl, rfl⟩
    case rest =>
      obtain ⟨rfl, rfl⟩ := hcut
      clear a1 a2 d1 d2 x2 e1 e2 HFar
      cases far with
      | true =>
        go_wp2
        (refine bodyPost_ret (v := .bool false) (by simp [results, Try.results41, go_sem]) rfl ?_)
        exact ⟨by rw [HS.out]; rfl, HG4.out.trans (by (repeat (first | exact World.grows.refl _ | assumption | refine World.grows.alloc ?_ _ | refine World.grows.plus ?_ _ _ | refine World.grows.drew ?_)))⟩
      | false =>
        have HS2 : Hid (s.suits i k = s.goes (s.tk i) (s.tk k)) := Lib.hid (by rw [HS.out]; rfl)
        clear HS
        obtain ⟨kI, hkI'⟩ : ∃ z, s.tk i = z := ⟨_, rfl⟩
        obtain ⟨kK, hkK'⟩ : ∃ z, s.tk k = z := ⟨_, rfl⟩
        rw [hkI', hkK'] at HS2
        rw [hkI'] at HE7
        rw [hkK'] at HE8
        clear hkI' hkK' a0 d0
        go_wp2
        go_loopw [9] (fun i9 wr => ∃ j : Nat, j ≤ s.nm ∧ i9 = .int .i64 (j : Nat) ∧ Hid (∀ q, q < j → ((decide (s.ma q = kI) && decide (s.mb q = kK)) || (decide (s.ma q = kK) && decide (s.mb q = kI))) = false) ∧ Hid (wc.grows wr)) (fun i9 _ => s.nm - (intOf i9).toNat)
        case atStart => exact ⟨0, by omega, rfl, Lib.hid (fun q hq => by omega), Lib.hid (World.grows.refl _)⟩
        case round =>
          obtain ⟨j, hj, rfl, hlo, hg⟩ := hrel
          have B5 := hg.out.heap_of HB4.out
          have x1 := cell_of_heap B5 (i := 1) rfl
          by_cases hlt : j < s.nm
          · have hltI : (j : Int) < s.nm := by omega
            obtain ⟨va', vc', he, -, -, hm⟩ := SliceAt.mono HM.out (HG4.out.trans hg.out)
            cases he
            obtain ⟨vb, vo, rfl, m0⟩ := hm j 0 hlt (by omega)
            obtain ⟨vb', vo', he', m1⟩ := hm j 1 hlt (by omega)
            cases he'
            replace m0 : wr.cell? ⟨vb, vo + j * 2, none⟩ = some (.int .i64 (s.ma j)) := m0
            replace m1 : wr.cell? ⟨vb, vo + j * 2 + 1, none⟩ = some (.int .i64 (s.mb j)) := m1
            have HT2 : Hid (((decide (s.ma j = kI) && decide (s.mb j = kK)) || (decide (s.ma j = kK) && decide (s.mb j = kI))) = true → s.goes kI kK = true) := Lib.hid fun h => by
              unfold Stk.goes
              exact List.any_eq_true.2 ⟨j, List.mem_range.2 hlt, h⟩
            have HN : Hid (((decide (s.ma j = kI) && decide (s.mb j = kK)) || (decide (s.ma j = kK) && decide (s.mb j = kI))) = false → ∀ q, q < j + 1 → ((decide (s.ma q = kI) && decide (s.mb q = kK)) || (decide (s.ma q = kK) && decide (s.mb q = kI))) = false) := Lib.hid fun h q hq => by
              by_cases e : q = j
              · subst e; exact h
              · exact hlo.out q (by omega)
            obtain ⟨p, hp⟩ : ∃ z, s.ma j = z := ⟨_, rfl⟩
            obtain ⟨q, hq⟩ : ∃ z, s.mb j = z := ⟨_, rfl⟩
            rw [hp, hq] at HT2 HN
            rw [hp] at m0
            rw [hq] at m1
            clear hm hp hq hlo
            go_upto_region 8 with fail
            obtain ⟨x10, hx10⟩ : ∃ x, wr.heap.size = x := ⟨_, rfl⟩
            have gN : wr.grows (wr.alloc (Obj.cells #[.int .i64 p, .int .i64 q] 63)) := by (repeat (first | exact World.grows.refl _ | assumption | refine World.grows.alloc ?_ _ | refine World.grows.plus ?_ _ _ | refine World.grows.drew ?_))
            have E10 := World.heap_at wr (Obj.cells #[.int .i64 p, .int .i64 q] 63) _ hx10.symm
            simp only [hx10]
            generalize wr.alloc (Obj.cells #[.int .i64 p, .int .i64 q] 63) = V5 at gN E10 ⊢
            have n0 := cell_of_heap E10 (i := 0) rfl
            have n1 := cell_of_heap E10 (i := 1) rfl
            have a0 := cell_of_heap (gN.heap_of (hg.out.heap_of HE7.out)) (i := 0) rfl
            have d0 := cell_of_heap (gN.heap_of (hg.out.heap_of HE8.out)) (i := 0) rfl
            have HG5 := Lib.hid (hg.out.trans gN)
            obtain ⟨mt, hmt⟩ : ∃ z, ((decide (p = kI) && decide (q = kK)) || (decide (p = kK) && decide (q = kI))) = z := ⟨_, rfl⟩
            rw [hmt] at HT2 HN
            have HM5 := Lib.hid hmt
            clear m0 m1 x1 B5 gN E10 hg hmt
            go_cut [98] from 73 to 99 (fun z w' => z = .bool mt ∧ w' = V5)
            case first =>
              by_cases h1 : p = kI
              · have b1 : (p == kI) = true := beq_iff_eq.2 h1
                by_cases h2 : q = kK
                · have b2 : (q == kK) = true := beq_iff_eq.2 h2
                  have : mt = true := by rw [← HM5.out, decide_eq_true h1, decide_eq_true h2]; rfl
                  subst this
                  clear h1 h2
                  go_wp2
                  go_meet
                  exact ⟨rfl, rfl⟩
                · have b2 : (q == kK) = false := beq_eq_false_iff_ne.2 h2
                  by_cases h3 : p = kK
                  · have b3 : (p == kK) = true := beq_iff_eq.2 h3
                    by_cases h4 : q = kI
                    · have : mt = true := by rw [← HM5.out, decide_eq_true h3, decide_eq_true h4]; simp
                      exact absurd (by rw [h4, ← h1, h3]) h2
                    · have b4 : (q == kI) = false := beq_eq_false_iff_ne.2 h4
                      have : mt = false := by rw [← HM5.out, decide_eq_false h2, decide_eq_false h4]; simp
                      subst this
                      clear h1 h2 h3 h4
                      go_wp2
                      go_meet
                      exact ⟨rfl, rfl⟩
                  · have b3 : (p == kK) = false := beq_eq_false_iff_ne.2 h3
                    have : mt = false := by rw [← HM5.out, decide_eq_false h2, decide_eq_false h3]; simp
                    subst this
                    clear h1 h2 h3
                    go_wp2
                    go_meet
                    exact ⟨rfl, rfl⟩
              · have b1 : (p == kI) = false := beq_eq_false_iff_ne.2 h1
                by_cases h3 : p = kK
                · have b3 : (p == kK) = true := beq_iff_eq.2 h3
                  by_cases h4 : q = kI
                  · have b4 : (q == kI) = true := beq_iff_eq.2 h4
                    have : mt = true := by rw [← HM5.out, decide_eq_true h3, decide_eq_true h4]; simp
                    subst this
                    clear h1 h3 h4
                    go_wp2
                    go_meet
                    exact ⟨rfl, rfl⟩
                  · have b4 : (q == kI) = false := beq_eq_false_iff_ne.2 h4
                    have : mt = false := by rw [← HM5.out, decide_eq_false h1, decide_eq_false h4]; simp
                    subst this
                    clear h1 h3 h4
                    go_wp2
                    go_meet
                    exact ⟨rfl, rfl⟩
                · have b3 : (p == kK) = false := beq_eq_false_iff_ne.2 h3
                  have : mt = false := by rw [← HM5.out, decide_eq_false h1, decide_eq_false h3]; simp
                  subst this
                  clear h1 h3
                  go_wp2
                  go_meet
                  exact ⟨rfl, rfl⟩
            case rest =>
              obtain ⟨rfl, rfl⟩ := hcut
              clear n0 n1 a0 d0 HM5
              cases mt with
              | true =>
                go_wp2
                (refine bodyPost_ret (v := .bool true) (by simp [results, Try.results41, go_sem]) rfl ?_)
                exact ⟨by rw [HS2.out, HT2.out (by simp)], HG4.out.trans (HG5.out.trans (by (repeat (first | exact World.grows.refl _ | assumption | refine World.grows.alloc ?_ _ | refine World.grows.plus ?_ _ _ | refine World.grows.drew ?_))))⟩
              | false =>
                go_wp2
                case roundEnd => exact ⟨⟨j + 1, by omega, by go_num, Lib.hid (HN.out rfl), HG5⟩, by simp [intOf]; omega⟩
          · have hltI : ¬ (j : Int) < s.nm := by omega
            have hX : Hid (s.goes kI kK = false) := Lib.hid (by
              unfold Stk.goes
              rw [← Bool.not_eq_true, List.any_eq_true]
              rintro ⟨q, hq, h⟩
              rw [hlo.out q (by have := List.mem_range.1 hq; omega)] at h
              cases h)
            clear hlo
            go_wp2
            (refine bodyPost_ret (v := .bool false) (by simp [results, Try.results41, go_sem]) rfl ?_)
            exact ⟨by rw [HS2.out, hX.out], HG4.out.trans (hg.out.trans (by (repeat (first | exact World.grows.refl _ | assumption | refine World.grows.alloc ?_ _ | refine World.grows.plus ?_ _ _ | refine World.grows.drew ?_))))⟩
end Go.Proofs.Yteingahlmlndkaa

/-
  What is proved: whether two things suit each other, by the definition, or the error (16).
-/
namespace Go.Proofs.Yteingahlmlndkaa
open Go.RowKit
attribute [local irreducible] Go.wpCalm rowV
end Go.Proofs.Yteingahlmlndkaa

/-
  What is proved: by the definition: whether a list of mates is right, and how many pairs it has (20).
-/
namespace Go.Proofs.Yteingahlmlndkaa
open Go.RowKit
attribute [local irreducible] Go.wpCalm rowV
theorem have_cov {s : Stk} {f : Nat → Int} (h1 : (List.range s.nt).any (badR s f) = false) (h2 : (List.range s.nt).all (okP s f) = true) : cntB (fun i => decide (f i ≠ -1)) s.nt = cov s.nt (mOf f s.nt) := by
  unfold cov
  refine cntB_congr fun i hi => ?_
  unfold cv
  refine decide_eq_decide.2 ?_
  rcases range_vals h1 hi with h | ⟨k, hk, hkn⟩
  · have : mOf f s.nt i = i := if_neg (by omega)
    rw [this]
    simp [h]
  · have e : mOf f s.nt i = k := by unfold mOf; rw [if_pos ⟨hi, by omega⟩, hk]; rfl
    rw [e]
    refine ⟨fun _ => ?_, fun _ => by omega⟩
    rintro rfl
    have h3 := List.all_eq_true.1 h2 k (List.mem_range.2 hi)
    unfold okP at h3
    rw [hk, decide_eq_false (by omega), Bool.false_or, Bool.and_eq_true] at h3
    have h4 : s.adj k k = true := by simpa using h3.2
    rw [s.adj_irr] at h4
    cases h4
set_option maxRecDepth 100000 in
set_option maxHeartbeats 4000000 in
theorem rpairing_ok (w : World) (v : Value) (s : Stk) (ht : StkAt w v s) (hok : s.Ok) (lv : Value) (m : Nat) (f : Nat → Int) (hl : IntsAt w lv m f) : Calls Try.prog 20 #[v, lv] w fun e w' => e = .returned (.tuple #[.int .i64 (pNum s f m : Nat), .int .i64 (pErr s f m : Nat)]) ∧ w.grows w' := by
  have Ht := Lib.hid ht
  have Hl := Lib.hid hl
  obtain ⟨tv, mv, rfl, ⟨sa, sc, rfl, s1, s2, -⟩, ⟨va, vc, rfl, -⟩⟩ := ht
  obtain ⟨la, lc, rfl, l1, l2, -⟩ := hl
  have h24 := fun W (g : w.grows W) => rcheck_c W _ s (Ht.out.mono g)
  simp only [(Stk.ok_iff s).2 hok] at h24
  have HB := Lib.hid (World.heap_at w (.cells #[.slice sa s.nt sc, .slice va s.nm vc, .int .i64 s.wide] 25) _ rfl)
  have HOk := Lib.hid hok
  have h16 := hok.n16
  unfold maxLen at l2
  clear hok
  go_enter Try.func20, Try.ntmps20
  go_wp2_with (go_at_call 99; fail)
  refine (h24 _ (by (repeat (first | exact World.grows.refl _ | assumption | refine World.grows.alloc ?_ _ | refine World.grows.plus ?_ _ _ | refine World.grows.drew ?_)))).mono ?_
  rintro e W1 ⟨rfl, g⟩
  have gW : w.grows W1 := World.grows.trans (by (repeat (first | exact World.grows.refl _ | assumption | refine World.grows.alloc ?_ _ | refine World.grows.plus ?_ _ _ | refine World.grows.drew ?_))) g
  have B1 := g.heap_of HB.out
  have HB1 := Lib.hid B1
  have HGW := Lib.hid gW
  have c0 := cell_of_heap B1 (i := 0) rfl
  clear g gW B1 h24
  by_cases hm : m = s.nt
  · subst hm
    have hBB : (((s.nt : Nat) : Int) == ((s.nt : Nat) : Int)) = true := by simp
    go_wp2
    go_loopw [6] (fun i6 wr => ∃ k : Nat, k ≤ s.nt ∧ i6 = .int .i64 (k : Nat) ∧ Hid (∀ j, j < k → badR s f j = false) ∧ Hid (W1.grows wr)) (fun i6 _ => s.nt - (intOf i6).toNat)
    case atStart => exact ⟨0, by omega, rfl, Lib.hid (fun j hj => by omega), Lib.hid (World.grows.refl _)⟩
    case round =>
      obtain ⟨k, hk, rfl, hlo, hg⟩ := hrel
      have B1 := hg.out.heap_of HB1.out
      have c0 := cell_of_heap B1 (i := 0) rfl; have c1 := cell_of_heap B1 (i := 1) rfl; have c2 := cell_of_heap B1 (i := 2) rfl
      have gW := HGW.out.trans hg.out
      by_cases hlt : k < s.nt
      · have hltI : (k : Int) < s.nt := by omega
        obtain ⟨la', lc', he, -, -, hc⟩ := IntsAt.mono Hl.out gW
        cases he
        obtain ⟨lb, lo, rfl, cx⟩ := hc k 0 hlt (by omega)
        simp only [Nat.mul_one, Nat.add_zero] at cx
        have HI : Hid (badR s f k = (!decide (f k = -1) && !s.isT (f k))) := Lib.hid rfl
        have HBAD : Hid (badR s f k = true → pErr s f s.nt = 3) := Lib.hid fun he => by
          unfold pErr
          rw [if_neg (by simp), if_pos (List.any_eq_true.2 ⟨k, List.mem_range.2 hlt, he⟩)]
        have HN : Hid (badR s f k = false → ∀ j, j < k + 1 → badR s f j = false) := Lib.hid fun h j hj => by
          by_cases e : j = k
          · subst e; exact h
          · exact hlo.out j (by omega)
        have h36 : ∀ W, wr.grows W → Calls Try.prog 36 #[.agg #[.slice sa s.nt sc, .slice va s.nm vc, .int .i64 s.wide], .int .i64 (f k)] W fun e w' => e = .returned (.bool (s.isT (f k))) ∧ W.grows w' := fun W g => is36_c W _ s (Ht.out.mono (gW.trans g)) (f k)
        obtain ⟨x, hx⟩ : ∃ x, f k = x := ⟨_, rfl⟩
        rw [hx] at cx HI h36
        clear hc hx hlo B1
        by_cases h1 : x = -1
        · have HX := Lib.hid (HN.out (by rw [HI.out, decide_eq_true h1]; rfl))
          subst h1
          clear HI HBAD HN h36
          go_wp2
          (refine wp_region_calm (by kernel_rfl) (by kernel_rfl) ?_; (repeat (refine wpCalm_step (fun K hK => ?_); go_simp; first | (refine hK _ ?_; clear hK K) | (apply Exists.intro; refine ⟨fun n' x' => ?_, hK _ ?_⟩; (fail); clear hK K))); refine wpCalm_nil ?_; intro nq xq)
          have g2 : W1.grows (wr.plus nq xq) := hg.out.trans (by (repeat (first | exact World.grows.refl _ | assumption | refine World.grows.alloc ?_ _ | refine World.grows.plus ?_ _ _ | refine World.grows.drew ?_)))
          have HG2 := Lib.hid g2
          clear g2
          go_wp2
          case roundEnd => exact ⟨⟨k + 1, by omega, by go_num, HX, HG2⟩, by simp [intOf]; omega⟩
        · have hB : (x == -1) = false := beq_eq_false_iff_ne.2 h1
          have hB2 : (x != -1) = true := by simp [h1]
          cases hT : s.isT x with
          | true =>
            have HX := Lib.hid (HN.out (by rw [HI.out, hT]; simp))
            rw [hT] at h36
            clear HI HBAD HN hT
            go_wp2
            (refine wp_region_calm (by kernel_rfl) (by kernel_rfl) ?_; (repeat (refine wpCalm_step (fun K hK => ?_); go_simp; first | (refine hK _ ?_; clear hK K) | (apply Exists.intro; refine ⟨fun n' x' => ?_, hK _ ?_⟩; (with_reducible exact h36 _ (by (repeat (first | exact World.grows.refl _ | assumption | refine World.grows.alloc ?_ _ | refine World.grows.plus ?_ _ _ | refine World.grows.drew ?_)))); clear hK K))); refine wpCalm_nil ?_; intro nq xq)
            have g2 : W1.grows (wr.plus nq xq) := hg.out.trans (by (repeat (first | exact World.grows.refl _ | assumption | refine World.grows.alloc ?_ _ | refine World.grows.plus ?_ _ _ | refine World.grows.drew ?_)))
            have HG2 := Lib.hid g2
            clear g2 h36
            go_wp2
            case roundEnd => exact ⟨⟨k + 1, by omega, by go_num, HX, HG2⟩, by simp [intOf]; omega⟩
          | false =>
            have HX := Lib.hid (HBAD.out (by rw [HI.out, hT, decide_eq_false h1]; rfl))
            rw [hT] at h36
            clear HI HBAD HN hT
            go_wp2
            (refine wp_region_calm (by kernel_rfl) (by kernel_rfl) ?_; (repeat (refine wpCalm_step (fun K hK => ?_); go_simp; first | (refine hK _ ?_; clear hK K) | (apply Exists.intro; refine ⟨fun n' x' => ?_, hK _ ?_⟩; (with_reducible exact h36 _ (by (repeat (first | exact World.grows.refl _ | assumption | refine World.grows.alloc ?_ _ | refine World.grows.plus ?_ _ _ | refine World.grows.drew ?_)))); clear hK K))); refine wpCalm_nil ?_; intro nq xq)
            have g2 : w.grows (wr.plus nq xq) := gW.trans (by (repeat (first | exact World.grows.refl _ | assumption | refine World.grows.alloc ?_ _ | refine World.grows.plus ?_ _ _ | refine World.grows.drew ?_)))
            clear h36
            go_wp2
            (refine bodyPost_ret (v := .tuple #[.int .i64 0, .int .i64 3]) (by simp [results, Try.results20, go_sem]) rfl ?_)
            unfold pNum
            rw [HX.out, if_neg (by omega)]
            exact ⟨rfl, g2.trans (by (repeat (first | exact World.grows.refl _ | assumption | refine World.grows.alloc ?_ _ | refine World.grows.plus ?_ _ _ | refine World.grows.drew ?_)))⟩
      · have hltI : ¬ (k : Int) < s.nt := by omega
        have hany : (List.range s.nt).any (badR s f) = false := by
          rw [← Bool.not_eq_true, List.any_eq_true]
          rintro ⟨j, hj, h⟩
          rw [hlo.out j (by have := List.mem_range.1 hj; omega)] at h
          cases h
        have HA := Lib.hid hany
        have HE : Hid (pErr s f s.nt = if (List.range s.nt).all (okP s f) = true then 0 else 16) := Lib.hid (by unfold pErr; rw [if_neg (by simp), if_neg (by rw [hany]; exact Bool.false_ne_true)])
        have HR : Hid (∀ i, i < s.nt → f i = -1 ∨ ∃ k : Nat, f i = (k : Nat) ∧ k < s.nt) := Lib.hid fun i hi => range_vals hany hi
        clear hany hlo B1
        obtain ⟨W2, rfl⟩ : ∃ W2, W2 = wr := ⟨_, rfl⟩
        have hg0 := hg.out
        have HG0 := Lib.hid hg0
        clear hg0 hg gW c1 c2
        go_wp2
        go_loopw [7, 8] (fun i7 i8 wr => ∃ k : Nat, k ≤ s.nt ∧ i8 = .int .i64 (k : Nat) ∧ i7 = .int .i64 (cntB (fun i => decide (f i ≠ -1)) k : Nat) ∧ Hid (∀ j, j < k → okP s f j = true) ∧ Hid (W1.grows wr)) (fun _ i8 _ => s.nt - (intOf i8).toNat)
        case atStart => exact ⟨0, by omega, rfl, rfl, Lib.hid (fun j hj => by omega), HG0⟩
        case round =>
          clear hk hlt hltI
          obtain ⟨k, hk, rfl, rfl, hlo, hg⟩ := hrel
          have gW := HGW.out.trans hg.out
          have hcl := cntB_le (fun i => decide (f i ≠ -1)) k
          have hcs : cntB (fun i => decide (f i ≠ -1)) (k + 1) = cntB (fun i => decide (f i ≠ -1)) k + if decide (f k ≠ -1) = true then 1 else 0 := rfl
          obtain ⟨c, hc⟩ : ∃ c, cntB (fun i => decide (f i ≠ -1)) k = c := ⟨_, rfl⟩
          rw [hc] at hcl hcs ⊢
          by_cases hlt : k < s.nt
          · have hltI : (k : Int) < s.nt := by omega
            obtain ⟨la', lc', he, -, -, hcl2⟩ := IntsAt.mono Hl.out gW
            cases he
            obtain ⟨lb, lo, rfl, cx⟩ := hcl2 k 0 hlt (by omega)
            simp only [Nat.mul_one, Nat.add_zero] at cx
            have HBAD : Hid (okP s f k = false → pErr s f s.nt = 16) := Lib.hid fun he => by
              rw [HE.out, if_neg]
              intro h
              have := List.all_eq_true.1 h k (List.mem_range.2 hlt)
              rw [he] at this; cases this
            clear hc
            rcases HR.out k hlt with hfk | ⟨u, hfk, hu⟩
            · have HX := Lib.hid (upto_succ hlo.out (show okP s f k = true by unfold okP; rw [decide_eq_true hfk]; rfl))
              have HN : Hid (cntB (fun i => decide (f i ≠ -1)) (k + 1) = c) := Lib.hid (by rw [hcs, if_neg (by simp [hfk])]; rfl)
              rw [hfk] at cx
              clear hcl2 hcs HBAD hlo hfk
              go_wp2
              case roundEnd => exact ⟨⟨k + 1, by omega, by go_num, by rw [HN.out], HX, hg⟩, by simp [intOf]; omega⟩
            · have huI : (u : Int) < s.nt := by omega
              obtain ⟨lb', lo', he', cu⟩ := hcl2 u 0 hu (by omega)
              cases he'
              simp only [Nat.mul_one, Nat.add_zero] at cu
              obtain ⟨z, hz⟩ : ∃ z, f u = z := ⟨_, rfl⟩
              have HI : Hid (okP s f k = (decide (z = (k : Nat)) && s.suits k u)) := Lib.hid (by
                unfold okP
                rw [hfk, decide_eq_false (by omega), Bool.false_or]
                show (decide (f u = _) && s.adj k u) = _
                rw [hz, Stk.adj_suits hlt hu])
              have HN : Hid (cntB (fun i => decide (f i ≠ -1)) (k + 1) = c + 1) := Lib.hid (by rw [hcs, if_pos (by simp; omega)])
              have hub : (((u : Nat) : Int) == -1) = false := beq_eq_false_iff_ne.2 (by omega)
              have B1 := hg.out.heap_of HB1.out
              have c0 := cell_of_heap B1 (i := 0) rfl; have c1 := cell_of_heap B1 (i := 1) rfl; have c2 := cell_of_heap B1 (i := 2) rfl
              have h41 : ∀ W, wr.grows W → Calls Try.prog 41 #[.agg #[.slice sa s.nt sc, .slice va s.nm vc, .int .i64 s.wide], .int .i64 (k : Nat), .int .i64 (u : Nat)] W fun e w' => e = .returned (.bool (s.suits k u)) ∧ W.grows w' := fun W g => suits_c W _ s (Ht.out.mono (gW.trans g)) HOk.out k u hlt hu
              rw [hfk] at cx
              rw [hz] at cu
              clear hcl2 hcs hz hfk B1
              by_cases hzk : z = (k : Nat)
              · have hzB : (z != (k : Nat)) = false := by simp [hzk]
                cases ha : s.suits k u with
                | true =>
                  have HX := Lib.hid (upto_succ hlo.out (show okP s f k = true by rw [HI.out, ha, decide_eq_true hzk]; rfl))
                  rw [ha] at h41
                  subst hzk
                  clear HI HBAD hlo ha
                  go_wp2
                  (refine wp_region_calm (by kernel_rfl) (by kernel_rfl) ?_; (repeat (refine wpCalm_step (fun K hK => ?_); go_simp; first | (refine hK _ ?_; clear hK K) | (apply Exists.intro; refine ⟨fun n' x' => ?_, hK _ ?_⟩; (with_reducible exact h41 _ (by (repeat (first | exact World.grows.refl _ | assumption | refine World.grows.alloc ?_ _ | refine World.grows.plus ?_ _ _ | refine World.grows.drew ?_)))); clear hK K))); refine wpCalm_nil ?_; intro nq xq)
                  have g2 : W1.grows (wr.plus nq xq) := hg.out.trans (by (repeat (first | exact World.grows.refl _ | assumption | refine World.grows.alloc ?_ _ | refine World.grows.plus ?_ _ _ | refine World.grows.drew ?_)))
                  have HG2 := Lib.hid g2
                  clear g2 h41
                  go_wp2
                  case roundEnd => exact ⟨⟨k + 1, by omega, by go_num, by rw [HN.out]; go_num, HX, HG2⟩, by simp [intOf]; omega⟩
                | false =>
                  have HX := Lib.hid (HBAD.out (by rw [HI.out, ha, Bool.and_false]))
                  rw [ha] at h41
                  subst hzk
                  clear HI HBAD hlo ha HN
                  go_wp2
                  (refine wp_region_calm (by kernel_rfl) (by kernel_rfl) ?_; (repeat (refine wpCalm_step (fun K hK => ?_); go_simp; first | (refine hK _ ?_; clear hK K) | (apply Exists.intro; refine ⟨fun n' x' => ?_, hK _ ?_⟩; (with_reducible exact h41 _ (by (repeat (first | exact World.grows.refl _ | assumption | refine World.grows.alloc ?_ _ | refine World.grows.plus ?_ _ _ | refine World.grows.drew ?_)))); clear hK K))); refine wpCalm_nil ?_; intro nq xq)
                  have g2 : w.grows (wr.plus nq xq) := gW.trans (by (repeat (first | exact World.grows.refl _ | assumption | refine World.grows.alloc ?_ _ | refine World.grows.plus ?_ _ _ | refine World.grows.drew ?_)))
                  clear h41
                  go_wp2
                  (refine bodyPost_ret (v := .tuple #[.int .i64 0, .int .i64 16]) (by simp [results, Try.results20, go_sem]) rfl ?_)
                  unfold pNum
                  rw [HX.out, if_neg (by omega)]
                  exact ⟨rfl, g2.trans (by (repeat (first | exact World.grows.refl _ | assumption | refine World.grows.alloc ?_ _ | refine World.grows.plus ?_ _ _ | refine World.grows.drew ?_)))⟩
              · have hzB : (z != (k : Nat)) = true := by simp [hzk]
                have HX := Lib.hid (HBAD.out (by rw [HI.out, decide_eq_false hzk]; rfl))
                clear HI HBAD hlo hzk HN h41
                go_wp2
                (refine wp_region_calm (by kernel_rfl) (by kernel_rfl) ?_; (repeat (refine wpCalm_step (fun K hK => ?_); go_simp; first | (refine hK _ ?_; clear hK K) | (apply Exists.intro; refine ⟨fun n' x' => ?_, hK _ ?_⟩; (fail); clear hK K))); refine wpCalm_nil ?_; intro nq xq)
                have g2 : w.grows (wr.plus nq xq) := gW.trans (by (repeat (first | exact World.grows.refl _ | assumption | refine World.grows.alloc ?_ _ | refine World.grows.plus ?_ _ _ | refine World.grows.drew ?_)))
                go_wp2
                (refine bodyPost_ret (v := .tuple #[.int .i64 0, .int .i64 16]) (by simp [results, Try.results20, go_sem]) rfl ?_)
                unfold pNum
                rw [HX.out, if_neg (by omega)]
                exact ⟨rfl, g2.trans (by (repeat (first | exact World.grows.refl _ | assumption | refine World.grows.alloc ?_ _ | refine World.grows.plus ?_ _ _ | refine World.grows.drew ?_)))⟩
          · have hltI : ¬ (k : Int) < s.nt := by omega
            have hkn : k = s.nt := by omega
            have hall : (List.range s.nt).all (okP s f) = true := List.all_eq_true.2 fun j hj => hlo.out j (by have := List.mem_range.1 hj; omega)
            have h0 : pErr s f s.nt = 0 := by rw [HE.out, if_pos hall]
            have hcv := have_cov HA.out hall
            rw [hkn] at hc
            have HN : Hid (pNum s f s.nt = c / 2) := Lib.hid (by unfold pNum; rw [if_pos h0, ← hcv, hc])
            have HE0 := Lib.hid h0
            have hdiv : Int.tdiv ((c : Nat) : Int) 2 = ((c / 2 : Nat) : Int) := by rw [Int.tdiv_eq_ediv_of_nonneg (by omega)]; omega
            obtain ⟨N, hNN⟩ : ∃ N, c / 2 = N := ⟨_, rfl⟩
            rw [hNN] at HN hdiv
            have hNb : N ≤ 16 := by omega
            clear hall h0 hcv hc hcs hkn hlo hNN
            go_wp2
            (refine bodyPost_ret (v := .tuple #[.int .i64 (N : Nat), .int .i64 0]) (by simp [results, Try.results20, go_sem]) rfl ?_)
            rw [HN.out, HE0.out]
            exact ⟨rfl, gW.trans (by (repeat (first | exact World.grows.refl _ | assumption | refine World.grows.alloc ?_ _ | refine World.grows.plus ?_ _ _ | refine World.grows.drew ?_)))⟩
  · have hmB : (((m : Nat) : Int) == ((s.nt : Nat) : Int)) = false := by rw [beq_eq_false_iff_ne]; omega
    have hmI : ¬ (m : Int) = (s.nt : Nat) := by omega
    have HE : Hid (pErr s f m = 15) := Lib.hid (if_pos hm)
    clear hm
    go_wp2
    (refine bodyPost_ret (v := .tuple #[.int .i64 0, .int .i64 15]) (by simp [results, Try.results20, go_sem]) rfl ?_)
    unfold pNum
    rw [HE.out, if_neg (by omega)]
    exact ⟨rfl, HGW.out.trans (by (repeat (first | exact World.grows.refl _ | assumption | refine World.grows.alloc ?_ _ | refine World.grows.plus ?_ _ _ | refine World.grows.drew ?_)))⟩
end Go.Proofs.Yteingahlmlndkaa

/-
  What is proved: whether two lists of lists are equal (25).
-/
namespace Go.Proofs.Yteingahlmlndkaa
open Go.RowKit
attribute [local irreducible] Go.wpCalm
/-- rows of numbers -/
def RowsN (w : World) (v : Value) (n : Nat) (len : Nat → Nat) (f : Nat → Nat → Int) : Prop := ∃ row : Nat → Value, SliceAt w v n 1 (fun i _ => row i) ∧ ∀ i, i < n → IntsAt w (row i) (len i) (f i)
def eqR (len len' : Nat → Nat) (f g : Nat → Nat → Int) (i : Nat) : Bool := decide (len i = len' i) && eqL (f i) (g i) (len i)
set_option maxHeartbeats 2000000 in
theorem lists_c (w : World) (av bv : Value) (n m : Nat) (len len' : Nat → Nat) (f g : Nat → Nat → Int) (ha : RowsN w av n len f) (hb : RowsN w bv m len' g) :
    Calls Try.prog 25 #[av, bv] w fun e w' => e = .returned (.bool (decide (n = m) && (List.range n).all (eqR len len' f g))) ∧ w.grows w' := by
  obtain ⟨ra, ⟨aa, ac, rfl, a1, a2, ha⟩, ra2⟩ := ha
  obtain ⟨rb, ⟨ba, bc, rfl, b1, b2, hb⟩, rb2⟩ := hb
  have HA := Lib.hid ra2
  have HB := Lib.hid rb2
  clear ra2 rb2
  unfold maxLen at a2 b2
  go_enter Try.func25, Try.ntmps25
  by_cases hn : n = m
  · subst hn
    go_wp2
    go_loopw [5] (fun i wr => ∃ k : Nat, k ≤ n ∧ i = .int .i64 k ∧ Hid (∀ j, j < k → eqR len len' f g j = true) ∧ w.grows wr) (fun i _ => n - (intOf i).toNat)
    case atStart => exact ⟨0, by omega, rfl, Lib.hid fun j hj => by omega, by (repeat (first | exact World.grows.refl _ | assumption | refine World.grows.alloc ?_ _ | refine World.grows.plus ?_ _ _ | refine World.grows.drew ?_))⟩
    case round =>
      obtain ⟨k, hk, rfl, hl, hg⟩ := hrel
      by_cases hlt : k < n
      · obtain ⟨b, o, rfl, h0⟩ := ha k 0 hlt (by omega)
        obtain ⟨b', o', rfl, h1⟩ := hb k 0 hlt (by omega)
        simp only [Nat.mul_one, Nat.add_zero] at h0 h1
        replace h0 := hg.cell_of h0
        replace h1 := hg.cell_of h1
        have h34 : ∀ W, wr.grows W → Calls Try.prog 34 #[ra k, rb k] W fun e w' => e = .returned (.bool (eqR len len' f g k)) ∧ W.grows w' := fun W gW => ints_c W (ra k) (rb k) _ _ _ _ ((HA.out k hlt).mono (hg.trans gW)) ((HB.out k hlt).mono (hg.trans gW))
        cases he : eqR len len' f g k with
        | true =>
          rw [he] at h34
          have hnx := Lib.hid (upto_succ hl.out he)
          clear he
          go_wp2
          (refine wp_region_calm (by kernel_rfl) (by kernel_rfl) ?_; (repeat (refine wpCalm_step (fun K hK => ?_); go_simp; first | (refine hK _ ?_; clear hK K) | (apply Exists.intro; refine ⟨fun n' x' => ?_, hK _ ?_⟩; (with_reducible exact h34 _ (by (repeat (first | exact World.grows.refl _ | assumption | refine World.grows.alloc ?_ _ | refine World.grows.plus ?_ _ _ | refine World.grows.drew ?_)))); clear hK K))); refine wpCalm_nil ?_; intro nq xq)
          have g2 : w.grows (wr.plus nq xq) := hg.trans (by (repeat (first | exact World.grows.refl _ | assumption | refine World.grows.alloc ?_ _ | refine World.grows.plus ?_ _ _ | refine World.grows.drew ?_)))
          generalize wr.plus nq xq = W2 at g2 ⊢
          clear h0 h1 h34
          go_wp2
          case roundEnd => exact ⟨⟨k + 1, by omega, by go_num, hnx, g2⟩, by simp [intOf]; omega⟩
        | false =>
          rw [he] at h34
          have hx : Hid ((List.range n).all (eqR len len' f g) = false) := Lib.hid (by
            rw [← Bool.not_eq_true, List.all_eq_true]
            intro h
            have := h k (List.mem_range.2 hlt)
            rw [he] at this; cases this)
          clear he
          go_wp2
          (refine wp_region_calm (by kernel_rfl) (by kernel_rfl) ?_; (repeat (refine wpCalm_step (fun K hK => ?_); go_simp; first | (refine hK _ ?_; clear hK K) | (apply Exists.intro; refine ⟨fun n' x' => ?_, hK _ ?_⟩; (with_reducible exact h34 _ (by (repeat (first | exact World.grows.refl _ | assumption | refine World.grows.alloc ?_ _ | refine World.grows.plus ?_ _ _ | refine World.grows.drew ?_)))); clear hK K))); refine wpCalm_nil ?_; intro nq xq)
          have g2 : w.grows (wr.plus nq xq) := hg.trans (by (repeat (first | exact World.grows.refl _ | assumption | refine World.grows.alloc ?_ _ | refine World.grows.plus ?_ _ _ | refine World.grows.drew ?_)))
          generalize wr.plus nq xq = W2 at g2 ⊢
          clear h0 h1 h34
          go_wp2
          (refine bodyPost_ret (v := .bool false) (by simp [results, Try.results25, go_sem]) rfl ?_)
          exact ⟨by simp [hx.out], g2⟩
      · have hke : k = n := by omega
        subst hke
        have hx : Hid ((List.range k).all (eqR len len' f g) = true) := Lib.hid (List.all_eq_true.2 fun j hj => hl.out j (List.mem_range.1 hj))
        go_wp2
        (refine bodyPost_ret (v := .bool true) (by simp [results, Try.results25, go_sem]) rfl ?_)
        exact ⟨by simp [hx.out], hg.trans (by (repeat (first | exact World.grows.refl _ | assumption | refine World.grows.alloc ?_ _ | refine World.grows.plus ?_ _ _ | refine World.grows.drew ?_)))⟩
  · have hn' : ¬ (n : Int) = (m : Int) := by omega
    have hnb : ((n : Int) == (m : Int)) = false := beq_eq_false_iff_ne.2 hn'
    go_wp2
    (refine bodyPost_ret (v := .bool false) (by simp [results, Try.results25, go_sem]) rfl ?_)
    exact ⟨by simp [hn], by (repeat (first | exact World.grows.refl _ | assumption | refine World.grows.alloc ?_ _ | refine World.grows.plus ?_ _ _ | refine World.grows.drew ?_))⟩
end Go.Proofs.Yteingahlmlndkaa

/-
  What is proved: how many pairs a list of mates has, by the definition (68); a kind (69).
-/
namespace Go.Proofs.Yteingahlmlndkaa
open Go.RowKit
attribute [local irreducible] Go.wpCalm
def kindE (a b : Int) : Int := if a = b then 2 else if 0 < a then 1 else 0
end Go.Proofs.Yteingahlmlndkaa

/-
  What is proved: the examples' thing (42) and stock (44).
-/
namespace Go.Proofs.Yteingahlmlndkaa
open Go.RowKit
attribute [local irreducible] Go.wpCalm
set_option maxHeartbeats 1000000 in
theorem thing_c (w : World) (a b c : Int) : Calls Try.prog 42 #[.int .i64 a, .int .i64 b, .int .i64 c] w fun e w' => e = .returned (.agg #[.int .i64 a, .int .i64 b, .int .i64 c]) ∧ w.grows w' := by
  go_enter Try.func42, Try.ntmps42
  go_wp2
  refine bodyPost_ret (v := .agg #[.int .i64 a, .int .i64 b, .int .i64 c]) (by simp [results, Try.results42, go_sem]) rfl ?_
  exact ⟨rfl, by (repeat (first | exact World.grows.refl _ | assumption | refine World.grows.alloc ?_ _ | refine World.grows.plus ?_ _ _ | refine World.grows.drew ?_))⟩
/-- the examples' stock -/
def exS : Stk where
  nt := 7
  nm := 2
  wide := 5
  tk := fun i => if i = 0 then 1 else if i = 1 then 2 else if i = 2 then 2 else 3
  tw := fun i => if i = 0 then 50 else if i = 1 then 52 else if i = 2 then 55 else if i = 3 then 20 else if i = 4 then 21 else if i = 5 then 22 else 24
  tg := fun i => if i = 3 then 1 else if i = 4 then 1 else if i = 6 then 2 else 0
  ma := fun i => if i = 0 then 1 else 3
  mb := fun i => if i = 0 then 2 else 3
set_option maxHeartbeats 2000000 in
theorem stock_c (w : World) : Calls Try.prog 44 #[] w fun e w' => ∃ v, e = .returned v ∧ StkAt w' v exS ∧ w.grows w' := by
  go_enter Try.func44, Try.ntmps44
  go_wp2_with (go_at_call 99; fail)
  refine (thing_c _ _ _ _).mono ?_
  rintro e W1 ⟨rfl, g1⟩
  have B := g1.heap_of (World.grows.heap_of (by (repeat (first | exact World.grows.refl _ | assumption | refine World.grows.alloc ?_ _ | refine World.grows.plus ?_ _ _ | refine World.grows.drew ?_))) (World.heap_at w (.cells #[.slice none 0 0, .slice none 0 0, .int .i64 0] 25) _ rfl))
  have S := g1.heap_of (World.heap_at (w.alloc (.cells #[.slice none 0 0, .slice none 0 0, .int .i64 0] 25)) (.cells #[.int .i64 1, .int .i64 2, .int .i64 3, .int .i64 3] 63) (w.heap.size + 1) (by simp))
  have G := World.grows.trans (show w.grows _ by (repeat (first | exact World.grows.refl _ | assumption | refine World.grows.alloc ?_ _ | refine World.grows.plus ?_ _ _ | refine World.grows.drew ?_))) g1
  obtain ⟨sb, hsb⟩ : ∃ sb, w.heap.size + 1 = sb := ⟨_, rfl⟩
  simp only [hsb] at S ⊢
  clear g1
  go_wp2_with (go_at_call 99; fail)
  refine (thing_c _ _ _ _).mono ?_
  rintro e W2 ⟨rfl, g2⟩
  go_wp2_with (go_at_call 99; fail)
  refine (thing_c _ _ _ _).mono ?_
  rintro e W3 ⟨rfl, g3⟩
  go_wp2_with (go_at_call 99; fail)
  refine (thing_c _ _ _ _).mono ?_
  rintro e W4 ⟨rfl, g4⟩
  go_wp2_with (go_at_call 99; fail)
  refine (thing_c _ _ _ _).mono ?_
  rintro e W5 ⟨rfl, g5⟩
  go_wp2_with (go_at_call 99; fail)
  refine (thing_c _ _ _ _).mono ?_
  rintro e W6 ⟨rfl, g6⟩
  go_wp2_with (go_at_call 99; fail)
  refine (thing_c _ _ _ _).mono ?_
  rintro e W7 ⟨rfl, g7⟩
  have g := (((((g2.trans g3).trans g4).trans g5).trans g6).trans g7)
  replace B := g.heap_of B
  replace S := g.heap_of S
  replace G := G.trans g
  clear g2 g3 g4 g5 g6 g7 g
  have c0 := cell_of_heap (i := 0) B rfl
  have c1 := cell_of_heap (i := 1) B rfl
  have c2 := cell_of_heap (i := 2) B rfl
  have f0 := frozen_of_heap B 0
  have f1 := frozen_of_heap B 1
  have f2 := frozen_of_heap B 2
  have hb7 := World.lt_of_block B
  go_wp2
  have E := store_of_heap (store_of_heap (store_of_heap B 0 (.slice (some ⟨W7.heap.size, 0, none⟩) 7 7)) 1 (.slice (some ⟨sb, 0, none⟩) 2 2)) 2 (.int .i64 5)
  have S2 : (((W7.setCell ⟨w.heap.size, 0, none⟩ (.slice (some ⟨W7.heap.size, 0, none⟩) 7 7)).setCell ⟨w.heap.size, 1, none⟩ (.slice (some ⟨sb, 0, none⟩) 2 2)).setCell ⟨w.heap.size, 2, none⟩ (.int .i64 5)).heap[sb]? = some (.cells #[.int .i64 1, .int .i64 2, .int .i64 3, .int .i64 3] 63) := by
    rw [World.heap_setCell_map _ _ _ _ (show w.heap.size ≠ sb by omega), World.heap_setCell_map _ _ _ _ (show w.heap.size ≠ sb by omega), World.heap_setCell_map _ _ _ _ (show w.heap.size ≠ sb by omega)]
    exact S
  have GU := ((G.setCell (p := ⟨w.heap.size, 0, none⟩) (Nat.le_refl _) (.slice (some ⟨W7.heap.size, 0, none⟩) 7 7)).setCell (p := ⟨w.heap.size, 1, none⟩) (Nat.le_refl _) (.slice (some ⟨sb, 0, none⟩) 2 2)).setCell (p := ⟨w.heap.size, 2, none⟩) (Nat.le_refl _) (.int .i64 5)
  have hUs : W7.heap.size = (((W7.setCell ⟨w.heap.size, 0, none⟩ (.slice (some ⟨W7.heap.size, 0, none⟩) 7 7)).setCell ⟨w.heap.size, 1, none⟩ (.slice (some ⟨sb, 0, none⟩) 2 2)).setCell ⟨w.heap.size, 2, none⟩ (.int .i64 5)).heap.size := by simp
  obtain ⟨tb, htb⟩ : ∃ tb, W7.heap.size = tb := ⟨_, rfl⟩
  rw [htb] at E S2 GU hUs ⊢
  generalize World.setCell _ _ _ = U at E S2 GU hUs ⊢
  have gU : U.grows (U.alloc (.cells #[.int .i64 1, .int .i64 50, .int .i64 0, .int .i64 2, .int .i64 52, .int .i64 0, .int .i64 2, .int .i64 55, .int .i64 0, .int .i64 3, .int .i64 20, .int .i64 1, .int .i64 3, .int .i64 21, .int .i64 1, .int .i64 3, .int .i64 22, .int .i64 0, .int .i64 3, .int .i64 24, .int .i64 2] 62)) := by (repeat (first | exact World.grows.refl _ | assumption | refine World.grows.alloc ?_ _ | refine World.grows.plus ?_ _ _ | refine World.grows.drew ?_))
  have T := World.heap_at U (.cells #[.int .i64 1, .int .i64 50, .int .i64 0, .int .i64 2, .int .i64 52, .int .i64 0, .int .i64 2, .int .i64 55, .int .i64 0, .int .i64 3, .int .i64 20, .int .i64 1, .int .i64 3, .int .i64 21, .int .i64 1, .int .i64 3, .int .i64 22, .int .i64 0, .int .i64 3, .int .i64 24, .int .i64 2] 62) tb hUs
  replace E := gU.heap_of E
  replace S2 := gU.heap_of S2
  replace GU := GU.trans gU
  generalize World.alloc _ _ = F at E S2 GU T ⊢
  have e0 := cell_of_heap (v := .slice (some ⟨tb, 0, none⟩) 7 7) (i := 0) E rfl
  have e1 := cell_of_heap (v := .slice (some ⟨sb, 0, none⟩) 2 2) (i := 1) E rfl
  have e2 := cell_of_heap (v := .int .i64 5) (i := 2) E rfl
  refine bodyPost_ret (v := .agg #[.slice (some ⟨tb, 0, none⟩) 7 7, .slice (some ⟨sb, 0, none⟩) 2 2, .int .i64 5]) (by simp [results, Try.results44, go_sem, e0, e1, e2]) rfl ?_
  refine ⟨_, rfl, ⟨_, _, rfl, ⟨_, _, rfl, Nat.le_refl _, by unfold maxLen; omega, fun i j hi hj => ⟨_, _, rfl, ?_⟩⟩, ⟨_, _, rfl, Nat.le_refl _, by unfold maxLen; omega, fun i j hi hj => ⟨_, _, rfl, ?_⟩⟩⟩, GU⟩
  · have hi : i < 7 := hi
    refine cell_of_heap T ?_
    rcases (by omega : i = 0 ∨ i = 1 ∨ i = 2 ∨ i = 3 ∨ i = 4 ∨ i = 5 ∨ i = 6) with rfl | rfl | rfl | rfl | rfl | rfl | rfl <;> rcases (by omega : j = 0 ∨ j = 1 ∨ j = 2) with rfl | rfl | rfl <;> rfl
  · have hi : i < 2 := hi
    refine cell_of_heap S2 ?_
    rcases (by omega : i = 0 ∨ i = 1) with rfl | rfl <;> rcases (by omega : j = 0 ∨ j = 1) with rfl | rfl <;> rfl
end Go.Proofs.Yteingahlmlndkaa

/-
  What is proved: a law's row, from a contract that says that the call returns true in a world that has only grown.
-/
namespace Go
open Go.ChangeShapes Go.WideShapes Go.ChangeAt Go.RowKit

theorem trodAll_stays {H : Type} {enc : TypeId × Value → H} {P : Program} (hl : laidOutB P = true) {W W' : World} (hb : Below W.heap.size W W') :
    ∀ {ts : List TypeId} {vs : List Value} {ds : List (DataW H)} {ps : List MemPlace}, (∀ t ∈ ts, P.readableRec t = true ∧ t < P.types.size) →
      DataW.TrodAll enc P W 0 (fun _ => true) true ts vs ds ps → (∀ x ∈ ps, x.block < W.heap.size) → DataW.TrodAll enc P W' 0 (fun b => decide (b < W.heap.size)) true ts vs ds ps
  | [], vs, ds, ps, _, h, _ => by
    obtain ⟨rfl, rfl, rfl⟩ := trodAll_nil h
    rfl
  | t :: ts, vs, ds, ps, ht, h, hlt => by
    match vs, ds, h with
    | v :: vs, d :: ds, ⟨p, q, h1, h2, hp⟩ =>
      subst hp
      exact ⟨p, q, Below.trod hl (ht t (by simp)).1 (ht t (by simp)).2 h1 hb (fun x hx => hlt x (by simp [hx])),
        trodAll_stays hl hb (fun t' h' => ht t' (by simp [h'])) h2 (fun x hx => hlt x (by simp [hx])), rfl⟩

theorem trodAll_len {H : Type} {enc : TypeId × Value → H} {P : Program} {w : World} {base : Nat} {spare : Nat → Bool} {held : Bool} :
    ∀ {ts : List TypeId} {vs : List Value} {ds : List (DataW H)} {ps : List MemPlace}, DataW.TrodAll enc P w base spare held ts vs ds ps → ds.length = ts.length
  | [], vs, ds, ps, h => by
    obtain ⟨rfl, rfl, rfl⟩ := trodAll_nil h
    rfl
  | t :: ts, vs, ds, ps, h => by
    match vs, ds, h with
    | v :: vs, d :: ds, ⟨p, q, h1, h2, hp⟩ =>
      simp only [List.length_cons]
      rw [trodAll_len h2]

theorem law_lifted {C : Checked} {f : FuncId} {fn : Func} {s : ChangeSpec} {tb : TypeId} {conds : List PathCond} {os : Os} (started : os.Started) {H : Type} {enc : TypeId × Value → H}
    (own : ownKnob C.prog.godebug = none) (hl : laidOutB C.prog = true) (noInit : C.prog.inits.idxOf? f = none) (hfn : C.prog.funcs[f]? = some fn)
    (hts : ∀ t ∈ fn.params.toList, C.prog.readableRec t = true ∧ t < C.prog.types.size)
    (witness : ∃ (w : World) (tape : Tape) (i : Input), w.os = os ∧ (w.forCall tape i).Shaped C.prog ∧ i.vars = [] ∧ Input.okWide C.prog (w.forCall tape i) .any w.heap.size f i ∧
      s.pre6 enc C.prog fn conds false (w.forCall tape i).memory i.args ∧ ({} : Assume).holds C.prog (lone (Frame.enter C.prog f i.args .normal) [] (w.forCall tape i)))
    (hres : fn.resultTypes = #[tb]) (hb : C.prog.underlying tb = some .bool) (hvars : s.vars = [])
    (hspec : ∀ ds : List (DataW H), ds.length = fn.params.size → (s.fn H ds).results = [.lit (.bool true)] ∧ (s.fn H ds).args = ds ∧ (s.fn H ds).vars = [])
    (walk : ∀ (W : World) (base : Nat) (args : Array Value) (ds : List (DataW H)) (ps : List MemPlace),
      (∀ (j : Nat) t v, fn.params[j]? = some t → args[j]? = some v → Value.okWide C.prog W .any base t v) →
      DataW.TrodAll enc C.prog W 0 (fun _ => true) true fn.params.toList args.toList ds ps →
      Calls C.prog f args W fun e W' => e = .returned (.bool true) ∧ W.grows W') :
    ReturnsInHanded {} C os f .any (s.pre6 enc C.prog fn conds false) (s.post enc C.prog fn false true false false) := by
  refine returnsInHanded_of_change own started noInit hfn witness ?_
  intro W base args ds gs before hval hW _ _
  have hW' := hW
  obtain ⟨p, q, hA, hV, rfl, _, _⟩ := hW
  rw [hvars] at hV
  obtain ⟨rfl, rfl⟩ := trodVars_none hV
  have hlt : ∀ x ∈ p, x.block < W.heap.size := fun x hx => by simpa using hW'.lt x (by simp [hx])
  have hlen : ds.length = fn.params.size := by simpa using trodAll_len hA
  obtain ⟨s1, s2, s3⟩ := hspec ds hlen
  refine (walk W base args ds p hval hA).mono fun e W' ⟨he, hg⟩ => ?_
  subst he
  refine ⟨_, rfl, ds, [], p ++ [], [], p, [], hW', ?_, ?_, ?_, hg.frame _, fun h => by cases h⟩
  · rw [List.append_nil, s1, hres]
    exact trodAll_mk1 (shut_bool hb _)
  · rw [List.append_nil, s2]
    exact trodAll_stays hl hg hts hA hlt
  · rw [List.append_nil, s3, hvars]
    rfl

end Go

/-
  What is proved: what a call is handed (slices of anything, structs), read as tables of cells.
-/
namespace Go
open Go.ChangeShapes Go.WideShapes Go.ChangeAt Go.RowKit Go.Deep

section
variable {H : Type} {enc : TypeId × Value → H} {P : Program} {w : World} {base : Nat} {held : Bool}

theorem add_spot (b o k : Nat) : (Addr.add ⟨b, o, none⟩ k) = ⟨b, o + k, none⟩ := by
  unfold Addr.add
  by_cases h : k = 0 <;> simp [h]

/-- the cells of a row -/
def cellsOfRow (c : Nat → Value) (sz : Nat) : List Value := (List.range sz).map c

theorem sliceAt_open {t e : TypeId} {fuel sz : Nat} {v : Value} {x : DataW H × List MemPlace} (ht : P.underlying t = some (.slice e)) (hc : P.cellsOf e = sz)
    (h : DataW.trod enc P w base (fun _ => true) held fuel t [v] = some x) :
    ∃ (m n : Nat) (c : Nat → Nat → Value), SliceAt w v m sz c ∧ ∀ i, i < m → ∃ y, DataW.trod enc P w base (fun _ => true) held n e (cellsOfRow (c i) sz) = some y := by
  rcases open_slice ht h with ⟨h1, h2⟩ | ⟨a, len, cap, m, n, D, Pl, hcs, hb, hl, hm, hmm, hx, hr⟩
  · obtain rfl : v = .slice none 0 0 := by simpa using h1
    exact ⟨0, 0, fun _ _ => default, SliceAt.none, fun i hi => absurd hi (by omega)⟩
  · obtain rfl : v = .slice (some a) len cap := by simpa using hcs
    simp only [if_true] at hmm
    subst hmm
    rw [hc] at hr
    obtain ⟨cs, hcsx⟩ := choose_lt (α := List Value) hr
    refine ⟨len, n, fun i j => (cs i).getD j default, ⟨some a, m, rfl, hl, hm, fun i j hi hj => ?_⟩, fun i hi => ?_⟩
    · obtain ⟨_, hl2, hcell⟩ := World.cells?_some (hcsx i (by omega)).1
      have hcj := hcell j hj
      have hv : (cs i)[j]? = some ((cs i).getD j default) := by
        rw [List.getElem?_eq_getElem (by omega)]
        simp [List.getD, List.getElem?_eq_getElem (show j < (cs i).length by omega)]
      rw [hv, add_add] at hcj
      obtain ⟨b, o, s⟩ := a
      have hs : s = none := by
        obtain ⟨_, hl0, hcell0⟩ := World.cells?_some (hcsx 0 (by omega)).1
        have hc0 := hcell0 0 (by omega)
        rw [List.getElem?_eq_getElem (by omega)] at hc0
        simpa [Addr.add] using World.cell?_spot hc0
      subst hs
      rw [add_spot] at hcj
      exact ⟨b, o, rfl, by rw [Nat.add_assoc]; exact hcj⟩
    · obtain ⟨hcl, htr⟩ := hcsx i (by omega)
      obtain ⟨_, hl2, _⟩ := World.cells?_some hcl
      refine ⟨(D i, Pl i), ?_⟩
      have : cellsOfRow (fun j => (cs i).getD j default) sz = cs i := by
        unfold cellsOfRow
        refine List.ext_getElem (by simp [hl2]) fun j h1 h2 => ?_
        simp [List.getD, List.getElem?_eq_getElem h2]
      rw [this]
      exact htr

theorem cellsOfRow_two (c : Nat → Value) : cellsOfRow c 2 = [c 0, c 1] := rfl

/-- numbers of any kind in a slice -/
def NumsAt (k : IntKind) (w : World) (v : Value) (m : Nat) (f : Nat → Int) : Prop := SliceAt w v m 1 (fun i _ => .int k (f i))
theorem NumsAt.mono {k : IntKind} {w w' : World} {v : Value} {m : Nat} {f : Nat → Int} (h : NumsAt k w v m f) (g : w.grows w') : NumsAt k w' v m f := SliceAt.mono h g

theorem lit_u16 {z : Int} (h : (Lit.int .u16 z).wf = true) : 0 ≤ z ∧ z ≤ 65535 := by
  have e1 : IntKind.u16.min = 0 := rfl
  have e2 : IntKind.u16.max = 65535 := rfl
  simpa [Lit.wf, e1, e2] using h
/-- the fields of a struct that lies in a row -/
theorem struct_open {t : TypeId} {fs : Array Field} {fuel : Nat} {cs : List Value} {x : DataW H × List MemPlace} (ht : P.underlying t = some (.struct fs)) (h : DataW.trod enc P w base (fun _ => true) held fuel t cs = some x) :
    ∃ n, ∀ (i : Nat) (f : Field), fs[i]? = some f → ∃ y, DataW.trod enc P w base (fun _ => true) held n f.type ((cs.drop f.offset).take (P.cellsOf f.type)) = some y := by
  obtain ⟨xs, n, _, rfl, hl, hlen, hf⟩ := DataW.trod_struct ht h
  refine ⟨n, fun i f hi => ?_⟩
  rw [hf i f hi]
  have : i < xs.length := by rw [hlen]; exact (Array.getElem?_eq_some_iff.1 hi).1
  exact ⟨_, List.getElem?_eq_getElem this⟩

end
end Go

/-
  What is proved: arguments in fives and sixes; arrays of numbers as arguments.
-/
namespace Go
open Go.ChangeShapes Go.WideShapes Go.ChangeAt

section
variable {H : Type} {enc : TypeId × Value → H} {P : Program} {w : World} {base : Nat} {spare : Nat → Bool} {held : Bool}
/-- an array of numbers of one kind -/
theorem array_nums {t e : TypeId} {k : IntKind} {n fuel : Nat} {cs : List Value} {x : DataW H × List MemPlace} (ht : P.underlying t = some (.array n e)) (he : P.underlying e = some (.int k)) (hc : P.cellsOf e = 1) (hn : P.cellsOf t = n)
    (h : DataW.trod enc P w base spare held fuel t cs = some x) : cs.length = n ∧ ∀ i, i < n → ∃ z : Int, cs[i]? = some (.int k z) ∧ (Lit.int k z).wf = true := by
  obtain ⟨xs, m, -, -, hl, hlen, hx⟩ := DataW.trod_array ht h
  refine ⟨by omega, fun i hi => ?_⟩
  have h1 := hx i hi
  rw [hc, Nat.mul_one, List.getElem?_eq_getElem (by omega)] at h1
  obtain ⟨z, e1, _, e2⟩ := DataW.trod_int he h1
  refine ⟨z, ?_, e2⟩
  have h2 : i < cs.length := by omega
  have h3 : (cs.drop i).take 1 = [cs[i]] := by rw [List.drop_eq_getElem_cons h2]; rfl
  rw [h3] at e1
  rw [List.getElem?_eq_getElem h2]
  simpa using e1
end
end Go

/-
  What is proved: what the laws of layer 08 are handed: stocks, lists, bytes, things, pairs of kinds.
-/
namespace Go.Proofs.Yteingahlmlndkaa
open Go.ChangeShapes Go.WideShapes Go.ChangeAt Go.RowKit Go.Deep Go.Joins

theorem own_c : ownKnob Try.prog.godebug = none := by kernel_rfl
theorem laid_c : laidOutB Try.prog = true := by kernel_rfl
theorem kcs2 : Try.prog.cellsOf 2 = 1 := by kernel_rfl
theorem kcs3 : Try.prog.cellsOf 3 = 1 := by kernel_rfl
theorem kcs22 : Try.prog.cellsOf 22 = 1 := by kernel_rfl
theorem kcs23 : Try.prog.cellsOf 23 = 1 := by kernel_rfl
theorem kcs25 : Try.prog.cellsOf 25 = 3 := by kernel_rfl
theorem kcs62 : Try.prog.cellsOf 62 = 3 := by kernel_rfl
theorem kcs63 : Try.prog.cellsOf 63 = 2 := by kernel_rfl
theorem cellsOfRow_two (c : Nat → Value) : cellsOfRow c 2 = [c 0, c 1] := rfl
theorem cellsOfRow_three (c : Nat → Value) : cellsOfRow c 3 = [c 0, c 1, c 2] := rfl
theorem arr3 {cs : Array Value} (h : cs.size = 3) : ∃ a b c, cs = #[a, b, c] := by
  obtain ⟨l⟩ := cs
  match l, h with
  | [a, b, c], _ => exact ⟨a, b, c, rfl⟩
section
variable {H : Type} {enc : TypeId × Value → H} {w : World} {base : Nat} {held : Bool}
theorem thing_cells {fuel : Nat} {c0 c1 c2 : Value} {x : DataW H × List MemPlace} (h : DataW.trod enc Try.prog w 0 (fun _ => true) held fuel 62 [c0, c1, c2] = some x) :
    ∃ a b c : Int, c0 = .int .i64 a ∧ c1 = .int .i64 b ∧ c2 = .int .i64 c := by
  obtain ⟨n, hf⟩ := struct_open Try.underlying62 h
  have h0 := hf 0 _ rfl
  change ∃ y, DataW.trod enc Try.prog w 0 (fun _ => true) held n 3 ((List.drop 0 _).take (Try.prog.cellsOf 3)) = some y at h0
  rw [kcs3] at h0
  obtain ⟨y0, h0⟩ := h0
  have h1 := hf 1 _ rfl
  change ∃ y, DataW.trod enc Try.prog w 0 (fun _ => true) held n 2 ((List.drop 1 _).take (Try.prog.cellsOf 2)) = some y at h1
  rw [kcs2] at h1
  obtain ⟨y1, h1⟩ := h1
  have h2 := hf 2 _ rfl
  change ∃ y, DataW.trod enc Try.prog w 0 (fun _ => true) held n 3 ((List.drop 2 _).take (Try.prog.cellsOf 3)) = some y at h2
  rw [kcs3] at h2
  obtain ⟨y2, h2⟩ := h2
  obtain ⟨a, e0, _, _⟩ := DataW.trod_int Try.underlying3 h0
  obtain ⟨b, e1, _, _⟩ := DataW.trod_int Try.underlying2 h1
  obtain ⟨c, e2, _, _⟩ := DataW.trod_int Try.underlying3 h2
  exact ⟨a, b, c, by simpa using e0, by simpa using e1, by simpa using e2⟩
theorem mates_cells {fuel : Nat} {c0 c1 : Value} {x : DataW H × List MemPlace} (h : DataW.trod enc Try.prog w 0 (fun _ => true) held fuel 63 [c0, c1] = some x) :
    ∃ a b : Int, c0 = .int .i64 a ∧ c1 = .int .i64 b := by
  obtain ⟨hl, hx⟩ := array_nums Try.underlying63 Try.underlying3 kcs3 kcs63 h
  obtain ⟨a, h0, _⟩ := hx 0 (by omega)
  obtain ⟨b, h1, _⟩ := hx 1 (by omega)
  exact ⟨a, b, by simpa using h0, by simpa using h1⟩
set_option maxRecDepth 100000 in
theorem stock_of {v : Value} {d : DataW H} {p : List MemPlace} (hv : Value.okWide Try.prog w .any base 25 v) (h : DataW.Trod enc Try.prog w 0 (fun _ => true) held 25 v d p) :
    ∃ s, StkAt w v s := by
  obtain ⟨cs, rfl, hsz⟩ := okWide_struct Try.underlying25 hv
  rw [kcs25] at hsz
  obtain ⟨c0, c1, c2, rfl⟩ := arr3 hsz
  obtain ⟨fuel, hf⟩ := h
  obtain ⟨n, hf⟩ := struct_open Try.underlying25 hf
  have h0 := hf 0 _ rfl
  change ∃ y, DataW.trod enc Try.prog w 0 (fun _ => true) held n 22 ((List.drop 0 _).take (Try.prog.cellsOf 22)) = some y at h0
  rw [kcs22] at h0
  obtain ⟨y0, h0⟩ := h0
  have h1 := hf 1 _ rfl
  change ∃ y, DataW.trod enc Try.prog w 0 (fun _ => true) held n 23 ((List.drop 1 _).take (Try.prog.cellsOf 23)) = some y at h1
  rw [kcs23] at h1
  obtain ⟨y1, h1⟩ := h1
  have h2 := hf 2 _ rfl
  change ∃ y, DataW.trod enc Try.prog w 0 (fun _ => true) held n 2 ((List.drop 2 _).take (Try.prog.cellsOf 2)) = some y at h2
  rw [kcs2] at h2
  obtain ⟨y2, h2⟩ := h2
  simp only [Value.cells, List.drop_zero, List.take_succ_cons, List.take_zero, List.drop_succ_cons] at h0 h1 h2
  obtain ⟨wd, e2, _, _⟩ := DataW.trod_int Try.underlying2 h2
  obtain rfl : c2 = .int .i64 wd := by simpa using e2
  obtain ⟨nt, n2, c, g1, g2⟩ := sliceAt_open Try.underlying22 kcs62 h0
  have g3 : ∀ i, i < nt → ∃ q : Int × Int × Int, c i 0 = .int .i64 q.1 ∧ c i 1 = .int .i64 q.2.1 ∧ c i 2 = .int .i64 q.2.2 := fun i hi => by
    obtain ⟨y, hy⟩ := g2 i hi
    rw [cellsOfRow_three] at hy
    obtain ⟨a, b, c, r⟩ := thing_cells hy
    exact ⟨(a, b, c), r⟩
  obtain ⟨q, hq⟩ := choose_lt g3
  obtain ⟨nm, n3, c', k1, k2⟩ := sliceAt_open Try.underlying23 kcs63 h1
  have k3 : ∀ i, i < nm → ∃ q : Int × Int, c' i 0 = .int .i64 q.1 ∧ c' i 1 = .int .i64 q.2 := fun i hi => by
    obtain ⟨y, hy⟩ := k2 i hi
    rw [cellsOfRow_two] at hy
    obtain ⟨a, b, r⟩ := mates_cells hy
    exact ⟨(a, b), r⟩
  obtain ⟨r, hr⟩ := choose_lt k3
  refine ⟨{ nt := nt, nm := nm, wide := wd, tk := fun i => (q i).1, tw := fun i => (q i).2.1, tg := fun i => (q i).2.2, ma := fun i => (r i).1, mb := fun i => (r i).2 }, c0, c1, rfl, g1.congr fun i j hi hj => ?_, k1.congr fun i j hi hj => ?_⟩
  · obtain ⟨z0, z1, z2⟩ := hq i hi
    rcases (show j = 0 ∨ j = 1 ∨ j = 2 by omega) with rfl | rfl | rfl
    · exact z0
    · exact z1
    · exact z2
  · obtain ⟨z0, z1⟩ := hr i hi
    rcases (show j = 0 ∨ j = 1 by omega) with rfl | rfl
    · exact z0
    · exact z1
end
end Go.Proofs.Yteingahlmlndkaa

/-
  What is proved: the groups of things, one after another, each found from its least thing (plain).
-/
namespace Go.Proofs.Yteingahlmlndkaa
theorem nd_one (x : Nat) : [x].Nodup := List.nodup_cons.2 ⟨List.not_mem_nil, List.nodup_nil⟩
/-- the group of a thing -/
def inG (A : Nat → Nat → Bool) (S : Nat → Bool) (t v : Nat) : Bool := S v && decide (nm A S 16 v = t)
/-- what is still left when k things have been looked at -/
def leftB (A : Nat → Nat → Bool) (S : Nat → Bool) (k v : Nat) : Bool := S v && decide (nm A S 16 v ∉ (filtL S 16).take k)
def rowsG (A : Nat → Nat → Bool) (S : Nat → Bool) (k : Nat) : List (List Nat) := (((filtL S 16).take k).filter fun g => decide (nm A S 16 g = g)).map fun g => filtL (inG A S g) 16
theorem rowsG_all (A : Nat → Nat → Bool) (S : Nat → Bool) : rowsG A S (filtL S 16).length = grpL A S 16 := by
  unfold rowsG grpL
  rw [List.take_of_length_le (Nat.le_refl _)]
  unfold filtL
  rw [List.filter_filter]
  have : (fun a => decide (nm A S 16 a = a) && S a) = fun g => S g && decide (nm A S 16 g = g) := funext fun a => Bool.and_comm _ _
  rw [this]
  rfl
section
variable {A : Nat → Nat → Bool} {S : Nat → Bool} (hA : ∀ a b, A a b = A b a) (hS : ∀ t, S t = true → t < 16)
include hS
theorem take_mem {k t : Nat} (h : (filtL S 16)[k]? = some t) (v : Nat) : v ∈ (filtL S 16).take k ↔ S v = true ∧ v < t := by
  obtain ⟨hk, hg⟩ := List.getElem?_eq_some_iff.1 h
  have htm : t ∈ filtL S 16 := hg ▸ List.getElem_mem hk
  obtain ⟨ht16, hSt⟩ := List.mem_filter.1 htm
  have ht16 := List.mem_range.1 ht16
  have h1 := filtL_at S (n := 16) ht16 hSt
  have hnd : (filtL S 16).Nodup := List.Pairwise.filter _ List.nodup_range
  obtain ⟨hk1, hg1⟩ := List.getElem?_eq_some_iff.1 h1
  have hkk : (filtL S t).length = k := (List.getElem_inj hnd).1 (hg1.trans hg.symm)
  obtain ⟨r, hr⟩ := filtL_pre S t 16 (by omega)
  rw [hr, List.take_append_of_le_length (by omega), List.take_of_length_le (by omega)]
  unfold filtL
  rw [List.mem_filter, List.mem_range]
  exact ⟨fun h => ⟨h.2, h.1⟩, fun h => ⟨h.2, h.1⟩⟩
omit hS in
theorem at_in {k t : Nat} (h : (filtL S 16)[k]? = some t) : S t = true ∧ t < 16 := by
  obtain ⟨h1, h2⟩ := List.mem_filter.1 (List.mem_of_getElem? h)
  exact ⟨h2, List.mem_range.1 h1⟩
theorem left_at {k t : Nat} (h : (filtL S 16)[k]? = some t) : leftB A S k t = decide (nm A S 16 t = t) := by
  obtain ⟨hSt, ht⟩ := at_in h
  unfold leftB
  rw [hSt, Bool.true_and]
  have h1 := nm_le (A := A) hS hSt
  have h2 := nm_in (A := A) hS hSt
  refine decide_eq_decide.2 ?_
  rw [take_mem hS h]
  constructor
  · intro h3
    by_cases e : nm A S 16 t = t
    · exact e
    · exact absurd ⟨h2, by omega⟩ h3
  · intro e h3
    omega
include hA
theorem left_skip {k t : Nat} (h : (filtL S 16)[k]? = some t) (hn : nm A S 16 t ≠ t) (v : Nat) : leftB A S (k + 1) v = leftB A S k v := by
  unfold leftB
  cases hv : S v with
  | false => rfl
  | true =>
    rw [Bool.true_and, Bool.true_and]
    refine decide_eq_decide.2 ?_
    rw [List.take_add_one, h]
    have : nm A S 16 v ≠ t := fun e => by
      have := nm_nm hA hS hv
      rw [e] at this
      exact hn this
    simp [this]
omit hA hS in
theorem left_take {k t : Nat} (h : (filtL S 16)[k]? = some t) (v : Nat) : leftB A S (k + 1) v = (leftB A S k v && !inG A S t v) := by
  unfold leftB inG
  rw [List.take_add_one, h]
  cases hv : S v with
  | false => rfl
  | true => by_cases e : nm A S 16 v = t <;> simp [e]
omit hA hS in
theorem rows_skip {k t : Nat} (h : (filtL S 16)[k]? = some t) (hn : nm A S 16 t ≠ t) : rowsG A S (k + 1) = rowsG A S k := by
  unfold rowsG
  rw [List.take_add_one, h]
  simp [hn]
omit hA hS in
theorem rows_take {k t : Nat} (h : (filtL S 16)[k]? = some t) (hn : nm A S 16 t = t) : rowsG A S (k + 1) = rowsG A S k ++ [filtL (inG A S t) 16] := by
  unfold rowsG
  rw [List.take_add_one, h]
  simp [hn]
omit hS hA in
/-- things found so far: all that hang together with t, and what suits one of the first i is among them -/
structure Bfg (A : Nat → Nat → Bool) (S : Nat → Bool) (t : Nat) (l : List Nat) (i : Nat) : Prop where
  hd : t ∈ l
  nd : l.Nodup
  in_ : ∀ v ∈ l, inG A S t v = true
  cl : ∀ j, j < i → ∀ x, l[j]? = some x → ∀ v, A x v = true → S v = true → v ∈ l
omit hA hS in
theorem Bfg.start {t : Nat} (hSt : S t = true) (hn : nm A S 16 t = t) : Bfg A S t [t] 0 :=
  ⟨List.mem_singleton.2 rfl, nd_one _, fun v hv => by rw [List.mem_singleton.1 hv]; unfold inG; simp [hSt, hn], fun j hj => by omega⟩
theorem Bfg.grp {t x v : Nat} {l : List Nat} {i : Nat} (h : Bfg A S t l i) (hx : x ∈ l) (hxv : A x v = true) (hv : S v = true) : inG A S t v = true := by
  have h1 := h.in_ x hx
  unfold inG at h1 ⊢
  rw [Bool.and_eq_true, decide_eq_true_eq] at h1
  rw [Bool.and_eq_true, decide_eq_true_eq]
  refine ⟨hv, ?_⟩
  rw [← h1.2]
  exact (nm_iff hA hS hv h1.1).2 ((Pth.refl hv).step (by rw [hA]; exact hxv) h1.1)
omit hA hS in
theorem Bfg.put {t v : Nat} {l : List Nat} {i : Nat} (h : Bfg A S t l i) (hi : i ≤ l.length) (hv : inG A S t v = true) (hn : v ∉ l) : Bfg A S t (l ++ [v]) i :=
  ⟨List.mem_append_left _ h.hd, by
    rw [List.nodup_append]
    exact ⟨h.nd, nd_one _, fun a ha b hb e => by rw [List.mem_singleton] at hb; subst hb; subst e; exact hn ha⟩, fun u hu => by
    rcases List.mem_append.1 hu with hu | hu
    · exact h.in_ u hu
    · rw [List.mem_singleton.1 hu]; exact hv, fun j hj x hx u h1 h2 => by
    rw [List.getElem?_append_left (by omega)] at hx
    exact List.mem_append_left _ (h.cl j hj x hx u h1 h2)⟩
omit hA hS in
theorem Bfg.next {t x : Nat} {l : List Nat} {i : Nat} (h : Bfg A S t l i) (hx : l[i]? = some x) (hc : ∀ v, A x v = true → S v = true → v ∈ l) : Bfg A S t l (i + 1) :=
  ⟨h.hd, h.nd, h.in_, fun j hj y hy v h1 h2 => by
    by_cases e : j = i
    · subst e
      rw [hx] at hy
      cases hy
      exact hc v h1 h2
    · exact h.cl j (by omega) y hy v h1 h2⟩
omit hA in
theorem Bfg.len {t : Nat} {l : List Nat} {i : Nat} (h : Bfg A S t l i) : l.length ≤ 16 := by
  have := List.Nodup.length_le_of_subset h.nd (l₂ := List.range 16) (fun v hv => by
    have h1 := h.in_ v hv
    unfold inG at h1
    rw [Bool.and_eq_true] at h1
    exact List.mem_range.2 (hS v h1.1))
  simpa using this
theorem Bfg.perm {t : Nat} {l : List Nat} {i : Nat} (h : Bfg A S t l i) (hi : l.length ≤ i) : l.Perm (filtL (inG A S t) 16) := by
  refine (List.perm_ext_iff_of_nodup h.nd (List.Pairwise.filter _ List.nodup_range)).2 fun v => ?_
  rw [List.mem_filter, List.mem_range]
  constructor
  · intro hv
    have h1 := h.in_ v hv
    have h2 := h1
    unfold inG at h1
    rw [Bool.and_eq_true] at h1
    exact ⟨hS v h1.1, h2⟩
  · rintro ⟨-, hv⟩
    have ht := h.in_ t h.hd
    unfold inG at hv ht
    rw [Bool.and_eq_true, decide_eq_true_eq] at hv ht
    have hp : Pth A (fun x => S x = true) t v := (nm_iff hA hS ht.1 hv.1).1 (by rw [ht.2, hv.2])
    have all : ∀ {a b}, Pth A (fun x => S x = true) a b → a ∈ l → b ∈ l := fun {a b} hp => by
      induction hp with
      | refl _ => exact id
      | step _ h1 h2 ih =>
        intro ha
        obtain ⟨j, hj⟩ := List.getElem?_of_mem (ih ha)
        exact h.cl j (Nat.lt_of_lt_of_le (List.getElem?_eq_some_iff.1 hj).1 hi) _ hj _ h1 h2
    exact all hp h.hd
end
/-- sorted, a list is the list of its numbers in order -/
theorem sort_perm {l : List Nat} {q : Nat → Bool} (h : l.Perm (filtL q 16)) : ((l.map fun x => ((x : Nat) : Int)).mergeSort fun x y => decide (x ≤ y)) = (filtL q 16).map fun x => ((x : Nat) : Int) := by
  refine List.Perm.eq_of_pairwise (le := fun a b => decide (a ≤ b) = true) (fun a b _ _ h1 h2 => by simp at h1 h2; omega) (List.pairwise_mergeSort (fun a b c h1 h2 => by simp at *; omega) (fun a b => by simp; omega) _) ?_ ((List.mergeSort_perm _ _).trans (h.map _))
  rw [List.pairwise_map]
  refine List.Pairwise.imp (R := fun a b => a < b) (fun {a b} h => by simp; omega) (List.Pairwise.filter _ List.pairwise_lt_range)
end Go.Proofs.Yteingahlmlndkaa

/-
  What is proved: names that are made the same where things suit each other become those of the groups (plain).
-/
namespace Go.Proofs.Yteingahlmlndkaa
open Go
/-- names in the round r, at the thing i, and the thing k beside it -/
structure NmS (A : Nat → Nat → Bool) (S : Nat → Bool) (n : Nat) (F : Nat → Int) (r i k : Nat) : Prop where
  nam : ∀ j, S j = true → ∃ u : Nat, F j = (u : Nat) ∧ Pth A (fun x => S x = true) j u
  out : ∀ j, S j = false → F j < 0
  all : ∀ v j, S v = true → ball A S n v r j = true → F j ≤ (v : Nat)
  done : ∀ v j, j < i → S v = true → ball A S n v (r + 1) j = true → F j ≤ (v : Nat)
  part : ∀ v t, t < k → S v = true → ball A S n v r t = true → A t i = true → S i = true → F i ≤ (v : Nat)
section
variable {A : Nat → Nat → Bool} {S : Nat → Bool} {n : Nat} {F : Nat → Int} {r i k : Nat}
theorem NmS.start (F : Nat → Int) (h1 : ∀ j, S j = true → F j = (j : Nat)) (h2 : ∀ j, S j = false → F j < 0) : NmS A S n F 0 0 0 :=
  ⟨fun j hj => ⟨j, h1 j hj, .refl hj⟩, h2, fun v j hv hb => by
    have : j = v := by simpa [ball] using hb
    subst this
    rw [h1 j hv]
    exact Int.le_refl _, fun v j hj => by omega, fun v t ht => by omega⟩
theorem ball_in {v : Nat} (hv : S v = true) : ∀ (r j : Nat), ball A S n v r j = true → S j = true := fun r j h => (ball_pth hv r j h).right
theorem NmS.skip (hA : ∀ a b, A a b = A b a) (h : NmS A S n F r i k) (hc : ¬ (S i = true ∧ S k = true ∧ A i k = true)) : NmS A S n F r i (k + 1) :=
  ⟨h.nam, h.out, h.all, h.done, fun v t ht hv hb ha hi => by
    by_cases e : t = k
    · subst e
      exact absurd ⟨hi, ball_in hv _ _ hb, by rw [hA]; exact ha⟩ hc
    · exact h.part v t (by omega) hv hb ha hi⟩
theorem NmS.join (hA : ∀ a b, A a b = A b a) (h : NmS A S n F r i k) (hi : S i = true) (hk : S k = true) (ha : A i k = true) : NmS A S n (updI F i (min (F i) (F k))) r i (k + 1) := by
  have hle : ∀ j, updI F i (min (F i) (F k)) j ≤ F j := fun j => by
    unfold updI
    split
    · rename_i e; subst e; omega
    · exact Int.le_refl _
  refine ⟨fun j hj => ?_, fun j hj => ?_, fun v j hv hb => Int.le_trans (hle j) (h.all v j hv hb), fun v j hj hv hb => Int.le_trans (hle j) (h.done v j hj hv hb), fun v t ht hv hb hat hi' => ?_⟩
  · unfold updI
    by_cases e : j = i
    · subst e
      rw [if_pos rfl]
      obtain ⟨u, h1, h2⟩ := h.nam j hj
      obtain ⟨u', h3, h4⟩ := h.nam k hk
      by_cases hlt : F k < F j
      · exact ⟨u', by omega, ((Pth.refl hj).step ha hk).trans h4⟩
      · exact ⟨u, by omega, h2⟩
    · rw [if_neg e]
      exact h.nam j hj
  · exact Int.lt_of_le_of_lt (hle j) (h.out j hj)
  · by_cases e : t = k
    · subst e
      have := h.all v t hv hb
      unfold updI
      rw [if_pos rfl]
      omega
    · exact Int.le_trans (hle i) (h.part v t (by omega) hv hb hat hi')
theorem NmS.next (h : NmS A S n F r i n) : NmS A S n F r (i + 1) 0 :=
  ⟨h.nam, h.out, h.all, fun v j hj hv hb => by
    by_cases e : j = i
    · subst e
      have hSj := ball_in hv _ _ hb
      have hb' : (ball A S n v r j || (S j && (List.range n).any fun t => ball A S n v r t && A t j)) = true := hb
      rw [Bool.or_eq_true, Bool.and_eq_true, List.any_eq_true] at hb'
      rcases hb' with h1 | ⟨-, t, ht, h2⟩
      · exact h.all v j hv h1
      · rw [Bool.and_eq_true] at h2
        exact h.part v t (List.mem_range.1 ht) hv h2.1 h2.2 hSj
    · exact h.done v j (by omega) hv hb, fun v t ht => by omega⟩
theorem NmS.round (hS : ∀ t, S t = true → t < n) (h : NmS A S n F r n 0) : NmS A S n F (r + 1) 0 0 :=
  ⟨h.nam, h.out, fun v j hv hb => h.done v j (hS j (ball_in hv _ _ hb)) hv hb, fun v j hj => by omega, fun v t ht => by omega⟩
theorem NmS.end_ (hA : ∀ a b, A a b = A b a) (hS : ∀ t, S t = true → t < n) (h : NmS A S n F n 0 0) (hi : S i = true) : F i = (nm A S n i : Nat) := by
  obtain ⟨u, h1, h2⟩ := h.nam i hi
  obtain ⟨a1, a2⟩ := nm_spec (A := A) hS hi
  have h3 := a2 u h2
  have h4 := h.all _ i (nm_in hS hi) ((rch_iff hS (nm_in hS hi) i).2 (a1.symm hA))
  omega
end
/-- the rows of the first g names that have one -/
def rowsD (F : Nat → Int) (n g : Nat) : List (List Nat) := ((List.range g).filter fun g => decide (filtL (fun i => decide (F i = (g : Nat))) n ≠ [])).map fun (g : Nat) => filtL (fun i => decide (F i = (g : Nat))) n
theorem rowsD_succ (F : Nat → Int) (n g : Nat) : rowsD F n (g + 1) = if filtL (fun i => decide (F i = (g : Nat))) n = [] then rowsD F n g else rowsD F n g ++ [filtL (fun i => decide (F i = (g : Nat))) n] := by
  unfold rowsD
  rw [List.range_succ, List.filter_append, List.map_append]
  by_cases e : filtL (fun i => decide (F i = (g : Nat))) n = []
  · rw [if_pos e]; simp [e]
  · rw [if_neg e]; simp [e]
theorem rowsD_all {A : Nat → Nat → Bool} {S : Nat → Bool} {n : Nat} {F : Nat → Int} (hA : ∀ a b, A a b = A b a) (hS : ∀ t, S t = true → t < n) (h : NmS A S n F n 0 0) : rowsD F n n = grpL A S n := by
  have e1 : ∀ g : Nat, filtL (fun i => decide (F i = (g : Nat))) n = (List.range n).filter fun i => S i && decide (nm A S n i = g) := fun g => by
    unfold filtL
    refine List.filter_congr fun i _ => ?_
    cases hi : S i with
    | true =>
      rw [h.end_ hA hS hi, Bool.true_and]
      exact decide_eq_decide.2 (by omega)
    | false =>
      have := h.out i hi
      rw [Bool.false_and]
      exact decide_eq_false (by omega)
  unfold rowsD grpL
  have e2 : ((List.range n).filter fun g => decide (filtL (fun i => decide (F i = (g : Nat))) n ≠ [])) = (List.range n).filter fun g => S g && decide (nm A S n g = g) := List.filter_congr fun g hg => by
    rw [e1]
    cases hc : (S g && decide (nm A S n g = g)) with
    | true =>
      refine decide_eq_true fun e => ?_
      have : g ∈ (List.range n).filter fun i => S i && decide (nm A S n i = g) := List.mem_filter.2 ⟨hg, hc⟩
      rw [e] at this
      cases this
    | false =>
      refine decide_eq_false fun hne => ?_
      obtain ⟨i, hi⟩ := List.exists_mem_of_ne_nil _ hne
      obtain ⟨-, hi⟩ := List.mem_filter.1 hi
      rw [Bool.and_eq_true, decide_eq_true_eq] at hi
      have h1 := nm_in (A := A) hS hi.1
      have h2 := nm_nm hA hS hi.1
      rw [hi.2] at h1 h2
      rw [h1, decide_eq_true h2] at hc
      cases hc
  rw [e2]
  exact List.map_congr_left fun g _ => e1 g
theorem filtL_cut {q : Nat → Bool} {n : Nat} (hq : ∀ v, q v = true → v < n) : ∀ d, filtL q (n + d) = filtL q n
  | 0 => rfl
  | d + 1 => by
    rw [show n + (d + 1) = (n + d) + 1 by omega, filtL_succ, if_neg (fun h => by have := hq _ h; omega), filtL_cut hq d]
theorem grpL_n {A : Nat → Nat → Bool} {S : Nat → Bool} {n : Nat} (hA : ∀ a b, A a b = A b a) (hS : ∀ t, S t = true → t < n) (hn : n ≤ 16) : grpL A S n = grpL A S 16 := by
  have hS16 : ∀ t, S t = true → t < 16 := fun t h => by have := hS t h; omega
  have hnm : ∀ i, S i = true → nm A S n i = nm A S 16 i := fun i hi => nm_unique hA hS16 (nm A S n) (fun i hi => ⟨nm_le hS hi, (nm_spec hS hi).1⟩) (fun i k hi hk ha => (nm_iff hA hS hi hk).2 ((Pth.refl hi).step ha hk)) hi
  have cut : ∀ q : Nat → Bool, (∀ v, q v = true → S v = true) → (List.range 16).filter q = (List.range n).filter q := fun q hq => by
    have := filtL_cut (q := q) (n := n) (fun v hv => hS v (hq v hv)) (16 - n)
    rw [show n + (16 - n) = 16 by omega] at this
    exact this
  have e1 : ∀ g : Nat, (fun i => S i && decide (nm A S n i = g)) = fun i => S i && decide (nm A S 16 i = g) := fun g => funext fun i => by
    cases hi : S i with
    | false => rfl
    | true => rw [hnm i hi]
  have e2 : (fun g => S g && decide (nm A S n g = g)) = fun g => S g && decide (nm A S 16 g = g) := funext fun i => by
    cases hi : S i with
    | false => rfl
    | true => rw [hnm i hi]
  unfold grpL
  rw [e2, cut _ (fun v hv => by rw [Bool.and_eq_true] at hv; exact hv.1)]
  refine List.map_congr_left fun g _ => ?_
  rw [e1, cut _ (fun v hv => by rw [Bool.and_eq_true] at hv; exact hv.1)]
end Go.Proofs.Yteingahlmlndkaa

/-
  What is proved: whether numbers are things, increasing (43 of the definition).
-/
namespace Go.Proofs.Yteingahlmlndkaa
open Go.RowKit
attribute [local irreducible] Go.wpCalm
def incB (s : Stk) (f : Nat → Int) (i : Nat) : Bool := s.isT (f i) && (decide (i = 0) || decide (f (i - 1) < f i))
set_option maxHeartbeats 2000000 in
theorem rlist_c (w : World) (v : Value) (s : Stk) (ht : StkAt w v s) (lv : Value) (n : Nat) (f : Nat → Int) (hl : IntsAt w lv n f) :
    Calls Try.prog 43 #[v, lv] w fun e w' => e = .returned (.bool ((List.range n).all (incB s f))) ∧ w.grows w' := by
  have Ht := Lib.hid ht
  obtain ⟨tv, mv, rfl, ⟨sa, sc, rfl, s1, s2, -⟩, ⟨va, vc, rfl, -⟩⟩ := ht
  obtain ⟨aa, ac, rfl, a1, a2, ha⟩ := hl
  unfold maxLen at a2
  go_enter Try.func43, Try.ntmps43
  have hbx : ∀ W, (w.alloc (.cells #[.slice sa s.nt sc, .slice va s.nm vc, .int .i64 s.wide] 25)).grows W → W.heap[w.heap.size]? = some (.cells #[.slice sa s.nt sc, .slice va s.nm vc, .int .i64 s.wide] 25) := fun W g => g.heap_of (World.heap_at w _ _ rfl)
  have Hbx := Lib.hid hbx
  clear hbx
  go_wp2
  go_loopw [5] (fun i wr => ∃ k : Nat, k ≤ n ∧ i = .int .i64 k ∧ Hid (∀ j, j < k → incB s f j = true) ∧ (w.alloc (.cells #[.slice sa s.nt sc, .slice va s.nm vc, .int .i64 s.wide] 25)).grows wr) (fun i _ => n - (intOf i).toNat)
  case atStart => exact ⟨0, by omega, rfl, Lib.hid fun j hj => by omega, by (repeat (first | exact World.grows.refl _ | assumption | refine World.grows.alloc ?_ _ | refine World.grows.plus ?_ _ _ | refine World.grows.drew ?_))⟩
  case round =>
    obtain ⟨k, hk, rfl, hlo, hg⟩ := hrel
    have hgw : w.grows wr := World.grows.trans (by (repeat (first | exact World.grows.refl _ | assumption | refine World.grows.alloc ?_ _ | refine World.grows.plus ?_ _ _ | refine World.grows.drew ?_))) hg
    by_cases hlt : k < n
    · obtain ⟨b, o, rfl, h0⟩ := ha k 0 hlt (by omega)
      have hp := ha (k - 1) 0 (by omega) (by omega)
      simp only [Nat.mul_one, Nat.add_zero] at h0 hp
      obtain ⟨b', o', heq, hp⟩ := hp
      cases heq
      replace h0 := hgw.cell_of h0
      replace hp := hgw.cell_of hp
      have hB := Hbx.out wr hg
      have c0 := cell_of_heap (i := 0) hB rfl
      have c1 := cell_of_heap (i := 1) hB rfl
      have c2 := cell_of_heap (i := 2) hB rfl
      have h36 : ∀ W, wr.grows W → Calls Try.prog 36 #[.agg #[.slice sa s.nt sc, .slice va s.nm vc, .int .i64 s.wide], .int .i64 (f k)] W fun e w' => e = .returned (.bool (s.isT (f k))) ∧ W.grows w' := fun W gW => is36_c W _ s (Ht.out.mono (hgw.trans gW)) (f k)
      have HI : Hid (incB s f k = (s.isT (f k) && (decide (k = 0) || decide (f (k - 1) < f k)))) := Lib.hid rfl
      have HBAD : Hid (incB s f k = false → (List.range n).all (incB s f) = false) := Lib.hid fun he => by
        rw [← Bool.not_eq_true, List.all_eq_true]
        intro h
        have := h k (List.mem_range.2 hlt)
        rw [he] at this; cases this
      clear hB
      obtain ⟨pp, hpp⟩ : ∃ q, k - 1 = q := ⟨_, rfl⟩
      rw [hpp] at hp HI
      cases hT : s.isT (f k) with
      | false =>
        rw [hT] at h36 HI
        have HX := Lib.hid (HBAD.out (by rw [HI.out]; rfl))
        clear hT hpp hlo HI HBAD
        (
          go_wp2
          (refine wp_region_calm (by kernel_rfl) (by kernel_rfl) ?_; (repeat (refine wpCalm_step (fun K hK => ?_); go_simp; first | (refine hK _ ?_; clear hK K) | (apply Exists.intro; refine ⟨fun n' x' => ?_, hK _ ?_⟩; (with_reducible exact h36 _ (by (repeat (first | exact World.grows.refl _ | assumption | refine World.grows.alloc ?_ _ | refine World.grows.plus ?_ _ _ | refine World.grows.drew ?_)))); clear hK K))); refine wpCalm_nil ?_; intro nq xq)
          have g2 : w.grows (wr.plus nq xq) := hgw.trans (by (repeat (first | exact World.grows.refl _ | assumption | refine World.grows.alloc ?_ _ | refine World.grows.plus ?_ _ _ | refine World.grows.drew ?_)))
          generalize wr.plus nq xq = W2 at g2 ⊢
          clear c0 c1 c2 h0 hp h36
          go_wp2
          (refine bodyPost_ret (v := .bool false) (by simp [results, Try.results43, go_sem]) rfl ?_)
          exact ⟨by rw [HX.out], g2⟩)
      | true =>
        rw [hT] at h36 HI
        clear hT
        by_cases hk0 : k = 0
        · have HX := Lib.hid (upto_succ hlo.out (show incB s f k = true by rw [HI.out, decide_eq_true hk0]; rfl))
          have hkI : ¬ (0 : Int) < (k : Nat) := by omega
          have hkd : decide (0 < k) = false := decide_eq_false (by omega)
          have hkN : ¬ 0 < k := by omega
          clear hpp hk0 HI HBAD hp
          have hp : 1 = 1 := rfl
          go_wp2
          (refine wp_region_calm (by kernel_rfl) (by kernel_rfl) ?_; (repeat (refine wpCalm_step (fun K hK => ?_); go_simp; first | (refine hK _ ?_; clear hK K) | (apply Exists.intro; refine ⟨fun n' x' => ?_, hK _ ?_⟩; (with_reducible exact h36 _ (by (repeat (first | exact World.grows.refl _ | assumption | refine World.grows.alloc ?_ _ | refine World.grows.plus ?_ _ _ | refine World.grows.drew ?_)))); clear hK K))); refine wpCalm_nil ?_; intro nq xq)
          have g2 := World.grows.trans hg (show wr.grows (wr.plus nq xq) by (repeat (first | exact World.grows.refl _ | assumption | refine World.grows.alloc ?_ _ | refine World.grows.plus ?_ _ _ | refine World.grows.drew ?_)))
          generalize wr.plus nq xq = W2 at g2 ⊢
          clear c0 c1 c2 h0 hp h36
          go_wp2
          case roundEnd => exact ⟨⟨k + 1, by omega, by go_num, HX, g2⟩, by simp [intOf]; omega⟩
        · have hkI : (0 : Int) < (k : Nat) := by omega
          have hkN : 0 < k := by omega
          have hkd : decide (0 < k) = true := decide_eq_true hkN
          have hk1 : ((k : Nat) : Int) - 1 = ((pp : Nat) : Int) := by omega
          have hwr : IntKind.i64.wrap ((pp : Nat) : Int) = ((pp : Nat) : Int) := by rw [IntKind.wrap_i64]; omega
          have hpn : ((pp : Nat) : Int) < (n : Nat) := by omega
          by_cases hf : f pp < f k
          · have hfI : ¬ f k ≤ f pp := by omega
            have HX := Lib.hid (upto_succ hlo.out (show incB s f k = true by rw [HI.out, decide_eq_true hf]; simp))
            clear hpp hk0 HI HBAD hf
            go_wp2
            (refine wp_region_calm (by kernel_rfl) (by kernel_rfl) ?_; (repeat (refine wpCalm_step (fun K hK => ?_); go_simp; first | (refine hK _ ?_; clear hK K) | (apply Exists.intro; refine ⟨fun n' x' => ?_, hK _ ?_⟩; (with_reducible exact h36 _ (by (repeat (first | exact World.grows.refl _ | assumption | refine World.grows.alloc ?_ _ | refine World.grows.plus ?_ _ _ | refine World.grows.drew ?_)))); clear hK K))); refine wpCalm_nil ?_; intro nq xq)
            have g2 := World.grows.trans hg (show wr.grows (wr.plus nq xq) by (repeat (first | exact World.grows.refl _ | assumption | refine World.grows.alloc ?_ _ | refine World.grows.plus ?_ _ _ | refine World.grows.drew ?_)))
            generalize wr.plus nq xq = W2 at g2 ⊢
            clear c0 c1 c2 h0 hp h36
            go_wp2
            case roundEnd => exact ⟨⟨k + 1, by omega, by go_num, HX, g2⟩, by simp [intOf]; omega⟩
          · have hfI : f k ≤ f pp := by omega
            have HX := Lib.hid (HBAD.out (by rw [HI.out, decide_eq_false hf, decide_eq_false hk0]; rfl))
            clear hpp hk0 HI HBAD hf hlo
            go_wp2
            (refine wp_region_calm (by kernel_rfl) (by kernel_rfl) ?_; (repeat (refine wpCalm_step (fun K hK => ?_); go_simp; first | (refine hK _ ?_; clear hK K) | (apply Exists.intro; refine ⟨fun n' x' => ?_, hK _ ?_⟩; (with_reducible exact h36 _ (by (repeat (first | exact World.grows.refl _ | assumption | refine World.grows.alloc ?_ _ | refine World.grows.plus ?_ _ _ | refine World.grows.drew ?_)))); clear hK K))); refine wpCalm_nil ?_; intro nq xq)
            have g2 : w.grows (wr.plus nq xq) := hgw.trans (by (repeat (first | exact World.grows.refl _ | assumption | refine World.grows.alloc ?_ _ | refine World.grows.plus ?_ _ _ | refine World.grows.drew ?_)))
            generalize wr.plus nq xq = W2 at g2 ⊢
            clear c0 c1 c2 h0 hp h36
            go_wp2
            (refine bodyPost_ret (v := .bool false) (by simp [results, Try.results43, go_sem]) rfl ?_)
            exact ⟨by rw [HX.out], g2⟩
    · have hke : k = n := by omega
      subst hke
      have hx : Hid ((List.range k).all (incB s f) = true) := Lib.hid (List.all_eq_true.2 fun j hj => hlo.out j (List.mem_range.1 hj))
      go_wp2
      (refine bodyPost_ret (v := .bool true) (by simp [results, Try.results43, go_sem]) rfl ?_)
      exact ⟨by rw [hx.out], hgw.trans (by (repeat (first | exact World.grows.refl _ | assumption | refine World.grows.alloc ?_ _ | refine World.grows.plus ?_ _ _ | refine World.grows.drew ?_)))⟩
end Go.Proofs.Yteingahlmlndkaa

/-
  What is proved: nothing: this text names those that are built before the library's sort is imported.
-/
namespace Go.Proofs.Yteingahlmlndkaa
end Go.Proofs.Yteingahlmlndkaa

