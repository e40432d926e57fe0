/-
  What is proved: a stock of some of a stock's things, and how its rows lie (plain).
-/
import Derived.Test.YteingahlmlndkaaM14
import Derived.Test.YteingahlmlndkaaM10
import Derived.Test.YteingahlmlndkaaM12
import Derived.Test.YteingahlmlndkaaM13
import Derived.Test.YteingahlmlndkaaM15
import Derived.Test.YteingahlmlndkaaM5
import Derived.Test.YteingahlmlndkaaM8
import Derived.Deep.CutRange
set_option linter.all false
namespace Go.Proofs.Yteingahlmlndkaa
open Go.RowKit
/-- the stock of these things -/
def Stk.sub (s : Stk) (L : List Nat) : Stk := { s with nt := L.length, tk := fun i => s.tk (L.getD i 0), tw := fun i => s.tw (L.getD i 0), tg := fun i => s.tg (L.getD i 0) }
theorem Stk.Ok.sub {s : Stk} (h : s.Ok) {L : List Nat} (hl : L.length ≤ 16) (hL : ∀ t ∈ L, t < s.nt) : (s.sub L).Ok := by
  have key : ∀ i, i < L.length → L.getD i 0 < s.nt := fun i hi => by
    rw [List.getD_eq_getElem?_getD, List.getElem?_eq_getElem hi]
    exact hL _ (List.getElem_mem hi)
  exact ⟨hl, h.m20, fun i hi => h.tk _ (key i hi), fun i hi => h.tg _ (key i hi), fun i hi => h.tw _ (key i hi), h.ma, h.mb, h.wide⟩
/-- the cells of these things, one behind the other -/
def rowsT (s : Stk) (L : List Nat) : List Value := L.flatMap fun t => [tcell s t 0, tcell s t 1, tcell s t 2]
theorem rowsT_snoc (s : Stk) (L : List Nat) (t : Nat) : rowsT s (L ++ [t]) = rowsT s L ++ [tcell s t 0, tcell s t 1, tcell s t 2] := by
  unfold rowsT
  rw [List.flatMap_append]
  rfl
theorem rowsT_get (s : Stk) : ∀ (L : List Nat) (i j : Nat), i < L.length → j < 3 → (rowsT s L)[i * 3 + j]? = some (tcell s (L.getD i 0) j)
  | [], i, j, h, _ => absurd h (Nat.not_lt_zero _)
  | t :: L, i, j, hi, hj => by
    have e : rowsT s (t :: L) = [tcell s t 0, tcell s t 1, tcell s t 2] ++ rowsT s L := rfl
    rw [e]
    by_cases h0 : i = 0
    · subst h0
      rw [List.getElem?_append_left (by simp; omega)]
      rcases (show j = 0 ∨ j = 1 ∨ j = 2 by omega) with rfl | rfl | rfl <;> rfl
    · obtain ⟨k, rfl⟩ : ∃ k, i = k + 1 := ⟨i - 1, by omega⟩
      rw [List.getElem?_append_right (by simp; omega)]
      have := rowsT_get s L k j (by simpa using hi) hj
      rw [show (k + 1) * 3 + j - [tcell s t 0, tcell s t 1, tcell s t 2].length = k * 3 + j by simp; omega, this]
      rfl
theorem rowsT_at {s : Stk} {L : List Nat} {U : World} {base : Nat} {e : TypeId} {v : Value} (h : U.ownsRow base e 3 v L.length (rowsT s L)) : SliceAt U v (s.sub L).nt 3 (tcell (s.sub L)) :=
  h.sliceAt (n := L.length) fun i j hi hj => rowsT_get s L i j hi hj
theorem tcell_one (s : Stk) (t : Nat) : ∀ u ∈ [tcell s t 0, tcell s t 1, tcell s t 2], u.oneCell' = true := by
  intro u hu
  simp only [List.mem_cons, List.not_mem_nil, or_false] at hu
  rcases hu with rfl | rfl | rfl <;> rfl
theorem nodup_getD {L : List Nat} (h : L.Nodup) {i k : Nat} (hi : i < L.length) (hk : k < L.length) (e : L.getD i 0 = L.getD k 0) : i = k := by
  rw [List.getD_eq_getElem?_getD, List.getD_eq_getElem?_getD, List.getElem?_eq_getElem hi, List.getElem?_eq_getElem hk] at e
  exact (List.getElem_inj h).1 e
/-- things suit each other as they did -/
theorem Stk.adj_sub {s : Stk} {L : List Nat} (hd : L.Nodup) (hL : ∀ t ∈ L, t < s.nt) {i k : Nat} (hi : i < L.length) (hk : k < L.length) : (s.sub L).adj i k = s.adj (L.getD i 0) (L.getD k 0) := by
  have key : ∀ i, i < L.length → L.getD i 0 < s.nt := fun i hi => by
    rw [List.getD_eq_getElem?_getD, List.getElem?_eq_getElem hi]
    exact hL _ (List.getElem_mem hi)
  rw [Stk.adj_suits (s := s.sub L) hi hk, Stk.adj_suits (key i hi) (key k hk)]
  have e : decide (i = k) = decide (L.getD i 0 = L.getD k 0) := decide_eq_decide.2 ⟨fun e => by rw [e], fun e => nodup_getD hd hi hk e⟩
  unfold Stk.suits
  rw [e]
  rfl
/-- matchings of these things are as many -/
theorem num_sub {s : Stk} {L : List Nat} (hd : L.Nodup) (hl : L.length ≤ 16) (h16 : s.nt ≤ 16) (hL : ∀ t ∈ L, t < s.nt) {S' S : Nat → Bool} (h1 : ∀ a, S' a = true → a < L.length) (h2 : ∀ a, a < L.length → (S (L.getD a 0) = true ↔ S' a = true)) (h3 : ∀ v, S v = true → v ∈ L) (k : Nat) : num (s.sub L).adj 16 S' k = num s.adj 16 S k := by
  have key : ∀ i, i < L.length → L.getD i 0 ∈ L := fun i hi => by
    rw [List.getD_eq_getElem?_getD, List.getElem?_eq_getElem hi]
    exact List.getElem_mem hi
  refine num_other s.adj_symm s.adj_irr (fun i => L.getD i 0) 16 S' S (fun a _ ha => ?_) (fun a b _ _ ha hb => ?_) (fun x _ hx => ?_) k
  · have h4 := h1 a ha
    exact ⟨by have := hL _ (key a h4); omega, (h2 a h4).2 ha⟩
  · exact ⟨fun e => nodup_getD hd (h1 a ha) (h1 b hb) e, Stk.adj_sub hd hL (h1 a ha) (h1 b hb)⟩
  · obtain ⟨a, ha⟩ := List.getElem?_of_mem (h3 x hx)
    have hlt := (List.getElem?_eq_some_iff.1 ha).1
    have he : L.getD a 0 = x := by rw [List.getD_eq_getElem?_getD, ha]; rfl
    exact ⟨a, by omega, (h2 a hlt).1 (by rw [he]; exact hx), he⟩
theorem nu_sub {s : Stk} {L : List Nat} (hd : L.Nodup) (hl : L.length ≤ 16) (h16 : s.nt ≤ 16) (hL : ∀ t ∈ L, t < s.nt) {S' S : Nat → Bool} (h1 : ∀ a, S' a = true → a < L.length) (h2 : ∀ a, a < L.length → (S (L.getD a 0) = true ↔ S' a = true)) (h3 : ∀ v, S v = true → v ∈ L) : nu (s.sub L).adj S' 16 = nu s.adj S 16 ∧ cnt (s.sub L).adj S' 16 = cnt s.adj S 16 :=
  nu_other s.adj_symm (s.sub L).adj_symm fun j => num_sub hd hl h16 hL h1 h2 h3 j
/-- all of these things -/
theorem nu_sub_all {s : Stk} {L : List Nat} (hd : L.Nodup) (hl : L.length ≤ 16) (h16 : s.nt ≤ 16) (hL : ∀ t ∈ L, t < s.nt) {S : Nat → Bool} (hS : ∀ v, S v = true ↔ v ∈ L) : nu (s.sub L).adj (belowN (s.sub L).nt) 16 = nu s.adj S 16 ∧ cnt (s.sub L).adj (belowN (s.sub L).nt) 16 = cnt s.adj S 16 :=
  nu_sub hd hl h16 hL (fun a ha => belowN_lt ha) (fun a ha => ⟨fun _ => by unfold belowN; exact decide_eq_true ha, fun _ => (hS _).2 (by
    rw [List.getD_eq_getElem?_getD, List.getElem?_eq_getElem ha]
    exact List.getElem_mem ha)⟩) (fun v hv => (hS v).1 hv)
/-! ### without one or two things -/
def woutP (x y : Int) (t : Nat) : Bool := !decide ((t : Int) = x) && !decide ((t : Int) = y)
def woutL (n : Nat) (x y : Int) : List Nat := filtL (woutP x y) n
theorem filtL_nodup (X : Nat → Bool) (n : Nat) : (filtL X n).Nodup := List.Pairwise.filter _ List.nodup_range
theorem filtL_range_le (X : Nat → Bool) (n : Nat) : (filtL X n).length ≤ n := by
  refine Nat.le_trans (List.length_filter_le _ _) ?_
  rw [List.length_range]
  omega
end Go.Proofs.Yteingahlmlndkaa

/-
  What is proved: how many best pairings there are, by one thing's mates (plain).
-/
namespace Go.Proofs.Yteingahlmlndkaa
/-- the best pairings in which the thing t goes with u (u = t: stays alone) -/
def cntT (A : Nat → Nat → Bool) (S : Nat → Bool) (t u : Nat) : Nat :=
  if u = t then (if nu A (less1 (less1 S t) u) 16 = nu A S 16 then cnt A (less1 (less1 S t) u) 16 else 0)
  else if A t u = true ∧ nu A (less1 (less1 S t) u) 16 + 1 = nu A S 16 then cnt A (less1 (less1 S t) u) 16 else 0
end Go.Proofs.Yteingahlmlndkaa

/-
  What is proved: the groups of some things: each thing lies in just one, things of different groups do not suit each other, best pairings of the groups have together as many pairs as one of all (plain).
-/
namespace Go.Proofs.Yteingahlmlndkaa
open Go.RowKit
variable {A : Nat → Nat → Bool} {S : Nat → Bool}
/-- two lots of things without a pair between them -/
theorem nu_union (hA : ∀ a b, A a b = A b a) {S1 S2 : Nat → Bool} {n : Nat} (hS : ∀ t, S t = true → t < n) (h1 : ∀ v, S v = (S1 v || S2 v)) (hd : ∀ v, S1 v = true → S2 v = false) (hx : ∀ u v, S1 u = true → S2 v = true → A u v = false) : nu A S n = nu A S1 n + nu A S2 n := by
  have hS1 : ∀ t, S1 t = true → t < n := fun t ht => hS t (by rw [h1, ht]; rfl)
  have hS2 : ∀ t, S2 t = true → t < n := fun t ht => hS t (by rw [h1, ht, Bool.or_true])
  have hd2 : ∀ v, S2 v = true → S1 v = false := fun v hv => by
    cases h : S1 v with
    | false => rfl
    | true => rw [hd v h] at hv; cases hv
  obtain ⟨m1, hm1⟩ := Mx.exists A S1 n
  obtain ⟨m2, hm2⟩ := Mx.exists A S2 n
  obtain ⟨m, hm⟩ := Mx.exists A S n
  have c1 := nu_mx hA hS1 hm1
  have c2 := nu_mx hA hS2 hm2
  have c3 := nu_mx hA hS hm
  -- together
  have i1 := hm1.isM
  have i2 := hm2.isM
  have i3 := hm.isM
  have hc : IsM A S (fun v => if S1 v = true then m1 v else m2 v) := by
    refine ⟨fun v => ?_, fun v hv => ?_⟩
    · by_cases e : S1 v = true
      · rw [if_pos e]
        by_cases h : m1 v = v
        · rw [h, if_pos e, h]
        · rw [if_pos (i1.in_ h), i1.inv]
      · rw [if_neg e]
        by_cases h : m2 v = v
        · rw [h, if_neg e, h]
        · rw [if_neg (by rw [hd2 _ (i2.in_ h)]; exact Bool.false_ne_true), i2.inv]
    · by_cases e : S1 v = true
      · rw [if_pos e] at hv ⊢
        exact ⟨by rw [h1, e]; rfl, (i1.ok v hv).2⟩
      · rw [if_neg e] at hv ⊢
        exact ⟨by rw [h1, (i2.ok v hv).1, Bool.or_true], (i2.ok v hv).2⟩
  have e1 : cov n (fun v => if S1 v = true then m1 v else m2 v) = cov n m1 + cov n m2 := by
    unfold cov
    rw [cntB_or (p := cv m1) (q := cv m2) fun v _ hv => by
      have h2 := (i1.ok v (cv_iff.1 hv)).1
      rw [cv_false]
      exact Classical.byContradiction fun e => by have h3 := (i2.ok v e).1; rw [hd v h2] at h3; cases h3]
    refine cntB_congr fun v _ => ?_
    rw [Bool.eq_iff_iff, Bool.or_eq_true, cv_iff, cv_iff, cv_iff]
    show (if S1 v = true then m1 v else m2 v) ≠ v ↔ _
    by_cases e : S1 v = true
    · rw [if_pos e]
      have : m2 v = v := Classical.byContradiction fun h => by have := (i2.ok v h).1; rw [hd v e] at this; cases this
      exact ⟨.inl, fun h => h.elim id fun h => absurd this h⟩
    · rw [if_neg e]
      have : m1 v = v := Classical.byContradiction fun h => e (i1.ok v h).1
      exact ⟨.inr, fun h => h.elim (fun h => absurd this h) id⟩
  have t1 := le_nu hA hS hc
  rw [e1] at t1
  -- apart
  have r1 : IsM A S1 (fun v => if S1 v = true then m v else v) := by
    refine ⟨fun v => ?_, fun v hv => ?_⟩
    · by_cases e : S1 v = true
      · rw [if_pos e]
        by_cases h : m v = v
        · rw [h, if_pos e, h]
        · have h3 := i3.in_ h
          have h4 := (i3.ok v h).2
          rw [h1] at h3
          cases h5 : S1 (m v) with
          | true => rw [if_pos rfl, i3.inv]
          | false =>
            rw [h5, Bool.false_or] at h3
            rw [hx v (m v) e h3] at h4
            cases h4
      · rw [if_neg e, if_neg e]
    · by_cases e : S1 v = true
      · rw [if_pos e] at hv ⊢
        exact ⟨e, (i3.ok v hv).2⟩
      · rw [if_neg e] at hv
        exact absurd rfl hv
  have r2 : IsM A S2 (fun v => if S2 v = true then m v else v) := by
    refine ⟨fun v => ?_, fun v hv => ?_⟩
    · by_cases e : S2 v = true
      · rw [if_pos e]
        by_cases h : m v = v
        · rw [h, if_pos e, h]
        · have h3 := i3.in_ h
          have h4 := (i3.ok v h).2
          rw [h1] at h3
          cases h5 : S2 (m v) with
          | true => rw [if_pos rfl, i3.inv]
          | false =>
            rw [h5, Bool.or_false] at h3
            rw [hA, hx (m v) v h3 e] at h4
            cases h4
      · rw [if_neg e, if_neg e]
    · by_cases e : S2 v = true
      · rw [if_pos e] at hv ⊢
        exact ⟨e, (i3.ok v hv).2⟩
      · rw [if_neg e] at hv
        exact absurd rfl hv
  have e2 : cov n m = cov n (fun v => if S1 v = true then m v else v) + cov n (fun v => if S2 v = true then m v else v) := by
    unfold cov
    rw [cntB_or fun v _ hv => by
      have h2 := (r1.ok v (cv_iff.1 hv)).1
      rw [cv_false]
      exact if_neg (by rw [hd v h2]; exact Bool.false_ne_true)]
    refine cntB_congr fun v _ => ?_
    rw [Bool.eq_iff_iff, Bool.or_eq_true, cv_iff, cv_iff, cv_iff]
    show m v ≠ v ↔ (if S1 v = true then m v else v) ≠ v ∨ (if S2 v = true then m v else v) ≠ v
    by_cases e : S1 v = true
    · rw [if_pos e]
      exact ⟨.inl, fun h => h.elim id fun h => by rw [if_neg (by rw [hd v e]; exact Bool.false_ne_true)] at h; exact absurd rfl h⟩
    · by_cases e' : S2 v = true
      · rw [if_pos e', if_neg e]
        exact ⟨.inr, fun h => h.elim (fun h => absurd rfl h) id⟩
      · rw [if_neg e', if_neg e]
        refine ⟨fun h => ?_, fun h => h.elim (fun h => absurd rfl h) (fun h => absurd rfl h)⟩
        have := (i3.ok v h).1
        rw [h1] at this
        simp only [Bool.or_eq_true] at this
        rcases this with h | h
        · exact absurd h e
        · exact absurd h e'
  have t2 := le_nu hA hS1 r1
  have t3 := le_nu hA hS2 r2
  omega
/-! ### the groups, one behind the other -/
/-- their least things -/
def ldL (A : Nat → Nat → Bool) (S : Nat → Bool) : List Nat := (List.range 16).filter fun g => S g && decide (nm A S 16 g = g)
/-- which group -/
def ixG (A : Nat → Nat → Bool) (S : Nat → Bool) (v : Nat) : Nat := (ldL A S).idxOf (nm A S 16 v)
theorem ldL_nodup : (ldL A S).Nodup := List.Pairwise.filter _ List.nodup_range
theorem ldL_mem {g : Nat} : g ∈ ldL A S ↔ g < 16 ∧ S g = true ∧ nm A S 16 g = g := by
  unfold ldL
  rw [List.mem_filter, List.mem_range]
  simp
theorem grpL_len : (grpL A S 16).length = (ldL A S).length := by
  unfold grpL ldL
  rw [List.length_map]
theorem grpL_at {k : Nat} {g : Nat} (h : (ldL A S)[k]? = some g) : (grpL A S 16)[k]? = some (filtL (fun i => S i && decide (nm A S 16 i = g)) 16) := by
  unfold grpL
  rw [List.getElem?_map]
  unfold ldL at h
  rw [h]
  rfl
section
variable (hA : ∀ a b, A a b = A b a) (hS : ∀ t, S t = true → t < 16)
theorem ixG_at {k g : Nat} (h : (ldL A S)[k]? = some g) : ixG A S g = k := by
  obtain ⟨hlt, he⟩ := List.getElem?_eq_some_iff.1 h
  have hg := ldL_mem.1 (List.mem_of_getElem? h)
  unfold ixG
  rw [hg.2.2, ← he]
  exact ldL_nodup.idxOf_getElem k hlt
include hA hS in
theorem ixG_lt {v : Nat} (hv : S v = true) : ixG A S v < (ldL A S).length ∧ (ldL A S)[ixG A S v]? = some (nm A S 16 v) := by
  have hm : nm A S 16 v ∈ ldL A S := ldL_mem.2 ⟨hS _ (nm_in hS hv), nm_in hS hv, nm_nm hA hS hv⟩
  have hlt : ixG A S v < (ldL A S).length := List.idxOf_lt_length_of_mem hm
  refine ⟨hlt, ?_⟩
  rw [List.getElem?_eq_getElem hlt]
  exact congrArg some (List.getElem_idxOf hlt)
include hA hS in
theorem row_mem {k g v : Nat} (h : (ldL A S)[k]? = some g) : v ∈ filtL (fun i => S i && decide (nm A S 16 i = g)) 16 ↔ S v = true ∧ ixG A S v = k := by
  rw [mem_filtL]
  simp only [Bool.and_eq_true, decide_eq_true_eq]
  have hg := ldL_mem.1 (List.mem_of_getElem? h)
  constructor
  · rintro ⟨_, h1, h2⟩
    refine ⟨h1, ?_⟩
    have := ixG_at h
    unfold ixG at this ⊢
    rw [h2]
    rw [hg.2.2] at this
    exact this
  · rintro ⟨h1, h2⟩
    refine ⟨hS v h1, h1, ?_⟩
    have := (ixG_lt hA hS h1).2
    rw [h2, h] at this
    exact (Option.some.inj this).symm
include hA hS in
theorem ix_adj {u v : Nat} (hu : S u = true) (hv : S v = true) (h : A u v = true) : ixG A S u = ixG A S v := by
  have : nm A S 16 u = nm A S 16 v := (nm_iff hA hS hu hv).2 (.step (.refl hu) h hv)
  unfold ixG
  rw [this]
/-- the things of the first k groups -/
def upG (A : Nat → Nat → Bool) (S : Nat → Bool) (k v : Nat) : Bool := S v && decide (ixG A S v < k)
include hA hS in
theorem nu_up_succ {k g : Nat} (h : (ldL A S)[k]? = some g) : nu A (upG A S (k + 1)) 16 = nu A (upG A S k) 16 + nu A (fun i => S i && decide (nm A S 16 i = g)) 16 := by
  have hr : ∀ v, (S v && decide (nm A S 16 v = g)) = true ↔ S v = true ∧ ixG A S v = k := fun v => by
    rw [← row_mem hA hS h, mem_filtL]
    exact ⟨fun h => ⟨hS v (by simp only [Bool.and_eq_true] at h; exact h.1), h⟩, fun h => h.2⟩
  refine nu_union hA (fun t ht => hS t (by unfold upG at ht; simp only [Bool.and_eq_true] at ht; exact ht.1)) (fun v => ?_) (fun v hv => ?_) (fun u v hu hv => ?_)
  · rw [Bool.eq_iff_iff, Bool.or_eq_true, hr]
    unfold upG
    simp only [Bool.and_eq_true, decide_eq_true_eq]
    constructor
    · rintro ⟨h1, h2⟩
      by_cases e : ixG A S v = k
      · exact .inr ⟨h1, e⟩
      · exact .inl ⟨h1, by omega⟩
    · rintro (⟨h1, h2⟩ | ⟨h1, h2⟩)
      · exact ⟨h1, by omega⟩
      · exact ⟨h1, by omega⟩
  · cases e : (S v && decide (nm A S 16 v = g)) with
    | false => rfl
    | true =>
      have := (hr v).1 e
      unfold upG at hv
      simp only [Bool.and_eq_true, decide_eq_true_eq] at hv
      omega
  · cases e : A u v with
    | false => rfl
    | true =>
      have h2 := (hr v).1 hv
      unfold upG at hu
      simp only [Bool.and_eq_true, decide_eq_true_eq] at hu
      have := ix_adj hA hS hu.1 h2.1 e
      omega
include hA in
theorem nu_up_zero : nu A (upG A S 0) 16 = 0 := by
  have e : upG A S 0 = fun _ => false := by
    funext v
    unfold upG
    simp
  rw [e]
  obtain ⟨m, hm⟩ := Mx.exists A (fun _ => false) 16
  have h0 : cov 16 m = 0 := cntB_zero fun v _ => by
    rw [cv_false]
    exact Classical.byContradiction fun h => by have := (hm.isM.ok v h).1; cases this
  have := nu_mx hA (fun t ht => by cases ht) hm
  omega
include hA hS in
theorem nu_up_all : nu A (upG A S (ldL A S).length) 16 = nu A S 16 := by
  have e : upG A S (ldL A S).length = S := by
    funext v
    unfold upG
    cases h : S v with
    | false => rfl
    | true => rw [decide_eq_true (ixG_lt hA hS h).1]; rfl
  rw [e]
/-! ### each group's row -/
theorem ldL_up {k g h : Nat} (h1 : (ldL A S)[k]? = some g) (h2 : (ldL A S)[k + 1]? = some h) : g < h := by
  have hp : (ldL A S).Pairwise (· < ·) := List.Pairwise.filter _ List.pairwise_lt_range
  obtain ⟨l1, e1⟩ := List.getElem?_eq_some_iff.1 h1
  obtain ⟨l2, e2⟩ := List.getElem?_eq_some_iff.1 h2
  rw [← e1, ← e2]
  exact List.pairwise_iff_getElem.1 hp k (k + 1) l1 l2 (by omega)
include hS in
theorem row_head {k g : Nat} (h : (ldL A S)[k]? = some g) : ∃ r, filtL (fun i => S i && decide (nm A S 16 i = g)) 16 = g :: r := by
  have hg := ldL_mem.1 (List.mem_of_getElem? h)
  obtain ⟨r, hr⟩ := filtL_pre (fun i => S i && decide (nm A S 16 i = g)) (g + 1) 16 (by omega)
  have e0 : filtL (fun i => S i && decide (nm A S 16 i = g)) g = [] := by
    refine List.eq_nil_iff_forall_not_mem.2 fun v hv => ?_
    obtain ⟨h1, h2⟩ := mem_filtL.1 hv
    simp only [Bool.and_eq_true, decide_eq_true_eq] at h2
    have := nm_le (A := A) hS h2.1
    omega
  rw [filtL_succ _ g, if_pos (by rw [hg.2.1, hg.2.2]; simp), e0] at hr
  exact ⟨r, by rw [hr]; rfl⟩
/-- what is noted after k groups and i things of the next one -/
def ofW (A : Nat → Nat → Bool) (S : Nat → Bool) (k : Nat) (T : List Nat) (v : Nat) : Int := if S v = true ∧ (ixG A S v < k ∨ (ixG A S v = k ∧ v ∈ T)) then ((ixG A S v : Nat) : Int) + 1 else 0
theorem ofW_step {k x : Nat} {T : List Nat} (hx : S x = true) (hk : ixG A S x = k) : updI (ofW A S k T) x ((k : Nat) + 1) = ofW A S k (T ++ [x]) := funext fun v => by
  unfold updI ofW
  by_cases e : v = x
  · subst e
    rw [if_pos (by first | rfl | simp), if_pos ⟨hx, .inr ⟨hk, by simp⟩⟩, hk]
  · rw [if_neg (by first | exact e | simpa using e)]
    have : v ∈ T ++ [x] ↔ v ∈ T := by simp [e]
    simp only [this]
theorem ofW_fresh {k x : Nat} {T : List Nat} (hk : ixG A S x = k) (hT : x ∉ T) : ofW A S k T x = 0 := if_neg fun h => by
  rcases h.2 with h2 | h2
  · omega
  · exact hT h2.2
include hA hS in
theorem ofW_end {k g : Nat} (h : (ldL A S)[k]? = some g) : ofW A S k (filtL (fun i => S i && decide (nm A S 16 i = g)) 16) = ofW A S (k + 1) [] := funext fun v => by
  unfold ofW
  have : (S v = true ∧ (ixG A S v < k ∨ (ixG A S v = k ∧ v ∈ filtL (fun i => S i && decide (nm A S 16 i = g)) 16))) ↔ (S v = true ∧ (ixG A S v < k + 1 ∨ (ixG A S v = k + 1 ∧ v ∈ ([] : List Nat)))) := by
    rw [row_mem hA hS h]
    simp only [List.not_mem_nil, and_false, or_false]
    constructor
    · rintro ⟨h1, h2⟩
      exact ⟨h1, by omega⟩
    · rintro ⟨h1, h2⟩
      refine ⟨h1, ?_⟩
      by_cases e : ixG A S v = k
      · exact .inr ⟨e, h1, e⟩
      · exact .inl (by omega)
  simp only [this]
theorem ofW_zero (v : Nat) : ofW A S 0 [] v = 0 := if_neg fun h => by
  rcases h.2 with h2 | h2
  · omega
  · exact List.not_mem_nil h2.2
/-- what is noted in the end -/
def ofA (A : Nat → Nat → Bool) (S : Nat → Bool) (v : Nat) : Int := if S v = true then ((ixG A S v : Nat) : Int) + 1 else 0
include hA hS in
theorem ofW_all (v : Nat) : ofW A S (ldL A S).length [] v = ofA A S v := by
  unfold ofW ofA
  by_cases h : S v = true
  · rw [if_pos ⟨h, .inl (ixG_lt hA hS h).1⟩, if_pos h]
  · rw [if_neg fun e => h e.1, if_neg h]
include hA hS in
/-- things of different groups do not suit each other -/
theorem ofA_apart {u v : Nat} (hu : ofA A S u ≠ 0) (hv : ofA A S v ≠ 0) (h : ofA A S u ≠ ofA A S v) : A u v = false := by
  unfold ofA at hu hv h
  by_cases h1 : S u = true
  · by_cases h2 : S v = true
    · rw [if_pos h1, if_pos h2] at h
      cases e : A u v with
      | false => rfl
      | true => exact absurd (by rw [ix_adj hA hS h1 h2 e]) h
    · rw [if_neg h2] at hv
      exact absurd rfl hv
  · rw [if_neg h1] at hu
    exact absurd rfl hu
theorem ofA_zero (v : Nat) : ofA A S v = 0 ↔ S v = false := by
  unfold ofA
  cases h : S v with
  | true =>
    rw [if_pos rfl]
    constructor
    · intro e; omega
    · intro e; cases e
  | false => simp
end
end Go.Proofs.Yteingahlmlndkaa

/-
  What is proved: the answers about a valid stock, in the words of the statements.
-/
namespace Go.Proofs.Yteingahlmlndkaa
open Go.RowKit
attribute [local irreducible] Go.wpCalm rowV
section
variable {X : World} {tv : Value} {s : Stk}
theorem v_best (h : StkAt X tv s) (hok : s.Ok) {N : Nat} (hN : nu s.adj (belowN s.nt) 16 = N) : Calls Try.prog 27 #[tv] X fun e w' => ∃ a c m, e = .returned (.tuple #[.slice a s.nt c, .int .i64 (N : Nat), .int .i64 0]) ∧ Mx s.adj (belowN s.nt) 16 m ∧ IntsAt w' (.slice a s.nt c) s.nt (mvI m) ∧ X.grows w' := by
  refine (bestF_ok X tv s h hok).mono ?_
  rintro e w' ⟨u, m, rfl, hm, hu, g⟩
  rw [hN]
  obtain ⟨a, c, rfl, -⟩ := id hu
  exact ⟨a, c, m, rfl, hm, hu, g⟩
/-- the list of all kinds -/
noncomputable def kindsF (s : Stk) (i : Nat) : Int := ((((List.range s.nt).map (kindN s.adj s.nt)).getD i 0 : Nat) : Int)
end
end Go.Proofs.Yteingahlmlndkaa

/-
  What is proved: all best pairings by the definition (31): rows in memory, and what is counted (plain).
-/
namespace Go.Proofs.Yteingahlmlndkaa
open Go.RowKit
/-- rows of n numbers that lie in these blocks -/
def OutI (n : Nat) (Q : List (Nat × Obj)) (vals : List Value) (rs : List (List Int)) : Prop := (∀ y ∈ Q, ∃ c, y.2 = .cells c 3) ∧ vals.length = rs.length ∧ ∀ (i : Nat) (x : Value), vals[i]? = some x → ∃ (A : Option Addr) (c : Nat) (r : List Int), x = .slice A n c ∧ rs[i]? = some r ∧ r.length = n ∧ ∀ U : World, (∀ y ∈ Q, U.heap[y.1]? = some y.2) → IntsAt U x n (lst r)
theorem OutI.nil (n : Nat) (Q : List (Nat × Obj)) (hQ : ∀ y ∈ Q, ∃ c, y.2 = .cells c 3) : OutI n Q [] [] := ⟨hQ, rfl, fun i x h => by simp at h⟩
theorem OutI.more {n : Nat} {Q : List (Nat × Obj)} {vals : List Value} {rs : List (List Int)} (h : OutI n Q vals rs) (b : Nat) (c : Array Value) : OutI n ((b, .cells c 3) :: Q) vals rs :=
  ⟨fun y hy => by rcases List.mem_cons.1 hy with rfl | hy; exact ⟨_, rfl⟩; exact h.1 y hy, h.2.1, fun i x hx => by
    obtain ⟨A, cp, r, h1, h2, h3, h4⟩ := h.2.2 i x hx
    exact ⟨A, cp, r, h1, h2, h3, fun U hU => h4 U fun y hy => hU y (List.mem_cons_of_mem _ hy)⟩⟩
/-- a row more -/
theorem OutI.snoc {n : Nat} {Q : List (Nat × Obj)} {vals : List Value} {rs : List (List Int)} (h : OutI n Q vals rs) {x : Value} {r : List Int} (hx : ∃ (A : Option Addr) (c : Nat), x = .slice A n c) (hr : r.length = n) (hU : ∀ U : World, (∀ y ∈ Q, U.heap[y.1]? = some y.2) → IntsAt U x n (lst r)) : OutI n Q (vals ++ [x]) (rs ++ [r]) := by
  refine ⟨h.1, by simp [h.2.1], fun i u hu => ?_⟩
  by_cases hi : i < vals.length
  · rw [List.getElem?_append_left hi] at hu
    obtain ⟨A, cp, r', h1, h2, h3, h4⟩ := h.2.2 i u hu
    exact ⟨A, cp, r', h1, by rw [List.getElem?_append_left (by rw [← h.2.1]; exact hi)]; exact h2, h3, h4⟩
  · have hi2 := (List.getElem?_eq_some_iff.1 hu).1
    rw [List.length_append] at hi2
    simp at hi2
    have : i = vals.length := by omega
    subst this
    rw [List.getElem?_append_right (by omega)] at hu
    simp at hu
    subst hu
    obtain ⟨A, c, rfl⟩ := hx
    exact ⟨A, c, r, rfl, by simp [h.2.1], hr, hU⟩
theorem OutI.row {n : Nat} {Q : List (Nat × Obj)} {vals : List Value} {rs : List (List Int)} (h : OutI n Q vals rs) {i : Nat} (hi : i < rs.length) : ∃ (A : Option Addr) (c : Nat) (r : List Int), vals[i]? = some (.slice A n c) ∧ rs[i]? = some r ∧ r.length = n ∧ ∀ U : World, (∀ y ∈ Q, U.heap[y.1]? = some y.2) → IntsAt U (.slice A n c) n (lst r) := by
  have hvl : i < vals.length := by rw [h.2.1]; exact hi
  have hv : vals[i]? = some vals[i] := List.getElem?_eq_getElem hvl
  obtain ⟨A, c, r, h1, h2, h3, h4⟩ := h.2.2 i _ hv
  rw [h1] at hv h4
  exact ⟨A, c, r, hv, h2, h3, h4⟩
/-- pairs of a row -/
def prR (n : Nat) (r : List Int) : Nat := cntB (fun v => decide ((v : Int) < lst r v)) n
def mostR (n : Nat) : List (List Int) → Nat
  | [] => 0
  | r :: l => max (prR n r) (mostR n l)
/-- all best pairings, by the definition -/
def allB (A : Nat → Nat → Bool) (n : Nat) : List (List Int) := (allR A n n).filter fun r => decide (prR n r = mostR n (allR A n n))
/-- what has been made of the row p when things below k have been tried -/
def partA' (A : Nat → Nat → Bool) (n i k : Nat) (p : List Int) : List (List Int) := p.set i (-1) :: ((List.range k).filter fun k => decide (i < k) && (p.getD k 0 == -2 && A i k)).map fun (k : Nat) => (p.set i (k : Int)).set k (i : Int)
end Go.Proofs.Yteingahlmlndkaa

/-
  What is proved: all best pairings by the definition (31): what its loops keep.
-/
namespace Go.Proofs.Yteingahlmlndkaa
open Go.RowKit
attribute [local irreducible] Go.wpCalm rowV rowI
/-- the block that is appended to is not one of these -/
theorem KpS.app26 {w U U' : World} {n : Nat} {Q : List (Nat × Obj)} {x1 : Nat} {cs : Array Value} {vals : List Value} {rs : List (List Int)} {v : Value} {b0 : Nat} (h : KpS w ((x1, .cells cs 25) :: Q) U) (hO : OutI n Q vals rs) (hg : U.grownBy U' (vblk v)) (hk : ∀ (k : Nat) (o : Obj), U.heap[k]? = some o → (∀ c fr, o ≠ Obj.cells c 26 fr) → U'.heap[k]? = some o) (hb : ∀ b, vblk v = some b → b0 ≤ b) (hw : w.heap.size ≤ b0) : KpS w ((x1, .cells cs 25) :: Q) U' :=
  h.appE (e := 26) hg hk (fun b e => Nat.le_trans hw (hb b e)) (fun y hy => .inl (by
    rcases List.mem_cons.1 hy with rfl | hy
    · exact fun c fr e => by cases e
    · obtain ⟨c9, he9⟩ := hO.1 y hy
      rw [he9]
      exact fun c fr e => by cases e))
/-- the row that is filled at first -/
theorem OutI.first {U : World} {base n : Nat} {rv : Value} (hq : QAt U base 3 rv (List.replicate n (.int .i64 (-2)))) : ∃ Q, OutI n Q [rv] [List.replicate n (-2)] ∧ ∀ y ∈ Q, U.heap[y.1]? = some y.2 := by
  obtain ⟨A, cap, rfl, h1, h2, -, h4⟩ := hq
  rw [List.length_replicate] at h1 ⊢
  by_cases hn : n = 0
  · subst hn
    refine ⟨[], ⟨fun y hy => absurd hy List.not_mem_nil, rfl, fun i x hx => ?_⟩, fun y hy => absurd hy List.not_mem_nil⟩
    have hi := (List.getElem?_eq_some_iff.1 hx).1
    have : i = 0 := by simpa using hi
    subst this
    cases hx
    exact ⟨A, cap, [], rfl, rfl, rfl, fun U _ => ⟨A, cap, rfl, Nat.zero_le _, h2, fun i j hi => by omega⟩⟩
  · obtain ⟨b, o, cur, rfl, -, h5, -, h6⟩ := h4 (by omega)
    refine ⟨[(b, .cells cur 3)], ⟨fun y hy => by rw [List.mem_singleton] at hy; subst hy; exact ⟨_, rfl⟩, rfl, fun i x hx => ?_⟩, fun y hy => by rw [List.mem_singleton] at hy; subst hy; exact h5⟩
    have hi := (List.getElem?_eq_some_iff.1 hx).1
    have : i = 0 := by simpa using hi
    subst this
    cases hx
    refine ⟨_, cap, List.replicate n (-2), rfl, rfl, List.length_replicate, fun U hU => ?_⟩
    have hb := hU _ (List.mem_singleton.2 rfl)
    refine ⟨_, cap, rfl, h1, h2, fun i j hi hj => ⟨b, o, rfl, cell_of_heap hb ?_⟩⟩
    have := h6 i (.int .i64 (-2)) (by rw [List.getElem?_replicate, if_pos hi])
    rw [show o + i * 1 + j = o + i by omega, this]
    show _ = some (Value.int .i64 ((List.replicate n (-2)).getD i 0))
    rw [List.getD_eq_getElem?_getD, List.getElem?_replicate, if_pos hi]
    rfl
/-- the rows of a round (ov), and those of the next one (v7) -/
structure AllS (w U : World) (n x1 : Nat) (cs : Array Value) (B0 c1 : Nat) (ov : Value) (vals : List Value) (rs : List (List Int)) (Q : List (Nat × Obj)) (v7 : Value) (vals2 : List Value) (rs2 : List (List Int)) : Prop where
  o1 : OutI n Q vals rs
  o2 : OutI n Q vals2 rs2
  q1 : QAt U B0 26 ov vals
  q2 : QAt U c1 26 v7 vals2
  hc : c1 ≤ U.heap.size
  hov : ∀ b, vblk ov = some b → b < c1
  hw : w.heap.size ≤ c1
  kp : KpS w ((x1, .cells cs 25) :: Q) U
section
variable {w U : World} {n x1 : Nat} {cs : Array Value} {B0 c1 : Nat} {ov : Value} {vals : List Value} {rs : List (List Int)} {Q : List (Nat × Obj)} {v7 : Value} {vals2 : List Value} {rs2 : List (List Int)}
theorem AllS.mono (h : AllS w U n x1 cs B0 c1 ov vals rs Q v7 vals2 rs2) {U' : World} (g : U.grows U') : AllS w U' n x1 cs B0 c1 ov vals rs Q v7 vals2 rs2 :=
  ⟨h.o1, h.o2, h.q1.mono g, h.q2.mono g, Nat.le_trans h.hc g.size, h.hov, h.hw, h.kp.mono g⟩
theorem AllS.blk (h : AllS w U n x1 cs B0 c1 ov vals rs Q v7 vals2 rs2) {b : Nat} {cur : Array Value} (hb : U.heap[b]? = some (.cells cur 3)) : AllS w U n x1 cs B0 c1 ov vals rs ((b, .cells cur 3) :: Q) v7 vals2 rs2 :=
  ⟨h.o1.more b cur, h.o2.more b cur, h.q1, h.q2, h.hc, h.hov, h.hw, (KpS.add h.kp.drop hb).add h.kp.hd⟩
theorem AllS.app (h : AllS w U n x1 cs B0 c1 ov vals rs Q v7 vals2 rs2) {V : World} {v' x : Value} {r : List Int} (hq : QAt V c1 26 v' (vals2 ++ [x])) (hg : U.grownBy V (vblk v7)) (hk : ∀ (k : Nat) (o : Obj), U.heap[k]? = some o → (∀ c fr, o ≠ Obj.cells c 26 fr) → V.heap[k]? = some o) (hx : ∃ (A : Option Addr) (c : Nat), x = .slice A n c) (hr : r.length = n) (hU : ∀ U : World, (∀ y ∈ Q, U.heap[y.1]? = some y.2) → IntsAt U x n (lst r)) : AllS w V n x1 cs B0 c1 ov vals rs Q v' (vals2 ++ [x]) (rs2 ++ [r]) :=
  ⟨h.o1, h.o2.snoc hx hr hU, h.q1.keep hg.size fun b hb hlt => hg.block b hlt (fun e => by have h1 := (h.q2.blk e.symm).1; have h2 := h.hov b hb; omega), hq, Nat.le_trans h.hc hg.size, h.hov, h.hw, h.kp.app26 h.o1 hg hk (fun b e => (h.q2.blk e).1) h.hw⟩
theorem AllS.cells (h : AllS w U n x1 cs B0 c1 ov vals rs Q v7 vals2 rs2) {ob oo m oc p : Nat} (ho : ov = .slice (some ⟨ob, oo, none⟩) m oc) {rb ro rc : Nat} {r : List Int} (hv : vals[p]? = some (.slice (some ⟨rb, ro, none⟩) n rc)) (hr : rs[p]? = some r) : U.cell? ⟨ob, oo + p, none⟩ = some (.slice (some ⟨rb, ro, none⟩) n rc) ∧ (∀ j, j < n → U.cell? ⟨rb, ro + j, none⟩ = some (.int .i64 (lst r j))) ∧ IntsAt U (.slice (some ⟨rb, ro, none⟩) n rc) n (lst r) := by
  subst ho
  obtain ⟨b9, o9, e9, h9⟩ := h.q1.get hv
  cases e9
  obtain ⟨A8, c8, r8, e8, hr8, -, hU⟩ := h.o1.2.2 p _ hv
  rw [hr] at hr8
  cases hr8
  have hI := hU U (fun y hy => h.kp.at_ y (List.mem_cons_of_mem _ hy))
  refine ⟨h9, fun j hj => ?_, hI⟩
  obtain ⟨A7, c7, e7, -, -, hc⟩ := hI
  cases e7
  obtain ⟨b6, o6, e6, c6⟩ := hc j 0 hj (by omega)
  cases e6
  simpa only [Nat.mul_one, Nat.add_zero] using c6
/-- the row p, as it lies -/
theorem AllS.row (h : AllS w U n x1 cs B0 c1 ov vals rs Q v7 vals2 rs2) {p : Nat} (hp : p < vals.length) (hn : 0 < n) : ∃ ob oo oc rb ro rc r, ov = .slice (some ⟨ob, oo, none⟩) vals.length oc ∧ vals[p]? = some (.slice (some ⟨rb, ro, none⟩) n rc) ∧ rs[p]? = some r ∧ r.length = n ∧ n ≤ rc ∧ rc ≤ maxLen ∧ vals.length ≤ oc ∧ oc ≤ maxLen ∧ ∀ U : World, (∀ y ∈ Q, U.heap[y.1]? = some y.2) → IntsAt U (.slice (some ⟨rb, ro, none⟩) n rc) n (lst r) := by
  obtain ⟨A8, c8, r, hv, hr, hrl, hU⟩ := h.o1.row (i := p) (by rw [← h.o1.2.1]; exact hp)
  obtain ⟨A, oc, he, ho1, ho2⟩ := h.q1.form
  subst he
  obtain ⟨ob, oo, rfl, -⟩ := h.q1.get hv
  obtain ⟨A7, c7, e7, hc1, hc2, hc⟩ := hU U (fun y hy => h.kp.at_ y (List.mem_cons_of_mem _ hy))
  cases e7
  obtain ⟨rb, ro, rfl, -⟩ := hc 0 0 hn (by omega)
  exact ⟨ob, oo, oc, rb, ro, _, r, rfl, hv, hr, hrl, hc1, hc2, ho1, ho2, hU⟩
end
end Go.Proofs.Yteingahlmlndkaa

/-
  What is proved: all best pairings, by the definition (31).
-/
namespace Go.Proofs.Yteingahlmlndkaa
open Go.RowKit
attribute [local irreducible] Go.wpCalm rowV rowI
end Go.Proofs.Yteingahlmlndkaa

/-
  What is proved: the law's own right pairing of a stock, by numbers (39).
-/
namespace Go.Proofs.Yteingahlmlndkaa
open Go.RowKit
attribute [local irreducible] Go.wpCalm rowV rowI
end Go.Proofs.Yteingahlmlndkaa

/-
  What is proved: MatchProved (6) answers true.
-/
namespace Go.Proofs.Yteingahlmlndkaa
open Go.RowKit
attribute [local irreducible] Go.wpCalm rowV
theorem and_u16 (a b : Nat) (ha : a < 65536) (hb : b < 65536) : bits .and .u16 (a : Int) (b : Int) = ((a &&& b : Nat) : Int) := (bits_nat .u16 16 (by decide) (fun n h0 h1 => by rw [IntKind.wrap_u16]; omega) a b (by omega) (by omega)).1
theorem has_bit16 {B t : Nat} (hB : B < 65536) : (bits .and .u16 ((B : Int) / 2 ^ t) 1 == 1) = B.testBit t := by
  have e1 : ((B : Int) / 2 ^ t) = ((B / 2 ^ t : Nat) : Int) := by simp
  have h1 : B / 2 ^ t ≤ B := Nat.div_le_self _ _
  rw [e1, show (1 : Int) = ((1 : Nat) : Int) from rfl, and_u16 _ 1 (by omega) (by omega), Nat.and_one_is_mod, Nat.testBit_eq_decide_div_mod_eq]
  by_cases h : B / 2 ^ t % 2 = 1
  · simp [h]
  · have : B / 2 ^ t % 2 = 0 := by omega
    simp [this]
theorem filtL_end {X : Nat → Bool} {n : Nat} (hX : ∀ t, X t = true → t < n) : ∀ m, n ≤ m → filtL X m = filtL X n := by
  intro m hm
  induction m with
  | zero => rw [show n = 0 by omega]
  | succ m ih =>
    by_cases e : n = m + 1
    · rw [e]
    · rw [filtL_succ, if_neg (fun h => by have := hX m h; omega)]
      exact ih (by omega)
/-- a cut that is given by bits has no lesser bound -/
theorem cut_bits {s : Stk} (h16 : s.nt ≤ 16) {X : Nat → Bool} (hX : ∀ t, X t = true → t < s.nt) : grpOk s (lstN (filtL X s.nt)) (filtL X s.nt).length = true ∧ nu s.adj (belowN s.nt) 16 ≤ cutN s (lstN (filtL X s.nt)) (filtL X s.nt).length := by
  have := nu_le_cut h16 hX
  rw [filtL_end hX 16 h16] at this
  exact ⟨grpOk_filt h16 hX, this⟩
end Go.Proofs.Yteingahlmlndkaa

/-
  What is proved: the law of a region that draws its order, by a property of all that has been done so far (an operation may write into what another one has made).
-/
namespace Go
open Go.RowKit
variable {P : Program} {ops : Array Oper}
def zipV (l : List Oper) (ds : List (List Nat)) : List (Oper × List Nat) := l.zip ds
/-- what is asked of the operations of the head -/
def oblV (P : Program) (dl : List (Option Tmp)) (J : (Nat → Bool) → (Nat → Value) → World → Prop) (w0 : World) (a : Act) : Nat → List (Oper × List Nat) → Prop
  | _, [] => True
  | i, (o, D) :: l => (∀ L val n x (K : Value → World → Prop), J L val (w0.plus n x) → L i = false → (∀ j ∈ D, L j = true) → (∀ v W', J (fun j => if j = i then true else L j) (fun j => if j = i then v else val j) W' → K v W') → o.goesO P (putL dl val D a) w0 (w0.plus n x) K) ∧ oblV P dl J w0 a (i + 1) l
end Go

/-
  What is proved: boxes for values, and what is stored into them, in whatever order a region draws (the property of InvV).
-/
namespace Go.Proofs.Yteingahlmlndkaa
open Go.RowKit
/-- p pure operations with their values; behind them m boxes of stocks, and m stores of S into them -/
structure JB (p m : Nat) (pv : Nat → Value) (S : Array Value) (c : Nat) (L : Nat → Bool) (val : Nat → Value) (W : World) : Prop where
  load : ∀ i, i < p → L i = true → val i = pv i
  box : ∀ i, i < m → L (p + i) = true → ∃ b, val (p + i) = .pointer (some ⟨b, 0, none⟩) ∧ c ≤ b ∧ W.heap[b]? = some (.cells (if L (p + m + i) = true then S else #[.slice none 0 0, .slice none 0 0, .int .i64 0]) 25)
  ne : ∀ i k, i < m → k < m → i ≠ k → L (p + i) = true → L (p + k) = true → val (p + i) ≠ val (p + k)
  st : ∀ i, i < m → L (p + m + i) = true → L (p + i) = true
section
variable {p m : Nat} {pv : Nat → Value} {S : Array Value} {c : Nat} {L : Nat → Bool} {val : Nat → Value} {W : World}
theorem JB.start (p m : Nat) (pv : Nat → Value) (S : Array Value) (c : Nat) (val : Nat → Value) (W : World) : JB p m pv S c (fun _ => false) val W :=
  ⟨fun _ _ h => absurd h Bool.false_ne_true, fun _ _ h => absurd h Bool.false_ne_true, fun _ _ _ _ _ h => absurd h Bool.false_ne_true, fun _ _ h => absurd h Bool.false_ne_true⟩
theorem JB.makes (h : JB p m pv S c L val W) {i j0 : Nat} (hi : i < m) (hj0 : j0 = p + i) (hL0 : L j0 = false) (hc : c ≤ W.heap.size) {b : Nat} (hb : b = W.heap.size) : JB p m pv S c (fun j => if j = j0 then true else L j) (fun j => if j = j0 then .pointer (some ⟨b, 0, none⟩) else val j) (W.alloc (.cells #[.slice none 0 0, .slice none 0 0, .int .i64 0] 25)) := by
  subst hj0
  have e3 : ∀ k, k < p → ¬ k = p + i := fun k hk => by omega
  have e6 : ∀ k, ¬ p + m + k = p + i := fun k => by omega
  have hL6 : L (p + m + i) = false := by
    cases h6 : L (p + m + i) with
    | false => rfl
    | true => rw [h.st i hi h6] at hL0; cases hL0
  have g : W.grows (W.alloc (.cells #[.slice none 0 0, .slice none 0 0, .int .i64 0] 25)) := (World.grows.refl _).alloc _
  have hold : ∀ k, k < m → L (p + k) = true → Value.pointer (some ⟨b, 0, none⟩) ≠ val (p + k) := fun k hk hL e => by
    obtain ⟨b', e', _, h3⟩ := h.box k hk hL
    rw [e'] at e
    cases e
    have := World.lt_of_block h3
    omega
  refine ⟨fun k hk hL => ?_, fun k hk hL => ?_, fun k l hk hl hkl hL hL' => ?_, fun k hk hL => ?_⟩
  · simp only [if_neg (e3 k hk)] at hL ⊢
    exact h.load k hk hL
  · simp only [if_neg (e6 k)] at hL ⊢
    by_cases e : k = i
    · subst e
      rw [if_pos rfl, hL6]
      exact ⟨b, rfl, by omega, World.heap_at _ _ _ hb⟩
    · have e' : ¬ p + k = p + i := by omega
      rw [if_neg e'] at hL ⊢
      obtain ⟨b', h1, h2, h3⟩ := h.box k hk hL
      exact ⟨b', h1, h2, g.heap_of h3⟩
  · by_cases e : k = i
    · have e' : ¬ p + l = p + i := by omega
      simp only [if_neg e'] at hL' ⊢
      rw [e, if_pos rfl]
      exact hold l hl hL'
    · have e' : ¬ p + k = p + i := by omega
      simp only [if_neg e'] at hL ⊢
      by_cases e2 : l = i
      · rw [e2, if_pos rfl]
        exact fun e => hold k hk hL e.symm
      · have e2' : ¬ p + l = p + i := by omega
        simp only [if_neg e2'] at hL' ⊢
        exact h.ne k l hk hl hkl hL hL'
  · simp only [if_neg (e6 k)] at hL
    by_cases e : k = i
    · simp only [e, if_pos]
    · have e' : ¬ p + k = p + i := by omega
      simp only [if_neg e']
      exact h.st k hk hL
theorem JB.stores (h : JB p m pv S c L val W) {i j0 : Nat} (hi : i < m) (hj0 : j0 = p + m + i) (hL3 : L (p + i) = true) {b : Nat} (hb : val (p + i) = .pointer (some ⟨b, 0, none⟩)) {v : Value} : JB p m pv S c (fun j => if j = j0 then true else L j) (fun j => if j = j0 then v else val j) (W.putObj b (.cells S 25)) := by
  subst hj0
  have e3 : ∀ k, k < m → ¬ p + k = p + m + i := fun k hk => by omega
  have e0 : ∀ k, k < p → ¬ k = p + m + i := fun k hk => by omega
  refine ⟨fun k hk hL => ?_, fun k hk hL => ?_, fun k l hk hl hkl hL hL' => ?_, fun k hk hL => ?_⟩
  · simp only [if_neg (e0 k hk)] at hL ⊢
    exact h.load k hk hL
  · simp only [if_neg (e3 k hk)] at hL ⊢
    obtain ⟨b', h1, h2, h3⟩ := h.box k hk hL
    by_cases e : k = i
    · subst e
      rw [hb] at h1
      cases h1
      refine ⟨b, hb, h2, ?_⟩
      rw [if_pos (by simp)]
      exact World.putObj_heap_same (World.lt_of_block h3)
    · have e' : ¬ p + m + k = p + m + i := by omega
      rw [if_neg e']
      have hne : b' ≠ b := fun e2 => h.ne k i hk hi e hL hL3 (by rw [h1, hb, e2])
      exact ⟨b', h1, h2, (World.putObj_heap_other hne).trans h3⟩
  · simp only [if_neg (e3 k hk), if_neg (e3 l hl)] at hL hL' ⊢
    exact h.ne k l hk hl hkl hL hL'
  · by_cases e : k = i
    · simp only [if_neg (e3 k hk)]
      rw [e]
      exact hL3
    · have e' : ¬ p + m + k = p + m + i := by omega
      simp only [if_neg e', if_neg (e3 k hk)] at hL ⊢
      exact h.st k hk hL
end
/-- blocks that stand, when a row grows that lies in none of them -/
theorem KpS.kept {w U U' : World} {P : List (Nat × Obj)} {v : Value} {base : Nat} {e : TypeId} {sz n : Nat} {xs : List Value} (h : KpS w P U) (ho : U.ownsRow base e sz v n xs) (hg : U.grownBy U' v.ownBlock) (hb : w.heap.size ≤ base) (hP : ∀ y ∈ P, v.ownBlock ≠ some y.1) : KpS w P U' :=
  ⟨hg.grows ho h.g hb, fun y hy => (hg.block y.1 (World.lt_of_block (h.at_ y hy)) (fun e => hP y hy e.symm)).trans (h.at_ y hy)⟩
theorem ints_at {U : World} {rA : Option Addr} {n rc : Nat} {f : Nat → Int} (h : IntsAt U (.slice rA n rc) n f) {i : Nat} (hi : i < n) : ∃ b o, rA = some ⟨b, o, none⟩ ∧ U.cell? ⟨b, o + i, none⟩ = some (.int .i64 (f i)) := by
  obtain ⟨A, c, he, -, -, hc⟩ := h
  cases he
  obtain ⟨b, o, rfl, e⟩ := hc i 0 hi (by omega)
  exact ⟨b, o, rfl, by simpa only [Nat.mul_one, Nat.add_zero] using e⟩
end Go.Proofs.Yteingahlmlndkaa

/-
  What is proved: append onto a slice without elements and without room, as a step of a chain.
-/
namespace Go
open Go.RowKit
section
variable {P : Program} {ops : Array Oper} {w0 : World}
end
end Go

/-
  What is proved: append onto a row of the region's own, as a step of a chain.
-/
namespace Go
open Go.RowKit
section
variable {P : Program} {ops : Array Oper} {w0 : World}
end
end Go

/-
  What is proved: a stock without one or two things (40).
-/
namespace Go.Proofs.Yteingahlmlndkaa
open Go.RowKit
attribute [local irreducible] Go.wpCalm rowV
theorem el62 : Try.prog.knows 62 (.agg #[.int .i64 0, .int .i64 0, .int .i64 0]) 3 24 := Program.knows_of (by kernel_rfl)
/-- blocks that stand, when a row of the call's own grows -/
theorem KpS.own {w U U' : World} {P : List (Nat × Obj)} {v : Value} {base : Nat} {e : TypeId} {sz n : Nat} {xs : List Value} (h : KpS w P U) (ho : U.ownsRow base e sz v n xs) (hg : U.grownBy U' v.ownBlock) (hb : w.heap.size ≤ base) (hP : ∀ y ∈ P, y.1 < base) : KpS w P U' :=
  ⟨hg.grows ho h.g hb, fun y hy => (hg.block y.1 (World.lt_of_block (h.at_ y hy)) (fun e => by have := (ho.lt _ e.symm).1; have := hP y hy; omega)).trans (h.at_ y hy)⟩
theorem one_thing (w : World) (x y z : Value) (t b : Nat) (hb : b = w.heap.size) : SliceAt (w.alloc (.cells #[x, y, z] t)) (.slice (some ⟨b, 0, none⟩) 1 1) 1 3 (fun _ j => if j = 0 then x else if j = 1 then y else z) := by
  subst hb
  refine ⟨_, _, rfl, by omega, by unfold maxLen; omega, fun i j hi hj => ⟨_, _, rfl, ?_⟩⟩
  have hi0 : i = 0 := by omega
  subst hi0
  have h := World.heap_at w (.cells #[x, y, z] t) _ rfl
  rcases (show j = 0 ∨ j = 1 ∨ j = 2 by omega) with rfl | rfl | rfl <;> exact cell_of_heap h rfl
theorem thing_one (s : Stk) (t : Nat) : tableL 1 3 (fun _ j => if j = 0 then Value.int .i64 (s.tk t) else if j = 1 then .int .i64 (s.tw t) else .int .i64 (s.tg t)) = [tcell s t 0, tcell s t 1, tcell s t 2] := rfl
theorem KpS.things {w U : World} {s : Stk} {v : Value} {P : List (Nat × Obj)} (h : KpS w P U) (ht : SliceAt w v s.nt 3 (tcell s)) {i : Nat} (hi : i < s.nt) {sa : Option Addr} {sc : Nat} (hv : v = .slice sa s.nt sc) : ∃ b o, sa = some ⟨b, o, none⟩ ∧ U.cell? ⟨b, o + i * 3, none⟩ = some (.int .i64 (s.tk i)) ∧ U.cell? ⟨b, o + i * 3 + 1, none⟩ = some (.int .i64 (s.tw i)) ∧ U.cell? ⟨b, o + i * 3 + 2, none⟩ = some (.int .i64 (s.tg i)) := by
  subst hv
  obtain ⟨A, c, he, -, -, hc⟩ := ht.mono h.g
  cases he
  obtain ⟨b, o, rfl, c0⟩ := hc i 0 hi (by omega)
  obtain ⟨b', o', e', c1⟩ := hc i 1 hi (by omega)
  obtain ⟨b'', o'', e'', c2⟩ := hc i 2 hi (by omega)
  cases e'
  cases e''
  exact ⟨b, o, rfl, c0, c1, c2⟩
end Go.Proofs.Yteingahlmlndkaa

/-
  What is proved: MatchGroups (11) answers true.
-/
namespace Go.Proofs.Yteingahlmlndkaa
open Go.RowKit
attribute [local irreducible] Go.wpCalm rowV rowI
attribute [local go_sem ↓] make26
theorem wr_sub1 {g g' : Nat} (h : g' + 1 = g) (hg : g ≤ 16) : IntKind.i64.wrap ((g : Int) - 1) = (g' : Nat) := wrapI (by omega) ⟨by omega, by omega⟩
theorem list_shape {w : World} {v : Value} {L : List Nat} (h : ListAt w v L) : ∃ a c, v = .slice a L.length c := by
  obtain ⟨a, c, h1, -⟩ := h
  exact ⟨a, c, h1⟩
set_option maxRecDepth 100000 in
set_option maxHeartbeats 8000000 in
theorem groups_w (w : World) (tv : Value) (s : Stk) (ht : StkAt w tv s) (z2 : Int) (hz2 : 0 ≤ z2 ∧ z2 ≤ 65535) : Calls Try.prog 11 #[tv, .int .u16 z2] w fun e w' => e = .returned (.bool true) ∧ w.grows w' := by
  have HT := Lib.hid ht
  obtain ⟨Z, rfl⟩ : ∃ Z : Nat, z2 = (Z : Nat) := ⟨z2.toNat, by omega⟩
  have hZ : Z < 65536 := by omega
  obtain ⟨sv, vv, rfl, hT, hM⟩ := ht
  have HTh := Lib.hid hT
  have HMt := Lib.hid hM
  obtain ⟨sa, sc, rfl, hs1, hs2, -⟩ := hT
  obtain ⟨va, vc, rfl, -⟩ := hM
  unfold maxLen at hs2
  clear hz2
  go_enter Try.func11, Try.ntmps11
  obtain ⟨x1, hx1⟩ : ∃ x, w.heap.size = x := ⟨_, rfl⟩
  go_upto_region 1 with fail
  have k1 : KpS w [(x1, Obj.cells #[.slice sa s.nt sc, .slice va s.nm vc, .int .i64 s.wide] 25)] (w.alloc (Obj.cells #[.slice sa s.nt sc, .slice va s.nm vc, .int .i64 s.wide] 25)) := (KpS.mk (by (repeat (first | exact World.grows.refl _ | assumption | refine World.grows.alloc ?_ _ | refine World.grows.plus ?_ _ _ | refine World.grows.drew ?_))) (fun y hy => absurd hy List.not_mem_nil)).add (World.heap_at w _ _ hx1.symm)
  generalize w.alloc (Obj.cells #[.slice sa s.nt sc, .slice va s.nm vc, .int .i64 s.wide] 25) = W1 at k1 ⊢
  have HK := Lib.hid k1
  clear k1
  have q0 := cell_of_heap (i := 0) HK.out.hd rfl
  have q1 := cell_of_heap (i := 1) HK.out.hd rfl
  have q2 := cell_of_heap (i := 2) HK.out.hd rfl
  go_wp2_with (go_at_call 99; fail)
  refine (fine_c _ _ s (HT.out.mono (HK.out.g.trans (by (repeat (first | exact World.grows.refl _ | assumption | refine World.grows.alloc ?_ _ | refine World.grows.plus ?_ _ _ | refine World.grows.drew ?_)))))).mono ?_
  rintro e U ⟨rfl, g⟩
  replace HK := Lib.hid (HK.out.mono (World.grows.trans (by (repeat (first | exact World.grows.refl _ | assumption | refine World.grows.alloc ?_ _ | refine World.grows.plus ?_ _ _ | refine World.grows.drew ?_))) g)); replace q0 := cell_of_heap (i := 0) HK.out.hd rfl; replace q1 := cell_of_heap (i := 1) HK.out.hd rfl; replace q2 := cell_of_heap (i := 2) HK.out.hd rfl; clear g
  by_cases hc : s.check = 0
  · rw [decide_eq_true hc]
    have hok := (Stk.ok_iff s).1 hc
    have h16 := hok.n16
    have HOk := Lib.hid hok
    clear hc hok
    obtain ⟨X, hX⟩ : ∃ X : Nat → Bool, (fun v => decide (v < s.nt) && Z.testBit v) = X := ⟨_, rfl⟩
    have HX : Hid (∀ v, X v = (decide (v < s.nt) && Z.testBit v)) := Lib.hid fun v => by rw [← hX]
    obtain ⟨c1, hc1⟩ : ∃ x, U.heap.size = x := ⟨_, rfl⟩
    have hxc : x1 < c1 := by rw [← hc1]; exact World.lt_of_block HK.out.hd
    have HC1 : Hid (c1 ≤ U.heap.size) := Lib.hid (by omega)
    clear hX hc1
    go_wp2
    clear q0 q1 q2
    go_loopw [6, 7] (fun l i wr => ∃ k : Nat, k ≤ s.nt ∧ i = .int .i64 (k : Nat) ∧ Hid (QAt wr c1 3 l (ilist (filtL X k))) ∧ Hid (c1 ≤ wr.heap.size) ∧ Hid (KpS w [(x1, Obj.cells #[.slice sa s.nt sc, .slice va s.nm vc, .int .i64 s.wide] 25)] wr)) (fun _ i _ => s.nt - (intOf i).toNat)
    case atStart => exact ⟨0, by omega, rfl, Lib.hid (QAt.nil _ _ _), HC1, HK⟩
    case round => as_aux_lemma =>
      clear HK HC1
      obtain ⟨k, hk, rfl, hL, hCw, hKp⟩ := hrel
      obtain ⟨lv, rfl⟩ : ∃ lv, lv = u6 := ⟨_, rfl⟩
      have hl16 := filtL_len X k
      have q0 := cell_of_heap (i := 0) hKp.out.hd rfl
      have q1 := cell_of_heap (i := 1) hKp.out.hd rfl
      have q2 := cell_of_heap (i := 2) hKp.out.hd rfl
      by_cases hlt : k < s.nt
      · have hltI : (k : Int) < s.nt := by omega
        have hk0 : ¬ (k : Int) < 0 := by omega
        have hbit := has_bit16 (t := k) hZ
        have HS := Lib.hid (filtL_succ X k)
        have hXk := HX.out k
        rw [decide_eq_true hlt, Bool.true_and] at hXk
        cases hr : Z.testBit k with
        | true =>
          rw [hr] at hbit hXk
          have HS2 : Hid (filtL X (k + 1) = filtL X k ++ [k]) := Lib.hid (by rw [HS.out, if_pos hXk])
          obtain ⟨L, hLL⟩ : ∃ L, filtL X k = L := ⟨_, rfl⟩
          rw [hLL] at hL HS2 hl16
          clear hLL hr hXk
          go_upto_region 9 with fail
          (iterate 10 go_step)
          have gA : wr.grows (wr.alloc (Obj.cells #[.int .i64 (k : Nat)] 3)) := by (repeat (first | exact World.grows.refl _ | assumption | refine World.grows.alloc ?_ _ | refine World.grows.plus ?_ _ _ | refine World.grows.drew ?_))
          refine wpList_append_q _ rfl (.tmp 42) (.tmp 44) 26 (by rfl) c1 3 (.int .i64 0) 8 Try.underlying26 el3 (by rfl) lv (ilist L) (by rfl) (hL.out.mono gA) ⟨wr.heap.size, 0, none⟩ 1 (.int .i64 (k : Nat)) (by rfl) (by simp [go_sem]) rfl (by rfl) (by rw [ilist_len]; unfold maxLen; omega) (by rw [ilist_len]; omega) (by have := hCw.out; simp; omega) ?_
          intro v' V8 hq8 hg8 hv8 hk8
          rw [← ilist_snoc, ← HS2.out] at hq8
          have hlb : ∀ b, vblk lv = some b → c1 ≤ b := fun b hb => (hL.out.blk hb).1
          have kA := (hKp.out.mono gA).app hg8 hk8 (fun b hb => by have := hlb b hb; omega) (by
            intro y hy
            simp only [List.mem_cons, List.not_mem_nil, or_false] at hy
            rcases hy with rfl
            exact .inl (fun c fr e => by cases e))
          have hC8 : Hid (c1 ≤ V8.heap.size) := Lib.hid (Nat.le_trans hCw.out (Nat.le_trans gA.size hg8.size))
          have HK8 := Lib.hid kA
          have HL8 := Lib.hid hq8
          clear hg8 hk8 hv8 kA hq8 gA hlb hL hKp hCw q0 q1 q2 hbit
          go_wp2
          case roundEnd => exact ⟨⟨k + 1, by omega, by go_num, HL8, hC8, HK8⟩, by simp [intOf]; omega⟩
        | false =>
          rw [hr] at hbit hXk
          have HS2 : Hid (filtL X (k + 1) = filtL X k) := Lib.hid (by rw [HS.out, if_neg (by rw [hXk]; exact Bool.false_ne_true)])
          clear hr hXk
          go_wp2
          case roundEnd => exact ⟨⟨k + 1, by omega, by go_num, by rw [HS2.out]; exact hL, hCw, hKp⟩, by simp [intOf]; omega⟩
      · have hltI : ¬ (k : Int) < s.nt := by omega
        have hkn : k = s.nt := by omega
        rw [hkn] at hL hl16
        have hLI := hL.out.listAt
        obtain ⟨lA, lc, rfl, -⟩ := id hLI
        have HLI : Hid (IntsAt wr (.slice lA (filtL X s.nt).length lc) (filtL X s.nt).length (lstN (filtL X s.nt))) := Lib.hid hLI
        have hXn : ∀ t, X t = true → t < s.nt := fun t h => by rw [HX.out, Bool.and_eq_true, decide_eq_true_eq] at h; exact h.1
        obtain ⟨hg1, -⟩ := cut_bits h16 hXn
        have HK := hKp
        obtain ⟨S, hS⟩ : ∃ S, lessX (belowN s.nt) X = S := ⟨_, rfl⟩
        have HS : Hid (∀ v, S v = (decide (v < s.nt) && !Z.testBit v)) := Lib.hid fun v => by
          rw [← hS]
          unfold lessX belowN
          rw [HX.out]
          cases decide (v < s.nt) <;> simp
        have h17 := groups_ok wr (.agg #[.slice sa s.nt sc, .slice va s.nm vc, .int .i64 s.wide]) s (HT.out.mono (HK.out.g.trans (by (repeat (first | exact World.grows.refl _ | assumption | refine World.grows.alloc ?_ _ | refine World.grows.plus ?_ _ _ | refine World.grows.drew ?_))))) HOk.out _ _ _ HLI.out
        unfold GrpIs at h17
        have HG1 := Lib.hid hg1
        have HXn := Lib.hid hXn
        have HSe := Lib.hid hS
        clear hLI hg1 hL hKp hkn hCw hS hXn HLI
        go_wp2_with (go_at_call 99; fail)
        refine h17.mono ?_
        rintro e U2 ⟨g, hp⟩
        rw [if_pos HG1.out, lessX_filt HXn.out, HSe.out] at hp
        obtain ⟨u, vals, rfl, hO⟩ := hp
        clear h17 HG1 HXn HSe
        replace HK := Lib.hid (HK.out.mono (World.grows.trans (by (repeat (first | exact World.grows.refl _ | assumption | refine World.grows.alloc ?_ _ | refine World.grows.plus ?_ _ _ | refine World.grows.drew ?_))) g)); replace q0 := cell_of_heap (i := 0) HK.out.hd rfl; replace q1 := cell_of_heap (i := 1) HK.out.hd rfl; replace q2 := cell_of_heap (i := 2) HK.out.hd rfl; clear g
        obtain ⟨R, hR⟩ : ∃ R, grpL s.adj S 16 = R := ⟨_, rfl⟩
        rw [hR] at hO
        have HO := Lib.hid hO
        obtain ⟨gA, gc, rfl, hgc1, hgc2, -⟩ := hO
        have HR := Lib.hid hR
        have hS16 : ∀ t, S t = true → t < 16 := fun t h => by rw [HS.out, Bool.and_eq_true, decide_eq_true_eq] at h; omega
        have hRl : R.length = (ldL s.adj S).length := by rw [← hR]; exact grpL_len
        have hl16' : (ldL s.adj S).length ≤ 16 := by unfold ldL; exact filtL_range_le _ _
        have HS16 := Lib.hid hS16
        have HRl := Lib.hid hRl
        clear hR hS16 hRl
        obtain ⟨NG, hNG⟩ : ∃ x, R.length = x := ⟨_, rfl⟩
        have hNG16 : NG ≤ 16 := by rw [← hNG, HRl.out]; exact hl16'
        rw [hNG] at HO HRl hgc1 ⊢
        have HNG := Lib.hid hNG
        clear hNG hl16'
        go_wp2
        obtain ⟨oB, hoB⟩ : ∃ x, U2.heap.size = x := ⟨_, rfl⟩
        have hxo : x1 < oB := by rw [← hoB]; exact World.lt_of_block HK.out.hd
        have k2 : KpS U2 [(oB, Obj.cells (rowI s.nt (ofW s.adj S 0 [])) 3), (x1, Obj.cells #[.slice sa s.nt sc, .slice va s.nm vc, .int .i64 s.wide] 25)] (U2.alloc (.cells (rowI s.nt fun _ => 0) 3)) := by
          refine ((KpS.mk (by (repeat (first | exact World.grows.refl _ | assumption | refine World.grows.alloc ?_ _ | refine World.grows.plus ?_ _ _ | refine World.grows.drew ?_))) (fun y hy => absurd hy List.not_mem_nil)).add (alloc_old HK.out.hd)).add ?_
          rw [rowI_congr (g := fun _ => 0) fun i _ => ofW_zero i]
          exact World.heap_at _ _ _ hoB.symm
        simp only [hoB]
        generalize U2.alloc (.cells (rowI s.nt fun _ => 0) 3) = U3 at k2 ⊢
        have HK3 := Lib.hid k2
        have HG0 : Hid (w.grows U2) := Lib.hid HK.out.g
        have HoB : Hid (U2.heap.size ≤ oB) := Lib.hid (by omega)
        clear k2 HK q0 q1 q2 hoB
        go_loopw [11] (fun i11 wr => ∃ g : Nat, g ≤ NG ∧ i11 = .int .i64 (g : Nat) ∧ Hid (KpS U2 [(oB, Obj.cells (rowI s.nt (ofW s.adj S g [])) 3), (x1, Obj.cells #[.slice sa s.nt sc, .slice va s.nm vc, .int .i64 s.wide] 25)] wr)) (fun i11 _ => NG - (intOf i11).toNat)
        case atStart => exact ⟨0, by omega, rfl, HK3⟩
        case round => as_aux_lemma =>
          clear HK3
          obtain ⟨g, hg, rfl, HK⟩ := hrel
          by_cases hlt : g < NG
          · have hltI : (g : Int) < NG := by omega
            have hg0 : (0 : Int) ≤ (g : Int) := by omega
            obtain ⟨gl, hgl⟩ : ∃ y, (ldL s.adj S)[g]? = some y := ⟨_, List.getElem?_eq_getElem (by rw [← HRl.out]; exact hlt)⟩
            obtain ⟨-, gb, go, x, r, rfl, cx, hr, hL⟩ := OutR.row (HO.out.grow HK.out.g) hlt
            have hrr := grpL_at hgl
            rw [HR.out, hr] at hrr
            obtain ⟨rt, hrt⟩ := row_head HS16.out hgl
            have hre := (Option.some.inj hrr).trans hrt
            have hrm : ∀ v, v ∈ r ↔ S v = true ∧ ixG s.adj S v = g := fun v => by
              rw [Option.some.inj hrr]
              exact row_mem s.adj_symm HS16.out hgl
            have hrd : r.Nodup := by rw [Option.some.inj hrr]; exact filtL_nodup _ _
            have hr16 : r.length ≤ 16 := by rw [Option.some.inj hrr]; exact filtL_range_le _ _
            have hr1 : 0 < r.length := by rw [hre]; simp
            have hr0 : r.getD 0 0 = gl := by rw [hre]; rfl
            obtain ⟨xa, xc, rfl⟩ := list_shape hL
            obtain ⟨xb, xo, rfl, cx0⟩ := ints_at hL hr1
            rw [hr0] at cx0
            have hinc : (List.range r.length).all (incB s (lstN r)) = true := by
              have hq : ∀ t, (S t && decide (nm s.adj S 16 t = gl)) = true → t < s.nt := fun t h => by
                simp only [Bool.and_eq_true] at h
                have := HS.out t
                rw [h.1] at this
                simp only [Bool.true_eq, Bool.and_eq_true, decide_eq_true_eq] at this
                exact this.1
              have := grpOk_filt (s := s) (n := s.nt) h16 hq
              rw [← filtL_end hq 16 h16, ← Option.some.inj hrr] at this
              exact this
            have h43 : ∀ W, wr.grows W → Calls Try.prog 43 #[.agg #[.slice sa s.nt sc, .slice va s.nm vc, .int .i64 s.wide], .slice (some ⟨xb, xo, none⟩) r.length xc] W fun e w' => e = .returned (.bool true) ∧ W.grows w' := fun W gW => (rlist_c W (.agg #[.slice sa s.nt sc, .slice va s.nm vc, .int .i64 s.wide]) s (HT.out.mono (HG0.out.trans (HK.out.g.trans gW))) (.slice (some ⟨xb, xo, none⟩) r.length xc) r.length (lstN r) (IntsAt.mono hL gW)).mono (by rintro e w' ⟨rfl, g⟩; exact ⟨by rw [hinc], g⟩)
            have HH := Lib.hid h43
            have HL := Lib.hid hL
            have Hrm := Lib.hid hrm
            have Hrd := Lib.hid hrd
            have Hgl := Lib.hid hgl
            have Hrf := Lib.hid (Option.some.inj hrr)
            obtain ⟨rl, hrl⟩ : ∃ y, r.length = y := ⟨_, rfl⟩
            have Hrl := Lib.hid hrl
            rw [hrl] at hr1 hr16
            simp only [hrl] at h43 cx ⊢
            rw [Nat.add_zero] at cx0
            have hr1I : (0 : Int) < rl := by omega
            have hrz : ((rl : Int) == 0) = false := by simp; omega
            have q0 := cell_of_heap (i := 0) HK.out.drop.hd rfl
            have q1 := cell_of_heap (i := 1) HK.out.drop.hd rfl
            have q2 := cell_of_heap (i := 2) HK.out.drop.hd rfl
            clear hL hrm hrd hgl hrr hre hrt hr hr0 hrl hinc HH
            go_upto_region 17 with fail
            go_cut [96] from 62 to 96 (fun z w' => z = .bool false ∧ Hid (wr.grows w'))
            case first => as_aux_lemma =>
              by_cases hgz : g = 0
              · have hgI : decide (0 < g) = false := decide_eq_false (by omega)
                clear hgz
                (refine wp_region_calm (by kernel_rfl) (by kernel_rfl) ?_; (repeat (refine wpCalm_step (fun K hK => ?_); go_simp; first | (refine hK _ ?_; clear hK K) | (apply Exists.intro; refine ⟨fun n' x' => ?_, hK _ ?_⟩; (with_reducible exact h43 _ (by (repeat (first | exact World.grows.refl _ | assumption | refine World.grows.alloc ?_ _ | refine World.grows.plus ?_ _ _ | refine World.grows.drew ?_)))); clear hK K))); refine wpCalm_nil ?_; intro nq xq)
                go_wp2
                go_meet
                case rel => exact ⟨rfl, Lib.hid (World.grows_plus _ _ _)⟩
              · obtain ⟨g', hg'⟩ : ∃ g', g' + 1 = g := ⟨g - 1, by omega⟩
                obtain ⟨gl', hgl'⟩ : ∃ y, (ldL s.adj S)[g']? = some y := ⟨_, List.getElem?_eq_getElem (by rw [← HRl.out]; omega)⟩
                obtain ⟨-, gb', go', x', r', e', cx', hr', hL'⟩ := OutR.row (HO.out.grow HK.out.g) (show g' < NG by omega)
                cases e'
                have hrr' := grpL_at hgl'
                rw [HR.out, hr'] at hrr'
                obtain ⟨rt', hrt'⟩ := row_head HS16.out hgl'
                have hre' := (Option.some.inj hrr').trans hrt'
                have hup : gl' < gl := ldL_up hgl' (by rw [hg']; exact Hgl.out)
                obtain ⟨xa', xc', rfl⟩ := list_shape hL'
                have hr1' : 0 < r'.length := by rw [hre']; simp
                obtain ⟨xb', xo', rfl, cx0'⟩ := ints_at hL' hr1'
                rw [show r'.getD 0 0 = gl' by rw [hre']; rfl, Nat.add_zero] at cx0'
                obtain ⟨rl', hrl'⟩ : ∃ y, r'.length = y := ⟨_, rfl⟩
                rw [hrl'] at hr1' cx'
                have hr1I' : (0 : Int) < rl' := by omega
                have hgI : decide (0 < g) = true := decide_eq_true (by omega)
                have hw := wr_sub1 hg' (by omega)
                have hltI' : (g' : Int) < NG := by omega
                have hg0' : (0 : Int) ≤ (g' : Int) := by omega
                have hle : decide (gl ≤ gl') = false := decide_eq_false (by omega)
                clear hgz hup hrr' hre' hrt' hL' hr' hrl' hg' hgl'
                (refine wp_region_calm (by kernel_rfl) (by kernel_rfl) ?_; (repeat (refine wpCalm_step (fun K hK => ?_); go_simp; first | (refine hK _ ?_; clear hK K) | (apply Exists.intro; refine ⟨fun n' x' => ?_, hK _ ?_⟩; (with_reducible exact h43 _ (by (repeat (first | exact World.grows.refl _ | assumption | refine World.grows.alloc ?_ _ | refine World.grows.plus ?_ _ _ | refine World.grows.drew ?_)))); clear hK K))); refine wpCalm_nil ?_; intro nq xq)
                go_wp2
                go_meet
                case rel => exact ⟨rfl, Lib.hid (World.grows_plus _ _ _)⟩
            case rest =>
              obtain ⟨rfl, hgcut⟩ := hcut
              replace HK := Lib.hid (HK.out.mono hgcut.out)
              replace HL := Lib.hid (HL.out.mono hgcut.out)
              replace cx := hgcut.out.cell_of cx
              clear h43 cx0 hgcut q0 q1 q2 hrz
              obtain ⟨W5, rfl⟩ : ∃ W5, W5 = wc := ⟨_, rfl⟩
              have hK0 : Hid (KpS U2 [(oB, Obj.cells (rowI s.nt (ofW s.adj S g (r.take 0))) 3), (x1, Obj.cells #[.slice sa s.nt sc, .slice va s.nm vc, .int .i64 s.wide] 25)] W5) := HK
              go_wp2
              go_loopw [12] (fun i12 wr => ∃ i : Nat, i ≤ rl ∧ i12 = .int .i64 (i : Nat) ∧ Hid (KpS U2 [(oB, Obj.cells (rowI s.nt (ofW s.adj S g (r.take i))) 3), (x1, Obj.cells #[.slice sa s.nt sc, .slice va s.nm vc, .int .i64 s.wide] 25)] wr)) (fun i12 _ => rl - (intOf i12).toNat)
              case atStart => exact ⟨0, by omega, rfl, hK0⟩
              case round => as_aux_lemma =>
                clear hK0 HK cx
                obtain ⟨i, hi, rfl, HK⟩ := hrel
                obtain ⟨W6, rfl⟩ : ∃ W6, W6 = wr := ⟨_, rfl⟩
                obtain ⟨-, gb2, go2, x2, r2, e2, cx, hr2, hL2⟩ := OutR.row (HO.out.grow HK.out.g) hlt
                cases e2
                have hr2e : r2 = r := by
                  have h1 := grpL_at Hgl.out
                  rw [HR.out, hr2] at h1
                  rw [Option.some.inj h1, Hrf.out]
                subst hr2e
                obtain ⟨xa2, xc2, rfl⟩ := list_shape hL2
                by_cases hlt2 : i < rl
                · have hltI2 : (i : Int) < rl := by omega
                  obtain ⟨xb2, xo2, rfl, cxi⟩ := ints_at hL2 (show i < r2.length by rw [Hrl.out]; exact hlt2)
                  obtain ⟨v, hv⟩ : ∃ v, r2.getD i 0 = v := ⟨_, rfl⟩
                  rw [hv] at cxi
                  rw [Hrl.out] at cx
                  have hri : r2[i]? = some v := by
                    have h1 : i < r2.length := by rw [Hrl.out]; exact hlt2
                    rw [List.getD_eq_getElem?_getD, List.getElem?_eq_getElem h1] at hv
                    rw [List.getElem?_eq_getElem h1]
                    exact congrArg some hv
                  obtain ⟨hSv, hixv⟩ := (Hrm.out v).1 (List.mem_of_getElem? hri)
                  have hSv2 := HS.out v
                  rw [hSv] at hSv2
                  simp only [Bool.true_eq, Bool.and_eq_true, decide_eq_true_eq, Bool.not_eq_true'] at hSv2
                  obtain ⟨hvn, hvb⟩ := hSv2
                  have hnt : v ∉ r2.take i := fun h => by
                    obtain ⟨j, hj⟩ := List.getElem?_of_mem h
                    rw [List.getElem?_take] at hj
                    split at hj
                    · rename_i hji
                      have h1 := (List.getElem?_eq_some_iff.1 hj)
                      have h2 := (List.getElem?_eq_some_iff.1 hri)
                      obtain ⟨l1, e1⟩ := h1
                      obtain ⟨l2, e2⟩ := h2
                      have := (List.getElem_inj Hrd.out).1 (e1.trans e2.symm)
                      omega
                    · cases hj
                  have hts : r2.take (i + 1) = r2.take i ++ [v] := by
                    rw [List.take_succ, hri]
                    rfl
                  have c0 := rowI_cell HK.out.hd hvn
                  rw [ofW_fresh hixv hnt] at c0
                  have f0 := rowI_frozen HK.out.hd v
                  have hbit := has_bit16 (t := v) hZ
                  rw [hvb] at hbit
                  have hvI : (v : Int) < s.nt := by omega
                  have hv0 : ¬ (v : Int) < 0 := by omega
                  have k5 := (HK.out.drop.set (b := oB) HoB.out (fun y hy => by
                    rw [List.mem_singleton] at hy
                    subst hy
                    simp only
                    omega) v (.int .i64 ((g : Int) + 1))).add (rowI_store HK.out.hd hvn ((g : Int) + 1))
                  rw [show updI (ofW s.adj S g (r2.take i)) v ((g : Int) + 1) = ofW s.adj S g (r2.take (i + 1)) by rw [hts]; exact ofW_step hSv hixv] at k5
                  have HK5 := Lib.hid k5
                  clear k5 hts hnt hri hSv hixv hvb hv hL2 hr2
                  go_wp2
                  case roundEnd => exact ⟨⟨i + 1, by omega, by go_num, HK5⟩, by simp [intOf]; omega⟩
                · have hltI2 : ¬ (i : Int) < rl := by omega
                  have hie : i = rl := by omega
                  rw [Hrl.out] at cx
                  have HK5 : Hid (KpS U2 [(oB, Obj.cells (rowI s.nt (ofW s.adj S (g + 1) [])) 3), (x1, Obj.cells #[.slice sa s.nt sc, .slice va s.nm vc, .int .i64 s.wide] 25)] W6) := Lib.hid (by
                    have := HK.out
                    rw [hie, ← Hrl.out, List.take_length, Hrf.out, ofW_end s.adj_symm HS16.out Hgl.out] at this
                    exact this)
                  clear hie HK hL2 hr2
                  go_wp2
                  case roundEnd => exact ⟨⟨g + 1, by omega, by go_num, HK5⟩, by simp [intOf]; omega⟩
          · have hltI : ¬ (g : Int) < NG := by omega
            have hK6 : Hid (KpS U2 [(oB, Obj.cells (rowI s.nt (ofA s.adj S)) 3), (x1, Obj.cells #[.slice sa s.nt sc, .slice va s.nm vc, .int .i64 s.wide] 25)] wr) := Lib.hid (by
              have := HK.out
              rw [show g = NG by omega, HRl.out, rowI_congr (g := ofA s.adj S) fun i _ => ofW_all s.adj_symm HS16.out i] at this
              exact this)
            clear HK hlt hg
            have q1 := cell_of_heap (i := 1) hK6.out.drop.hd rfl
            have q2 := cell_of_heap (i := 2) hK6.out.drop.hd rfl
            obtain ⟨rB, hrB⟩ : ∃ x, wr.heap.size = x := ⟨_, rfl⟩
            have hro : oB < rB := by rw [← hrB]; exact World.lt_of_block hK6.out.hd
            have hUr : U2.heap.size ≤ rB := by rw [← hrB]; exact hK6.out.g.size
            go_wp2
            have gR : wr.grows (wr.alloc (Obj.cells #[.slice none 0 0, .slice va s.nm vc, .int .i64 s.wide] 25)) := (World.grows.refl _).alloc _
            have HK : Hid (KpS U2 [(rB, Obj.cells #[.slice none 0 0, .slice va s.nm vc, .int .i64 s.wide] 25), (oB, Obj.cells (rowI s.nt (ofA s.adj S)) 3), (x1, Obj.cells #[.slice sa s.nt sc, .slice va s.nm vc, .int .i64 s.wide] 25)] (wr.alloc (Obj.cells #[.slice none 0 0, .slice va s.nm vc, .int .i64 s.wide] 25))) := Lib.hid ((hK6.out.mono gR).add (World.heap_at _ _ _ hrB.symm))
            generalize wr.alloc (Obj.cells #[.slice none 0 0, .slice va s.nm vc, .int .i64 s.wide] 25) = W7 at HK ⊢
            clear q1 q2 gR hrB hK6
            obtain ⟨c4, hc4⟩ : ∃ x, W7.heap.size = x := ⟨_, rfl⟩
            have hrc : rB < c4 := by rw [← hc4]; exact World.lt_of_block HK.out.hd
            have HC4 : Hid (c4 ≤ W7.heap.size) := Lib.hid (by omega)
            clear hc4
            have hO0 : Hid (W7.ownsRow c4 62 3 (.slice none (filtL S 0).length 0) (filtL S 0).length (rowsT s (filtL S 0))) := Lib.hid (World.ownsRow_nil _ _ _ _)
            go_loopw [14] (fun i14 wr => ∃ (i : Nat) (la : Option Addr) (lc : Nat), i ≤ s.nt ∧ i14 = .int .i64 (i : Nat) ∧ Hid (wr.ownsRow c4 62 3 (.slice la (filtL S i).length lc) (filtL S i).length (rowsT s (filtL S i))) ∧ Hid (c4 ≤ wr.heap.size) ∧ Hid (KpS U2 [(rB, Obj.cells #[.slice la (filtL S i).length lc, .slice va s.nm vc, .int .i64 s.wide] 25), (oB, Obj.cells (rowI s.nt (ofA s.adj S)) 3), (x1, Obj.cells #[.slice sa s.nt sc, .slice va s.nm vc, .int .i64 s.wide] 25)] wr)) (fun i14 _ => s.nt - (intOf i14).toNat)
            case atStart => exact ⟨0, none, 0, by omega, rfl, hO0, HC4, HK⟩
            case round => as_aux_lemma =>
              clear HK HC4 hO0
              obtain ⟨i, la, lc, hi, rfl, hO, hC, HK⟩ := hrel
              have hl16 := filtL_range_le S i
              have HSu := Lib.hid (filtL_succ S i)
              by_cases hlt : i < s.nt
              · have hltI2 : (i : Int) < s.nt := by omega
                have hi0 : ¬ (i : Int) < 0 := by omega
                have hbit := has_bit16 (t := i) hZ
                have hSi := HS.out i
                rw [decide_eq_true hlt, Bool.true_and] at hSi
                have hz := ofA_zero (A := s.adj) (S := S) i
                have c0 := rowI_cell HK.out.drop.hd hlt
                have hap := fun k hk => ofA_apart s.adj_symm HS16.out (u := i) (v := k) hk
                obtain ⟨OV, hOV⟩ : ∃ y, ofA s.adj S i = y := ⟨_, rfl⟩
                have HOV := Lib.hid hOV
                rw [hOV] at c0 hz hap
                have Hap := Lib.hid hap
                obtain ⟨L, hL⟩ : ∃ L, filtL S i = L := ⟨_, rfl⟩
                rw [hL] at hO HK hl16 HSu
                obtain ⟨k, hk⟩ : ∃ k, L.length = k := ⟨_, rfl⟩
                rw [hk] at hO HK hl16
                have Hk := Lib.hid hk
                have hoz : (OV == 0) = Z.testBit i := by
                  rw [Bool.eq_iff_iff, beq_iff_eq, hz, hSi]
                  simp
                obtain ⟨zb, hzb⟩ : ∃ b, Z.testBit i = b := ⟨_, rfl⟩
                rw [hzb] at hbit hoz hSi
                have HSi := Lib.hid hSi
                have Hoz := Lib.hid hoz
                clear hz hL hk hSi hap hzb hOV
                go_upto_region 29 with fail
                (refine wp_region_calm (by kernel_rfl) (by kernel_rfl) ?_; (repeat (refine wpCalm_step (fun K hK => ?_); go_simp; first | (refine hK _ ?_; clear hK K) | (apply Exists.intro; refine ⟨fun n' x' => ?_, hK _ ?_⟩; (fail); clear hK K))); refine wpCalm_nil ?_; intro nq xq)
                have gN := World.grows_plus wr nq xq
                replace HK := Lib.hid (HK.out.mono gN)
                replace hO := Lib.hid (hO.out.grow gN)
                replace hC := Lib.hid (Nat.le_trans hC.out gN.size)
                replace c0 := gN.cell_of c0
                generalize wr.plus nq xq = W8 at HK hO hC c0 ⊢
                clear gN hbit
                have hne : (OV != 0) = !zb := by rw [bne, hoz]
                go_upto_if 166 with fail
                go_cut [] from 167 to 176 (fun w' => ∃ (la' : Option Addr) (lc' : Nat), Hid (w'.ownsRow c4 62 3 (.slice la' (filtL S (i + 1)).length lc') (filtL S (i + 1)).length (rowsT s (filtL S (i + 1)))) ∧ Hid (c4 ≤ w'.heap.size) ∧ Hid (KpS U2 [(rB, Obj.cells #[.slice la' (filtL S (i + 1)).length lc', .slice va s.nm vc, .int .i64 s.wide] 25), (oB, Obj.cells (rowI s.nt (ofA s.adj S)) 3), (x1, Obj.cells #[.slice sa s.nt sc, .slice va s.nm vc, .int .i64 s.wide] 25)] w'))
                case first => as_aux_lemma =>
                  cases zb with
                  | true =>
                    have HS2 : Hid (filtL S (i + 1) = L) := Lib.hid (by rw [HSu.out, HSi.out]; rfl)
                    rw [Bool.not_true] at hne
                    clear hoz
                    go_wp2
                    go_meet
                    case rel => exact ⟨la, lc, by rw [HS2.out, Hk.out]; exact hO, hC, by rw [HS2.out, Hk.out]; exact HK⟩
                  | false =>
                    have HS2 : Hid (filtL S (i + 1) = L ++ [i]) := Lib.hid (by rw [HSu.out, HSi.out]; rfl)
                    rw [Bool.not_false] at hne
                    clear hoz c0
                    have HTh2 := Lib.hid (HTh.out.mono HG0.out)
                    go_upto_region 32 with fail
                    obtain ⟨tb, to_, rfl, -⟩ := HK.out.things HTh2.out hlt rfl
                    obtain ⟨I, hIe⟩ : ∃ I : World → Prop, I = fun U => KpS U2 [(rB, Obj.cells #[.slice la k lc, .slice va s.nm vc, .int .i64 s.wide] 25), (oB, Obj.cells (rowI s.nt (ofA s.adj S)) 3), (x1, Obj.cells #[.slice (some ⟨tb, to_, none⟩) s.nt sc, .slice va s.nm vc, .int .i64 s.wide] 25)] U ∧ c4 ≤ U.heap.size := ⟨_, rfl⟩
                    have hI : ∀ W W', I W → W.grows W' → I W' := by
                      rw [hIe]
                      rintro W W' ⟨a1, a2⟩ g
                      exact ⟨a1.mono g, Nat.le_trans a2 g.size⟩
                    have hIw : I W8 := by rw [hIe]; exact ⟨HK.out, hC.out⟩
                    have HI : Hid (∀ U, I U → KpS U2 [(rB, Obj.cells #[.slice la k lc, .slice va s.nm vc, .int .i64 s.wide] 25), (oB, Obj.cells (rowI s.nt (ofA s.adj S)) 3), (x1, Obj.cells #[.slice (some ⟨tb, to_, none⟩) s.nt sc, .slice va s.nm vc, .int .i64 s.wide] 25)] U ∧ c4 ≤ U.heap.size) := Lib.hid fun U h => by rw [hIe] at h; exact h
                    have HIm : Hid (∀ U, KpS U2 [(rB, Obj.cells #[.slice la k lc, .slice va s.nm vc, .int .i64 s.wide] 25), (oB, Obj.cells (rowI s.nt (ofA s.adj S)) 3), (x1, Obj.cells #[.slice (some ⟨tb, to_, none⟩) s.nt sc, .slice va s.nm vc, .int .i64 s.wide] 25)] U ∧ c4 ≤ U.heap.size → I U) := Lib.hid fun U h => by rw [hIe]; exact h
                    have HT3 : Hid (∀ U, I U → U.cell? ⟨tb, to_ + i * 3, none⟩ = some (.int .i64 (s.tk i)) ∧ U.cell? ⟨tb, to_ + i * 3 + 1, none⟩ = some (.int .i64 (s.tw i)) ∧ U.cell? ⟨tb, to_ + i * 3 + 2, none⟩ = some (.int .i64 (s.tg i))) := Lib.hid fun U hU => by
                      obtain ⟨b9, o9, e9, h9⟩ := (HI.out U hU).1.things HTh2.out hlt rfl
                      cases e9
                      exact h9
                    clear hIe hne
                    (refine wp_region_chainJ 9 [7, 8] (I) (hI) (hIw) (by kernel_rfl) (by kernel_rfl) (by decide) ?_; simp only [without, only, withNo, List.take_succ_cons, List.take_zero, List.drop_succ_cons, List.drop_zero, List.take_nil, List.drop_nil, Nat.reduceAdd, Nat.reduceSub, List.filter, List.contains_cons, List.contains_nil, Nat.reduceBEq, Bool.or_false, Bool.false_or, Bool.true_or, Bool.or_true, Bool.or_self, Bool.not_true, Bool.not_false, List.map_cons, List.map_nil])
                    refine wpCalmJ_go rfl (.pointer (some ⟨rB, 0, none⟩)) (fun U hU => by go_simp) ?_
                    simp only [Act.put, List.setIfInBounds_toArray, List.set_cons_zero, List.set_cons_succ]
                    refine wpCalmJ_go rfl (.slice la k lc) (fun U hU => by have e1 := cell_of_heap (HI.out U hU).1.hd (i := 0) rfl; go_simp) ?_
                    simp only [Act.put, List.setIfInBounds_toArray, List.set_cons_zero, List.set_cons_succ]
                    refine wpCalmJ_go rfl (.pointer (some ⟨x1, 0, none⟩)) (fun U hU => by go_simp) ?_
                    simp only [Act.put, List.setIfInBounds_toArray, List.set_cons_zero, List.set_cons_succ]
                    refine wpCalmJ_go rfl (.slice (some ⟨tb, to_, none⟩) s.nt sc) (fun U hU => by have e1 := cell_of_heap (HI.out U hU).1.drop.drop.hd (i := 0) rfl; go_simp) ?_
                    simp only [Act.put, List.setIfInBounds_toArray, List.set_cons_zero, List.set_cons_succ]
                    refine wpCalmJ_go rfl (.int .i64 (i : Nat)) (fun U hU => by go_simp) ?_
                    simp only [Act.put, List.setIfInBounds_toArray, List.set_cons_zero, List.set_cons_succ]
                    refine wpCalmJ_go rfl (.pointer (some ⟨tb, to_ + i * 3, none⟩)) (fun U hU => by go_simp) ?_
                    simp only [Act.put, List.setIfInBounds_toArray, List.set_cons_zero, List.set_cons_succ]
                    refine wpCalmJ_go rfl (.agg #[.int .i64 (s.tk i), .int .i64 (s.tw i), .int .i64 (s.tg i)]) (fun U hU => by have e1 := (HT3.out U hU).1; have e2 := (HT3.out U hU).2.1; have e3 := (HT3.out U hU).2.2; go_simp) ?_
                    simp only [Act.put, List.setIfInBounds_toArray, List.set_cons_zero, List.set_cons_succ]
                    refine wpCalm_nilJ ?_
                    refine wpChain_stepOJ (fun K hK nd xd hgd => ?_)
                    go_simp
                    refine ⟨hI _ _ hgd (by (repeat (first | exact World.grows.refl _ | assumption | refine World.grows.alloc ?_ _ | refine World.grows.plus ?_ _ _ | refine World.grows.drew ?_))), hK _ _ ?_⟩
                    clear hK K hgd
                    have gV : W8.grows ((W8.plus nd xd).alloc (.cells #[.int .i64 (s.tk i), .int .i64 (s.tw i), .int .i64 (s.tg i)] 62)) := (World.grows_plus _ _ _).trans (by (repeat (first | exact World.grows.refl _ | assumption | refine World.grows.alloc ?_ _ | refine World.grows.plus ?_ _ _ | refine World.grows.drew ?_)))
                    refine wpChainJ_append rfl (.tmp 168) (.tmp 174) 22 (by rfl) c4 62 (.agg #[.int .i64 0, .int .i64 0, .int .i64 0]) 3 24 Try.underlying22 el62 (by rfl) (by omega) (.slice la k lc) k _ (by rfl) (hO.out.grow gV) _ (by rfl) 1 _ (fun W0 g => SliceAt.src (by omega) ((one_thing (W8.plus nd xd) (.int .i64 (s.tk i)) (.int .i64 (s.tw i)) (.int .i64 (s.tg i)) 62 _ (by simp)).mono g)) (by rw [thing_one]; exact tcell_one s i) (by unfold maxLen; omega) (by omega) (Nat.le_trans hC.out gV.size) ?_
                    rintro W0 v' w' hgW hI0 hown hgb
                    have hown0 := (hO.out.grow gV).grow hgW
                    have hKa := (HI.out W0 hI0).1.own hown0 hgb (by omega) (by
                      intro y hy
                      simp only [List.mem_cons, List.not_mem_nil, or_false] at hy
                      rcases hy with rfl | rfl | rfl <;> simp only <;> omega)
                    have hSa : c4 ≤ w'.heap.size := Nat.le_trans (HI.out W0 hI0).2 hgb.size
                    obtain ⟨la', lc', rfl, -, -⟩ := row_form hown
                    refine ⟨HIm.out _ ⟨hKa, hSa⟩, ?_⟩
                    refine wpChain_nilJ (fun nc2 xc2 => ?_)
                    have gX := World.grows_plus w' nc2 xc2
                    rw [thing_one, ← rowsT_snoc, ← HS2.out] at hown
                    have RO := hown.grow gX
                    have RK := hKa.mono gX
                    have RS := Nat.le_trans hSa gX.size
                    clear hown hgb hown0 hI0 hgW gV hI hIw HI HIm hKa hSa HT3 hO HK hC
                    generalize w'.plus nc2 xc2 = X9 at RO RK RS gX ⊢
                    clear gX
                    have q0 := cell_of_heap RK.hd (i := 0) rfl
                    have f0 := frozen_of_heap RK.hd 0
                    have hlen : Hid ((filtL S (i + 1)).length = k + 1) := Lib.hid (by rw [HS2.out, List.length_append, Hk.out]; rfl)
                    have RK2 := Lib.hid ((RK.drop.set (b := rB) (by omega) (fun y hy => by
                      simp only [List.mem_cons, List.not_mem_nil, or_false] at hy
                      rcases hy with rfl | rfl <;> simp only <;> omega) 0 (.slice la' (k + 1) lc')).add (store_of_heap RK.hd 0 (.slice la' (k + 1) lc')))
                    have RO2 : Hid ((X9.setCell ⟨rB, 0, none⟩ (.slice la' (k + 1) lc')).ownsRow c4 62 3 (.slice la' (k + 1) lc') (k + 1) (rowsT s (filtL S (i + 1)))) := Lib.hid (RO.set (p := ⟨rB, 0, none⟩) hrc _)
                    have RS2 : Hid (c4 ≤ (X9.setCell ⟨rB, 0, none⟩ (.slice la' (k + 1) lc')).heap.size) := Lib.hid (by simpa using RS)
                    clear RK RO RS
                    go_wp2
                    go_meet
                    case rel => exact ⟨la', lc', by rw [hlen.out]; exact RO2, RS2, by rw [hlen.out]; exact RK2⟩
                case rest =>
                  obtain ⟨la2, lc2, hO2, hC2, HK2⟩ := hcut
                  clear HK hO hC c0 hoz hne
                  obtain ⟨W9, rfl⟩ : ∃ W9, W9 = wc := ⟨_, rfl⟩
                  go_wp2
                  go_loopw [15] (fun i15 wr => ∃ j : Nat, j ≤ i ∧ i15 = .int .i64 (j : Nat) ∧ Hid (W9.grows wr)) (fun i15 _ => i - (intOf i15).toNat)
                  case atStart => exact ⟨0, by omega, rfl, Lib.hid (World.grows.refl _)⟩
                  case round => as_aux_lemma =>
                    obtain ⟨j, hj, rfl, HG⟩ := hrel
                    by_cases hlt2 : j < i
                    · have hltI3 : (j : Int) < (i : Int) := by omega
                      have hjn : j < s.nt := by omega
                      have hjI : (j : Int) < s.nt := by omega
                      have hj0 : (0 : Int) ≤ (j : Int) := by omega
                      have hi00 : (0 : Int) ≤ (i : Int) := by omega
                      have c0 := HG.out.cell_of (rowI_cell HK2.out.drop.hd hlt)
                      rw [HOV.out] at c0
                      have c1 := HG.out.cell_of (rowI_cell HK2.out.drop.hd hjn)
                      have hap := Hap.out j
                      obtain ⟨JV, hJV⟩ : ∃ y, ofA s.adj S j = y := ⟨_, rfl⟩
                      rw [hJV] at c1 hap
                      have q0 := HG.out.cell_of (cell_of_heap (i := 0) HK2.out.drop.drop.hd rfl)
                      have q1 := HG.out.cell_of (cell_of_heap (i := 1) HK2.out.drop.drop.hd rfl)
                      have q2 := HG.out.cell_of (cell_of_heap (i := 2) HK2.out.drop.drop.hd rfl)
                      have h41 : ∀ W, wr.grows W → Calls Try.prog 41 #[.agg #[.slice sa s.nt sc, .slice va s.nm vc, .int .i64 s.wide], .int .i64 (i : Nat), .int .i64 (j : Nat)] W fun e w' => e = .returned (.bool (s.suits i j)) ∧ W.grows w' := fun W gW => suits_c W _ s (HT.out.mono (HG0.out.trans (HK2.out.g.trans (HG.out.trans gW)))) HOk.out i j hlt hjn
                      go_upto_region 36 with fail
                      by_cases hv0 : OV = 0
                      · have hb1 : (OV != 0) = false := by rw [hv0]; rfl
                        clear hv0 hap hJV
                        (refine wp_region_calm (by kernel_rfl) (by kernel_rfl) ?_; (repeat (refine wpCalm_step (fun K hK => ?_); go_simp; first | (refine hK _ ?_; clear hK K) | (apply Exists.intro; refine ⟨fun n' x' => ?_, hK _ ?_⟩; (with_reducible exact h41 _ (by (repeat (first | exact World.grows.refl _ | assumption | refine World.grows.alloc ?_ _ | refine World.grows.plus ?_ _ _ | refine World.grows.drew ?_)))); clear hK K))); refine wpCalm_nil ?_; intro nq xq)
                        replace HG := Lib.hid (HG.out.trans (World.grows_plus wr nq xq))
                        generalize wr.plus nq xq = W10 at HG ⊢
                        clear c0 c1
                        go_wp2
                        case roundEnd => exact ⟨⟨j + 1, by omega, by go_num, HG⟩, by simp [intOf]; omega⟩
                      · have hb1 : (OV != 0) = true := bne_iff_ne.2 hv0
                        by_cases hw0 : JV = 0
                        · have hb2 : (JV != 0) = false := by rw [hw0]; rfl
                          clear hw0 hap hJV
                          (refine wp_region_calm (by kernel_rfl) (by kernel_rfl) ?_; (repeat (refine wpCalm_step (fun K hK => ?_); go_simp; first | (refine hK _ ?_; clear hK K) | (apply Exists.intro; refine ⟨fun n' x' => ?_, hK _ ?_⟩; (with_reducible exact h41 _ (by (repeat (first | exact World.grows.refl _ | assumption | refine World.grows.alloc ?_ _ | refine World.grows.plus ?_ _ _ | refine World.grows.drew ?_)))); clear hK K))); refine wpCalm_nil ?_; intro nq xq)
                          replace HG := Lib.hid (HG.out.trans (World.grows_plus wr nq xq))
                          generalize wr.plus nq xq = W10 at HG ⊢
                          clear c0 c1
                          go_wp2
                          case roundEnd => exact ⟨⟨j + 1, by omega, by go_num, HG⟩, by simp [intOf]; omega⟩
                        · have hb2 : (JV != 0) = true := bne_iff_ne.2 hw0
                          by_cases hvj : OV = JV
                          · have hb3 : (OV != JV) = false := by rw [hvj]; simp
                            clear hvj hap hJV hv0 hw0
                            (refine wp_region_calm (by kernel_rfl) (by kernel_rfl) ?_; (repeat (refine wpCalm_step (fun K hK => ?_); go_simp; first | (refine hK _ ?_; clear hK K) | (apply Exists.intro; refine ⟨fun n' x' => ?_, hK _ ?_⟩; (with_reducible exact h41 _ (by (repeat (first | exact World.grows.refl _ | assumption | refine World.grows.alloc ?_ _ | refine World.grows.plus ?_ _ _ | refine World.grows.drew ?_)))); clear hK K))); refine wpCalm_nil ?_; intro nq xq)
                            replace HG := Lib.hid (HG.out.trans (World.grows_plus wr nq xq))
                            generalize wr.plus nq xq = W10 at HG ⊢
                            clear c0 c1
                            go_wp2
                            case roundEnd => exact ⟨⟨j + 1, by omega, by go_num, HG⟩, by simp [intOf]; omega⟩
                          · have hb3 : (OV != JV) = true := bne_iff_ne.2 hvj
                            have hsu : s.suits i j = false := by
                              have := hap hv0 hw0 hvj
                              rwa [Stk.adj_suits hlt hjn] at this
                            rw [hsu] at h41
                            clear hvj hap hJV hv0 hw0
                            (refine wp_region_calm (by kernel_rfl) (by kernel_rfl) ?_; (repeat (refine wpCalm_step (fun K hK => ?_); go_simp; first | (refine hK _ ?_; clear hK K) | (apply Exists.intro; refine ⟨fun n' x' => ?_, hK _ ?_⟩; (with_reducible exact h41 _ (by (repeat (first | exact World.grows.refl _ | assumption | refine World.grows.alloc ?_ _ | refine World.grows.plus ?_ _ _ | refine World.grows.drew ?_)))); clear hK K))); refine wpCalm_nil ?_; intro nq xq)
                            replace HG := Lib.hid (HG.out.trans (World.grows_plus wr nq xq))
                            generalize wr.plus nq xq = W10 at HG ⊢
                            clear c0 c1
                            go_wp2
                            case roundEnd => exact ⟨⟨j + 1, by omega, by go_num, HG⟩, by simp [intOf]; omega⟩
                    · have hltI3 : ¬ (j : Int) < (i : Int) := by omega
                      have HK3 := Lib.hid (HK2.out.mono HG.out)
                      have hO3 := Lib.hid (hO2.out.grow HG.out)
                      have hC3 := Lib.hid (Nat.le_trans hC2.out HG.out.size)
                      clear HK2 hO2 hC2 HG
                      go_wp2
                      case roundEnd => exact ⟨⟨i + 1, la2, lc2, by omega, by go_num, hO3, hC3, HK3⟩, by simp [intOf]; omega⟩
              · have hltI2 : ¬ (i : Int) < s.nt := by omega
                have hin : i = s.nt := by omega
                rw [hin] at hO HK hl16
                have hSl : ∀ v, S v = true ↔ v ∈ filtL S s.nt := fun v => by
                  rw [mem_filtL]
                  refine ⟨fun h => ⟨?_, h⟩, fun h => h.2⟩
                  have := HS.out v
                  rw [h] at this
                  simp only [Bool.true_eq, Bool.and_eq_true, decide_eq_true_eq] at this
                  exact this.1
                have hrO : (s.sub (filtL S s.nt)).Ok := HOk.out.sub (by omega) fun t ht => (mem_filtL.1 ht).1
                have hrN := (nu_sub_all (s := s) (filtL_nodup S s.nt) (by omega) h16 (fun t ht => (mem_filtL.1 ht).1) hSl).1
                have hrS : StkAt wr (.agg #[.slice la (filtL S s.nt).length lc, .slice va s.nm vc, .int .i64 s.wide]) (s.sub (filtL S s.nt)) := ⟨_, _, rfl, rowsT_at hO.out, HMt.out.mono (HG0.out.trans HK.out.g)⟩
                obtain ⟨NA, hNA⟩ : ∃ x, nu s.adj S 16 = x := ⟨_, rfl⟩
                obtain ⟨S3, hS3⟩ : ∃ x, s.sub (filtL S s.nt) = x := ⟨_, rfl⟩
                rw [hNA, hS3] at hrN
                rw [hS3] at hrO hrS
                have HNA := Lib.hid hNA
                have HSl := Lib.hid hSl
                have HRo := Lib.hid hrO
                have HRn := Lib.hid hrN
                have HRs := Lib.hid hrS
                have p0 := cell_of_heap HK.out.hd (i := 0) rfl
                have p1 := cell_of_heap HK.out.hd (i := 1) rfl
                have p2 := cell_of_heap HK.out.hd (i := 2) rfl
                clear hSl hNA hS3 hrO hrN hrS hin hO hlt hi HSu hl16
                go_wp2_with (go_at_call 99; fail)
                refine (v_best HRs.out HRo.out HRn.out).mono ?_
                rintro e W10 ⟨a9, d9, m9, rfl, -, -, g10⟩
                have HB := Lib.hid (HK.out.drop.drop.mono g10)
                clear HK HRs p0 p1 p2 g10 hC HRo HRn
                have hz0 := nu_up_zero (A := s.adj) (S := S) s.adj_symm
                have hS0 : Hid (Value.int .i64 0 = .int .i64 (nu s.adj (upG s.adj S 0) 16 : Nat)) := Lib.hid (by rw [hz0]; rfl)
                clear hz0
                go_wp2
                go_loopw [18, 19] (fun i18 i19 wr => ∃ g : Nat, g ≤ NG ∧ i19 = .int .i64 (g : Nat) ∧ i18 = .int .i64 (nu s.adj (upG s.adj S g) 16 : Nat) ∧ Hid (KpS U2 [(x1, Obj.cells #[.slice sa s.nt sc, .slice va s.nm vc, .int .i64 s.wide] 25)] wr)) (fun _ i19 _ => NG - (intOf i19).toNat)
                case atStart => exact ⟨0, by omega, rfl, hS0.out, HB⟩
                case round => as_aux_lemma =>
                  clear HB hS0
                  obtain ⟨g, hg, rfl, rfl, HK⟩ := hrel
                  have hu16 : nu s.adj (upG s.adj S g) 16 ≤ 16 := by
                    have := nu_le s.adj_symm (S := upG s.adj S g) (n := 16) fun t ht => HS16.out t (by unfold upG at ht; simp only [Bool.and_eq_true] at ht; exact ht.1)
                    omega
                  by_cases hlt : g < NG
                  · have hltI : (g : Int) < NG := by omega
                    have hg0 : (0 : Int) ≤ (g : Int) := by omega
                    obtain ⟨gl, hgl⟩ : ∃ y, (ldL s.adj S)[g]? = some y := ⟨_, List.getElem?_eq_getElem (by rw [← HRl.out]; exact hlt)⟩
                    obtain ⟨-, gb, go, x, r, rfl, cx, hr, hL⟩ := OutR.row HO.out hlt
                    have hrr := grpL_at hgl
                    rw [HR.out, hr] at hrr
                    have hre := Option.some.inj hrr
                    have hq : ∀ t, (S t && decide (nm s.adj S 16 t = gl)) = true → t < s.nt := fun t h => by
                      simp only [Bool.and_eq_true] at h
                      have := HS.out t
                      rw [h.1] at this
                      simp only [Bool.true_eq, Bool.and_eq_true, decide_eq_true_eq] at this
                      exact this.1
                    have hrn : ∀ t ∈ r, t < s.nt := fun t ht => hq t (by rw [hre] at ht; exact (mem_filtL.1 ht).2)
                    have hrm : ∀ v, (S v && decide (nm s.adj S 16 v = gl)) = true ↔ v ∈ r := fun v => by
                      rw [hre, mem_filtL]
                      exact ⟨fun h => ⟨by have := hq v h; omega, h⟩, fun h => h.2⟩
                    have hrd : r.Nodup := by rw [hre]; exact filtL_nodup _ _
                    have hr16 : r.length ≤ 16 := by rw [hre]; exact filtL_range_le _ _
                    have hxo := HOk.out.sub hr16 hrn
                    have hxn := (nu_sub_all (s := s) hrd hr16 h16 hrn hrm).1
                    have hsum := nu_up_succ s.adj_symm HS16.out hgl
                    obtain ⟨NM, hNM⟩ : ∃ x, nu s.adj (fun i => S i && decide (nm s.adj S 16 i = gl)) 16 = x := ⟨_, rfl⟩
                    have hu16' : nu s.adj (upG s.adj S (g + 1)) 16 ≤ 16 := by
                      have := nu_le s.adj_symm (S := upG s.adj S (g + 1)) (n := 16) fun t ht => HS16.out t (by unfold upG at ht; simp only [Bool.and_eq_true] at ht; exact ht.1)
                      omega
                    rw [hNM] at hxn hsum
                    obtain ⟨SM, hSM⟩ : ∃ x, nu s.adj (upG s.adj S g) 16 = x := ⟨_, rfl⟩
                    obtain ⟨SN, hSN⟩ : ∃ x, nu s.adj (upG s.adj S (g + 1)) 16 = x := ⟨_, rfl⟩
                    have HSN := Lib.hid hSN
                    rw [hSM] at hu16 hsum ⊢
                    rw [hSN] at hsum hu16'
                    have HSum := Lib.hid hsum
                    obtain ⟨xa, xc, rfl⟩ := list_shape hL
                    obtain ⟨rl, hrl⟩ : ∃ y, r.length = y := ⟨_, rfl⟩
                    have Hrl := Lib.hid hrl
                    have HL := Lib.hid hL
                    have Hxo := Lib.hid hxo
                    have Hxn := Lib.hid hxn
                    have Hrn := Lib.hid hrn
                    rw [hrl] at cx hr16
                    have HCx := Lib.hid cx
                    have q1 := cell_of_heap (i := 1) HK.out.hd rfl
                    have q2 := cell_of_heap (i := 2) HK.out.hd rfl
                    obtain ⟨yB, hyB⟩ : ∃ x, wr.heap.size = x := ⟨_, rfl⟩
                    have hxy : x1 < yB := by rw [← hyB]; exact World.lt_of_block HK.out.hd
                    have hUy : U2.heap.size ≤ yB := by rw [← hyB]; exact HK.out.g.size
                    have gR : wr.grows (wr.alloc (Obj.cells #[.slice none 0 0, .slice va s.nm vc, .int .i64 s.wide] 25)) := (World.grows.refl _).alloc _
                    have HK7 : Hid (KpS U2 [(yB, Obj.cells #[.slice none 0 0, .slice va s.nm vc, .int .i64 s.wide] 25), (x1, Obj.cells #[.slice sa s.nt sc, .slice va s.nm vc, .int .i64 s.wide] 25)] (wr.alloc (Obj.cells #[.slice none 0 0, .slice va s.nm vc, .int .i64 s.wide] 25))) := Lib.hid ((HK.out.mono gR).add (World.heap_at _ _ _ hyB.symm))
                    have cx7 := HCx.out
                    replace cx7 := (HK.out.g.trans gR).cell_of cx7
                    clear hL hxo hxn hrn hrm hrd hrr hre hq hsum hNM hSM hSN hr hgl hrl cx HK gR
                    go_wp2
                    clear q1 q2 hyB
                    generalize wr.alloc (Obj.cells #[.slice none 0 0, .slice va s.nm vc, .int .i64 s.wide] 25) = W11 at HK7 cx7 ⊢
                    obtain ⟨c5, hc5⟩ : ∃ x, W11.heap.size = x := ⟨_, rfl⟩
                    have hyc : yB < c5 := by rw [← hc5]; exact World.lt_of_block HK7.out.hd
                    have HC5 : Hid (c5 ≤ W11.heap.size) := Lib.hid (by omega)
                    clear hc5 cx7
                    have hO0 : Hid (W11.ownsRow c5 62 3 (.slice none 0 0) 0 (rowsT s (r.take 0))) := Lib.hid (World.ownsRow_nil _ _ _ _)
                    go_loopw [21] (fun i21 wr => ∃ (i : Nat) (la : Option Addr) (lc : Nat), i ≤ rl ∧ i21 = .int .i64 (i : Nat) ∧ Hid (wr.ownsRow c5 62 3 (.slice la i lc) i (rowsT s (r.take i))) ∧ Hid (c5 ≤ wr.heap.size) ∧ Hid (KpS U2 [(yB, Obj.cells #[.slice la i lc, .slice va s.nm vc, .int .i64 s.wide] 25), (x1, Obj.cells #[.slice sa s.nt sc, .slice va s.nm vc, .int .i64 s.wide] 25)] wr)) (fun i21 _ => rl - (intOf i21).toNat)
                    case atStart => exact ⟨0, none, 0, by omega, rfl, hO0, HC5, HK7⟩
                    case round => as_aux_lemma =>
                      clear HK7 HC5 hO0
                      obtain ⟨i, la, lc, hi, rfl, hO, hC, HK⟩ := hrel
                      have cx := HK.out.g.cell_of HCx.out
                      by_cases hlt2 : i < rl
                      · have hltI2 : (i : Int) < rl := by omega
                        have hi0 : (0 : Int) ≤ (i : Int) := by omega
                        obtain ⟨xb, xo, rfl, cxi⟩ := ints_at HL.out (show i < r.length by rw [Hrl.out]; exact hlt2)
                        obtain ⟨v, hv⟩ : ∃ v, r.getD i 0 = v := ⟨_, rfl⟩
                        rw [hv] at cxi
                        have hri : r[i]? = some v := by
                          have h1 : i < r.length := by rw [Hrl.out]; exact hlt2
                          rw [List.getD_eq_getElem?_getD, List.getElem?_eq_getElem h1] at hv
                          rw [List.getElem?_eq_getElem h1]
                          exact congrArg some hv
                        have hvn : v < s.nt := Hrn.out v (List.mem_of_getElem? hri)
                        have HT2 : Hid (r.take (i + 1) = r.take i ++ [v]) := Lib.hid (by
                          rw [List.take_succ, hri]
                          rfl)
                        have HCi := Lib.hid cxi
                        have hvI : (v : Int) < s.nt := by omega
                        have hv0 : (0 : Int) ≤ (v : Int) := by omega
                        have HTh2 := Lib.hid (HTh.out.mono HG0.out)
                        clear hv hri cxi
                        go_upto_region 47 with fail
                        clear cx
                        obtain ⟨tb, to_, rfl, -⟩ := HK.out.things HTh2.out hvn rfl
                        obtain ⟨I, hIe⟩ : ∃ I : World → Prop, I = fun U => KpS U2 [(yB, Obj.cells #[.slice la i lc, .slice va s.nm vc, .int .i64 s.wide] 25), (x1, Obj.cells #[.slice (some ⟨tb, to_, none⟩) s.nt sc, .slice va s.nm vc, .int .i64 s.wide] 25)] U ∧ c5 ≤ U.heap.size := ⟨_, rfl⟩
                        have hI : ∀ W W', I W → W.grows W' → I W' := by
                          rw [hIe]
                          rintro W W' ⟨a1, a2⟩ g
                          exact ⟨a1.mono g, Nat.le_trans a2 g.size⟩
                        have hIw : I wr := by rw [hIe]; exact ⟨HK.out, hC.out⟩
                        have HI : Hid (∀ U, I U → KpS U2 [(yB, Obj.cells #[.slice la i lc, .slice va s.nm vc, .int .i64 s.wide] 25), (x1, Obj.cells #[.slice (some ⟨tb, to_, none⟩) s.nt sc, .slice va s.nm vc, .int .i64 s.wide] 25)] U ∧ c5 ≤ U.heap.size) := Lib.hid fun U h => by rw [hIe] at h; exact h
                        have HIm : Hid (∀ U, KpS U2 [(yB, Obj.cells #[.slice la i lc, .slice va s.nm vc, .int .i64 s.wide] 25), (x1, Obj.cells #[.slice (some ⟨tb, to_, none⟩) s.nt sc, .slice va s.nm vc, .int .i64 s.wide] 25)] U ∧ c5 ≤ U.heap.size → I U) := Lib.hid fun U h => by rw [hIe]; exact h
                        have HT3 : Hid (∀ U, I U → U.cell? ⟨tb, to_ + v * 3, none⟩ = some (.int .i64 (s.tk v)) ∧ U.cell? ⟨tb, to_ + v * 3 + 1, none⟩ = some (.int .i64 (s.tw v)) ∧ U.cell? ⟨tb, to_ + v * 3 + 2, none⟩ = some (.int .i64 (s.tg v))) := Lib.hid fun U hU => by
                          obtain ⟨b9, o9, e9, h9⟩ := (HI.out U hU).1.things HTh2.out hvn rfl
                          cases e9
                          exact h9
                        clear hIe
                        (refine wp_region_chainJ 15 [13, 14] (I) (hI) (hIw) (by kernel_rfl) (by kernel_rfl) (by decide) ?_; simp only [without, only, withNo, List.take_succ_cons, List.take_zero, List.drop_succ_cons, List.drop_zero, List.take_nil, List.drop_nil, Nat.reduceAdd, Nat.reduceSub, List.filter, List.contains_cons, List.contains_nil, Nat.reduceBEq, Bool.or_false, Bool.false_or, Bool.true_or, Bool.or_true, Bool.or_self, Bool.not_true, Bool.not_false, List.map_cons, List.map_nil])
                        refine wpCalmJ_go rfl (.pointer (some ⟨yB, 0, none⟩)) (fun U hU => by go_simp) ?_
                        simp only [Act.put, List.setIfInBounds_toArray, List.set_cons_zero, List.set_cons_succ]
                        refine wpCalmJ_go rfl (.slice la i lc) (fun U hU => by have e1 := cell_of_heap (HI.out U hU).1.hd (i := 0) rfl; go_simp) ?_
                        simp only [Act.put, List.setIfInBounds_toArray, List.set_cons_zero, List.set_cons_succ]
                        refine wpCalmJ_go rfl (.pointer (some ⟨x1, 0, none⟩)) (fun U hU => by go_simp) ?_
                        simp only [Act.put, List.setIfInBounds_toArray, List.set_cons_zero, List.set_cons_succ]
                        refine wpCalmJ_go rfl (.slice (some ⟨tb, to_, none⟩) s.nt sc) (fun U hU => by have e1 := cell_of_heap (HI.out U hU).1.drop.hd (i := 0) rfl; go_simp) ?_
                        simp only [Act.put, List.setIfInBounds_toArray, List.set_cons_zero, List.set_cons_succ]
                        refine wpCalmJ_go rfl (.slice (some ⟨gb, go, none⟩) NG gc) (fun U hU => by go_simp) ?_
                        simp only [Act.put, List.setIfInBounds_toArray, List.set_cons_zero, List.set_cons_succ]
                        refine wpCalmJ_go rfl (.int .i64 (g : Nat)) (fun U hU => by go_simp) ?_
                        simp only [Act.put, List.setIfInBounds_toArray, List.set_cons_zero, List.set_cons_succ]
                        refine wpCalmJ_go rfl (.pointer (some ⟨gb, go + g, none⟩)) (fun U hU => by go_simp) ?_
                        simp only [Act.put, List.setIfInBounds_toArray, List.set_cons_zero, List.set_cons_succ]
                        refine wpCalmJ_go rfl (.slice (some ⟨xb, xo, none⟩) rl xc) (fun U hU => by have e1 := (HI.out U hU).1.g.cell_of HCx.out; go_simp) ?_
                        simp only [Act.put, List.setIfInBounds_toArray, List.set_cons_zero, List.set_cons_succ]
                        refine wpCalmJ_go rfl (.int .i64 (i : Nat)) (fun U hU => by go_simp) ?_
                        simp only [Act.put, List.setIfInBounds_toArray, List.set_cons_zero, List.set_cons_succ]
                        refine wpCalmJ_go rfl (.pointer (some ⟨xb, xo + i, none⟩)) (fun U hU => by go_simp) ?_
                        simp only [Act.put, List.setIfInBounds_toArray, List.set_cons_zero, List.set_cons_succ]
                        refine wpCalmJ_go rfl (.int .i64 (v : Nat)) (fun U hU => by have e1 := (HI.out U hU).1.g.cell_of HCi.out; go_simp) ?_
                        simp only [Act.put, List.setIfInBounds_toArray, List.set_cons_zero, List.set_cons_succ]
                        refine wpCalmJ_go rfl (.pointer (some ⟨tb, to_ + v * 3, none⟩)) (fun U hU => by go_simp) ?_
                        simp only [Act.put, List.setIfInBounds_toArray, List.set_cons_zero, List.set_cons_succ]
                        refine wpCalmJ_go rfl (.agg #[.int .i64 (s.tk v), .int .i64 (s.tw v), .int .i64 (s.tg v)]) (fun U hU => by have e1 := (HT3.out U hU).1; have e2 := (HT3.out U hU).2.1; have e3 := (HT3.out U hU).2.2; go_simp) ?_
                        simp only [Act.put, List.setIfInBounds_toArray, List.set_cons_zero, List.set_cons_succ]
                        refine wpCalm_nilJ ?_
                        refine wpChain_stepOJ (fun K hK nd xd hgd => ?_)
                        go_simp
                        refine ⟨hI _ _ hgd (by (repeat (first | exact World.grows.refl _ | assumption | refine World.grows.alloc ?_ _ | refine World.grows.plus ?_ _ _ | refine World.grows.drew ?_))), hK _ _ ?_⟩
                        clear hK K hgd
                        have gV : wr.grows ((wr.plus nd xd).alloc (.cells #[.int .i64 (s.tk v), .int .i64 (s.tw v), .int .i64 (s.tg v)] 62)) := (World.grows_plus _ _ _).trans (by (repeat (first | exact World.grows.refl _ | assumption | refine World.grows.alloc ?_ _ | refine World.grows.plus ?_ _ _ | refine World.grows.drew ?_)))
                        refine wpChainJ_append rfl (.tmp 238) (.tmp 250) 22 (by rfl) c5 62 (.agg #[.int .i64 0, .int .i64 0, .int .i64 0]) 3 24 Try.underlying22 el62 (by rfl) (by omega) (.slice la i lc) i _ (by rfl) (hO.out.grow gV) _ (by rfl) 1 _ (fun W0 g => SliceAt.src (by omega) ((one_thing (wr.plus nd xd) (.int .i64 (s.tk v)) (.int .i64 (s.tw v)) (.int .i64 (s.tg v)) 62 _ (by simp)).mono g)) (by rw [thing_one]; exact tcell_one s v) (by unfold maxLen; omega) (by omega) (Nat.le_trans hC.out gV.size) ?_
                        rintro W0 v' w' hgW hI0 hown hgb
                        have hown0 := (hO.out.grow gV).grow hgW
                        have hKa := (HI.out W0 hI0).1.own hown0 hgb (by omega) (by
                          intro y hy
                          simp only [List.mem_cons, List.not_mem_nil, or_false] at hy
                          rcases hy with rfl | rfl <;> simp only <;> omega)
                        have hSa : c5 ≤ w'.heap.size := Nat.le_trans (HI.out W0 hI0).2 hgb.size
                        obtain ⟨la', lc', rfl, -, -⟩ := row_form hown
                        refine ⟨HIm.out _ ⟨hKa, hSa⟩, ?_⟩
                        refine wpChain_nilJ (fun nc2 xc2 => ?_)
                        have gX := World.grows_plus w' nc2 xc2
                        rw [thing_one, ← rowsT_snoc, ← HT2.out] at hown
                        have RO := hown.grow gX
                        have RK := hKa.mono gX
                        have RS := Nat.le_trans hSa gX.size
                        clear hown hgb hown0 hI0 hgW gV hI hIw HI HIm hKa hSa HT3 hO HK hC
                        generalize w'.plus nc2 xc2 = X9 at RO RK RS gX ⊢
                        clear gX
                        have q0 := cell_of_heap RK.hd (i := 0) rfl
                        have f0 := frozen_of_heap RK.hd 0
                        have RK2 := Lib.hid ((RK.drop.set (b := yB) (by omega) (fun y hy => by
                          simp only [List.mem_cons, List.not_mem_nil, or_false] at hy
                          rcases hy with rfl
                          simp only
                          omega) 0 (.slice la' (i + 1) lc')).add (store_of_heap RK.hd 0 (.slice la' (i + 1) lc')))
                        have RO2 : Hid ((X9.setCell ⟨yB, 0, none⟩ (.slice la' (i + 1) lc')).ownsRow c5 62 3 (.slice la' (i + 1) lc') (i + 1) (rowsT s (r.take (i + 1)))) := Lib.hid (RO.set (p := ⟨yB, 0, none⟩) hyc _)
                        have RS2 : Hid (c5 ≤ (X9.setCell ⟨yB, 0, none⟩ (.slice la' (i + 1) lc')).heap.size) := Lib.hid (by simpa using RS)
                        clear RK RO RS
                        go_wp2
                        case roundEnd => exact ⟨⟨i + 1, la', lc', by omega, by go_num, RO2, RS2, RK2⟩, by simp [intOf]; omega⟩
                      · have hltI2 : ¬ (i : Int) < rl := by omega
                        have hie : i = rl := by omega
                        rw [hie] at hO HK
                        have hXs : StkAt wr (.agg #[.slice la rl lc, .slice va s.nm vc, .int .i64 s.wide]) (s.sub r) := ⟨_, _, rfl, by
                          have := hO.out
                          rw [← Hrl.out, List.take_length] at this
                          rw [← Hrl.out]
                          exact rowsT_at this, HMt.out.mono (HG0.out.trans HK.out.g)⟩
                        obtain ⟨S4, hS4⟩ : ∃ x, s.sub r = x := ⟨_, rfl⟩
                        rw [hS4] at hXs Hxo Hxn
                        have HXs := Lib.hid hXs
                        have p0 := cell_of_heap HK.out.hd (i := 0) rfl
                        have p1 := cell_of_heap HK.out.hd (i := 1) rfl
                        have p2 := cell_of_heap HK.out.hd (i := 2) rfl
                        clear hXs hS4 hie hlt2 hO
                        go_wp2_with (go_at_call 99; fail)
                        refine (v_best HXs.out Hxo.out Hxn.out).mono ?_
                        rintro e W12 ⟨a8, d8, m8, rfl, -, -, g⟩
                        have HB := Lib.hid (HK.out.drop.mono g)
                        clear HK HXs p0 p1 p2 g hC cx
                        have hSe : ((SN : Nat) : Int) = (SM : Int) + (NM : Int) := by rw [HSum.out]; omega
                        have hNb : SM + NM ≤ 16 := by rw [← HSum.out]; exact hu16'
                        go_wp2
                        case roundEnd => exact ⟨⟨g + 1, by omega, by go_num, by rw [HSN.out, hSe], HB⟩, by simp [intOf]; omega⟩
                  · have hltI : ¬ (g : Int) < NG := by omega
                    have hgN : g = NG := by omega
                    have hfin : nu s.adj (upG s.adj S g) 16 = NA := by
                      rw [hgN, HRl.out, nu_up_all s.adj_symm HS16.out]
                      exact HNA.out
                    rw [hfin]
                    clear hfin hgN hlt hg hu16
                    go_wp2_with (go_at_call 99; fail)
                    refine (works_c _).mono ?_
                    rintro e U9 ⟨rfl, g⟩
                    replace HK := Lib.hid (HK.out.mono (World.grows.trans (by (repeat (first | exact World.grows.refl _ | assumption | refine World.grows.alloc ?_ _ | refine World.grows.plus ?_ _ _ | refine World.grows.drew ?_))) g))
                    clear g
                    go_wp2
                    (refine bodyPost_ret (v := .bool true) (by simp [results, Try.results11, go_sem]) rfl ?_)
                    exact ⟨rfl, HG0.out.trans (HK.out.g.trans (by (repeat (first | exact World.grows.refl _ | assumption | refine World.grows.alloc ?_ _ | refine World.grows.plus ?_ _ _ | refine World.grows.drew ?_))))⟩
  · rw [decide_eq_false hc]
    clear hc
    go_wp2_with (go_at_call 99; fail); refine (works_c _).mono ?_; rintro e U9 ⟨rfl, g⟩; replace HK := Lib.hid (HK.out.mono (World.grows.trans (by (repeat (first | exact World.grows.refl _ | assumption | refine World.grows.alloc ?_ _ | refine World.grows.plus ?_ _ _ | refine World.grows.drew ?_))) g)); clear g; go_wp2; (refine bodyPost_ret (v := .bool true) (by simp [results, Try.results11, go_sem]) rfl ?_); exact ⟨rfl, HK.out.g.trans (by (repeat (first | exact World.grows.refl _ | assumption | refine World.grows.alloc ?_ _ | refine World.grows.plus ?_ _ _ | refine World.grows.drew ?_)))⟩
end Go.Proofs.Yteingahlmlndkaa

/-
  What is proved: the statement MatchGroups, at every input.
-/
namespace Go.Proofs.Yteingahlmlndkaa
open Go.ChangeShapes Go.WideShapes Go.ChangeAt Go.RowKit

set_option maxRecDepth 100000 in
theorem matchGroups_lifted (os : Os) (started : os.Started) (H : Type) (enc : TypeId × Value → H) :
    ReturnsInHanded {} Try.checked os 11 .any (Rows.matchGroupsSpec.pre6 enc Try.prog Try.f11 Rows.matchGroupsRow.domain false) (Rows.matchGroupsSpec.post enc Try.prog Try.f11 false true false false) := by
  refine law_lifted (C := Try.checked) (tb := 4) started own_c laid_c (by kernel_rfl) Try.func11 (of_decide_eq_true (by kernel_rfl))
    (ChangeSpec.witness6 (enc := enc) (C := Try.checked) false ⟨#[], #[.agg #[.slice none 0 0, .slice none 0 0, .int .i64 0], .int .u16 0], []⟩ 8 (by kernel_rfl) (by kernel_rfl) (by kernel_rfl) (by kernel_rfl))
    rfl Try.underlying4 rfl (fun ds hl => ?_) (fun W base args ds ps hval hA => ?_)
  · match ds, hl with
    | [d1, d2], _ => exact ⟨rfl, rfl, rfl⟩
  · have hA' : DataW.TrodAll enc Try.prog W 0 (fun _ => true) true Try.f11.params.toList args.toList ds ps := hA
    have hval' : ∀ (j : Nat) t v, Try.f11.params[j]? = some t → args[j]? = some v → Value.okWide Try.prog W .any base t v := hval
    rw [Try.params11] at hA' hval'
    obtain ⟨v1, v2, d1, d2, p1, p2, rfl, rfl, rfl, h1, h2⟩ := trodAll_two hA'
    obtain ⟨s1, hs1⟩ := stock_of (hval' 0 25 v1 rfl rfl) h1
    obtain ⟨z2, rfl, -, -, hw2⟩ := open_int Try.underlying55 (hval' 1 55 v2 rfl rfl) h2; have hz2 := lit_u16 hw2
    exact groups_w W v1 s1 hs1 z2 hz2

theorem matchGroups_holds : Rows.MatchGroupsSaid :=
  OpenClaim.holds_of_wide 11 Try.f11 rfl rfl rfl rfl rfl rfl rfl ⟨rfl, rfl, rfl, rfl, rfl⟩ rfl rfl rfl rfl rfl (by kernel_rfl) Try.func11 (by kernel_rfl)
    (of_decide_eq_true (by kernel_rfl)) (by unfold Func.isWrapper; first | (rw [if_pos (by decide +kernel)]; kernel_rfl) | (rw [if_neg (by decide +kernel)]; exact ⟨rfl, rfl⟩))
    (fun os started H enc _ => matchGroups_lifted os started H enc)
end Go.Proofs.Yteingahlmlndkaa

