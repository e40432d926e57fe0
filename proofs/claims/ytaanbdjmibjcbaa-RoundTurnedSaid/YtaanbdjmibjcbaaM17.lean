/-
  What is proved: the lists that Costs gives, in one form; sizes of plans that are not long.
-/
import Derived.Test.YtaanbdjmibjcbaaM16
import Derived.Test.YtaanbdjmibjcbaaM12
set_option linter.all false
namespace Go.Proofs.Ytaanbdjmibjcbaa
open Go.RowKit
def costL (t : Town) (slow : Bool) : List Nat := if needE t slow = 0 then filtL (costB t slow) t.nv else []
theorem list_form {w : World} {v : Value} {L : List Nat} (h : ListAt w v L) : ∃ a c, v = .slice a L.length c ∧ L.length ≤ c := by
  obtain ⟨a, c, rfl, h1, -⟩ := h
  exact ⟨a, c, rfl, h1⟩
theorem costsL_c (w : World) (tv : Value) (t : Town) (slow : Bool) (ht : TownAt w tv t) : Calls Try.prog 39 #[tv, .bool slow] w fun e w' => ∃ a c, e = .returned (.tuple #[.slice a (costL t slow).length c, .int .i64 (needE t slow : Nat)]) ∧ w.grows w' ∧ ListAt w' (.slice a (costL t slow).length c) (costL t slow) := by
  refine (costs_c w tv t slow ht).mono ?_
  rintro e w' ⟨v, rfl, g, h⟩
  unfold costL
  by_cases h0 : needE t slow = 0
  · rw [if_pos h0] at h ⊢
    obtain ⟨a, c, rfl, -⟩ := list_form h
    exact ⟨a, c, rfl, g, h⟩
  · rw [if_neg h0] at h ⊢
    subst h
    exact ⟨_, _, rfl, g, ListAt.nil _⟩
theorem rcostsL_c (w : World) (tv : Value) (t : Town) (slow : Bool) (ht : TownAt w tv t) : Calls Try.prog 40 #[tv, .bool slow] w fun e w' => ∃ a c, e = .returned (.tuple #[.slice a (costL t slow).length c, .int .i64 (needE t slow : Nat)]) ∧ w.grows w' ∧ ListAt w' (.slice a (costL t slow).length c) (costL t slow) := by
  refine (rcosts_c w tv t slow ht).mono ?_
  rintro e w' ⟨v, rfl, g, h⟩
  unfold costL
  by_cases h0 : needE t slow = 0
  · rw [if_pos h0] at h ⊢
    obtain ⟨a, c, rfl, -⟩ := list_form h
    exact ⟨a, c, rfl, g, h⟩
  · rw [if_neg h0] at h ⊢
    subst h
    exact ⟨_, _, rfl, g, ListAt.nil _⟩
theorem late_form (f : Nat) (hf : ∀ (w : World) (tv : Value) (t : Town) (slow : Bool), TownAt w tv t → Calls Try.prog f #[tv, .bool slow] w fun e w' => ∃ v, e = .returned (.tuple #[v, .int .i64 (t.check : Int)]) ∧ w.grows w' ∧ ListAt w' v (lateL t slow)) (w : World) (tv : Value) (t : Town) (slow : Bool) (ht : TownAt w tv t) : Calls Try.prog f #[tv, .bool slow] w fun e w' => ∃ a c, e = .returned (.tuple #[.slice a (lateL t slow).length c, .int .i64 (t.check : Int)]) ∧ w.grows w' ∧ ListAt w' (.slice a (lateL t slow).length c) (lateL t slow) := by
  refine (hf w tv t slow ht).mono ?_
  rintro e w' ⟨v, rfl, g, h⟩
  obtain ⟨a, c, rfl, -⟩ := list_form h
  exact ⟨a, c, rfl, g, h⟩
theorem long_no {P : List (List Int)} (h : longP P = false) : P.length ≤ 30 ∧ P.flatten.length ≤ 1000 := by
  unfold longP at h
  simp only [Bool.or_eq_false_iff, decide_eq_false_iff_not, List.any_eq_false, decide_eq_true_eq] at h
  have h1 : ∀ (Q : List (List Int)), (∀ c ∈ Q, ¬ 30 < c.length) → Q.flatten.length ≤ 30 * Q.length := fun Q => by
    induction Q with
    | nil => intro _; simp
    | cons c Q ih =>
      intro hQ
      have a := ih fun d hd => hQ d (List.mem_cons_of_mem _ hd)
      have b := hQ c (List.mem_cons_self ..)
      rw [List.flatten_cons, List.length_append, List.length_cons]
      omega
  have := h1 P h.2
  omega
theorem plan_form {w : World} {v : Value} {P : List (List Int)} (h : PlanAt w v P) : ∃ a c, v = .slice a P.length c := by
  obtain ⟨row, ⟨a, c, rfl, -⟩, -⟩ := h
  exact ⟨a, c, rfl⟩
/-- what Best gives, in one form -/
structure BestR (w : World) (v : Value) (t : Town) (slow : Bool) (Q : List (List Nat)) : Prop where
  at_ : PlanAt w v (pI Q)
  best : needE t slow = 0 → BestPl t slow Q
  none : needE t slow ≠ 0 → Q = []
theorem BestR.mono {w w' : World} {v : Value} {t : Town} {slow : Bool} {Q : List (List Nat)} (h : BestR w v t slow Q) (g : w.grows w') : BestR w' v t slow Q := ⟨h.at_.mono g, h.best, h.none⟩
theorem bestL_c (w : World) (tv : Value) (t : Town) (slow : Bool) (ht : TownAt w tv t) : Calls Try.prog 30 #[tv, .bool slow] w fun e w' => ∃ a c Q, e = .returned (.tuple #[.slice a Q.length c, .int .i64 (needE t slow : Nat)]) ∧ w.grows w' ∧ BestR w' (.slice a Q.length c) t slow Q := by
  refine (best_c w tv t slow ht).mono ?_
  rintro e w' ⟨v, rfl, g, h⟩
  by_cases h0 : needE t slow = 0
  · rw [if_pos h0] at h
    obtain ⟨Q, h1, h2⟩ := h
    obtain ⟨a, c, rfl⟩ := plan_form h2
    rw [pI_len] at h2 ⊢
    exact ⟨a, c, Q, rfl, g, h2, fun _ => h1, fun h => absurd h0 h⟩
  · rw [if_neg h0] at h
    subst h
    exact ⟨_, _, [], rfl, g, ⟨fun _ => .int .i64 0, ⟨_, _, rfl, Nat.le_refl _, Nat.zero_le _, fun i j hi => by simp [pI] at hi⟩, fun i hi => by simp [pI] at hi⟩, fun h => absurd h h0, fun _ => rfl⟩
/-- what Apart gives, in one form -/
structure ApR (w : World) (v : Value) (t : Town) (slow : Bool) (L : List Nat) : Prop where
  at_ : ListAt w v L
  best : needE t slow = 0 → ApL t slow L
  none : needE t slow ≠ 0 → L = []
theorem ApR.mono {w w' : World} {v : Value} {t : Town} {slow : Bool} {L : List Nat} (h : ApR w v t slow L) (g : w.grows w') : ApR w' v t slow L := ⟨h.at_.mono g, h.best, h.none⟩
theorem apartL_c (w : World) (tv : Value) (t : Town) (slow : Bool) (ht : TownAt w tv t) : Calls Try.prog 34 #[tv, .bool slow] w fun e w' => ∃ a c L, e = .returned (.tuple #[.slice a L.length c, .int .i64 (needE t slow : Nat)]) ∧ w.grows w' ∧ ApR w' (.slice a L.length c) t slow L := by
  refine (apartT_c w tv t slow ht).mono ?_
  rintro e w' ⟨v, rfl, g, h⟩
  by_cases h0 : needE t slow = 0
  · rw [if_pos h0] at h
    obtain ⟨L, h1, h2⟩ := ApIs.list h h0
    obtain ⟨a, c, rfl, -⟩ := list_form h1
    exact ⟨a, c, L, rfl, g, h1, fun _ => h2, fun h => absurd h0 h⟩
  · rw [if_neg h0] at h
    subst h
    exact ⟨_, _, [], rfl, g, ListAt.nil _, fun h => absurd h h0, fun _ => rfl⟩
theorem need_ok {t : Town} {slow : Bool} (h : needE t slow = 0) : t.Ok := t.ok_iff.1 (need_zero h).1
end Go.Proofs.Ytaanbdjmibjcbaa

