/-
  What is proved: plain: the day turned round, and carts turned round.
-/
import Derived.Test.YtaanbdjmibjcbaaM21
set_option linter.all false
namespace Go.Proofs.Ytaanbdjmibjcbaa
open Go.RowKit
theorem getD_rev (c : List Int) {j : Nat} (h : j < c.length) : c.reverse.getD j 0 = c.getD (c.length - 1 - j) 0 := by
  rw [List.getD_eq_getElem?_getD, List.getElem?_reverse h, ← List.getD_eq_getElem?_getD]
theorem isV_nat {n : Nat} {x : Int} (h : isV n x = true) : x.toNat < n := by
  unfold isV at h
  rw [Bool.and_eq_true, decide_eq_true_eq, decide_eq_true_eq] at h
  omega
theorem rowC_rev {A B : Nat → Nat → Bool} {n : Nat} (hAB : ∀ i k, i < n → k < n → B k i = A i k) {c : List Int} (hc : ∀ x ∈ c, isV n x = true) : rowC B c.reverse = rowC A c := by
  have hv : ∀ j, j < c.length → (c.getD j 0).toNat < n := fun j hj => isV_nat (hc _ (getD_mem hj))
  have hiff : rowC B c.reverse = true ↔ rowC A c = true := by
    rw [rowC_get, rowC_get, List.length_reverse]
    constructor
    · intro h j hj
      have h1 := h (c.length - 2 - j) (by omega)
      rw [getD_rev c (by omega), getD_rev c (by omega), show c.length - 1 - (c.length - 2 - j) = j + 1 by omega, show c.length - 1 - (c.length - 2 - j + 1) = j by omega] at h1
      rw [← hAB _ _ (hv j (by omega)) (hv (j + 1) hj)]
      exact h1
    · intro h j hj
      have h1 := h (c.length - 2 - j) (by omega)
      rw [getD_rev c (by omega), getD_rev c (by omega), show c.length - 1 - j = c.length - 2 - j + 1 by omega, show c.length - 1 - (j + 1) = c.length - 2 - j by omega, hAB _ _ (hv _ (by omega)) (hv _ (by omega))]
      exact h1
  cases h1 : rowC B c.reverse <;> cases h2 : rowC A c <;> simp_all
theorem badC_rev (n : Nat) (c : List Int) : badC n c.reverse = badC n c := by
  unfold badC
  rw [List.any_reverse, List.isEmpty_reverse]
theorem count_rev (v : Int) : ∀ P : List (List Int), (P.map List.reverse).flatten.count v = P.flatten.count v
  | [] => rfl
  | c :: P => by rw [List.map_cons, List.flatten_cons, List.flatten_cons, List.count_append, List.count_append, List.count_reverse, count_rev v P]
theorem planE_rev {A B : Nat → Nat → Bool} {n : Nat} (hAB : ∀ i k, i < n → k < n → B k i = A i k) (late : Bool) (P : List (List Int)) : planE B n late (P.map List.reverse) = planE A n late P := by
  have e1 : (P.map List.reverse).any (badC n) = P.any (badC n) := by
    rw [List.any_map]
    congr 1
    funext c
    exact badC_rev n c
  have e2 : onceP n (P.map List.reverse) = onceP n P := by
    unfold onceP
    congr 1
    funext v
    rw [count_rev]
  unfold planE
  rw [e1, e2]
  by_cases hb : P.any (badC n) = true
  · rw [if_pos hb, if_pos hb]
  · rw [if_neg hb, if_neg hb]
    have hc : ∀ c ∈ P, ∀ x ∈ c, isV n x = true := fun c hc x hx => by
      cases e : isV n x with
      | true => rfl
      | false =>
        refine absurd (List.any_eq_true.2 ⟨c, hc, ?_⟩) hb
        unfold badC
        rw [List.any_eq_true.2 ⟨x, hx, by rw [e]; rfl⟩, Bool.or_true]
    have e3 : (P.map List.reverse).all (rowC B) = P.all (rowC A) := by
      rw [List.all_map]
      cases h2 : P.all (rowC A) with
      | true => exact List.all_eq_true.2 fun c h => (rowC_rev hAB (hc c h)).trans (List.all_eq_true.1 h2 c h)
      | false =>
        obtain ⟨c, h, h3⟩ := List.all_eq_false.1 h2
        refine List.all_eq_false.2 ⟨c, h, ?_⟩
        show ¬ rowC B c.reverse = true
        rw [rowC_rev hAB (hc c h)]
        exact h3
    rw [e3]
theorem planX_turn {t : Town} (h : t.check = 0) (slow : Bool) (h1 : anyLate t slow = false) (h2 : anyLate t.turn slow = false) (P : List (List Int)) : planX t.turn slow (P.map List.reverse) = planX t slow P ∧ planN t.turn slow (P.map List.reverse) = planN t slow P := by
  have hok := t.ok_iff.1 h
  have hc : t.turn.check = 0 := t.turn.ok_iff.2 hok.turn
  have e : planX t.turn slow (P.map List.reverse) = planX t slow P := by
    unfold planX
    rw [if_neg (by omega), if_neg (by omega), h1, h2]
    exact planE_rev (fun i k hi hk => aft_turn hok slow hi hk) false P
  refine ⟨e, ?_⟩
  unfold planN
  rw [e, List.length_map]
theorem few_turn {t : Town} (h : t.check = 0) (slow : Bool) : few t.turn slow = few t slow := by
  unfold few
  show t.nv - _ = _
  rw [show t.turn.nv = t.nv from rfl, mm_aft_turn (t.ok_iff.1 h)]
theorem turn_check {t : Town} (h : t.check = 0) : t.turn.check = 0 := t.turn.ok_iff.2 (t.ok_iff.1 h).turn
end Go.Proofs.Ytaanbdjmibjcbaa

