/-
  What is proved: plain: slow and fast streets.
-/
import Derived.Test.YtaanbdjmibjcbaaM19
import Derived.Test.YtaanbdjmibjcbaaM20
set_option linter.all false
namespace Go.Proofs.Ytaanbdjmibjcbaa
open Go.RowKit
theorem mn_fast {t : Town} (h : t.Ok) (φ : Nat → Int) (hp : Pot t false φ) : Pot t true φ := fun i hi => by
  have h1 := hp i hi
  have h2 := h.lo i hi
  unfold Town.mn at h1 ⊢
  simp only [Bool.false_eq_true, if_false, if_true] at h1 ⊢
  omega
theorem dist_fast {t : Town} (h : t.Ok) (a b : Nat) : dist t false a b ≤ dist t true a b := dist_le h h (mn_fast h) a b
theorem aft_fast {t : Town} (h : t.Ok) {i k : Nat} (ha : aft t true i k = true) : aft t false i k = true := by
  rw [aft_iff] at ha ⊢
  have := dist_fast h (t.vp i).toNat (t.vp k).toNat
  exact ⟨ha.1, by omega⟩
theorem late_fast {t : Town} (h : t.Ok) {i : Nat} (hl : lateV t false i = true) : lateV t true i = true := by
  unfold lateV at hl ⊢
  rw [decide_eq_true_eq] at hl ⊢
  have := dist_fast h 0 (t.vp i).toNat
  omega
theorem any_fast {t : Town} (h : t.Ok) (hl : anyLate t true = false) : anyLate t false = false := by
  unfold anyLate at hl ⊢
  refine any_false_of fun i hi => ?_
  cases e : lateV t false i with
  | false => rfl
  | true => rw [any_true_of hi (late_fast h e)] at hl; cases hl
theorem few_fast {t : Town} (h : t.Ok) : few t false ≤ few t true := by
  have := mm_mono (A := aft t true) (B := aft t false) (n := t.nv) fun i k _ _ ha => aft_fast h ha
  unfold few
  omega
theorem cartsN_le (t : Town) (slow : Bool) (h : t.Ok) : cartsN t slow ≤ 1000 ∧ (cartsN t slow < 1000 ↔ needE t slow = 0) := by
  have h1 := few_nv t slow
  have h2 := h.v16
  unfold cartsN
  by_cases e : needE t slow = 0
  · rw [if_pos e]; exact ⟨by omega, ⟨fun _ => e, fun _ => by omega⟩⟩
  · rw [if_neg e]; exact ⟨by omega, ⟨fun h => by omega, fun h => absurd h e⟩⟩
theorem carts_fast {t : Town} (h : t.check = 0) : cartsN t false ≤ cartsN t true := by
  have hok := t.ok_iff.1 h
  obtain ⟨h1, h2⟩ := cartsN_le t false hok
  obtain ⟨h3, h4⟩ := cartsN_le t true hok
  by_cases e : needE t true = 0
  · have e2 : needE t false = 0 := need_of h (any_fast hok (need_zero e).2)
    unfold cartsN
    rw [if_pos e, if_pos e2]
    exact few_fast hok
  · have : ¬ cartsN t true < 1000 := fun h => e (h4.1 h)
    omega
theorem rowed_mono {A B : Nat → Nat → Bool} {n : Nat} (h : ∀ i k, i < n → k < n → A i k = true → B i k = true) : ∀ {c : List Nat}, (∀ v ∈ c, v < n) → Rowed A c → Rowed B c
  | [], _, _ => trivial
  | [_], _, _ => trivial
  | a :: b :: r, hl, hr => ⟨h a b (hl a (by simp)) (hl b (by simp)) hr.1, rowed_mono h (fun v hv => hl v (List.mem_cons_of_mem _ hv)) hr.2⟩
theorem plan_back {P : List (List Int)} {A : Nat → Nat → Bool} {n : Nat} {late : Bool} (h : planE A n late P = 0) : (P.map (List.map Int.toNat)).map (List.map fun v : Nat => (v : Int)) = P := by
  rw [List.map_map]
  conv => rhs; rw [← List.map_id P]
  refine List.map_congr_left fun c hc => ?_
  show (c.map Int.toNat).map (fun v : Nat => (v : Int)) = c
  rw [List.map_map]
  conv => rhs; rw [← List.map_id c]
  refine List.map_congr_left fun x hx => ?_
  have h1 : P.any (badC n) = false := by
    cases e : P.any (badC n) with
    | false => rfl
    | true => unfold planE at h; rw [if_pos e] at h; cases h
  have h2 := (List.any_eq_false.1 h1) c hc
  have h3 : (c.any fun x => !isV n x) = false := by
    cases e : c.any fun x => !isV n x with
    | false => rfl
    | true => unfold badC at h2; rw [e, Bool.or_true] at h2; exact absurd rfl h2
  have h4 := (List.any_eq_false.1 h3) x hx
  have h5 : isV n x = true := by
    cases e : isV n x with
    | true => rfl
    | false => rw [e] at h4; exact absurd rfl h4
  unfold isV at h5
  rw [Bool.and_eq_true, decide_eq_true_eq, decide_eq_true_eq] at h5
  show ((x.toNat : Nat) : Int) = x
  omega
theorem planX_fast {t : Town} {P : List (List Int)} (h : planX t true P = 0) : planX t false P = 0 ∧ planN t true P = planN t false P := by
  obtain ⟨h1, h2, h3⟩ := planX_zero h
  have hok := t.ok_iff.1 h1
  have hR : RightP (aft t false) t.nv (P.map (List.map Int.toNat)) := ⟨h3.ne, h3.lt, h3.all, h3.nodup, fun c hc => rowed_mono (fun i k _ _ ha => aft_fast hok ha) (h3.lt c hc) (h3.rows c hc)⟩
  have h4 := right_planE hR (anyLate t false)
  have e0 : planE (aft t true) t.nv (anyLate t true) P = 0 := by
    unfold planX at h
    rw [if_neg (by omega)] at h
    exact h
  rw [plan_back e0, any_fast hok h2] at h4
  have e : planX t false P = 0 := by
    unfold planX
    rw [if_neg (by omega), any_fast hok h2]
    exact h4
  exact ⟨e, by rw [planN_zero h, planN_zero e]⟩
theorem lateL_len (t : Town) (slow : Bool) (h : t.check = 0) : (lateL t slow).length = 0 ↔ cartsN t slow < 1000 := by
  rw [(cartsN_le t slow (t.ok_iff.1 h)).2]
  have h1 := anyLate_iff t slow
  have e : lateL t slow = filtL (lateV t slow) t.nv := by unfold lateL; rw [if_pos h]
  rw [e]
  constructor
  · intro h2
    refine need_of h ?_
    cases h3 : anyLate t slow with
    | false => rfl
    | true => have := h1.1 h3; omega
  · intro h2
    have h3 := (need_zero h2).2
    cases h4 : (filtL (lateV t slow) t.nv).length with
    | zero => rfl
    | succ m => rw [h1.2 (by omega)] at h3; cases h3
theorem late_in {t : Town} (h : t.check = 0) {i : Nat} (hi : i < (lateL t false).length) : ((List.range (lateL t true).length).any fun k => decide ((((lateL t true).getD k 0 : Nat) : Int) = (((lateL t false).getD i 0 : Nat) : Int))) = true := by
  have e : ∀ slow, lateL t slow = filtL (lateV t slow) t.nv := fun slow => by unfold lateL; rw [if_pos h]
  rw [e] at hi
  rw [e, e]
  obtain ⟨h1, h2⟩ := filtL_at_getD hi
  have h3 : (filtL (lateV t false) t.nv).getD i 0 ∈ filtL (lateV t true) t.nv := List.mem_filter.2 ⟨List.mem_range.2 h1, late_fast (t.ok_iff.1 h) h2⟩
  obtain ⟨k, hk, e2⟩ := List.mem_iff_getElem.1 h3
  refine any_true_of hk ?_
  rw [decide_eq_true_eq, List.getD_eq_getElem?_getD, List.getElem?_eq_getElem hk]
  show ((( _ : Nat) : Int)) = _
  rw [Option.getD_some, e2]
end Go.Proofs.Ytaanbdjmibjcbaa

