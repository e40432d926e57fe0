/-
  What is proved: plain: pairs, one right after the other, in best plans, and visits that cost a cart.
-/
import Derived.Test.YtaanbdjmibjcbaaM21
set_option linter.all false
namespace Go.Proofs.Ytaanbdjmibjcbaa
open Go.RowKit
theorem nx_at : ∀ {c : List Nat} {j l k : Nat}, c.Nodup → c[j]? = some l → c[j + 1]? = some k → nx c l = some k
  | [], _, _, _, _, h, _ => by simp at h
  | [_], j, _, _, _, _, h => by simp at h
  | a :: b :: r, 0, l, k, _, h1, h2 => by
    have e1 : a = l := by simpa using h1
    have e2 : b = k := by simpa using h2
    subst e1 e2
    show (if a = a then some b else _) = _
    rw [if_pos rfl]
  | a :: b :: r, j + 1, l, k, hn, h1, h2 => by
    have h1 : (b :: r)[j]? = some l := by simpa using h1
    have h2 : (b :: r)[j + 1]? = some k := by simpa using h2
    obtain ⟨h3, h4⟩ := List.nodup_cons.1 hn
    have hne : ¬ a = l := fun e => h3 (by rw [e]; exact List.mem_of_getElem? h1)
    show (if a = l then some b else nx (b :: r) l) = _
    rw [if_neg hne]
    exact nx_at h4 h1 h2
theorem nx_pos : ∀ {c : List Nat} {l k : Nat}, nx c l = some k → ∃ j : Nat, c[j]? = some l ∧ c[j + 1]? = some k
  | [], _, _, h => by simp [nx] at h
  | [_], _, _, h => by simp [nx] at h
  | a :: b :: r, l, k, h => by
    unfold nx at h
    by_cases e : a = l
    · rw [if_pos e] at h
      exact ⟨0, by rw [e]; rfl, by simpa using h⟩
    · rw [if_neg e] at h
      obtain ⟨j, h1, h2⟩ := nx_pos h
      exact ⟨j + 1, by simpa using h1, by simpa using h2⟩
theorem nxP_iff {Q : List (List Nat)} (hn : Q.flatten.Nodup) {l k : Nat} : nxP Q l = some k ↔ ∃ c ∈ Q, nx c l = some k := by
  constructor
  · exact nxP_some
  · rintro ⟨c, hc, h⟩
    cases e : nxP Q l with
    | none => rw [nxP_none e c hc] at h; cases h
    | some k' =>
      obtain ⟨d, hd, h'⟩ := nxP_some e
      have : c = d := one_cart hn hc hd (nx_some h).1 (nx_some h').1
      subst this
      rw [h] at h'
      exact h'.symm
theorem joinC_iff {c : List Nat} (hn : c.Nodup) (a b : Nat) : joinC a b (cI c) = true ↔ nx c a = some b := by
  unfold joinC
  rw [List.any_eq_true, cI_len]
  constructor
  · rintro ⟨x, hx, h⟩
    have hx := List.mem_range.1 hx
    unfold pairA at h
    rw [Bool.and_eq_true, decide_eq_true_eq, decide_eq_true_eq, cI_get c (by omega), cI_get c (by omega)] at h
    refine nx_at hn (j := x) ?_ ?_
    · rw [List.getElem?_eq_getElem (show x < c.length by omega)]
      have := h.1
      rw [List.getD_eq_getElem?_getD, List.getElem?_eq_getElem (show x < c.length by omega), Option.getD_some] at this
      rw [Int.ofNat_inj.1 this]
    · rw [List.getElem?_eq_getElem (show x + 1 < c.length by omega)]
      have := h.2
      rw [List.getD_eq_getElem?_getD, List.getElem?_eq_getElem (show x + 1 < c.length by omega), Option.getD_some] at this
      rw [Int.ofNat_inj.1 this]
  · intro h
    obtain ⟨j, h1, h2⟩ := nx_pos h
    have hj : j + 1 < c.length := (List.getElem?_eq_some_iff.1 h2).1
    refine ⟨j, List.mem_range.2 (by omega), ?_⟩
    unfold pairA
    rw [Bool.and_eq_true, decide_eq_true_eq, decide_eq_true_eq, cI_get c (by omega), cI_get c hj, List.getD_eq_getElem?_getD, List.getD_eq_getElem?_getD, h1, h2]
    exact ⟨rfl, rfl⟩
theorem joins_iff {A : Nat → Nat → Bool} {n : Nat} {Q : List (List Nat)} (h : RightP A n Q) (a b : Nat) : joinsB (pI Q) a b = true ↔ nxP Q a = some b := by
  rw [nxP_iff h.nodup]
  unfold joinsB pI
  rw [List.any_map, List.any_eq_true]
  constructor
  · rintro ⟨c, hc, h1⟩
    exact ⟨c, hc, (joinC_iff (cart_nodup h.nodup hc) a b).1 h1⟩
  · rintro ⟨c, hc, h1⟩
    exact ⟨c, hc, (joinC_iff (cart_nodup h.nodup hc) a b).2 h1⟩
/-- a right plan with as few carts has just the pairs that it must have -/
theorem joins_kind {t : Town} {slow : Bool} {Q : List (List Nat)} (h : RightP (aft t slow) t.nv Q) (hq : Q.length = few t slow) (a b : Nat) :
    (kindA (aft t slow) t.nv a b = 2 → joinsB (pI Q) a b = true) ∧ (kindA (aft t slow) t.nv a b = 0 → joinsB (pI Q) a b = false) := by
  have h1 := h.size
  have h2 := mm_le (aft t slow) t.nv
  unfold few at hq
  have hm : mm (aft t slow) t.nv ≤ (nxP Q).size t.nv := by omega
  refine ⟨fun hk => (joins_iff h a b).2 (kind_two h.mat hm hk), fun hk => ?_⟩
  have h3 := kind_zero h.mat hm hk
  cases e : joinsB (pI Q) a b with
  | false => rfl
  | true => exact absurd ((joins_iff h a b).1 e) h3
theorem plan_pI {t : Town} {slow : Bool} {P : List (List Int)} (h : planX t slow P = 0) : pI (P.map (List.map Int.toNat)) = P := by
  have e0 : planE (aft t slow) t.nv (anyLate t slow) P = 0 := by
    have := (planX_zero h).1
    unfold planX at h
    rw [if_neg (by omega)] at h
    exact h
  exact plan_back e0
theorem joins_plan {t : Town} {slow : Bool} {P : List (List Int)} (h : planX t slow P = 0) (hq : P.length = few t slow) (a b : Nat) :
    (kindA (aft t slow) t.nv a b = 2 → joinsB P a b = true) ∧ (kindA (aft t slow) t.nv a b = 0 → joinsB P a b = false) := by
  have := joins_kind (planX_zero h).2.2 (by rw [List.length_map]; exact hq) a b
  rw [plan_pI h] at this
  exact this
theorem costs_list {t : Town} {slow : Bool} {n : Nat} {f : Nat → Int} (h : ApF t slow n f) (hn : n = few t slow) (h0 : needE t slow = 0) {m : Nat} (hm : m < (costL t slow).length) : ((List.range n).any fun i => decide (f i = (((costL t slow).getD m 0 : Nat) : Int))) = true := by
  have hok := t.ok_iff.1 h.chk
  have hc : (costL t slow).getD m 0 < t.nv ∧ costB t slow ((costL t slow).getD m 0) = true := by
    unfold costL at hm ⊢
    rw [if_pos h0] at hm ⊢
    exact filtL_at_getD hm
  obtain ⟨h1, h2⟩ := hc
  obtain ⟨v, hv⟩ : ∃ v, (costL t slow).getD m 0 = v := ⟨_, rfl⟩
  rw [hv] at h1 h2 ⊢
  rw [cost_iff slow h1, decide_eq_true_eq] at h2
  have a1 := mm_le (aft t slow) t.nv
  have a2 := mm_less_le (A := aft t slow) (n := t.nv) v
  have a3 := mm_le (cutA (aft t slow) v) (t.nv - 1)
  rw [mm_cut h1] at a3
  obtain ⟨a4, a5⟩ := h.le
  have a6 := h.count
  unfold few at hn
  exact costs_in (aft_rises hok slow) h1 (by omega) h.apart (by omega)
theorem kindX_nat {t : Town} {slow : Bool} (h : needE t slow = 0) {a b : Nat} (ha : a < t.nv) (hb : b < t.nv) (hab : a ≠ b) : askE t slow a b = 0 ∧ kindX t slow a b = kindA (aft t slow) t.nv a b := by
  obtain ⟨h1, h2⟩ := need_zero h
  have i1 : isV t.nv (a : Int) = true := by unfold isV; rw [Bool.and_eq_true, decide_eq_true_eq, decide_eq_true_eq]; omega
  have i2 : isV t.nv (b : Int) = true := by unfold isV; rw [Bool.and_eq_true, decide_eq_true_eq, decide_eq_true_eq]; omega
  have e : askE t slow a b = 0 := by
    unfold askE
    rw [if_neg (by omega), i1, i2, decide_eq_false (by omega), h2]; rfl
  refine ⟨e, ?_⟩
  unfold kindX
  rw [if_pos e, Int.toNat_natCast, Int.toNat_natCast]
theorem kindA_le (A : Nat → Nat → Bool) (n a b : Nat) : kindA A n a b ≤ 2 := by
  unfold kindA
  split
  · omega
  · split
    · omega
    · split <;> omega
end Go.Proofs.Ytaanbdjmibjcbaa

