/-
  What is proved: plain: what right plans and visits that stand apart say about each other.
-/
import Derived.Test.YtaanbdjmibjcbaaM17
set_option linter.all false
namespace Go.Proofs.Ytaanbdjmibjcbaa
open Go.RowKit
/-- the visits of a list -/
def inF (n : Nat) (f : Nat → Int) (v : Nat) : Bool := (List.range n).any fun i => decide (f i = (v : Int))
theorem inF_iff {n : Nat} {f : Nat → Int} {v : Nat} : inF n f v = true ↔ ∃ i, i < n ∧ f i = (v : Int) := by
  unfold inF
  rw [List.any_eq_true]
  constructor
  · rintro ⟨i, hi, h⟩
    exact ⟨i, List.mem_range.1 hi, by simpa using h⟩
  · rintro ⟨i, hi, h⟩
    exact ⟨i, List.mem_range.2 hi, by simpa using h⟩
theorem rise_lt {n : Nat} {f : Nat → Int} (h : ∀ i, i < n → i + 1 < n → f i < f (i + 1)) : ∀ d i, i + d + 1 < n → f i < f (i + d + 1)
  | 0, i, hi => h i (by omega) hi
  | d + 1, i, hi => by
    have h1 := rise_lt h d i (by omega)
    have h2 := h (i + d + 1) (by omega) hi
    have e : i + (d + 1) + 1 = i + d + 1 + 1 := by omega
    rw [e]
    omega
structure ApF (t : Town) (slow : Bool) (n : Nat) (f : Nat → Int) : Prop where
  chk : t.check = 0
  isv : ∀ i, i < n → isV t.nv (f i) = true
  rise : ∀ i, i < n → i + 1 < n → f i < f (i + 1)
  free : ∀ i k, i < n → k < n → aft t slow (f i).toNat (f k).toNat = false
theorem apE_zero {t : Town} {slow : Bool} {n : Nat} {f : Nat → Int} (h : apE t slow n f = 0) : ApF t slow n f := by
  unfold apE at h
  split at h
  · rename_i h1; exact absurd h h1
  rename_i h1
  split at h
  · rename_i h2
    split at h
    · cases h
    rename_i h3
    unfold okL riseF at h2
    rw [Bool.and_eq_true, Bool.not_eq_true', decide_eq_true_eq, List.any_eq_false] at h2
    refine ⟨by omega, fun i hi => ?_, h2.2, fun i k hi hk => ?_⟩
    · have := h2.1 i (List.mem_range.2 hi)
      cases e : isV t.nv (f i) with
      | true => rfl
      | false => rw [e] at this; exact absurd rfl this
    · cases e : aft t slow (f i).toNat (f k).toNat with
      | false => rfl
      | true => exact absurd (any_true_of hi (any_true_of hk e)) h3
  · cases h
theorem ApF.nat {t : Town} {slow : Bool} {n : Nat} {f : Nat → Int} (h : ApF t slow n f) {i : Nat} (hi : i < n) : (f i).toNat < t.nv ∧ ((f i).toNat : Int) = f i := by
  have := h.isv i hi
  unfold isV at this
  rw [Bool.and_eq_true, decide_eq_true_eq, decide_eq_true_eq] at this
  omega
theorem ApF.apart {t : Town} {slow : Bool} {n : Nat} {f : Nat → Int} (h : ApF t slow n f) : ∀ i k, i < t.nv → k < t.nv → inF n f i = true → inF n f k = true → aft t slow i k = false := fun i k _ _ h1 h2 => by
  obtain ⟨a, ha, ea⟩ := inF_iff.1 h1
  obtain ⟨b, hb, eb⟩ := inF_iff.1 h2
  have := h.free a b ha hb
  rwa [ea, eb, Int.toNat_natCast, Int.toNat_natCast] at this
theorem ApF.count {t : Town} {slow : Bool} {n : Nat} {f : Nat → Int} (h : ApF t slow n f) : n ≤ cntB (inF n f) t.nv := by
  have hnd : ((List.range n).map f).Nodup := by
    unfold List.Nodup
    rw [List.pairwise_map]
    refine List.pairwise_lt_range.imp_of_mem fun {a b} ha hb hlt e => ?_
    have hb := List.mem_range.1 hb
    obtain ⟨d, rfl⟩ : ∃ d, b = a + d + 1 := ⟨b - a - 1, by omega⟩
    have := rise_lt h.rise d a hb
    omega
  obtain ⟨r, hr⟩ := perm_of_sub hnd (L := cI (filtL (inF n f) t.nv)) fun a ha => by
    obtain ⟨i, hi, rfl⟩ := List.mem_map.1 ha
    have hi := List.mem_range.1 hi
    obtain ⟨h1, h2⟩ := h.nat hi
    exact List.mem_map.2 ⟨(f i).toNat, List.mem_filter.2 ⟨List.mem_range.2 h1, inF_iff.2 ⟨i, hi, h2.symm⟩⟩, h2⟩
  have := hr.length_eq
  rw [List.length_append, cI_len, List.length_map, List.length_range] at this
  have e : (filtL (inF n f) t.nv).length = cntB (inF n f) t.nv := filter_count _ _
  omega
theorem ApF.le {t : Town} {slow : Bool} {n : Nat} {f : Nat → Int} (h : ApF t slow n f) : n ≤ few t slow ∧ cntB (inF n f) t.nv + mm (aft t slow) t.nv ≤ t.nv := by
  obtain ⟨M, hM, hm⟩ := mm_ex (aft t slow) t.nv
  have h1 := apart_le (aft_rises (t.ok_iff.1 h.chk) slow) hM h.apart
  have h2 := h.count
  unfold few
  omega
theorem planX_zero {t : Town} {slow : Bool} {P : List (List Int)} (h : planX t slow P = 0) : t.check = 0 ∧ anyLate t slow = false ∧ RightP (aft t slow) t.nv (P.map (List.map Int.toNat)) := by
  unfold planX at h
  split at h
  · rename_i h1; exact absurd h h1
  · rename_i h1
    obtain ⟨h2, h3⟩ := planE_right h
    exact ⟨by omega, h3, h2⟩
theorem plan_ge {t : Town} {slow : Bool} {P : List (List Int)} (h : planX t slow P = 0) : few t slow ≤ P.length := by
  have := (planX_zero h).2.2.carts
  rw [List.length_map] at this
  unfold few
  omega
theorem planN_zero {t : Town} {slow : Bool} {P : List (List Int)} (h : planX t slow P = 0) : planN t slow P = P.length := by unfold planN; rw [if_pos h]
end Go.Proofs.Ytaanbdjmibjcbaa

