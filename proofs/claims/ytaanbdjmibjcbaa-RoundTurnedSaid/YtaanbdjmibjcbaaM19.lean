/-
  What is proved: plain: what can come after what, and ways, by numbers.
-/
import Derived.Test.YtaanbdjmibjcbaaM18
set_option linter.all false
namespace Go.Proofs.Ytaanbdjmibjcbaa
open Go.RowKit
theorem tmod_at {a n k : Nat} (h : a % n = k) : Int.tmod (a : Int) (n : Int) = (k : Int) := by
  rw [← h, Int.tmod_eq_emod_of_nonneg (by omega)]; exact (Int.natCast_emod a n).symm
theorem aft_nat {t : Town} (h : t.check = 0) (slow : Bool) {a b : Nat} (ha : a < t.nv) (hb : b < t.nv) : aftX t slow a b = aft t slow a b ∧ twoE t a b = 0 := by
  have e : twoE t (a : Int) (b : Int) = 0 := by
    unfold twoE
    rw [if_neg (by omega)]
    have h1 : isV t.nv (a : Int) = true := by unfold isV; rw [Bool.and_eq_true, decide_eq_true_eq, decide_eq_true_eq]; omega
    have h2 : isV t.nv (b : Int) = true := by unfold isV; rw [Bool.and_eq_true, decide_eq_true_eq, decide_eq_true_eq]; omega
    rw [h1, h2]; rfl
  refine ⟨?_, e⟩
  unfold aftX
  rw [e, Int.toNat_natCast, Int.toNat_natCast]; rfl
theorem dist_one {t : Town} (h : t.Ok) (slow : Bool) {a b : Nat} (hab : a ≠ b) : 1 ≤ dist t slow a b := by
  have hD := dist_is h slow
  rcases hD.att (fun x => if x = b then 1 else 0) (fun i hi => by
    have h1 := h.lo i hi
    have h2 : 1 ≤ t.mn slow i := by unfold Town.mn; cases slow <;> simp <;> omega
    constructor <;> (dsimp only; split <;> split <;> omega)) a b with h1 | h1
  · have hnev : nev = 1099511627776 := rfl
    omega
  · simp only [if_true, if_neg hab] at h1
    omega
theorem way_nat {t : Town} (h : t.check = 0) (slow : Bool) {a b : Nat} (ha : (a : Int) < t.pl) (hb : (b : Int) < t.pl) : wayE t slow a b = (if dist t slow a b < nev then 0 else 5) ∧ wayM t slow a b = (if dist t slow a b < nev then dist t slow a b else 0) := by
  have e : wayE t slow (a : Int) (b : Int) = if dist t slow a b < nev then 0 else 5 := by
    unfold wayE
    rw [if_neg (by omega)]
    have h1 : t.isPlace (a : Int) = true := by unfold Town.isPlace; rw [Bool.and_eq_true, decide_eq_true_eq, decide_eq_true_eq]; omega
    have h2 : t.isPlace (b : Int) = true := by unfold Town.isPlace; rw [Bool.and_eq_true, decide_eq_true_eq, decide_eq_true_eq]; omega
    rw [h1, h2, Int.toNat_natCast, Int.toNat_natCast]; rfl
  refine ⟨e, ?_⟩
  unfold wayM
  rw [e, Int.toNat_natCast, Int.toNat_natCast]
  by_cases hd : dist t slow a b < nev
  · rw [if_pos hd, if_pos rfl, if_pos hd]
  · rw [if_neg hd, if_neg (by decide), if_neg hd]
end Go.Proofs.Ytaanbdjmibjcbaa

