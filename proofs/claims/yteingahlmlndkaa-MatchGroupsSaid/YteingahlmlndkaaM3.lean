/-
  What is proved: plain: how many matchings of so many pairs there are; the order in which things are looked at does not matter.
-/
import Derived.Test.YteingahlmlndkaaM2
import Derived.Test.YteingahlmlndkaaM1
import Derived.Test.YteingahlmlndkaaRows
import Derived.Lib.Hide
import Derived.RangeFuncBound
import Derived.StillTail
set_option linter.all false
namespace Go.Proofs.Yteingahlmlndkaa
/-- a sum over those that have a property -/
def si (q : Nat → Bool) (f : Nat → Nat) (n : Nat) : Nat := sumN (fun u => if q u = true then f u else 0) n
theorem si_congr {q q' : Nat → Bool} {f f' : Nat → Nat} {n : Nat} (h : ∀ u, u < n → q u = q' u ∧ (q u = true → f u = f' u)) : si q f n = si q' f' n :=
  sumN_congr fun u hu => by
    obtain ⟨h1, h2⟩ := h u hu
    rw [← h1]
    split
    · rename_i hq; exact h2 hq
    · rfl
theorem si_add (q : Nat → Bool) (f g : Nat → Nat) (n : Nat) : si q (fun u => f u + g u) n = si q f n + si q g n := by
  unfold si
  rw [← sumN_add]
  exact sumN_congr fun u _ => by split <;> rfl
theorem si_split (q : Nat → Bool) (f : Nat → Nat) {n t : Nat} (ht : t < n) : si q f n = (if q t = true then f t else 0) + si (fun u => q u && !(u == t)) f n := by
  unfold si
  rw [← sumN_one (x := if q t = true then f t else 0) n ht, ← sumN_add]
  refine sumN_congr fun u _ => ?_
  by_cases e : u = t
  · subst e; simp
  · have : (u == t) = false := by simpa using e
    simp [this, e]
theorem si_succ (q : Nat → Bool) (f : Nat → Nat) (n : Nat) : si q f (n + 1) = si q f n + if q n = true then f n else 0 := rfl
theorem sumN_comm (f : Nat → Nat → Nat) (a : Nat) : ∀ b, sumN (fun i => sumN (fun j => f i j) b) a = sumN (fun j => sumN (fun i => f i j) a) b
  | 0 => sumN_zero a
  | b + 1 => by
    show sumN (fun i => sumN (fun j => f i j) b + f i b) a = sumN (fun j => sumN (fun i => f i j) a) b + sumN (fun i => f i b) a
    rw [sumN_add, sumN_comm f a b]
theorem si_zero {q : Nat → Bool} {f : Nat → Nat} {n : Nat} (h : ∀ u, u < n → q u = true → f u = 0) : si q f n = 0 :=
  (sumN_congr (g := fun _ => 0) fun u hu => by
    split
    · rename_i hq; exact h u hu hq
    · rfl).trans (sumN_zero n)
theorem si_comm (q : Nat → Bool) (q' : Nat → Nat → Bool) (f : Nat → Nat → Nat) (a b : Nat) : si q (fun i => si (q' i) (f i) b) a = sumN (fun j => si (fun i => q i && q' i j) (fun i => f i j) a) b := by
  unfold si
  rw [← sumN_comm (fun i j => if (q i && q' i j) = true then f i j else 0)]
  refine sumN_congr fun i _ => ?_
  by_cases h : q i = true
  · rw [if_pos h]; exact sumN_congr fun j _ => by simp [h]
  · rw [if_neg h]
    have : q i = false := by simpa using h
    rw [sumN_congr (g := fun _ => 0) fun j _ => by simp [this]]
    exact (sumN_zero b).symm
def sh (f : Nat → Nat) : Nat → Nat
  | 0 => 0
  | k + 1 => f k
/-- how many matchings of the things S below n have k pairs -/
def num (A : Nat → Nat → Bool) : Nat → (Nat → Bool) → Nat → Nat
  | 0, _, k => if k = 0 then 1 else 0
  | i + 1, S, k => num A i S k + if S i = true then si (fun u => S u && A i u) (fun u => sh (num A i (less1 S u)) k) i else 0
section
variable {A : Nat → Nat → Bool} {S S' : Nat → Bool} {n : Nat}
theorem num_congr : ∀ {n : Nat} {S S' : Nat → Bool}, (∀ v, v < n → S v = S' v) → num A n S = num A n S'
  | 0, _, _, _ => rfl
  | n + 1, S, S', h => by
    funext k
    unfold num
    rw [num_congr (n := n) fun v hv => h v (by omega), h n (by omega)]
    congr 1
    split
    · refine si_congr fun u hu => ⟨by rw [h u (by omega)], fun _ => ?_⟩
      rw [num_congr (n := n) (S := less1 S u) (S' := less1 S' u) fun v hv => by unfold less1; rw [h v (by omega)]]
    · rfl
theorem less1_comm (S : Nat → Bool) (t u : Nat) : less1 (less1 S t) u = less1 (less1 S u) t := by
  funext v; unfold less1; rw [Bool.and_right_comm]
theorem num_out {k : Nat} (h : S n = false) : num A (n + 1) S k = num A n S k := by
  show num A n S k + (if S n = true then _ else 0) = _
  rw [if_neg (by rw [h]; exact Bool.false_ne_true)]; rfl
theorem num_less (k : Nat) : num A (n + 1) (less1 S n) k = num A n S k := by
  rw [num_out (by unfold less1; simp), num_congr (S' := S)]
  intro v hv
  have : (v == n) = false := by simp; omega
  unfold less1; simp [this]
theorem sh_add (f g : Nat → Nat) (k : Nat) : sh (fun k => f k + g k) k = sh f k + sh g k := by cases k <;> rfl
theorem sh_si (q : Nat → Bool) (f : Nat → Nat → Nat) (n k : Nat) : sh (fun k => si q (fun u => f u k) n) k = si q (fun u => sh (f u) k) n := by
  cases k with
  | zero => exact (si_zero fun _ _ _ => rfl).symm
  | succ k => rfl
/-- each thing may be looked at first -/
theorem num_at (hA : ∀ a b, A a b = A b a) (hI : ∀ a, A a a = false) : ∀ (n : Nat) (S : Nat → Bool) (t : Nat), t < n → S t = true → ∀ k, num A n S k = num A n (less1 S t) k + si (fun u => S u && A t u) (fun u => sh (num A n (less1 (less1 S t) u)) k) n
  | 0, _, _, h, _, _ => by omega
  | n + 1, S, t, ht, hSt, k => by
    by_cases e : t = n
    · subst e
      rw [num_less, si_succ, if_neg (by rw [hI, Bool.and_false]; exact Bool.false_ne_true), Nat.add_zero]
      show num A t S k + (if S t = true then _ else 0) = _
      rw [if_pos hSt]
      congr 1
      refine si_congr fun u hu => ⟨rfl, fun _ => ?_⟩
      congr 1
      funext k'
      rw [less1_comm, num_less]
    · have htn : t < n := by omega
      have ih := num_at hA hI n S t htn hSt
      by_cases hSn : S n = true
      · have hne : ∀ u, u < n → less1 (less1 S t) u n = true := fun u hu => less1_iff.2 ⟨less1_iff.2 ⟨hSn, by omega⟩, by omega⟩
        -- the left side
        have hL : num A (n + 1) S k = (num A n (less1 S t) k + si (fun u => S u && A t u) (fun u => sh (num A n (less1 (less1 S t) u)) k) n) + ((if A n t = true then sh (num A n (less1 S t)) k else 0) + (si (fun w => (S w && A n w) && !(w == t)) (fun w => sh (num A n (less1 (less1 S w) t)) k) n + si (fun w => (S w && A n w) && !(w == t)) (fun w => si (fun u => less1 S w u && A t u) (fun u => sh (sh (num A n (less1 (less1 (less1 S w) t) u))) k) n) n)) := by
          show num A n S k + (if S n = true then _ else 0) = _
          rw [if_pos hSn, ih k, si_split (fun u => S u && A n u) (fun u => sh (num A n (less1 S u)) k) htn]
          congr 1
          refine congr (congrArg _ ?_) ?_
          · show (if (S t && A n t) = true then _ else 0) = _
            rw [hSt, Bool.true_and]
          · rw [← si_add]
            refine si_congr fun w hw => ⟨rfl, fun hq => ?_⟩
            simp only [Bool.and_eq_true, Bool.not_eq_true', beq_eq_false_iff_ne] at hq
            have h2 := num_at hA hI n (less1 S w) t htn (less1_iff.2 ⟨hSt, Ne.symm hq.2⟩)
            rw [show num A n (less1 S w) = fun k => num A n (less1 (less1 S w) t) k + si (fun u => less1 S w u && A t u) (fun u => sh (num A n (less1 (less1 (less1 S w) t) u)) k) n from funext h2, sh_add, sh_si]
        have hR1 : num A (n + 1) (less1 S t) k = num A n (less1 S t) k + si (fun w => (S w && A n w) && !(w == t)) (fun w => sh (num A n (less1 (less1 S w) t)) k) n := by
          show num A n (less1 S t) k + (if less1 S t n = true then _ else 0) = _
          rw [if_pos (less1_iff.2 ⟨hSn, by omega⟩)]
          congr 1
          refine si_congr fun w hw => ⟨?_, fun _ => by rw [less1_comm]⟩
          unfold less1
          cases S w <;> cases A n w <;> simp
        have hR2 : si (fun u => S u && A t u) (fun u => sh (num A (n + 1) (less1 (less1 S t) u)) k) (n + 1) = (si (fun u => S u && A t u) (fun u => sh (num A n (less1 (less1 S t) u)) k) n + si (fun u => S u && A t u) (fun u => si (fun w => less1 (less1 S t) u w && A n w) (fun w => sh (sh (num A n (less1 (less1 (less1 S t) u) w))) k) n) n) + (if A n t = true then sh (num A n (less1 S t)) k else 0) := by
          rw [si_succ, ← si_add]
          congr 1
          · refine si_congr fun u hu => ⟨rfl, fun _ => ?_⟩
            have h2 : num A (n + 1) (less1 (less1 S t) u) = fun k => num A n (less1 (less1 S t) u) k + si (fun w => less1 (less1 S t) u w && A n w) (fun w => sh (num A n (less1 (less1 (less1 S t) u) w)) k) n := by
              funext k'
              show num A n (less1 (less1 S t) u) k' + (if less1 (less1 S t) u n = true then _ else 0) = _
              rw [if_pos (hne u hu)]
            rw [h2, sh_add, sh_si]
          · rw [hSn, hA t n, Bool.true_and]
            have : num A (n + 1) (less1 (less1 S t) n) = num A n (less1 S t) := funext fun k' => num_less k'
            rw [this]
        have hD : si (fun w => (S w && A n w) && !(w == t)) (fun w => si (fun u => less1 S w u && A t u) (fun u => sh (sh (num A n (less1 (less1 (less1 S w) t) u))) k) n) n = si (fun u => S u && A t u) (fun u => si (fun w => less1 (less1 S t) u w && A n w) (fun w => sh (sh (num A n (less1 (less1 (less1 S t) u) w))) k) n) n := by
          rw [si_comm]
          unfold si
          refine sumN_congr fun u hu => ?_
          by_cases hq : (S u && A t u) = true
          · rw [if_pos hq]
            simp only [Bool.and_eq_true] at hq
            refine sumN_congr fun w hw => ?_
            have e1 : ((S w && A n w && !(w == t)) && (less1 S w u && A t u)) = (less1 (less1 S t) u w && A n w) := by
              unfold less1
              have : (u == w) = (w == u) := by rw [Bool.eq_iff_iff, beq_iff_eq, beq_iff_eq]; exact eq_comm
              rw [hq.1, hq.2, this]
              cases S w <;> cases A n w <;> cases (w == t) <;> cases (w == u) <;> rfl
            show (if (S w && A n w && !(w == t) && (less1 S w u && A t u)) = true then sh (sh (num A n (less1 (less1 (less1 S w) t) u))) k else 0) = _
            rw [e1]
            have e2 : less1 (less1 (less1 S w) t) u = less1 (less1 (less1 S t) u) w := by
              funext x
              unfold less1
              cases S x <;> cases (x == w) <;> cases (x == t) <;> cases (x == u) <;> rfl
            rw [e2]
          · rw [if_neg hq]
            have hq' : (S u && A t u) = false := by simpa using hq
            refine (sumN_congr (g := fun _ => 0) fun w _ => if_neg fun hh => ?_).trans (sumN_zero n)
            simp only [Bool.and_eq_true] at hh
            rw [(less1_iff.1 hh.2.1).1, hh.2.2] at hq'
            cases hq'
        rw [hL, hR1, hR2, hD]
        omega
      · have hSn' : S n = false := by simpa using hSn
        rw [num_out hSn', num_out (by unfold less1; rw [hSn']; rfl), si_succ, if_neg (by rw [hSn']; exact Bool.false_ne_true), Nat.add_zero, ih k]
        congr 1
        refine si_congr fun u hu => ⟨rfl, fun _ => ?_⟩
        congr 1
        funext k'
        rw [num_out (by unfold less1; rw [hSn']; rfl)]
/-- a sum over other names -/
theorem si_other {g g' : Nat → Nat} {n : Nat} (f : Nat → Nat) : ∀ (n' : Nat) (q' q : Nat → Bool), (∀ u, u < n' → q' u = true → f u < n ∧ q (f u) = true ∧ g' u = g (f u)) → (∀ u w, u < n' → w < n' → q' u = true → q' w = true → f u = f w → u = w) → (∀ x, x < n → q x = true → ∃ u, u < n' ∧ q' u = true ∧ f u = x) → si q' g' n' = si q g n
  | 0, q', q, _, _, h3 => by
    rw [si_zero (q := q) fun x hx hq => by obtain ⟨u, hu, _⟩ := h3 x hx hq; omega]
    rfl
  | n' + 1, q', q, h1, h2, h3 => by
    rw [si_succ]
    by_cases hq : q' n' = true
    · obtain ⟨k1, k2, k3⟩ := h1 n' (by omega) hq
      rw [if_pos hq, si_split q g k1, if_pos k2, k3, Nat.add_comm]
      congr 1
      refine si_other f n' q' _ (fun u hu hqu => ?_) (fun u w hu hw => h2 u w (by omega) (by omega)) (fun x hx hqx => ?_)
      · obtain ⟨a, b, c⟩ := h1 u (by omega) hqu
        refine ⟨a, ?_, c⟩
        have : (f u == f n') = false := by
          rw [beq_eq_false_iff_ne]
          intro e
          have := h2 u n' (by omega) (by omega) hqu hq e
          omega
        rw [b, this]; rfl
      · simp only [Bool.and_eq_true, Bool.not_eq_true', beq_eq_false_iff_ne] at hqx
        obtain ⟨u, hu, hqu, e⟩ := h3 x hx hqx.1
        refine ⟨u, ?_, hqu, e⟩
        have : u ≠ n' := fun e' => hqx.2 (by rw [← e, e'])
        omega
    · rw [if_neg hq, Nat.add_zero]
      refine si_other f n' q' q (fun u hu => h1 u (by omega)) (fun u w hu hw => h2 u w (by omega) (by omega)) (fun x hx hqx => ?_)
      obtain ⟨u, hu, hqu, e⟩ := h3 x hx hqx
      refine ⟨u, ?_, hqu, e⟩
      have : u ≠ n' := fun e' => hq (by rw [← e']; exact hqu)
      omega
/-- things with other names -/
theorem num_other (hA : ∀ a b, A a b = A b a) (hI : ∀ a, A a a = false) {B : Nat → Nat → Bool} (f : Nat → Nat) : ∀ (n' : Nat) (S' S : Nat → Bool), (∀ a, a < n' → S' a = true → f a < n ∧ S (f a) = true) → (∀ a b, a < n' → b < n' → S' a = true → S' b = true → (f a = f b → a = b) ∧ B a b = A (f a) (f b)) → (∀ x, x < n → S x = true → ∃ a, a < n' ∧ S' a = true ∧ f a = x) → ∀ k, num B n' S' k = num A n S k
  | 0, S', S, _, _, h3, k => by
    have : ∀ (n : Nat), (∀ x, x < n → S x = false) → num A n S k = num A 0 S k := fun n => by
      induction n with
      | zero => intro _; rfl
      | succ n ih => intro h; rw [num_out (h n (by omega)), ih fun x hx => h x (by omega)]
    rw [this n fun x hx => by
      cases e : S x with
      | false => rfl
      | true => obtain ⟨u, hu, _⟩ := h3 x hx e; omega]
    rfl
  | n' + 1, S', S, h1, h2, h3, k => by
    by_cases hq : S' n' = true
    · obtain ⟨t1, t2⟩ := h1 n' (by omega) hq
      have keyS : ∀ a, a < n' → S' a = true → f a ≠ f n' := fun a ha hs e => by
        have := (h2 a n' (by omega) (by omega) hs hq).1 e
        omega
      have e1 : num B n' S' k = num A n (less1 S (f n')) k := num_other hA hI f n' S' _ (fun a ha hs => ⟨(h1 a (by omega) hs).1, less1_iff.2 ⟨(h1 a (by omega) hs).2, keyS a ha hs⟩⟩) (fun a b ha hb => h2 a b (by omega) (by omega)) (fun x hx hs => by
        obtain ⟨hs1, hs2⟩ := less1_iff.1 hs
        obtain ⟨a, ha, hsa, e⟩ := h3 x hx hs1
        exact ⟨a, by have : a ≠ n' := fun e' => hs2 (by rw [← e, e']); omega, hsa, e⟩) k
      show num B n' S' k + (if S' n' = true then _ else 0) = _
      rw [if_pos hq, num_at hA hI n S (f n') t1 t2 k, e1]
      congr 1
      refine si_other f n' (fun u => S' u && B n' u) (fun u => S u && A (f n') u) (fun u hu hqu => ?_) (fun u w hu hw hqu hqw => ?_) (fun x hx hqx => ?_)
      · simp only [Bool.and_eq_true] at hqu
        obtain ⟨k1, k2⟩ := h1 u (by omega) hqu.1
        have hB := (h2 n' u (by omega) (by omega) hq hqu.1).2
        refine ⟨k1, ?_, ?_⟩
        · show (S (f u) && A (f n') (f u)) = true
          rw [k2, ← hB, hqu.2]; rfl
        · congr 1
          funext k'
          exact num_other hA hI f n' (less1 S' u) _ (fun a ha hs => by
            obtain ⟨hs1, hs2⟩ := less1_iff.1 hs
            refine ⟨(h1 a (by omega) hs1).1, less1_iff.2 ⟨less1_iff.2 ⟨(h1 a (by omega) hs1).2, keyS a ha hs1⟩, fun e => hs2 ?_⟩⟩
            exact (h2 a u (by omega) (by omega) hs1 hqu.1).1 e) (fun a b ha hb hsa hsb => h2 a b (by omega) (by omega) (less1_iff.1 hsa).1 (less1_iff.1 hsb).1) (fun x hx hs => by
            obtain ⟨hs0, hs2⟩ := less1_iff.1 hs
            obtain ⟨hs1, hs3⟩ := less1_iff.1 hs0
            obtain ⟨a, ha, hsa, e⟩ := h3 x hx hs1
            exact ⟨a, by have : a ≠ n' := fun e' => hs3 (by rw [← e, e']); omega, less1_iff.2 ⟨hsa, fun e' => hs2 (by rw [← e, e'])⟩, e⟩) k'
      · simp only [Bool.and_eq_true] at hqu hqw
        exact (h2 u w (by omega) (by omega) hqu.1 hqw.1).1
      · simp only [Bool.and_eq_true] at hqx
        obtain ⟨a, ha, hsa, e⟩ := h3 x hx hqx.1
        have hne : a ≠ n' := fun e' => by
          have := hqx.2
          rw [← e, e', hI] at this; cases this
        refine ⟨a, by omega, ?_, e⟩
        show (S' a && B n' a) = true
        rw [hsa, (h2 n' a (by omega) ha hq hsa).2, e, hqx.2]; rfl
    · have hq' : S' n' = false := by simpa using hq
      rw [num_out hq']
      exact num_other hA hI f n' S' S (fun a ha => h1 a (by omega)) (fun a b ha hb => h2 a b (by omega) (by omega)) (fun x hx hs => by
        obtain ⟨a, ha, hsa, e⟩ := h3 x hx hs
        exact ⟨a, by have : a ≠ n' := fun e' => hq (by rw [← e']; exact hsa); omega, hsa, e⟩) k
end
end Go.Proofs.Yteingahlmlndkaa

/-
  What is proved: plain: the greatest number of pairs, and how many matchings have it; how both come from those of fewer things.
-/
namespace Go.Proofs.Yteingahlmlndkaa
def restr (i : Nat) (S : Nat → Bool) : Nat → Bool := fun v => S v && decide (v < i)
theorem restr_iff {i v : Nat} {S : Nat → Bool} : restr i S v = true ↔ S v = true ∧ v < i := by unfold restr; simp
theorem restr_self {n : Nat} {S : Nat → Bool} (hS : ∀ t, S t = true → t < n) : restr n S = S := by
  funext v
  unfold restr
  cases e : S v with
  | false => rfl
  | true => simp [hS v e]
theorem cov_succ (i : Nat) (m : Nat → Nat) : cov (i + 1) m = cov i m + if m i ≠ i then 1 else 0 := by
  show cntB (cv m) i + (if cv m i = true then 1 else 0) = _
  congr 1
  by_cases h : m i = i
  · rw [if_neg (by rw [cv_iff]; exact fun hh => hh h), if_neg (fun hh => hh h)]
  · rw [if_pos (cv_iff.2 h), if_pos h]
section
variable {A : Nat → Nat → Bool} {S : Nat → Bool} {n : Nat}
theorem si_pos {q : Nat → Bool} {f : Nat → Nat} : ∀ {n : Nat}, 0 < si q f n ↔ ∃ u, u < n ∧ q u = true ∧ 0 < f u
  | 0 => ⟨fun h => absurd h (Nat.lt_irrefl 0), fun ⟨_, h, _⟩ => by omega⟩
  | n + 1 => by
    rw [si_succ]
    constructor
    · intro h
      by_cases h1 : 0 < si q f n
      · obtain ⟨u, hu, h2⟩ := si_pos.1 h1
        exact ⟨u, by omega, h2⟩
      · by_cases h2 : q n = true
        · rw [if_pos h2] at h; exact ⟨n, by omega, h2, by omega⟩
        · rw [if_neg h2] at h; omega
    · rintro ⟨u, hu, h1, h2⟩
      by_cases e : u = n
      · subst e; rw [if_pos h1]; omega
      · have := (si_pos (q := q) (f := f) (n := n)).2 ⟨u, by omega, h1, h2⟩
        omega
theorem num_pos (hA : ∀ a b, A a b = A b a) : ∀ (i : Nat) (S : Nat → Bool) (k : Nat), 0 < num A i S k ↔ ∃ m, IsM A (restr i S) m ∧ cov i m = 2 * k
  | 0, S, k => by
    constructor
    · intro h
      unfold num at h
      split at h
      · rename_i e; subst e; exact ⟨id, IsM.none _ _, rfl⟩
      · omega
    · rintro ⟨m, hm, h⟩
      have : k = 0 := by
        have : cov 0 m = 0 := rfl
        omega
      subst this
      show 0 < (if 0 = 0 then 1 else 0)
      simp
  | i + 1, S, k => by
    have hlt : ∀ (T : Nat → Bool) (t : Nat), restr i T t = true → t < i := fun T t h => (restr_iff.1 h).2
    have hup : ∀ t, restr i S t = true → restr (i + 1) S t = true := fun t h => restr_iff.2 ⟨(restr_iff.1 h).1, by have := (restr_iff.1 h).2; omega⟩
    have hout : ∀ {T m}, IsM A (restr i T) m → m i = i := fun {T m} hm => Classical.byContradiction fun e => by have := hlt T i (hm.ok i e).1; omega
    constructor
    · intro h
      unfold num at h
      by_cases h1 : 0 < num A i S k
      · obtain ⟨m, hm, hc⟩ := (num_pos hA i S k).1 h1
        exact ⟨m, hm.mono (fun _ _ e => e) hup, by rw [cov_succ, hout hm, if_neg (fun hh => hh rfl)]; exact hc⟩
      · by_cases hSi : S i = true
        · rw [if_pos hSi] at h
          have h9 : 0 < si (fun u => S u && A i u) (fun u => sh (num A i (less1 S u)) k) i := by omega
          obtain ⟨u, hu, hq, hf⟩ := si_pos.1 h9
          replace hq : (S u && A i u) = true := hq
          cases k with
          | zero => exact absurd hf (Nat.lt_irrefl 0)
          | succ k =>
            obtain ⟨m, hm, hc⟩ := (num_pos hA i (less1 S u) k).1 hf
            simp only [Bool.and_eq_true] at hq
            have hmu : m u = u := Classical.byContradiction fun e => (less1_iff.1 (restr_iff.1 (hm.ok u e).1).1).2 rfl
            have hm2 : IsM A (restr (i + 1) S) m := hm.mono (fun _ _ e => e) fun t h => restr_iff.2 ⟨(less1_iff.1 (restr_iff.1 h).1).1, by have := (restr_iff.1 h).2; omega⟩
            obtain ⟨q1, q2, _⟩ := hm2.pair (n := i + 1) (fun t h => (restr_iff.1 h).2) hA (hout hm) hmu (by omega : i ≠ u) (restr_iff.2 ⟨hSi, by omega⟩) (restr_iff.2 ⟨hq.1, by omega⟩) (by rw [hA]; exact hq.2)
            refine ⟨_, q1, ?_⟩
            rw [q2, cov_succ, hout hm, if_neg (fun hh => hh rfl)]
            omega
        · rw [if_neg hSi] at h; omega
    · rintro ⟨m, hm, hc⟩
      unfold num
      by_cases hmi : m i = i
      · rw [cov_succ, if_neg (fun hh => hh hmi)] at hc
        have := (num_pos hA i S k).2 ⟨m, ⟨hm.inv, fun t ht => by
          obtain ⟨h1, h2⟩ := hm.ok t ht
          obtain ⟨h3, h4⟩ := restr_iff.1 h1
          refine ⟨restr_iff.2 ⟨h3, ?_⟩, h2⟩
          have : t ≠ i := fun e => ht (by rw [e, hmi])
          omega⟩, by omega⟩
        omega
      · obtain ⟨h1, h2⟩ := hm.ok i hmi
        have h3 := restr_iff.1 (hm.in_ hmi)
        have hlt1 : m i < i := by have := h3.2; omega
        have hc2 := cov_unp (n := i + 1) (fun t h => (restr_iff.1 h).2) hm hmi
        have hcu : cov (i + 1) (unp m i) = cov i (unp m i) := by rw [cov_succ, rem_self, if_neg (fun hh => hh rfl)]; rfl
        cases k with
        | zero => omega
        | succ k =>
          have := (num_pos hA i (less1 S (m i)) k).2 ⟨unp m i, ⟨unp_inv hm.inv i, fun t ht => by
            obtain ⟨g1, g2, g3⟩ := unp_key ht
            rw [g3] at ht ⊢
            obtain ⟨k1, k2⟩ := hm.ok t ht
            obtain ⟨k3, k4⟩ := restr_iff.1 k1
            exact ⟨restr_iff.2 ⟨less1_iff.2 ⟨k3, g2⟩, by omega⟩, k2⟩⟩, by omega⟩
          rw [if_pos (restr_iff.1 h1).1]
          have := (si_pos (q := fun u => S u && A i u) (f := fun u => sh (num A i (less1 S u)) (k + 1)) (n := i)).2 ⟨m i, hlt1, (by show (S (m i) && A i (m i)) = true; rw [h3.1, h2]; rfl), this⟩
          omega
def top (p : Nat → Bool) : Nat → Nat
  | 0 => 0
  | k + 1 => if p (k + 1) = true then k + 1 else top p k
theorem top_ge {p : Nat → Bool} : ∀ {n k : Nat}, k ≤ n → p k = true → k ≤ top p n
  | 0, k, h, _ => by omega
  | n + 1, k, h, hp => by
    unfold top
    split
    · exact h
    · rename_i hn
      have : k ≠ n + 1 := fun e => hn (e ▸ hp)
      exact top_ge (by omega) hp
theorem top_has {p : Nat → Bool} (h0 : p 0 = true) : ∀ n, p (top p n) = true
  | 0 => h0
  | n + 1 => by
    unfold top
    split
    · assumption
    · exact top_has h0 n
/-- the greatest number of pairs -/
def nu (A : Nat → Nat → Bool) (S : Nat → Bool) (n : Nat) : Nat := top (fun k => decide (0 < num A n S k)) n
/-- how many matchings have it -/
def cnt (A : Nat → Nat → Bool) (S : Nat → Bool) (n : Nat) : Nat := num A n S (nu A S n)
theorem cnt_pos (hA : ∀ a b, A a b = A b a) : 0 < cnt A S n := by
  have h := top_has (p := fun k => decide (0 < num A n S k)) (by simp only [decide_eq_true_eq]; exact (num_pos hA n S 0).2 ⟨id, IsM.none _ _, cntB_zero fun i _ => cv_false.2 rfl⟩) n
  unfold cnt nu
  simpa using h
theorem num_gt (hA : ∀ a b, A a b = A b a) {k : Nat} (h : nu A S n < k) : num A n S k = 0 := by
  refine Nat.eq_zero_of_not_pos fun hp => ?_
  obtain ⟨m, _, hc⟩ := (num_pos hA n S k).1 hp
  have h1 := cntB_le (cv m) n
  have h2 : k ≤ nu A S n := top_ge (p := fun k => decide (0 < num A n S k)) (by unfold cov at hc; omega) (by simpa using hp)
  omega
theorem nu_unique (hA : ∀ a b, A a b = A b a) {k : Nat} (h1 : 0 < num A n S k) (h2 : ∀ j, k < j → num A n S j = 0) : nu A S n = k := by
  rcases Nat.lt_trichotomy (nu A S n) k with h | h | h
  · rw [num_gt hA h] at h1; omega
  · exact h
  · have := cnt_pos (S := S) (n := n) hA
    unfold cnt at this
    rw [h2 _ h] at this; omega
theorem nu_mx (hA : ∀ a b, A a b = A b a) (hS : ∀ t, S t = true → t < n) {m : Nat → Nat} (h : Mx A S n m) : cov n m = 2 * nu A S n := by
  have h1 := h.isM.even hS
  obtain ⟨k, hk⟩ : ∃ k, cov n m = 2 * k := ⟨cov n m / 2, by omega⟩
  have h2 := (num_pos hA n S k).2 ⟨m, by rw [restr_self hS]; exact h.isM, hk⟩
  have h3 : ¬ nu A S n < k := fun hh => by rw [num_gt hA hh] at h2; omega
  obtain ⟨N, hN, hc⟩ := (num_pos hA n S _).1 (cnt_pos (S := S) (n := n) hA)
  rw [restr_self hS] at hN
  have := h.most N hN
  omega
theorem mx_nu (hA : ∀ a b, A a b = A b a) (hS : ∀ t, S t = true → t < n) {m : Nat → Nat} (h : IsM A S m) (hc : cov n m = 2 * nu A S n) : Mx A S n m := by
  obtain ⟨N, hN⟩ := Mx.exists A S n
  exact hN.of_cov h (by rw [nu_mx hA hS hN]; exact hc)
theorem le_nu (hA : ∀ a b, A a b = A b a) (hS : ∀ t, S t = true → t < n) {m : Nat → Nat} (h : IsM A S m) : cov n m ≤ 2 * nu A S n := by
  obtain ⟨N, hN⟩ := Mx.exists A S n
  rw [← nu_mx hA hS hN]
  exact hN.most m h
theorem nu_le (hA : ∀ a b, A a b = A b a) (hS : ∀ t, S t = true → t < n) : 2 * nu A S n ≤ n := by
  obtain ⟨N, hN⟩ := Mx.exists A S n
  rw [← nu_mx hA hS hN]
  exact cntB_le _ _
theorem Spare.iff_nu (hA : ∀ a b, A a b = A b a) (hS : ∀ t, S t = true → t < n) {t : Nat} (ht : S t = true) : Spare A S n t ↔ nu A (less1 S t) n = nu A S n := by
  constructor
  · rintro ⟨_, m, hm, hmt⟩
    have h1 : IsM A (less1 S t) m := ⟨hm.isM.inv, fun v hv => ⟨less1_iff.2 ⟨(hm.isM.ok v hv).1, fun e => hv (by rw [e, hmt])⟩, (hm.isM.ok v hv).2⟩⟩
    have h2 := le_nu hA (less1_lt hS t) h1
    rw [nu_mx hA hS hm] at h2
    obtain ⟨N, hN⟩ := Mx.exists A (less1 S t) n
    have h3 := hm.most N hN.isM.less
    rw [nu_mx hA hS hm, nu_mx hA (less1_lt hS t) hN] at h3
    omega
  · intro h
    obtain ⟨N, hN⟩ := Mx.exists A (less1 S t) n
    refine ⟨ht, N, mx_nu hA hS hN.isM.less ?_, hN.isM.less_alone⟩
    rw [nu_mx hA (less1_lt hS t) hN, h]

/-! ### the tally -/
def addT (x y : Nat × Nat) : Nat × Nat := if x.1 < y.1 then y else if y.1 = x.1 then (x.1, x.2 + y.2) else x
def atT (k : Nat) (L : List (Nat × Nat)) : Nat := (L.map fun x => if x.1 = k then x.2 else 0).sum
theorem atT_zero {k : Nat} : ∀ {L : List (Nat × Nat)}, (∀ x ∈ L, x.1 < k) → atT k L = 0
  | [], _ => rfl
  | x :: L, h => by
    have h1 := h x (by simp)
    have h2 : atT k L = 0 := atT_zero fun y hy => h y (by simp [hy])
    show (if x.1 = k then x.2 else 0) + atT k L = 0
    rw [if_neg (by omega), h2]
theorem atT_snoc (k : Nat) (L : List (Nat × Nat)) (x : Nat × Nat) : atT k (L ++ [x]) = atT k L + if x.1 = k then x.2 else 0 := by
  unfold atT; rw [List.map_append, List.sum_append]; simp
theorem fold_addT (L : List (Nat × Nat)) : (∀ x ∈ L, x.1 ≤ (L.foldl addT (0, 0)).1) ∧ (L.foldl addT (0, 0)).2 = atT (L.foldl addT (0, 0)).1 L ∧ ((L.foldl addT (0, 0)).1 = 0 ∨ ∃ x ∈ L, x.1 = (L.foldl addT (0, 0)).1) := by
  rw [← List.reverse_reverse L]
  generalize L.reverse = M
  induction M with
  | nil => exact ⟨fun x hx => absurd hx List.not_mem_nil, rfl, .inl rfl⟩
  | cons y M ih =>
    rw [List.reverse_cons, List.foldl_append]
    obtain ⟨h1, h2, h3⟩ := ih
    obtain ⟨x, hx⟩ : ∃ x, M.reverse.foldl addT (0, 0) = x := ⟨_, rfl⟩
    rw [hx] at h1 h2 h3 ⊢
    show (∀ z ∈ M.reverse ++ [y], z.1 ≤ (addT x y).1) ∧ (addT x y).2 = atT (addT x y).1 (M.reverse ++ [y]) ∧ ((addT x y).1 = 0 ∨ ∃ z ∈ M.reverse ++ [y], z.1 = (addT x y).1)
    unfold addT
    by_cases c1 : x.1 < y.1
    · rw [if_pos c1]
      refine ⟨fun z hz => ?_, ?_, .inr ⟨y, by simp, rfl⟩⟩
      · rcases List.mem_append.1 hz with hz | hz
        · have := h1 z hz; omega
        · rw [List.mem_singleton.1 hz]; exact Nat.le_refl _
      · rw [atT_snoc, atT_zero fun z hz => by have := h1 z hz; omega, if_pos rfl, Nat.zero_add]
    · rw [if_neg c1]
      by_cases c2 : y.1 = x.1
      · rw [if_pos c2]
        refine ⟨fun z hz => ?_, ?_, ?_⟩
        · rcases List.mem_append.1 hz with hz | hz
          · exact h1 z hz
          · rw [List.mem_singleton.1 hz, c2]; exact Nat.le_refl _
        · show x.2 + y.2 = atT x.1 _
          rw [atT_snoc, if_pos c2, h2]
        · exact .inr ⟨y, by simp, c2⟩
      · rw [if_neg c2]
        refine ⟨fun z hz => ?_, ?_, ?_⟩
        · rcases List.mem_append.1 hz with hz | hz
          · exact h1 z hz
          · rw [List.mem_singleton.1 hz]; omega
        · rw [atT_snoc, if_neg c2, h2]; rfl
        · rcases h3 with h3 | ⟨z, hz, e⟩
          · exact .inl h3
          · exact .inr ⟨z, by simp [hz], e⟩
theorem filter_list_sum (q : Nat → Bool) (f : Nat → Nat) (n : Nat) : (((List.range n).filter q).map f).sum = si q f n := filter_sum q f n
/-- of fewer things -/
def parts (A : Nat → Nat → Bool) (S : Nat → Bool) (n t : Nat) : List (Nat × Nat) := (nu A (less1 S t) n, cnt A (less1 S t) n) :: ((List.range n).filter fun u => less1 S t u && A t u).map fun u => (nu A (less1 (less1 S t) u) n + 1, cnt A (less1 (less1 S t) u) n)
theorem parts_tally (hA : ∀ a b, A a b = A b a) (hI : ∀ a, A a a = false) {t : Nat} (ht : t < n) (hSt : S t = true) : (parts A S n t).foldl addT (0, 0) = (nu A S n, cnt A S n) := by
  obtain ⟨h1, h2, h3⟩ := fold_addT (parts A S n t)
  obtain ⟨x, hx⟩ : ∃ x, (parts A S n t).foldl addT (0, 0) = x := ⟨_, rfl⟩
  rw [hx] at h1 h2 h3 ⊢
  have hq : ∀ u, (S u && A t u) = (less1 S t u && A t u) := fun u => by
    unfold less1
    by_cases e : u = t
    · subst e; rw [hI]; simp
    · have : (u == t) = false := by simpa using e
      simp [this]
  have key : ∀ k, x.1 ≤ k → num A n S k = atT k (parts A S n t) := fun k hk => by
    rw [num_at hA hI n S t ht hSt k, si_congr (q' := fun u => less1 S t u && A t u) (f' := fun u => if nu A (less1 (less1 S t) u) n + 1 = k then cnt A (less1 (less1 S t) u) n else 0) (fun u hu => ⟨hq u, fun hqu => ?_⟩)]
    · show _ = (if nu A (less1 S t) n = k then cnt A (less1 S t) n else 0) + atT k _
      congr 1
      · have := h1 (nu A (less1 S t) n, cnt A (less1 S t) n) (by unfold parts; simp)
        split
        · rename_i e; subst e; rfl
        · exact num_gt hA (by simp only at this; omega)
      · unfold atT
        rw [List.map_map, ← filter_list_sum]
        rfl
    · have := h1 (nu A (less1 (less1 S t) u) n + 1, cnt A (less1 (less1 S t) u) n) (by
        unfold parts
        refine List.mem_cons_of_mem _ (List.mem_map.2 ⟨u, List.mem_filter.2 ⟨List.mem_range.2 hu, ?_⟩, rfl⟩)
        rw [← hq]; exact hqu)
      simp only at this
      cases k with
      | zero => omega
      | succ k =>
        show num A n (less1 (less1 S t) u) k = _
        split
        · rename_i e
          have : nu A (less1 (less1 S t) u) n = k := by omega
          subst this; rfl
        · exact num_gt hA (by omega)
  have hpos : ∀ y ∈ parts A S n t, 0 < y.2 := fun y hy => by
    unfold parts at hy
    rcases List.mem_cons.1 hy with rfl | hy
    · exact cnt_pos hA
    · obtain ⟨u, _, rfl⟩ := List.mem_map.1 hy
      exact cnt_pos hA
  have hin : ∃ y ∈ parts A S n t, y.1 = x.1 := by
    rcases h3 with h3 | h3
    · refine ⟨_, List.mem_cons_self .., ?_⟩
      have := h1 _ (by unfold parts; exact List.mem_cons_self ..)
      simp only at this ⊢
      omega
    · exact h3
  have hx2 : 0 < atT x.1 (parts A S n t) := by
    obtain ⟨y, hy, e⟩ := hin
    obtain ⟨l1, l2, hl⟩ := List.append_of_mem hy
    have := hpos y hy
    rw [hl]
    unfold atT
    rw [List.map_append, List.sum_append, List.map_cons, List.sum_cons, if_pos e]
    omega
  have e1 : nu A S n = x.1 := nu_unique hA (by rw [key _ (Nat.le_refl _)]; exact hx2) fun j hj => by
    rw [key j (by omega)]
    exact atT_zero fun y hy => by have := h1 y hy; omega
  have e2 : cnt A S n = x.2 := by unfold cnt; rw [e1, key _ (Nat.le_refl _), ← h2]
  rw [e1, e2]
def fct : Nat → Nat
  | 0 => 1
  | n + 1 => (n + 1) * fct n
theorem si_le {q : Nat → Bool} {f : Nat → Nat} {B : Nat} : ∀ {n : Nat}, (∀ u, u < n → f u ≤ B) → si q f n ≤ n * B
  | 0, _ => Nat.zero_le _
  | n + 1, h => by
    have h1 := si_le (q := q) (n := n) fun u hu => h u (by omega)
    have h2 := h n (by omega)
    rw [si_succ, Nat.succ_mul]
    split <;> omega
theorem num_le : ∀ (n : Nat) (S : Nat → Bool) (k : Nat), num A n S k ≤ fct n
  | 0, S, k => by unfold num fct; split <;> omega
  | n + 1, S, k => by
    unfold num fct
    have h1 := num_le n S k
    have h2 : si (fun u => S u && A n u) (fun u => sh (num A n (less1 S u)) k) n ≤ n * fct n := si_le fun u _ => by
      cases k with
      | zero => exact Nat.zero_le _
      | succ k => exact num_le n _ k
    rw [Nat.succ_mul]
    split <;> omega
theorem nu_other (hA : ∀ a b, A a b = A b a) {B : Nat → Nat → Bool} (hB : ∀ a b, B a b = B b a) {T : Nat → Bool} {k : Nat} (h : ∀ j, num B k T j = num A n S j) : nu B T k = nu A S n ∧ cnt B T k = cnt A S n := by
  have e : nu B T k = nu A S n := nu_unique hB (by rw [h]; exact cnt_pos hA) fun j hj => by rw [h]; exact num_gt hA hj
  exact ⟨e, by unfold cnt; rw [e, h]⟩
end
end Go.Proofs.Yteingahlmlndkaa

/-
  What is proved: plain: all pairings, thing by thing, alone or with a later one, as the definition lists them.
-/
namespace Go.Proofs.Yteingahlmlndkaa
/-- a row of a pairing whose things from i on may be open: -2 open, -1 alone -/
def rowP (m : Nat → Nat) (n i : Nat) : List Int := (List.range n).map fun v => if m v ≠ v then (m v : Int) else if v < i then -1 else -2
def stepA (A : Nat → Nat → Bool) (n i : Nat) (p : List Int) : List (List Int) :=
  if p.getD i 0 ≠ -2 then [p] else p.set i (-1) :: ((List.range n).filter fun k => decide (i < k) && (p.getD k 0 == -2 && A i k)).map fun (k : Nat) => (p.set i (k : Int)).set k (i : Int)
def allR (A : Nat → Nat → Bool) (n : Nat) : Nat → List (List Int)
  | 0 => [List.replicate n (-2)]
  | i + 1 => (allR A n i).flatMap (stepA A n i)
def candM (A : Nat → Nat → Bool) (n i : Nat) (m : Nat → Nat) : List Nat := (List.range n).filter fun k => decide (i < k) && (decide (m k = k) && A i k)
def stepM (A : Nat → Nat → Bool) (n i : Nat) (m : Nat → Nat) : List (Nat → Nat) := if m i ≠ i then [m] else m :: (candM A n i m).map fun k => swp m i k
def allM (A : Nat → Nat → Bool) (n : Nat) : Nat → List (Nat → Nat)
  | 0 => [id]
  | i + 1 => (allM A n i).flatMap (stepM A n i)
def belowN (n : Nat) : Nat → Bool := fun v => decide (v < n)
theorem belowN_lt {n t : Nat} (h : belowN n t = true) : t < n := by simpa [belowN] using h
structure Part (A : Nat → Nat → Bool) (n i : Nat) (m : Nat → Nat) : Prop where
  isM : IsM A (belowN n) m
  low : ∀ v, m v ≠ v → v < i ∨ m v < i
section
variable {A : Nat → Nat → Bool} {n i : Nat} {m : Nat → Nat}
theorem getD_set (p : List Int) (j v : Nat) (x : Int) : (p.set j x).getD v 0 = if v = j ∧ j < p.length then x else p.getD v 0 := by
  rw [List.getD_eq_getElem?_getD, List.getElem?_set]
  by_cases e : j = v
  · subst e
    by_cases h : j < p.length
    · simp [h]
    · simp [h, List.getD_eq_getElem?_getD]
  · have : ¬ v = j := fun h => e h.symm
    simp [e, this, List.getD_eq_getElem?_getD]
/-! ### how many -/
def freeM (n i : Nat) (m : Nat → Nat) : Nat → Bool := fun v => decide (i ≤ v) && (decide (v < n) && decide (m v = v))
def wgt (A : Nat → Nat → Bool) (n i k : Nat) (m : Nat → Nat) : Nat := if cov n m ≤ 2 * k then num A n (freeM n i m) (k - cov n m / 2) else 0
/-- pairs, by their lesser things -/
theorem pairs_cov (hm : IsM A (belowN n) m) : 2 * cntB (fun v => decide (v < m v)) n = cov n m := by
  have h1 : cntB (fun v => decide (v < m v)) n = cntB (fun v => decide (m v < v)) n := by
    refine Nat.le_antisymm ?_ ?_
    · refine cntB_inj (n := n) m n _ _ (fun v hv h => ?_) fun v w _ _ _ _ e => hm.inj e
      simp only [decide_eq_true_eq] at h ⊢
      exact ⟨belowN_lt (hm.in_ (by omega)), by rw [hm.inv]; exact h⟩
    · refine cntB_inj (n := n) m n _ _ (fun v hv h => ?_) fun v w _ _ _ _ e => hm.inj e
      simp only [decide_eq_true_eq] at h ⊢
      exact ⟨by omega, by rw [hm.inv]; exact h⟩
  have h2 := cntB_or (p := fun v => decide (v < m v)) (q := fun v => decide (m v < v)) (n := n) fun i _ h => by simp only [decide_eq_true_eq, decide_eq_false_iff_not] at h ⊢; omega
  have h3 : cntB (fun v => decide (v < m v) || decide (m v < v)) n = cov n m := cntB_congr fun i _ => by
    unfold cv
    rw [Bool.eq_iff_iff]
    simp only [Bool.or_eq_true, decide_eq_true_eq]
    omega
  omega
end
end Go.Proofs.Yteingahlmlndkaa

/-
  What is proved: plain: kinds of things and of pairs; when there is just one best pairing.
-/
namespace Go.Proofs.Yteingahlmlndkaa
section
variable {A : Nat → Nat → Bool} {S : Nat → Bool} {n : Nat} {m : Nat → Nat}
/-- one comes to a thing that has a mate -/
theorem cov_swap (hS : ∀ t, S t = true → t < n) (hA : ∀ a b, A a b = A b a) (h : IsM A S m) {e a : Nat} (h1 : m e = e) (h2 : m a ≠ a) (hLe : S e = true) (hAe : A a e = true) : IsM A S (swp m e a) ∧ cov n (swp m e a) = cov n m ∧ swp m e a e = a := by
  have hne : e ≠ a := fun hh => h2 (by rw [← hh, h1])
  have hLa := (h.ok a h2).1
  obtain ⟨g1, g2⟩ := h.swp_ hA h1 hne hLe hLa hAe
  have hem : e ≠ m a := fun hh => hne (by rw [← h.inv a, ← hh, h1])
  refine ⟨g1, ?_, by unfold swp; rw [if_neg hne, if_pos rfl]⟩
  have a1 : cntB (cv (swp m e a)) n = cntB (fun v => cv m v && !(v == m a)) n + 1 := by
    refine cntB_one (hS e hLe) (cv_iff.2 ((g2 e).2 (.inr (.inl rfl)))) (by simp [cv_false.2 h1]) fun i _ hi => ?_
    have key : cv (swp m e a) i = true ↔ (cv m i && !(i == m a)) = true := by
      rw [cv_iff, g2]
      simp only [Bool.and_eq_true, Bool.not_eq_true', beq_eq_false_iff_ne, cv_iff]
      constructor
      · rintro (k | k | k)
        · subst k; exact ⟨h2, Ne.symm h2⟩
        · exact absurd k hi
        · exact k
      · intro k; exact .inr (.inr k)
    cases e2 : cv (swp m e a) i <;> cases e3 : (cv m i && !(i == m a)) <;> simp_all
  have b1 := cntB_less (p := cv m) (hS _ (h.in_ h2)) (cv_iff.2 (h.ne h2))
  unfold cov
  omega
/-- a thing that may stay alone, and suits another one, may have a mate -/
theorem Spare.mate (hS : ∀ t, S t = true → t < n) (hA : ∀ a b, A a b = A b a) {t u : Nat} (h : Spare A S n t) (hu : S u = true) (hne : t ≠ u) (hAtu : A t u = true) : ∃ m, Mx A S n m ∧ m t ≠ t := by
  obtain ⟨ht, m, hm, hmt⟩ := h
  by_cases hmu : m u = u
  · obtain ⟨q1, q2, _⟩ := hm.isM.pair hS hA hmt hmu hne ht hu (by rw [hA]; exact hAtu)
    have := hm.most _ q1
    omega
  · obtain ⟨q1, q2, q3⟩ := cov_swap hS hA hm.isM hmt hmu ht (by rw [hA]; exact hAtu)
    exact ⟨_, hm.of_cov q1 q2, by rw [q3]; exact hne.symm⟩
/-- two things do not suit each other -/
def delE (A : Nat → Nat → Bool) (x y : Nat) : Nat → Nat → Bool := fun a b => A a b && !((a == x && b == y) || (a == y && b == x))
theorem delE_symm (hA : ∀ a b, A a b = A b a) (x y : Nat) : ∀ a b, delE A x y a b = delE A x y b a := fun a b => by
  unfold delE
  rw [hA a b]
  cases A b a <;> cases (a == x) <;> cases (b == y) <;> cases (a == y) <;> cases (b == x) <;> rfl
end
end Go.Proofs.Yteingahlmlndkaa

/-
  What is proved: stocks of layer 8, as numbers, and how they lie in memory.
-/
namespace Go.Proofs.Yteingahlmlndkaa
open Go.RowKit

/-- a stock: things (kind, weight, grain), kinds that go together, by how much weights may differ -/
structure Stk where
  nt : Nat
  nm : Nat
  wide : Int
  tk : Nat → Int
  tw : Nat → Int
  tg : Nat → Int
  ma : Nat → Int
  mb : Nat → Int
def outB (lo hi n : Int) : Bool := decide (n < lo) || decide (hi < n)
def Stk.badT (s : Stk) (i : Nat) : Bool := outB 0 9 (s.tk i) || outB 0 9 (s.tg i) || outB 0 10000 (s.tw i)
def Stk.badM (s : Stk) (i : Nat) : Bool := outB 0 9 (s.ma i) || outB 0 9 (s.mb i)
/-- its error: 0 if it is valid -/
def Stk.check (s : Stk) : Nat :=
  if 16 < s.nt ∨ 20 < s.nm then 6 else if (List.range s.nt).any s.badT = true then 3 else if ((List.range s.nm).any s.badM || outB 0 10000 s.wide) = true then 2 else 0
/-- two kinds go together -/
def Stk.goes (s : Stk) (a b : Int) : Bool := (List.range s.nm).any fun i => (decide (s.ma i = a) && decide (s.mb i = b)) || (decide (s.ma i = b) && decide (s.mb i = a))
/-- two things suit each other -/
def Stk.suits (s : Stk) (i k : Nat) : Bool := !decide (i = k) && (decide (s.tw i - s.tw k ≤ s.wide) && decide (s.tw k - s.tw i ≤ s.wide)) && (decide (s.tg i = s.tg k) || decide (s.tg i = 0) || decide (s.tg k = 0)) && s.goes (s.tk i) (s.tk k)
def Stk.adj (s : Stk) (i k : Nat) : Bool := decide (i < s.nt) && decide (k < s.nt) && s.suits i k
structure Stk.Ok (s : Stk) : Prop where
  n16 : s.nt ≤ 16
  m20 : s.nm ≤ 20
  tk : ∀ i, i < s.nt → 0 ≤ s.tk i ∧ s.tk i ≤ 9
  tg : ∀ i, i < s.nt → 0 ≤ s.tg i ∧ s.tg i ≤ 9
  tw : ∀ i, i < s.nt → 0 ≤ s.tw i ∧ s.tw i ≤ 10000
  ma : ∀ i, i < s.nm → 0 ≤ s.ma i ∧ s.ma i ≤ 9
  mb : ∀ i, i < s.nm → 0 ≤ s.mb i ∧ s.mb i ≤ 9
  wide : 0 ≤ s.wide ∧ s.wide ≤ 10000
theorem Stk.ok_iff (s : Stk) : s.check = 0 ↔ s.Ok := by
  unfold Stk.check
  constructor
  · intro h
    by_cases h1 : 16 < s.nt ∨ 20 < s.nm
    · rw [if_pos h1] at h; cases h
    · rw [if_neg h1] at h
      by_cases h2 : (List.range s.nt).any s.badT = true
      · rw [if_pos h2] at h; cases h
      · rw [if_neg h2] at h
        by_cases h3 : ((List.range s.nm).any s.badM || outB 0 10000 s.wide) = true
        · rw [if_pos h3] at h; cases h
        · simp only [Bool.not_eq_true, List.any_eq_false, List.mem_range, Bool.or_eq_false_iff, Stk.badT, Stk.badM, outB, decide_eq_false_iff_not] at h2 h3
          refine ⟨by omega, by omega, fun i hi => ?_, fun i hi => ?_, fun i hi => ?_, fun i hi => ?_, fun i hi => ?_, ?_⟩
          · have := h2 i hi; omega
          · have := h2 i hi; omega
          · have := h2 i hi; omega
          · have := h3.1 i hi; omega
          · have := h3.1 i hi; omega
          · have := h3.2; omega
  · intro h
    rw [if_neg (by have := h.n16; have := h.m20; omega), if_neg, if_neg]
    · simp only [Bool.not_eq_true, List.any_eq_false, List.mem_range, Bool.or_eq_false_iff, Stk.badM, outB, decide_eq_false_iff_not]
      refine ⟨fun i hi => ?_, ?_⟩
      · have := h.ma i hi; have := h.mb i hi; omega
      · have := h.wide; omega
    · simp only [Bool.not_eq_true, List.any_eq_false, List.mem_range, Bool.or_eq_false_iff, Stk.badT, outB, decide_eq_false_iff_not]
      intro i hi
      have := h.tk i hi; have := h.tg i hi; have := h.tw i hi
      omega
theorem Stk.goes_symm (s : Stk) (a b : Int) : s.goes a b = s.goes b a := by
  unfold Stk.goes
  congr 1
  funext i
  exact Bool.or_comm _ _
theorem Stk.suits_symm (s : Stk) (i k : Nat) : s.suits i k = s.suits k i := by
  unfold Stk.suits
  rw [s.goes_symm]
  have e1 : decide (i = k) = decide (k = i) := by rw [decide_eq_decide]; exact eq_comm
  have e2 : decide (s.tg i = s.tg k) = decide (s.tg k = s.tg i) := by rw [decide_eq_decide]; exact eq_comm
  rw [e1, e2]
  cases decide (k = i) <;> cases decide (s.tw i - s.tw k ≤ s.wide) <;> cases decide (s.tw k - s.tw i ≤ s.wide) <;> cases decide (s.tg k = s.tg i) <;> cases decide (s.tg i = 0) <;> cases decide (s.tg k = 0) <;> rfl
theorem Stk.adj_symm (s : Stk) : ∀ i k, s.adj i k = s.adj k i := fun i k => by
  unfold Stk.adj
  rw [s.suits_symm, Bool.and_comm (decide (i < s.nt))]
theorem Stk.adj_irr (s : Stk) : ∀ i, s.adj i i = false := fun i => by
  unfold Stk.adj Stk.suits
  simp
theorem Stk.adj_lt {s : Stk} {i k : Nat} (h : s.adj i k = true) : i < s.nt ∧ k < s.nt := by
  unfold Stk.adj at h
  simp only [Bool.and_eq_true, decide_eq_true_eq] at h
  exact h.1
theorem Stk.adj_suits {s : Stk} {i k : Nat} (hi : i < s.nt) (hk : k < s.nt) : s.adj i k = s.suits i k := by
  unfold Stk.adj
  simp [hi, hk]

/-- a thing's cells -/
def tcell (s : Stk) (i j : Nat) : Value := if j = 0 then .int .i64 (s.tk i) else if j = 1 then .int .i64 (s.tw i) else .int .i64 (s.tg i)
/-- the cells of two kinds that go together -/
def mcell (s : Stk) (i j : Nat) : Value := if j = 0 then .int .i64 (s.ma i) else .int .i64 (s.mb i)
/-- v is the value of a stock, valid or not -/
def StkAt (w : World) (v : Value) (s : Stk) : Prop := ∃ tv mv, v = .agg #[tv, mv, .int .i64 s.wide] ∧ SliceAt w tv s.nt 3 (tcell s) ∧ SliceAt w mv s.nm 2 (mcell s)
theorem StkAt.mono {w w' : World} {v : Value} {s : Stk} (h : StkAt w v s) (g : w.grows w') : StkAt w' v s := by
  obtain ⟨tv, mv, h1, h2, h3⟩ := h
  exact ⟨tv, mv, h1, h2.mono g, h3.mono g⟩
theorem ret_int {a b : Int} (h : a = b) : (Ending.returned (.int .i64 a)) = .returned (.int .i64 b) := by rw [h]
end Go.Proofs.Yteingahlmlndkaa

/-
  What is proved: slices.IndexFunc and slices.ContainsFunc at the types of this seat, whatever the function does that they are handed.
-/
namespace Go.Proofs.Yteingahlmlndkaa
open Go.RowKit

/-- the first number below m at which q holds, or -1 -/
def fstIdx (q : Nat → Bool) (m : Nat) : Int := match (List.range m).findIdx? q with | some i => i | none => -1

theorem fstIdx_at (q : Nat → Bool) (m k : Nat) (hk : k < m) (h : ∀ i, i < k → q i = false) (hq : q k = true) : fstIdx q m = k := by
  unfold fstIdx
  have : (List.range m).findIdx? q = some k := by
    rw [List.findIdx?_eq_some_iff_getElem]
    refine ⟨by simpa using hk, by simpa using hq, fun j hj => ?_⟩
    simpa using h j hj
  rw [this]
theorem fstIdx_none (q : Nat → Bool) (m : Nat) (h : ∀ i, i < m → q i = false) : fstIdx q m = -1 := by
  unfold fstIdx
  have : (List.range m).findIdx? q = none := by
    rw [List.findIdx?_eq_none_iff]
    intro x hx
    exact h x (by simpa using hx)
  rw [this]
theorem fstIdx_any (q : Nat → Bool) (m : Nat) : decide (0 ≤ fstIdx q m) = (List.range m).any q := by
  by_cases h : ∃ k, k < m ∧ q k = true
  · obtain ⟨k, hk, hq⟩ := h
    have hr : (List.range m).any q = true := List.any_eq_true.2 ⟨k, by simpa using hk, hq⟩
    rw [hr]
    unfold fstIdx
    cases hf : (List.range m).findIdx? q with
    | some i => simp
    | none =>
      rw [List.findIdx?_eq_none_iff] at hf
      have := hf k (by simpa using hk)
      rw [hq] at this; cases this
  · have hall : ∀ i, i < m → q i = false := fun i hi => by
      cases hq : q i with
      | false => rfl
      | true => exact absurd ⟨i, hi, hq⟩ h
    rw [fstIdx_none q m hall]
    have hr : (List.range m).any q = false := by
      rw [List.any_eq_false]
      intro x hx
      rw [hall x (by simpa using hx)]; simp
    rw [hr]; rfl
theorem fstIdx_bd (q : Nat → Bool) (m : Nat) : -1 ≤ fstIdx q m ∧ fstIdx q m ≤ m := by
  unfold fstIdx
  cases hf : (List.range m).findIdx? q with
  | some i =>
    have := List.findIdx?_eq_some_iff_getElem.1 hf
    obtain ⟨h, _⟩ := this
    simp at h
    simp <;> omega
  | none => simp <;> omega

set_option maxHeartbeats 1000000 in
theorem idx72 (w : World) (s : Value) (m : Nat) (c : Nat → Nat → Value) (ff : Nat) (lb : Array Value) (q : Nat → Bool) (hs : SliceAt w s m 1 c)
    (eg : ∀ args w, (callFunc ff args).run Try.prog w = .ok (.enter ff args) w)
    (hf : ∀ i, i < m → ∀ W : World, w.grows W → Calls Try.prog ff (#[c i 0] ++ lb) W fun e W' => e = .returned (.bool (q i)) ∧ W.grows W') :
    Calls Try.prog 72 #[s, .func (.func ff) #[] lb] w fun e w' => e = .returned (.int .i64 (fstIdx q m)) ∧ w.grows w' := by
  obtain ⟨a, cap, rfl, hcap, hmax, hc⟩ := hs
  unfold maxLen at hmax
  go_enter Try.func72, Try.ntmps72
  go_wp2
  go_loopw [8] (fun i wr => ∃ k : Nat, k ≤ m ∧ i = .int .i64 k ∧ (∀ j, j < k → q j = false) ∧ w.grows wr) (fun i _ => m - (intOf i).toNat)
  case atStart => exact ⟨0, by omega, rfl, fun j hj => by omega, World.grows.refl _⟩
  case round =>
    obtain ⟨k, hk, rfl, hq, hg⟩ := hrel
    have Hq := Lib.hid hq
    clear hq
    obtain ⟨n, x, rfl⟩ := World.plus_of hg
    by_cases hlt : k < m
    · obtain ⟨b, o, rfl, h0⟩ := hc k 0 hlt (by omega)
      simp only [Nat.mul_one, Nat.add_zero] at h0

      have hfk := hf k hlt
      cases hqk : q k with
      | true =>
        rw [hqk] at hfk
        have Hqk := Lib.hid hqk
        clear hqk
        go_wp2_with (refine (hfk _ (by (repeat (first | exact World.grows.refl _ | assumption | refine World.grows.alloc ?_ _ | refine World.grows.plus ?_ _ _ | refine World.grows.drew ?_)))).mono ?_; rintro e w' ⟨rfl, hg2⟩; obtain ⟨n2, x2, rfl⟩ := World.plus_of hg2)
        go_ret
        exact ⟨ret_int (fstIdx_at q m k hlt Hq.out Hqk.out).symm, by (repeat (first | exact World.grows.refl _ | assumption | refine World.grows.alloc ?_ _ | refine World.grows.plus ?_ _ _ | refine World.grows.drew ?_))⟩
      | false =>
        rw [hqk] at hfk
        have Hqk := Lib.hid hqk
        clear hqk
        go_wp2_with (refine (hfk _ (by (repeat (first | exact World.grows.refl _ | assumption | refine World.grows.alloc ?_ _ | refine World.grows.plus ?_ _ _ | refine World.grows.drew ?_)))).mono ?_; rintro e w' ⟨rfl, hg2⟩; obtain ⟨n2, x2, rfl⟩ := World.plus_of hg2)
        go_roundw
        case rel => exact ⟨k + 1, by omega, by go_num, fun j hj => (by rcases Nat.lt_or_ge j k with h | h; exact Hq.out j h; have hjk : j = k := (by omega); subst hjk; exact Hqk.out), by (repeat (first | exact World.grows.refl _ | assumption | refine World.grows.alloc ?_ _ | refine World.grows.plus ?_ _ _ | refine World.grows.drew ?_))⟩
        case measure => simp [intOf]; omega
    · have hke : k = m := by omega
      subst hke
      go_wp2
      go_ret
      exact ⟨ret_int (fstIdx_none q k Hq.out).symm, by (repeat (first | exact World.grows.refl _ | assumption | refine World.grows.alloc ?_ _ | refine World.grows.plus ?_ _ _ | refine World.grows.drew ?_))⟩

set_option maxHeartbeats 1000000 in
theorem idx73 (w : World) (s : Value) (m : Nat) (c : Nat → Nat → Value) (ff : Nat) (lb : Array Value) (q : Nat → Bool) (hs : SliceAt w s m 3 c)
    (eg : ∀ args w, (callFunc ff args).run Try.prog w = .ok (.enter ff args) w)
    (hf : ∀ i, i < m → ∀ W : World, w.grows W → Calls Try.prog ff (#[.agg #[c i 0, c i 1, c i 2]] ++ lb) W fun e W' => e = .returned (.bool (q i)) ∧ W.grows W') :
    Calls Try.prog 73 #[s, .func (.func ff) #[] lb] w fun e w' => e = .returned (.int .i64 (fstIdx q m)) ∧ w.grows w' := by
  obtain ⟨a, cap, rfl, hcap, hmax, hc⟩ := hs
  unfold maxLen at hmax
  go_enter Try.func73, Try.ntmps73
  go_wp2
  go_loopw [8] (fun i wr => ∃ k : Nat, k ≤ m ∧ i = .int .i64 k ∧ (∀ j, j < k → q j = false) ∧ w.grows wr) (fun i _ => m - (intOf i).toNat)
  case atStart => exact ⟨0, by omega, rfl, fun j hj => by omega, World.grows.refl _⟩
  case round =>
    obtain ⟨k, hk, rfl, hq, hg⟩ := hrel
    have Hq := Lib.hid hq
    clear hq
    obtain ⟨n, x, rfl⟩ := World.plus_of hg
    by_cases hlt : k < m
    · obtain ⟨b, o, rfl, h0⟩ := hc k 0 hlt (by omega)
      simp only [Nat.add_zero] at h0
      obtain ⟨_, _, he1, h1⟩ := hc k 1 hlt (by omega)
      cases he1

      obtain ⟨_, _, he2, h2⟩ := hc k 2 hlt (by omega)
      cases he2

      have hfk := hf k hlt
      cases hqk : q k with
      | true =>
        rw [hqk] at hfk
        have Hqk := Lib.hid hqk
        clear hqk
        go_wp2_with (refine (hfk _ (by (repeat (first | exact World.grows.refl _ | assumption | refine World.grows.alloc ?_ _ | refine World.grows.plus ?_ _ _ | refine World.grows.drew ?_)))).mono ?_; rintro e w' ⟨rfl, hg2⟩; obtain ⟨n2, x2, rfl⟩ := World.plus_of hg2)
        go_ret
        exact ⟨ret_int (fstIdx_at q m k hlt Hq.out Hqk.out).symm, by (repeat (first | exact World.grows.refl _ | assumption | refine World.grows.alloc ?_ _ | refine World.grows.plus ?_ _ _ | refine World.grows.drew ?_))⟩
      | false =>
        rw [hqk] at hfk
        have Hqk := Lib.hid hqk
        clear hqk
        go_wp2_with (refine (hfk _ (by (repeat (first | exact World.grows.refl _ | assumption | refine World.grows.alloc ?_ _ | refine World.grows.plus ?_ _ _ | refine World.grows.drew ?_)))).mono ?_; rintro e w' ⟨rfl, hg2⟩; obtain ⟨n2, x2, rfl⟩ := World.plus_of hg2)
        go_roundw
        case rel => exact ⟨k + 1, by omega, by go_num, fun j hj => (by rcases Nat.lt_or_ge j k with h | h; exact Hq.out j h; have hjk : j = k := (by omega); subst hjk; exact Hqk.out), by (repeat (first | exact World.grows.refl _ | assumption | refine World.grows.alloc ?_ _ | refine World.grows.plus ?_ _ _ | refine World.grows.drew ?_))⟩
        case measure => simp [intOf]; omega
    · have hke : k = m := by omega
      subst hke
      go_wp2
      go_ret
      exact ⟨ret_int (fstIdx_none q k Hq.out).symm, by (repeat (first | exact World.grows.refl _ | assumption | refine World.grows.alloc ?_ _ | refine World.grows.plus ?_ _ _ | refine World.grows.drew ?_))⟩

set_option maxHeartbeats 1000000 in
theorem idx76 (w : World) (s : Value) (m : Nat) (c : Nat → Nat → Value) (ff : Nat) (lb : Array Value) (q : Nat → Bool) (hs : SliceAt w s m 2 c)
    (eg : ∀ args w, (callFunc ff args).run Try.prog w = .ok (.enter ff args) w)
    (hf : ∀ i, i < m → ∀ W : World, w.grows W → Calls Try.prog ff (#[.agg #[c i 0, c i 1]] ++ lb) W fun e W' => e = .returned (.bool (q i)) ∧ W.grows W') :
    Calls Try.prog 76 #[s, .func (.func ff) #[] lb] w fun e w' => e = .returned (.int .i64 (fstIdx q m)) ∧ w.grows w' := by
  obtain ⟨a, cap, rfl, hcap, hmax, hc⟩ := hs
  unfold maxLen at hmax
  go_enter Try.func76, Try.ntmps76
  go_wp2
  go_loopw [8] (fun i wr => ∃ k : Nat, k ≤ m ∧ i = .int .i64 k ∧ (∀ j, j < k → q j = false) ∧ w.grows wr) (fun i _ => m - (intOf i).toNat)
  case atStart => exact ⟨0, by omega, rfl, fun j hj => by omega, World.grows.refl _⟩
  case round =>
    obtain ⟨k, hk, rfl, hq, hg⟩ := hrel
    have Hq := Lib.hid hq
    clear hq
    obtain ⟨n, x, rfl⟩ := World.plus_of hg
    by_cases hlt : k < m
    · obtain ⟨b, o, rfl, h0⟩ := hc k 0 hlt (by omega)
      simp only [Nat.add_zero] at h0
      obtain ⟨_, _, he1, h1⟩ := hc k 1 hlt (by omega)
      cases he1

      have hfk := hf k hlt
      cases hqk : q k with
      | true =>
        rw [hqk] at hfk
        have Hqk := Lib.hid hqk
        clear hqk
        go_wp2_with (refine (hfk _ (by (repeat (first | exact World.grows.refl _ | assumption | refine World.grows.alloc ?_ _ | refine World.grows.plus ?_ _ _ | refine World.grows.drew ?_)))).mono ?_; rintro e w' ⟨rfl, hg2⟩; obtain ⟨n2, x2, rfl⟩ := World.plus_of hg2)
        go_ret
        exact ⟨ret_int (fstIdx_at q m k hlt Hq.out Hqk.out).symm, by (repeat (first | exact World.grows.refl _ | assumption | refine World.grows.alloc ?_ _ | refine World.grows.plus ?_ _ _ | refine World.grows.drew ?_))⟩
      | false =>
        rw [hqk] at hfk
        have Hqk := Lib.hid hqk
        clear hqk
        go_wp2_with (refine (hfk _ (by (repeat (first | exact World.grows.refl _ | assumption | refine World.grows.alloc ?_ _ | refine World.grows.plus ?_ _ _ | refine World.grows.drew ?_)))).mono ?_; rintro e w' ⟨rfl, hg2⟩; obtain ⟨n2, x2, rfl⟩ := World.plus_of hg2)
        go_roundw
        case rel => exact ⟨k + 1, by omega, by go_num, fun j hj => (by rcases Nat.lt_or_ge j k with h | h; exact Hq.out j h; have hjk : j = k := (by omega); subst hjk; exact Hqk.out), by (repeat (first | exact World.grows.refl _ | assumption | refine World.grows.alloc ?_ _ | refine World.grows.plus ?_ _ _ | refine World.grows.drew ?_))⟩
        case measure => simp [intOf]; omega
    · have hke : k = m := by omega
      subst hke
      go_wp2
      go_ret
      exact ⟨ret_int (fstIdx_none q k Hq.out).symm, by (repeat (first | exact World.grows.refl _ | assumption | refine World.grows.alloc ?_ _ | refine World.grows.plus ?_ _ _ | refine World.grows.drew ?_))⟩

set_option maxHeartbeats 1000000 in
theorem idx85 (w : World) (s : Value) (m : Nat) (c : Nat → Nat → Value) (ff : Nat) (lb : Array Value) (q : Nat → Bool) (hs : SliceAt w s m 1 c)
    (eg : ∀ args w, (callFunc ff args).run Try.prog w = .ok (.enter ff args) w)
    (hf : ∀ i, i < m → ∀ W : World, w.grows W → Calls Try.prog ff (#[c i 0] ++ lb) W fun e W' => e = .returned (.bool (q i)) ∧ W.grows W') :
    Calls Try.prog 85 #[s, .func (.func ff) #[] lb] w fun e w' => e = .returned (.int .i64 (fstIdx q m)) ∧ w.grows w' := by
  obtain ⟨a, cap, rfl, hcap, hmax, hc⟩ := hs
  unfold maxLen at hmax
  go_enter Try.func85, Try.ntmps85
  go_wp2
  go_loopw [8] (fun i wr => ∃ k : Nat, k ≤ m ∧ i = .int .i64 k ∧ (∀ j, j < k → q j = false) ∧ w.grows wr) (fun i _ => m - (intOf i).toNat)
  case atStart => exact ⟨0, by omega, rfl, fun j hj => by omega, World.grows.refl _⟩
  case round =>
    obtain ⟨k, hk, rfl, hq, hg⟩ := hrel
    have Hq := Lib.hid hq
    clear hq
    obtain ⟨n, x, rfl⟩ := World.plus_of hg
    by_cases hlt : k < m
    · obtain ⟨b, o, rfl, h0⟩ := hc k 0 hlt (by omega)
      simp only [Nat.mul_one, Nat.add_zero] at h0

      have hfk := hf k hlt
      cases hqk : q k with
      | true =>
        rw [hqk] at hfk
        have Hqk := Lib.hid hqk
        clear hqk
        go_wp2_with (refine (hfk _ (by (repeat (first | exact World.grows.refl _ | assumption | refine World.grows.alloc ?_ _ | refine World.grows.plus ?_ _ _ | refine World.grows.drew ?_)))).mono ?_; rintro e w' ⟨rfl, hg2⟩; obtain ⟨n2, x2, rfl⟩ := World.plus_of hg2)
        go_ret
        exact ⟨ret_int (fstIdx_at q m k hlt Hq.out Hqk.out).symm, by (repeat (first | exact World.grows.refl _ | assumption | refine World.grows.alloc ?_ _ | refine World.grows.plus ?_ _ _ | refine World.grows.drew ?_))⟩
      | false =>
        rw [hqk] at hfk
        have Hqk := Lib.hid hqk
        clear hqk
        go_wp2_with (refine (hfk _ (by (repeat (first | exact World.grows.refl _ | assumption | refine World.grows.alloc ?_ _ | refine World.grows.plus ?_ _ _ | refine World.grows.drew ?_)))).mono ?_; rintro e w' ⟨rfl, hg2⟩; obtain ⟨n2, x2, rfl⟩ := World.plus_of hg2)
        go_roundw
        case rel => exact ⟨k + 1, by omega, by go_num, fun j hj => (by rcases Nat.lt_or_ge j k with h | h; exact Hq.out j h; have hjk : j = k := (by omega); subst hjk; exact Hqk.out), by (repeat (first | exact World.grows.refl _ | assumption | refine World.grows.alloc ?_ _ | refine World.grows.plus ?_ _ _ | refine World.grows.drew ?_))⟩
        case measure => simp [intOf]; omega
    · have hke : k = m := by omega
      subst hke
      go_wp2
      go_ret
      exact ⟨ret_int (fstIdx_none q k Hq.out).symm, by (repeat (first | exact World.grows.refl _ | assumption | refine World.grows.alloc ?_ _ | refine World.grows.plus ?_ _ _ | refine World.grows.drew ?_))⟩

theorem has53 (w : World) (s : Value) (m : Nat) (c : Nat → Nat → Value) (ff : Nat) (lb : Array Value) (q : Nat → Bool) (hs : SliceAt w s m 1 c)
    (eg : ∀ args w, (callFunc ff args).run Try.prog w = .ok (.enter ff args) w)
    (hf : ∀ i, i < m → ∀ W : World, w.grows W → Calls Try.prog ff (#[c i 0] ++ lb) W fun e W' => e = .returned (.bool (q i)) ∧ W.grows W') :
    Calls Try.prog 53 #[s, .func (.func ff) #[] lb] w fun e w' => e = .returned (.bool ((List.range m).any q)) ∧ w.grows w' := by
  have hbd := fstIdx_bd q m
  have Ha := Lib.hid (fstIdx_any q m)
  go_enter Try.func53, Try.ntmps53
  go_wp2_with (go_at_call 72; refine (idx72 _ s m c ff lb q (hs.mono (by (repeat (first | exact World.grows.refl _ | assumption | refine World.grows.alloc ?_ _ | refine World.grows.plus ?_ _ _ | refine World.grows.drew ?_)))) eg (fun i hi W hW => hf i hi W hW)).mono ?_; rintro e w' ⟨rfl, hg⟩)
  go_ret
  exact ⟨by rw [← Ha.out]; rfl, by (repeat (first | exact World.grows.refl _ | assumption | refine World.grows.alloc ?_ _ | refine World.grows.plus ?_ _ _ | refine World.grows.drew ?_))⟩

theorem has58 (w : World) (s : Value) (m : Nat) (c : Nat → Nat → Value) (ff : Nat) (lb : Array Value) (q : Nat → Bool) (hs : SliceAt w s m 3 c)
    (eg : ∀ args w, (callFunc ff args).run Try.prog w = .ok (.enter ff args) w)
    (hf : ∀ i, i < m → ∀ W : World, w.grows W → Calls Try.prog ff (#[.agg #[c i 0, c i 1, c i 2]] ++ lb) W fun e W' => e = .returned (.bool (q i)) ∧ W.grows W') :
    Calls Try.prog 58 #[s, .func (.func ff) #[] lb] w fun e w' => e = .returned (.bool ((List.range m).any q)) ∧ w.grows w' := by
  have hbd := fstIdx_bd q m
  have Ha := Lib.hid (fstIdx_any q m)
  go_enter Try.func58, Try.ntmps58
  go_wp2_with (go_at_call 73; refine (idx73 _ s m c ff lb q (hs.mono (by (repeat (first | exact World.grows.refl _ | assumption | refine World.grows.alloc ?_ _ | refine World.grows.plus ?_ _ _ | refine World.grows.drew ?_)))) eg (fun i hi W hW => hf i hi W hW)).mono ?_; rintro e w' ⟨rfl, hg⟩)
  go_ret
  exact ⟨by rw [← Ha.out]; rfl, by (repeat (first | exact World.grows.refl _ | assumption | refine World.grows.alloc ?_ _ | refine World.grows.plus ?_ _ _ | refine World.grows.drew ?_))⟩

theorem has61 (w : World) (s : Value) (m : Nat) (c : Nat → Nat → Value) (ff : Nat) (lb : Array Value) (q : Nat → Bool) (hs : SliceAt w s m 2 c)
    (eg : ∀ args w, (callFunc ff args).run Try.prog w = .ok (.enter ff args) w)
    (hf : ∀ i, i < m → ∀ W : World, w.grows W → Calls Try.prog ff (#[.agg #[c i 0, c i 1]] ++ lb) W fun e W' => e = .returned (.bool (q i)) ∧ W.grows W') :
    Calls Try.prog 61 #[s, .func (.func ff) #[] lb] w fun e w' => e = .returned (.bool ((List.range m).any q)) ∧ w.grows w' := by
  have hbd := fstIdx_bd q m
  have Ha := Lib.hid (fstIdx_any q m)
  go_enter Try.func61, Try.ntmps61
  go_wp2_with (go_at_call 76; refine (idx76 _ s m c ff lb q (hs.mono (by (repeat (first | exact World.grows.refl _ | assumption | refine World.grows.alloc ?_ _ | refine World.grows.plus ?_ _ _ | refine World.grows.drew ?_)))) eg (fun i hi W hW => hf i hi W hW)).mono ?_; rintro e w' ⟨rfl, hg⟩)
  go_ret
  exact ⟨by rw [← Ha.out]; rfl, by (repeat (first | exact World.grows.refl _ | assumption | refine World.grows.alloc ?_ _ | refine World.grows.plus ?_ _ _ | refine World.grows.drew ?_))⟩

theorem has74 (w : World) (s : Value) (m : Nat) (c : Nat → Nat → Value) (ff : Nat) (lb : Array Value) (q : Nat → Bool) (hs : SliceAt w s m 1 c)
    (eg : ∀ args w, (callFunc ff args).run Try.prog w = .ok (.enter ff args) w)
    (hf : ∀ i, i < m → ∀ W : World, w.grows W → Calls Try.prog ff (#[c i 0] ++ lb) W fun e W' => e = .returned (.bool (q i)) ∧ W.grows W') :
    Calls Try.prog 74 #[s, .func (.func ff) #[] lb] w fun e w' => e = .returned (.bool ((List.range m).any q)) ∧ w.grows w' := by
  have hbd := fstIdx_bd q m
  have Ha := Lib.hid (fstIdx_any q m)
  go_enter Try.func74, Try.ntmps74
  go_wp2_with (go_at_call 85; refine (idx85 _ s m c ff lb q (hs.mono (by (repeat (first | exact World.grows.refl _ | assumption | refine World.grows.alloc ?_ _ | refine World.grows.plus ?_ _ _ | refine World.grows.drew ?_)))) eg (fun i hi W hW => hf i hi W hW)).mono ?_; rintro e w' ⟨rfl, hg⟩)
  go_ret
  exact ⟨by rw [← Ha.out]; rfl, by (repeat (first | exact World.grows.refl _ | assumption | refine World.grows.alloc ?_ _ | refine World.grows.plus ?_ _ _ | refine World.grows.drew ?_))⟩

end Go.Proofs.Yteingahlmlndkaa

/-
  What is proved: a region that draws its order, whose operations only read, call what only makes memory, or make memory, with a tail in order, walked once.
-/
namespace Go
open Go.RowKit

section
variable {P : Program} {ops : Array Oper} {w0 : World}

/-- What is asked once an operation, carried out in w, has come to this: the value v in the same world, or a call that hands back v and only makes memory. -/
def Oper.calmUpon (P : Program) (w : World) (v : Value) : Result Next → Prop
  | .ok (.value u) w' => w' = w ∧ u = v
  | .ok .skip w' => w' = w ∧ v = undef
  | .ok (.enter f args) w' => w' = w ∧ Calls P f args w (fun e w'' => e = .returned v ∧ w.grows w'')
  | _ => False
def Oper.calmAt (P : Program) (o : Oper) (a : Act) (w : World) (v : Value) : Prop := Oper.calmUpon P w v ((execOp a.eval o).run P w)
def Oper.calm (P : Program) (o : Oper) (a : Act) (w0 : World) (K : Act → Prop) : Prop := ∃ v, (∀ n x, o.calmAt P a (w0.plus n x) v) ∧ K (a.put o.dst v)
def wpCalm (P : Program) (ops : Array Oper) (w0 : World) (K : Act → Prop) : List Oper → Act → Prop
  | [], a => K a
  | o :: r, a => if Region.wanted o (yielded ops a.tmps) then o.calm P a w0 (wpCalm P ops w0 K r) else wpCalm P ops w0 K r (a.put o.dst undef)

attribute [go_sem] Oper.calm Oper.calmAt Oper.calmUpon

theorem wpCalm_nil {K : Act → Prop} {a : Act} (h : K a) : wpCalm P ops w0 K [] a := h
theorem wpCalm_step {Q : Act → Prop} {a : Act} {o : Oper} {r : List Oper}
    (h : ∀ K : Act → Prop, (∀ a, wpCalm P ops w0 Q r a → K a) → if Region.wanted o (yielded ops a.tmps) then o.calm P a w0 K else K (a.put o.dst undef)) : wpCalm P ops w0 Q (o :: r) a :=
  h _ (fun _ h => h)

/-- the value of an operation at this frame, in every world that has grown out of w0 -/
def YieldsC (P : Program) (ops : Array Oper) (w0 : World) (o : Oper) (v : Value) (a : Act) : Prop :=
  (Region.wanted o (yielded ops a.tmps) = true ∧ ∀ n x, o.calmAt P a (w0.plus n x) v) ∨
  (Region.wanted o (yielded ops a.tmps) = false ∧ v = undef)

theorem wpCalm_cons {K : Act → Prop} {a : Act} {o : Oper} {r : List Oper} : wpCalm P ops w0 K (o :: r) a ↔ ∃ v, YieldsC P ops w0 o v a ∧ wpCalm P ops w0 K r (a.put o.dst v) := by
  simp only [wpCalm]
  by_cases hw : Region.wanted o (yielded ops a.tmps) = true
  · simp only [hw, if_true, Oper.calm, YieldsC, true_and, Bool.true_eq_false, false_and, or_false]
  · have hw' : Region.wanted o (yielded ops a.tmps) = false := by simpa using hw
    simp only [hw', if_false, YieldsC, Bool.false_eq_true, false_and, true_and, false_or, exists_eq_left]

theorem wpCalm_mono {K K' : Act → Prop} (hK : ∀ a, K a → K' a) : ∀ (l : List Oper) (a : Act), wpCalm P ops w0 K l a → wpCalm P ops w0 K' l a
  | [], a, h => hK a h
  | o :: l, a, h => by
    obtain ⟨v, hv, h'⟩ := wpCalm_cons.1 h
    exact wpCalm_cons.2 ⟨v, hv, wpCalm_mono hK l _ h'⟩

theorem YieldsC.of_same {o : Oper} {v : Value} {a a' : Act} (hy : YieldsC P ops w0 o v a) (he : execOp a'.eval o = execOp a.eval o)
    (hw : Region.wanted o (yielded ops a'.tmps) = Region.wanted o (yielded ops a.tmps)) : YieldsC P ops w0 o v a' := by
  unfold YieldsC Oper.calmAt at *
  rw [he, hw]
  exact hy

theorem YieldsC.put {x y : Oper} {v u : Value} {a : Act} (hs : ∀ cs b, x.op ≠ .select cs b) (hd : ∀ d, y.dst = some d → d ∉ x.looksAt ops) :
    YieldsC P ops w0 x v (a.put y.dst u) ↔ YieldsC P ops w0 x v a :=
  ⟨fun h => h.of_same (execOp_put x hs a y.dst u hd).symm (wanted_put x a y.dst u hd).symm, fun h => h.of_same (execOp_put x hs a y.dst u hd) (wanted_put x a y.dst u hd)⟩

theorem calm_front {K : Act → Prop} {o : Oper} {l2 : List Oper} (hso : ∀ cs b, o.op ≠ .select cs b) : ∀ (l1 : List Oper) (a : Act),
    (∀ y ∈ l1, o.apart ops y = true ∧ ∀ cs b, y.op ≠ .select cs b) → wpCalm P ops w0 K (l1 ++ o :: l2) a →
    ∃ v, YieldsC P ops w0 o v a ∧ wpCalm P ops w0 K (l1 ++ l2) (a.put o.dst v)
  | [], a, _, h => wpCalm_cons.1 h
  | y :: l1, a, hap, h => by
    obtain ⟨u, hy, h'⟩ := wpCalm_cons.1 h
    obtain ⟨v, hv, h''⟩ := calm_front hso l1 _ (fun z hz => hap z (List.mem_cons_of_mem _ hz)) h'
    obtain ⟨ha, hsy⟩ := hap y (List.mem_cons_self ..)
    obtain ⟨h1, h2, h3⟩ := Oper.apart_spec ha
    refine ⟨v, (YieldsC.put hso h3).1 hv, ?_⟩
    rw [List.cons_append]
    refine wpCalm_cons.2 ⟨u, (YieldsC.put hsy h1).2 hy, ?_⟩
    rw [Act.put_comm a v u h2]
    exact h''

/-- a fact that stays when memory is made -/
def Stays (R : Value → World → Prop) : Prop := ∀ v w w', R v w → w.grows w' → R v w'
/-- an operation that makes memory -/
def Oper.makes (P : Program) (o : Oper) (a : Act) (w0 : World) (R : Value → World → Prop) : Prop :=
  ∀ n x, ∃ v w', (execOp a.eval o).run P (w0.plus n x) = .ok (.value v) w' ∧ (w0.plus n x).grows w' ∧ R v w'
def wpMake (P : Program) (w0 : World) (K : (World → Prop) → Act → Prop) : List (Oper × (Value → World → Prop)) → (World → Prop) → Act → Prop
  | [], F, a => K F a
  | (o, R) :: r, F, a => o.guard = none ∧ Stays R ∧ o.makes P a w0 R ∧ ∀ v, wpMake P w0 K r (fun w => F w ∧ R v w) (a.put o.dst v)

theorem wpMake_mono {K : (World → Prop) → Act → Prop} (hK : ∀ F F' a, (∀ w, F' w → F w) → K F a → K F' a) : ∀ (l : List (Oper × (Value → World → Prop))) (F F' : World → Prop) (a : Act),
    (∀ w, F' w → F w) → wpMake P w0 K l F a → wpMake P w0 K l F' a
  | [], F, F', a, h, hh => hK F F' a h hh
  | (o, R) :: r, F, F', a, h, hh => ⟨hh.1, hh.2.1, hh.2.2.1, fun v => wpMake_mono hK r _ _ _ (fun w hw => ⟨h w hw.1, hw.2⟩) (hh.2.2.2 v)⟩

theorem Oper.makes_put {x y : Oper} {R : Value → World → Prop} {u : Value} {a : Act} (hs : ∀ cs b, x.op ≠ .select cs b) (hd : ∀ d, y.dst = some d → d ∉ x.looksAt ops) :
    x.makes P (a.put y.dst u) w0 R ↔ x.makes P a w0 R := by
  unfold Oper.makes
  rw [execOp_put x hs a y.dst u hd]

theorem make_front0 {K : (World → Prop) → Act → Prop} (hK : ∀ F F' a, (∀ w, F' w → F w) → K F a → K F' a) {o : Oper} {R : Value → World → Prop} {m2 : List (Oper × (Value → World → Prop))}
    (hso : ∀ cs b, o.op ≠ .select cs b) : ∀ (m1 : List (Oper × (Value → World → Prop))) (F : World → Prop) (a : Act),
    (∀ y ∈ m1, o.apart ops y.1 = true ∧ ∀ cs b, y.1.op ≠ .select cs b) → wpMake P w0 K (m1 ++ (o, R) :: m2) F a →
    o.guard = none ∧ Stays R ∧ o.makes P a w0 R ∧ ∀ v, wpMake P w0 K (m1 ++ m2) (fun w => F w ∧ R v w) (a.put o.dst v)
  | [], F, a, _, h => h
  | (y, S) :: m1, F, a, hap, h => by
    obtain ⟨hg, hst, hm, h'⟩ := h
    obtain ⟨ha, hsy⟩ := hap (y, S) (List.mem_cons_self ..)
    obtain ⟨h1, h2, h3⟩ := Oper.apart_spec ha
    have key := fun u => make_front0 hK hso m1 _ _ (fun z hz => hap z (List.mem_cons_of_mem _ hz)) (h' u)
    refine ⟨(key undef).1, (key undef).2.1, (Oper.makes_put hso h3).1 (key undef).2.2.1, fun v => ?_⟩
    refine ⟨hg, hst, (Oper.makes_put hsy h1).2 hm, fun u => ?_⟩
    have := (key u).2.2.2 v
    rw [← Act.put_comm a v u h2] at this
    exact wpMake_mono hK _ _ _ _ (fun w hw => ⟨⟨hw.1.1, hw.2⟩, hw.1.2⟩) this

theorem make_front {K : (World → Prop) → Act → Prop} (hK : ∀ F F' a, (∀ w, F' w → F w) → K F a → K F' a) {o : Oper} {R : Value → World → Prop} {m1 m2 : List (Oper × (Value → World → Prop))} {F : World → Prop}
    (hso : ∀ cs b, o.op ≠ .select cs b) (hm1 : ∀ y ∈ m1, o.apart ops y.1 = true ∧ ∀ cs b, y.1.op ≠ .select cs b) : ∀ (es : List Oper) (a : Act),
    (∀ y ∈ es, o.apart ops y = true ∧ ∀ cs b, y.op ≠ .select cs b) → wpCalm P ops w0 (wpMake P w0 K (m1 ++ (o, R) :: m2) F) es a →
    o.guard = none ∧ Stays R ∧ o.makes P a w0 R ∧ ∀ v, wpCalm P ops w0 (wpMake P w0 K (m1 ++ m2) (fun w => F w ∧ R v w)) es (a.put o.dst v)
  | [], a, _, h => make_front0 hK hso m1 F a hm1 h
  | y :: es, a, hap, h => by
    obtain ⟨u, hy, h'⟩ := wpCalm_cons.1 h
    obtain ⟨ha, hsy⟩ := hap y (List.mem_cons_self ..)
    obtain ⟨h1, h2, h3⟩ := Oper.apart_spec ha
    obtain ⟨k1, k2, k3, k4⟩ := make_front hK hso hm1 es _ (fun z hz => hap z (List.mem_cons_of_mem _ hz)) h'
    refine ⟨k1, k2, (Oper.makes_put hso h3).1 k3, fun v => wpCalm_cons.2 ⟨u, (YieldsC.put hsy h1).2 hy, ?_⟩⟩
    rw [Act.put_comm a v u h2]
    exact k4 v


/-! ### every order -/

/-- of two operations of the region one waits for the other, or they are apart -/
def Region.pairB (ops : Array Oper) (i j : Nat) : Bool :=
  match ops[i]?, ops[j]? with
  | some x, some y => Region.waitsFor .any ops j i || x.apart ops y
  | _, _ => true
/-- the head [0, n): the operations 'as' make memory, nothing in the head but they waits for them; 'as' in order; of two one waits or they are apart; no edge leads to a later one -/
def Region.mixB (ops : Array Oper) (n : Nat) (az : List Nat) : Bool :=
  Region.noSelect ops && decide (n ≤ ops.size) &&
  (List.range n).all (fun i => (List.range n).all fun j => decide (j ≤ i) || Region.pairB ops i j) &&
  (List.range n).all (fun i => match ops[i]? with | some o => o.after.all (fun e => !Region.binds .any e || decide (e.on < i)) && (az.contains i || o.after.all (fun e => !Region.binds .any e || !az.contains e.on)) | none => true)

theorem wpAny_of_order {Q : Exit → Act → World → Prop} {n : Nat} {as0 : List Nat}
    (hB : Region.mixB ops n as0 = true)
    (hheads0 : ∀ (listed : Array Bool) (i0 : Nat), HeadInv .any ops n listed → i0 < n → listed.getD i0 true = false → ∀ t ∈ Region.ready .any ops listed, t < n)
    {K : (World → Prop) → Act → Prop} (hKm : ∀ F F' a, (∀ w, F' w → F w) → K F a → K F' a)
    (hK : ∀ F a, K F a → ∀ n' x, F (w0.plus n' x) → ∀ listed, HeadInv .any ops n listed → (∀ i, i < n → listed.getD i false = true) → wpAny P .any ops Q (ops.size - n) listed a (w0.plus n' x)) :
    ∀ (cnt : Nat) (es : List (Nat × Oper)) (az : List (Nat × Oper × (Value → World → Prop))) (listed : Array Bool) (F : World → Prop) (a : Act),
      es.length + az.length = cnt → HeadInv .any ops n listed →
      (∀ i, i < n → (listed.getD i false = false ↔ i ∈ es.map (·.1) ∨ i ∈ az.map (·.1))) →
      (∀ p ∈ es, p.1 < n ∧ ops[p.1]? = some p.2 ∧ as0.contains p.1 = false) → (∀ p ∈ az, p.1 < n ∧ ops[p.1]? = some p.2.1 ∧ as0.contains p.1 = true) →
      (es.map (·.1)).Pairwise (· < ·) → (az.map (·.1)).Pairwise (· < ·) →
      (∀ w w', F w → w.grows w' → F w') →
      wpCalm P ops w0 (wpMake P w0 K (az.map (·.2)) F) (es.map (·.2)) a →
      ∀ n' x, F (w0.plus n' x) → wpAny P .any ops Q (cnt + (ops.size - n)) listed a (w0.plus n' x) := by
  simp only [Region.mixB, Bool.and_eq_true, decide_eq_true_eq] at hB
  obtain ⟨⟨⟨hsel, hnle⟩, hpair⟩, hedge⟩ := hB
  have hsp := Region.noSelect_spec hsel
  have pairOf : ∀ i j oi oj, i < j → j < n → ops[i]? = some oi → ops[j]? = some oj → Region.waitsFor .any ops j i = true ∨ oi.apart ops oj = true := by
    intro i j oi oj hij hj hi hoj
    have h1 := List.all_eq_true.1 (List.all_eq_true.1 hpair i (List.mem_range.2 (by omega))) j (List.mem_range.2 hj)
    simp only [Bool.or_eq_true, decide_eq_true_eq, Region.pairB, hi, hoj] at h1
    rcases h1 with h1 | h1
    · omega
    · exact h1
  have apart_symm : ∀ x y : Oper, x.apart ops y = true → y.apart ops x = true := by
    intro x y h
    unfold Oper.apart at *
    cases hx : x.dst <;> cases hy : y.dst <;> simp [hx, hy] at h ⊢
    · exact h
    · exact h
    · exact ⟨⟨h.2, fun e => h.1.2 e.symm⟩, h.1.1⟩
  have edgeOf : ∀ i o, i < n → ops[i]? = some o → ∀ e ∈ o.after, Region.binds .any e = true → e.on < i ∧ (as0.contains i = false → as0.contains e.on = false) := by
    intro i o hi ho e he hb
    have h1 := List.all_eq_true.1 hedge i (List.mem_range.2 hi)
    simp only [ho, Bool.and_eq_true] at h1
    have h2 := Array.all_eq_true_iff_forall_mem.1 h1.1 e he
    simp only [hb, Bool.not_true, Bool.false_or, decide_eq_true_eq] at h2
    refine ⟨h2, fun h3 => ?_⟩
    have h4 := h1.2
    rw [h3, Bool.false_or] at h4
    have h5 := Array.all_eq_true_iff_forall_mem.1 h4 e he
    simpa [hb] using h5
  -- an unlisted operation i that may come up is apart from an unlisted one j of the head that does not wait for it
  have unwait : ∀ (listed : Array Bool) (i j : Nat), i ∈ Region.ready .any ops listed → listed.getD j false = false → Region.waitsFor .any ops i j = true → False := by
    intro listed i j hi hj hw
    obtain ⟨oi, hoi, e, he, hb, hon⟩ := Region.waitsFor_spec hw
    obtain ⟨_, o', ho', hall⟩ := mem_ready.1 hi
    rw [hoi] at ho'; cases ho'
    have := hall e he hb
    rw [hon, hj] at this; cases this
  intro cnt
  induction cnt with
  | zero =>
    intro es az listed F a hc inv hmem hes has _ _ hF h n' x hf
    have he : es = [] := List.eq_nil_of_length_eq_zero (by omega)
    have ha : az = [] := List.eq_nil_of_length_eq_zero (by omega)
    subst he; subst ha
    rw [Nat.zero_add]
    refine hK F a h n' x hf listed inv fun i hi => ?_
    have := hmem i hi
    simp only [List.map_nil, List.not_mem_nil, or_self, iff_false, Bool.not_eq_false] at this
    exact this
  | succ cnt ih =>
    intro es az listed F a hc inv hmem hes has hse hsa hF h n' x hf
    rw [show cnt + 1 + (ops.size - n) = (cnt + (ops.size - n)) + 1 by omega]
    -- somebody of the head is not listed
    have hun : ∃ i, i < n ∧ listed.getD i true = false := by
      cases es with
      | cons p es =>
        have h1 := hes p (List.mem_cons_self ..)
        refine ⟨p.1, h1.1, getD_in (by rw [inv.size]; omega) ((hmem p.1 h1.1).2 (.inl (by simp)))⟩
      | nil =>
        cases az with
        | nil => simp at hc
        | cons p az =>
          have h1 := has p (List.mem_cons_self ..)
          exact ⟨p.1, h1.1, getD_in (by rw [inv.size]; omega) ((hmem p.1 h1.1).2 (.inr (by simp)))⟩
    obtain ⟨i0, hi0, hun0⟩ := hun
    have hheads := hheads0 listed i0 inv hi0 hun0
    refine ⟨fun hnil => ?_, fun i hi => ?_⟩
    · -- the first of those that are left may come up
      exfalso
      have first : ∀ i o, i < n → ops[i]? = some o → listed.getD i false = false → (∀ j, j < i → listed.getD j false = true ∨ (as0.contains i = false ∧ as0.contains j = true)) → False := by
        intro i o hi ho hl hall
        have : i ∈ Region.ready .any ops listed := mem_ready.2 ⟨getD_in (by rw [inv.size]; omega) hl, o, ho, fun e he hb => by
          obtain ⟨h1, h2⟩ := edgeOf i o hi ho e he hb
          rcases hall e.on h1 with h3 | ⟨h3, h4⟩
          · exact h3
          · rw [h2 h3] at h4; cases h4⟩
        rw [hnil] at this; cases this
      cases es with
      | cons p es =>
        obtain ⟨h1, h2, h3⟩ := hes p (List.mem_cons_self ..)
        refine first p.1 p.2 h1 h2 ((hmem p.1 h1).2 (.inl (by simp))) fun j hj => ?_
        cases hl : listed.getD j false with
        | true => exact .inl rfl
        | false =>
          refine .inr ⟨h3, ?_⟩
          rcases (hmem j (by omega)).1 hl with h4 | h4
          · simp only [List.map_cons, List.mem_cons] at h4
            simp only [List.map_cons, List.pairwise_cons] at hse
            rcases h4 with h4 | h4
            · omega
            · have := hse.1 j h4; omega
          · obtain ⟨q, hq, rfl⟩ := List.mem_map.1 h4
            exact (has q hq).2.2
      | nil =>
        cases az with
        | nil => simp at hc
        | cons p az =>
          obtain ⟨h1, h2, h3⟩ := has p (List.mem_cons_self ..)
          refine first p.1 p.2.1 h1 h2 ((hmem p.1 h1).2 (.inr (by simp))) fun j hj => ?_
          cases hl : listed.getD j false with
          | true => exact .inl rfl
          | false =>
            rcases (hmem j (by omega)).1 hl with h4 | h4
            · simp at h4
            · simp only [List.map_cons, List.mem_cons] at h4
              simp only [List.map_cons, List.pairwise_cons] at hsa
              rcases h4 with h4 | h4
              · omega
              · have := hsa.1 j h4; omega
    · have hin := hheads i hi
      have hl : listed.getD i false = false := getD_both (mem_ready.1 hi).1
      have inv' := inv.set hi hin
      have set_mem : ∀ j, j < n → j ≠ i → ((listed.setIfInBounds i true).getD j false = false ↔ listed.getD j false = false) := fun j hj hji => by rw [getD_set_ne false (Ne.symm hji)]
      have set_self : (listed.setIfInBounds i true).getD i false = true := by
        have : i < listed.size := by rw [inv.size]; omega
        simp [this]
      rcases (hmem i hin).1 hl with hie | hia
      · -- an exact one
        obtain ⟨p, hp, rfl⟩ := List.mem_map.1 hie
        obtain ⟨l1, l2, rfl⟩ := List.append_of_mem hp
        obtain ⟨h1, h2, h3⟩ := hes p hp
        have hsort := hse
        simp only [List.map_append, List.map_cons, List.pairwise_append, List.pairwise_cons] at hsort
        have hap1 : ∀ y ∈ l1.map (·.2), p.2.apart ops y = true ∧ ∀ cs b, y.op ≠ .select cs b := by
          intro y hy
          obtain ⟨q, hq, rfl⟩ := List.mem_map.1 hy
          obtain ⟨g1, g2, g3⟩ := hes q (by simp [hq])
          refine ⟨?_, fun cs b => hsp q.1 q.2 cs b g2⟩
          have hlt : q.1 < p.1 := hsort.2.2 q.1 (List.mem_map.2 ⟨q, hq, rfl⟩) p.1 (by simp)
          rcases pairOf q.1 p.1 q.2 p.2 hlt h1 g2 h2 with hw | ha
          · exact (unwait listed p.1 q.1 hi ((hmem q.1 g1).2 (.inl (by simp; exact .inl ⟨_, hq⟩))) hw).elim
          · exact apart_symm _ _ ha
        rw [List.map_append, List.map_cons] at h
        obtain ⟨v, hy, h'⟩ := calm_front (fun cs b => hsp p.1 p.2 cs b h2) _ a hap1 h
        have hrest : ∀ n'' y, F (w0.plus n'' y) → wpAny P .any ops Q (cnt + (ops.size - n)) (listed.setIfInBounds p.1 true) (a.put p.2.dst v) (w0.plus n'' y) := by
          refine ih (l1 ++ l2) az _ F _ (by simp at hc ⊢; omega) inv' (fun j hj => ?_) (fun q hq => hes q (by simp at hq ⊢; rcases hq with h | h <;> simp [h])) has ?_ hsa hF (by rw [List.map_append]; exact h')
          · by_cases hji : j = p.1
            · subst hji
              rw [set_self]
              simp only [Bool.true_eq_false, false_iff]
              rintro (hh | hh)
              · obtain ⟨q, hq, he⟩ := List.mem_map.1 hh
                rcases List.mem_append.1 hq with hq | hq
                · have := hsort.2.2 q.1 (List.mem_map.2 ⟨q, hq, rfl⟩) p.1 (by simp); omega
                · have := hsort.2.1.1 q.1 (List.mem_map.2 ⟨q, hq, rfl⟩); omega
              · obtain ⟨q, hq, he⟩ := List.mem_map.1 hh
                have := (has q hq).2.2
                rw [he, h3] at this; cases this
            · rw [set_mem j hj hji, hmem j hj]
              simp only [List.map_append, List.map_cons, List.mem_append, List.mem_cons]
              constructor
              · rintro ((h | h | h) | h)
                · exact .inl (.inl h)
                · exact absurd h hji
                · exact .inl (.inr h)
                · exact .inr h
              · rintro ((h | h) | h)
                · exact .inl (.inl h)
                · exact .inl (.inr (.inr h))
                · exact .inr h
          · rw [List.map_append, List.pairwise_append]
            exact ⟨hsort.1, hsort.2.1.2, fun x hx y hy => hsort.2.2 x hx y (List.mem_cons_of_mem _ hy)⟩
        unfold wpOp
        simp only [h2]
        rcases hy with ⟨hw, hv⟩ | ⟨hw, rfl⟩
        · rw [if_pos hw]
          refine .inl ?_
          have hv' := hv n' x
          unfold Oper.calmAt at hv'
          unfold Oper.wp
          generalize (execOp a.eval p.2).run P (w0.plus n' x) = r at *
          cases r with
          | halt z w' => simp only [Oper.calmUpon] at hv'
          | ok nx w' =>
            cases nx <;> simp only [Oper.calmUpon] at hv' <;> simp only [Oper.upon]
            case value u => obtain ⟨rfl, rfl⟩ := hv'; exact hrest n' x hf
            case skip => obtain ⟨rfl, rfl⟩ := hv'; exact hrest n' x hf
            case enter f args =>
              obtain ⟨rfl, hcall⟩ := hv'
              refine hcall.mono fun e w'' ⟨he, hg⟩ => ?_
              subst he
              obtain ⟨n'', y, hxy⟩ := World.plus_of ((World.grows_plus w0 n' x).trans hg)
              subst hxy
              exact hrest n'' y (hF _ _ hf hg)
        · rw [if_neg (by rw [hw]; exact Bool.false_ne_true)]
          exact hrest n' x hf
      · -- one that makes memory
        obtain ⟨p, hp, rfl⟩ := List.mem_map.1 hia
        obtain ⟨m1, m2, rfl⟩ := List.append_of_mem hp
        obtain ⟨h1, h2, h3⟩ := has p hp
        have hsort := hsa
        simp only [List.map_append, List.map_cons, List.pairwise_append, List.pairwise_cons] at hsort
        have hapm : ∀ y ∈ m1.map (·.2), p.2.1.apart ops y.1 = true ∧ ∀ cs b, y.1.op ≠ .select cs b := by
          intro y hy
          obtain ⟨q, hq, rfl⟩ := List.mem_map.1 hy
          obtain ⟨g1, g2, g3⟩ := has q (by simp [hq])
          refine ⟨?_, fun cs b => hsp q.1 q.2.1 cs b g2⟩
          have hlt : q.1 < p.1 := hsort.2.2 q.1 (List.mem_map.2 ⟨q, hq, rfl⟩) p.1 (by simp)
          rcases pairOf q.1 p.1 q.2.1 p.2.1 hlt h1 g2 h2 with hw | ha
          · exact (unwait listed p.1 q.1 hi ((hmem q.1 g1).2 (.inr (by simp; exact .inl ⟨_, _, hq⟩))) hw).elim
          · exact apart_symm _ _ ha
        have hape : ∀ y ∈ es.map (·.2), p.2.1.apart ops y = true ∧ ∀ cs b, y.op ≠ .select cs b := by
          intro y hy
          obtain ⟨q, hq, rfl⟩ := List.mem_map.1 hy
          obtain ⟨g1, g2, g3⟩ := hes q hq
          refine ⟨?_, fun cs b => hsp q.1 q.2 cs b g2⟩
          have hql : listed.getD q.1 false = false := (hmem q.1 g1).2 (.inl (List.mem_map.2 ⟨q, hq, rfl⟩))
          rcases Nat.lt_trichotomy q.1 p.1 with hlt | heq | hgt
          · rcases pairOf q.1 p.1 q.2 p.2.1 hlt h1 g2 h2 with hw | ha
            · exact (unwait listed p.1 q.1 hi hql hw).elim
            · exact apart_symm _ _ ha
          · rw [heq, h3] at g3; cases g3
          · rcases pairOf p.1 q.1 p.2.1 q.2 hgt g1 h2 g2 with hw | ha
            · exfalso
              obtain ⟨oq, hoq, e, he, hb, hon⟩ := Region.waitsFor_spec hw
              have := (edgeOf q.1 oq g1 hoq e he hb).2 g3
              rw [hon, h3] at this; cases this
            · exact ha
        rw [List.map_append, List.map_cons] at h
        obtain ⟨hg, hst, hmk, h'⟩ := make_front (R := p.2.2) hKm (fun cs b => hsp p.1 p.2.1 cs b h2) hapm _ a hape h
        unfold wpOp
        simp only [h2]
        rw [if_pos (by simp [Region.wanted, hg])]
        refine .inl ?_
        obtain ⟨v, w', hrun, hgr, hR⟩ := hmk n' x
        unfold Oper.wp
        rw [hrun]
        simp only [Oper.upon]
        obtain ⟨n'', y, hxy⟩ := World.plus_of ((World.grows_plus w0 n' x).trans hgr)
        subst hxy
        refine ih es (m1 ++ m2) _ (fun w => F w ∧ p.2.2 v w) _ (by simp at hc ⊢; omega) inv' (fun j hj => ?_) hes (fun q hq => has q (by simp at hq ⊢; rcases hq with h | h <;> simp [h])) hse ?_
          (fun w1 w2 hh g => ⟨hF _ _ hh.1 g, hst _ _ _ hh.2 g⟩) (by rw [List.map_append]; exact h' v) n'' y ⟨hF _ _ hf hgr, hR⟩
        · by_cases hji : j = p.1
          · subst hji
            rw [set_self]
            simp only [Bool.true_eq_false, false_iff]
            rintro (hh | hh)
            · obtain ⟨q, hq, he⟩ := List.mem_map.1 hh
              have := (hes q hq).2.2
              rw [he, h3] at this; cases this
            · obtain ⟨q, hq, he⟩ := List.mem_map.1 hh
              rcases List.mem_append.1 hq with hq | hq
              · have := hsort.2.2 q.1 (List.mem_map.2 ⟨q, hq, rfl⟩) p.1 (by simp); omega
              · have := hsort.2.1.1 q.1 (List.mem_map.2 ⟨q, hq, rfl⟩); omega
          · rw [set_mem j hj hji, hmem j hj]
            simp only [List.map_append, List.map_cons, List.mem_append, List.mem_cons]
            constructor
            · rintro (h | (h | h | h))
              · exact .inl h
              · exact .inr (.inl h)
              · exact absurd h hji
              · exact .inr (.inr h)
            · rintro (h | (h | h))
              · exact .inl h
              · exact .inr (.inl h)
              · exact .inr (.inr (.inr h))
        · rw [List.map_append, List.pairwise_append]
          exact ⟨hsort.1, hsort.2.1.2, fun x hx y hy => hsort.2.2 x hx y (List.mem_cons_of_mem _ hy)⟩


theorem heads_of_tail {n : Nat} (hn : n < ops.size) (hsink : Region.sinkB .any ops n = true) (hchain : Region.chainB .any ops n = true) (listed : Array Bool) (i0 : Nat)
    (inv : HeadInv .any ops n listed) (hi0 : i0 < n) (hun0 : listed.getD i0 true = false) : ∀ t ∈ Region.ready .any ops listed, t < n := fun t ht => by
  rcases Nat.lt_or_ge t n with h | h
  · exact h
  · exact absurd ht (tail_waits hsink hchain hn inv _ i0 rfl hi0 hun0 t h)

theorem heads_of_all (listed : Array Bool) : ∀ t ∈ Region.ready .any ops listed, t < ops.size := fun t ht => by
  unfold Region.ready at ht
  exact List.mem_range.1 (List.mem_filter.1 ht).1

theorem headInv_start (n : Nat) : HeadInv .any ops n (Array.replicate ops.size false) :=
  ⟨by simp, fun j oj _ hl => (by rw [getD_replicate_false] at hl; cases hl), fun t _ ht => getD_in (by simpa using ht) (getD_replicate_false _ _)⟩

/-- the operations at these places -/
def pickOps (l : List Oper) (k : Nat) : List Nat → List (Nat × Oper)
  | [] => []
  | i :: r => (match l[i]? with | some o => [(i, o)] | none => []) ++ pickOps l k r

/-- a list with its places -/
def withNo : Nat → List Oper → List (Nat × Oper)
  | _, [] => []
  | k, o :: l => (k, o) :: withNo (k + 1) l

theorem withNo_snd : ∀ (k : Nat) (l : List Oper), (withNo k l).map (·.2) = l
  | _, [] => rfl
  | k, o :: l => by simp [withNo, withNo_snd (k + 1) l]
theorem withNo_mem : ∀ (k : Nat) (l : List Oper) (p : Nat × Oper), p ∈ withNo k l ↔ k ≤ p.1 ∧ l[p.1 - k]? = some p.2
  | k, [], p => by simp [withNo]
  | k, o :: l, p => by
    obtain ⟨i, q⟩ := p
    simp only [withNo, List.mem_cons, withNo_mem (k + 1) l, Prod.mk.injEq]
    constructor
    · rintro (⟨rfl, rfl⟩ | ⟨h1, h2⟩)
      · simp
      · refine ⟨by omega, ?_⟩
        rw [show i - k = (i - (k + 1)) + 1 by omega, List.getElem?_cons_succ]
        exact h2
    · rintro ⟨h1, h2⟩
      rcases Nat.eq_or_lt_of_le h1 with h | h
      · subst h; left; simpa [eq_comm] using h2
      · right
        rw [show i - k = (i - (k + 1)) + 1 by omega, List.getElem?_cons_succ] at h2
        exact ⟨h, h2⟩
theorem withNo_fst : ∀ (k : Nat) (l : List Oper), (withNo k l).map (·.1) = List.range' k l.length
  | _, [] => rfl
  | k, o :: l => by simp [withNo, withNo_fst (k + 1) l, List.range'_succ]

theorem seq_listed {n : Nat} {listed : Array Bool} (inv : HeadInv .any ops n listed) (hn : n ≤ ops.size) (hall : ∀ i, i < n → listed.getD i false = true) :
    listed = ((List.range ops.size).map fun i => decide (i < n)).toArray := by
  apply Array.ext
  · simp [inv.size]
  · intro i h1 h2
    simp only [List.getElem_toArray, List.getElem_map, List.getElem_range]
    rcases Nat.lt_or_ge i n with h | h
    · have := hall i h
      rw [Array.getD_eq_getD_getElem?, Array.getElem?_eq_getElem h1] at this
      simpa [h] using this
    · have := inv.tail i h (by rw [inv.size] at h1; exact h1)
      rw [Array.getD_eq_getD_getElem?, Array.getElem?_eq_getElem h1] at this
      simpa [Nat.not_lt.2 h] using this

/-- all that is asked of the region's text -/
def Region.planB (ops : Array Oper) (n : Nat) (az : List Nat) : Bool :=
  Region.mixB ops n az && (decide (n = ops.size) || (decide (n < ops.size) && Region.sinkB .any ops n && Region.chainB .any ops n)) &&
  Region.seqB .any ops (ops.size - n) n ((List.range ops.size).map fun i => decide (i < n)).toArray

theorem wp_region_plan {id : Nat} {Q : Exit → Act → World → Prop} {a : Act} {w : World} {l : List Oper} (n : Nat) (es az : List (Nat × Oper)) (Rs : List (Value → World → Prop)) (hm : P.follows .mixedOrders = true)
    (hB : Region.planB l.toArray n (az.map (·.1)) = true) (hlen : Rs.length = az.length)
    (hes : ∀ p ∈ es, p.1 < n ∧ l[p.1]? = some p.2 ∧ (az.map (·.1)).contains p.1 = false) (has : ∀ p ∈ az, p.1 < n ∧ l[p.1]? = some p.2)
    (hall : ∀ i, i < n → i ∈ es.map (·.1) ∨ i ∈ az.map (·.1))
    (hes' : (es.map (·.1)).Pairwise (· < ·)) (has' : (az.map (·.1)).Pairwise (· < ·))
    (h : wpCalm P l.toArray w (wpMake P w (fun F a' => ∀ n' x, F (w.plus n' x) → wpList P l.toArray Q (l.drop n) a' (w.plus n' x)) ((az.map (·.2)).zip Rs) (fun _ => True)) (es.map (·.2)) a) :
    (Code.region id l.toArray true).wp P Q a w := by
  simp only [Region.planB, Bool.and_eq_true, Bool.or_eq_true, decide_eq_true_eq] at hB
  obtain ⟨⟨hmix, hplan⟩, hseq⟩ := hB
  have hnle : n ≤ l.toArray.size := by rcases hplan with h | h <;> omega
  refine wp_region_any hm ?_
  obtain ⟨n0, x0, h0⟩ := World.more_drew w
  rw [h0]
  have hz : (az.zip Rs).map (fun p => (p.1.2, p.2)) = (az.map (·.2)).zip Rs := by
    rw [List.zip_map_left]; rfl
  have key := wpAny_of_order (P := P) (ops := l.toArray) (w0 := w) (Q := Q) (n := n) (as0 := az.map (·.1)) hmix
    (fun listed i0 inv hi0 hun0 => by
      rcases hplan with h | ⟨⟨h1, h2⟩, h3⟩
      · subst h; exact heads_of_all listed
      · exact heads_of_tail h1 h2 h3 listed i0 inv hi0 hun0)
    (K := fun F a' => ∀ n' x, F (w.plus n' x) → wpList P l.toArray Q (l.drop n) a' (w.plus n' x))
    (fun F F' a hFF hK n' x hf => hK n' x (hFF _ hf))
    (fun F a hK n' x hf listed inv hall => by
      have hl := seq_listed inv hnle hall
      subst hl
      have hd : (l.drop n).length = l.toArray.size - n := by simp
      have := wpAny_of_seq (md := .any) (Q' := Q) (l.drop n) n _ a (w.plus n' x) (fun j => by simp [List.getElem?_drop]) (by rw [hd]; exact hseq) (hK n' x hf)
      rwa [hd] at this)
    (es.length + az.length) es ((az.zip Rs).map fun p => (p.1.1, p.1.2, p.2)) (Array.replicate l.toArray.size false) (fun _ => True) a
    (by simp [hlen]) (headInv_start n)
    (fun i hi => by
      simp only [getD_replicate_false, true_iff, List.map_map]
      have : ((fun (x : Nat × Oper × (Value → World → Prop)) => x.1) ∘ fun (p : (Nat × Oper) × (Value → World → Prop)) => (p.1.1, p.1.2, p.2)) = (fun (p : Nat × Oper) => p.1) ∘ Prod.fst := rfl
      rw [this, ← List.map_map, List.map_fst_zip (by omega)]
      exact hall i hi)
    (fun p hp => by have := hes p hp; exact ⟨this.1, by simpa using this.2.1, this.2.2⟩)
    (fun p hp => by
      obtain ⟨q, hq, rfl⟩ := List.mem_map.1 hp
      have hq1 := (List.of_mem_zip hq).1
      have := has _ hq1
      exact ⟨this.1, by simpa using this.2, by simp only [List.contains_iff_mem]; exact List.mem_map.2 ⟨_, hq1, rfl⟩⟩)
    hes' (by
      rw [List.map_map]
      have : ((fun (x : Nat × Oper × (Value → World → Prop)) => x.1) ∘ fun (p : (Nat × Oper) × (Value → World → Prop)) => (p.1.1, p.1.2, p.2)) = (fun (p : Nat × Oper) => p.1) ∘ Prod.fst := rfl
      rw [this, ← List.map_map, List.map_fst_zip (by omega)]
      exact has')
    (fun _ _ _ _ => trivial)
    (by
      rw [List.map_map]
      have : ((fun (x : Nat × Oper × (Value → World → Prop)) => x.2) ∘ fun (p : (Nat × Oper) × (Value → World → Prop)) => (p.1.1, p.1.2, p.2)) = fun p => (p.1.2, p.2) := rfl
      rw [this, hz]
      exact h)
    n0 x0 trivial
  have hsz : es.length + az.length = n := by
    have h1 : (es.map (·.1)).Nodup := hes'.imp (fun h => Nat.ne_of_lt h)
    have h2 : (az.map (·.1)).Nodup := has'.imp (fun h => Nat.ne_of_lt h)
    have h3 : ((es.map (·.1)) ++ (az.map (·.1))).Nodup := List.nodup_append.2 ⟨h1, h2, fun x hx y hy e => by
      subst e
      obtain ⟨p, hp, rfl⟩ := List.mem_map.1 hx
      have := (hes p hp).2.2
      have h4 : (az.map (·.1)).contains p.1 = true := by simpa using hy
      rw [h4] at this; cases this⟩
    have h5 : ((es.map (·.1)) ++ (az.map (·.1))).Perm (List.range n) := by
      rw [List.perm_ext_iff_of_nodup h3 List.nodup_range]
      intro x
      rw [List.mem_append, List.mem_range]
      constructor
      · rintro (hx | hx)
        · obtain ⟨p, hp, rfl⟩ := List.mem_map.1 hx; exact (hes p hp).1
        · obtain ⟨p, hp, rfl⟩ := List.mem_map.1 hx; exact (has p hp).1
      · exact hall x
    have := h5.length_eq
    simpa using this
  rw [hsz, show n + (l.toArray.size - n) = l.toArray.size by omega] at key
  exact key


/-- only reads and calls -/
theorem wp_region_calm {id : Nat} {Q : Exit → Act → World → Prop} {a : Act} {w : World} {l : List Oper} (hm : P.follows .mixedOrders = true) (hB : Region.planB l.toArray l.length [] = true)
    (h : wpCalm P l.toArray w (fun a' => ∀ n x, Q .normal a' (w.plus n x)) l a) : (Code.region id l.toArray true).wp P Q a w := by
  refine wp_region_plan l.length (withNo 0 l) [] [] hm hB rfl (fun p hp => ?_) (by simp) (fun i hi => .inl ?_) ?_ (by simp) ?_
  · have := (withNo_mem 0 l p).1 hp
    have h2 := this.2
    rw [Nat.sub_zero] at h2
    exact ⟨(List.getElem?_eq_some_iff.1 h2).1, h2, by simp⟩
  · rw [withNo_fst]; simp; exact hi
  · rw [withNo_fst]; exact List.pairwise_lt_range'
  · rw [withNo_snd]
    simpa [wpMake, wpList] using h

/-- reads and calls ahead of a tail in order -/
theorem wp_region_tail {id : Nat} {Q : Exit → Act → World → Prop} {a : Act} {w : World} {l : List Oper} (n : Nat) (hm : P.follows .mixedOrders = true) (hB : Region.planB l.toArray n [] = true) (hn : n ≤ l.length)
    (h : wpCalm P l.toArray w (fun a' => ∀ n' x, wpList P l.toArray Q (l.drop n) a' (w.plus n' x)) (l.take n) a) : (Code.region id l.toArray true).wp P Q a w := by
  refine wp_region_plan n (withNo 0 (l.take n)) [] [] hm hB rfl (fun p hp => ?_) (by simp) (fun i hi => .inl ?_) ?_ (by simp) ?_
  · have := (withNo_mem 0 _ p).1 hp
    have h2 := this.2
    rw [Nat.sub_zero, List.getElem?_take] at h2
    split at h2
    · rename_i hlt; exact ⟨hlt, h2, by simp⟩
    · cases h2
  · rw [withNo_fst]; simp; omega
  · rw [withNo_fst]; exact List.pairwise_lt_range'
  · rw [withNo_snd]
    simpa [wpMake] using h

/-- what lies at a place of the operation that makes one block -/
def madeR (w : World) (f : Nat → Value) (o : Obj) : Value → World → Prop := fun v W => ∃ b, v = f b ∧ w.heap.size ≤ b ∧ W.heap[b]? = some o
end
end Go

