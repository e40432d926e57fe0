/-
  What is proved: plain: how many matchings of so many pairs there are; the order in which things are looked at does not matter.
-/
import Derived.Test.YteingahlmlndkaaM2
import Derived.Test.YteingahlmlndkaaM1
import Derived.Test.YteingahlmlndkaaRows
import Derived.Lib.Hide
import Derived.RangeFuncBound
set_option linter.all false
namespace Go.Proofs.Yteingahlmlndkaa
/-- a sum over those that have a property -/
def si (q : Nat → Bool) (f : Nat → Nat) (n : Nat) : Nat := sumN (fun u => if q u = true then f u else 0) n
theorem si_congr {q q' : Nat → Bool} {f f' : Nat → Nat} {n : Nat} (h : ∀ u, u < n → q u = q' u ∧ (q u = true → f u = f' u)) : si q f n = si q' f' n :=
  sumN_congr fun u hu => by
    obtain ⟨h1, h2⟩ := h u hu
    rw [← h1]
    split
    · rename_i hq; exact h2 hq
    · rfl
theorem si_add (q : Nat → Bool) (f g : Nat → Nat) (n : Nat) : si q (fun u => f u + g u) n = si q f n + si q g n := by
  unfold si
  rw [← sumN_add]
  exact sumN_congr fun u _ => by split <;> rfl
theorem si_split (q : Nat → Bool) (f : Nat → Nat) {n t : Nat} (ht : t < n) : si q f n = (if q t = true then f t else 0) + si (fun u => q u && !(u == t)) f n := by
  unfold si
  rw [← sumN_one (x := if q t = true then f t else 0) n ht, ← sumN_add]
  refine sumN_congr fun u _ => ?_
  by_cases e : u = t
  · subst e; simp
  · have : (u == t) = false := by simpa using e
    simp [this, e]
theorem si_succ (q : Nat → Bool) (f : Nat → Nat) (n : Nat) : si q f (n + 1) = si q f n + if q n = true then f n else 0 := rfl
theorem sumN_comm (f : Nat → Nat → Nat) (a : Nat) : ∀ b, sumN (fun i => sumN (fun j => f i j) b) a = sumN (fun j => sumN (fun i => f i j) a) b
  | 0 => sumN_zero a
  | b + 1 => by
    show sumN (fun i => sumN (fun j => f i j) b + f i b) a = sumN (fun j => sumN (fun i => f i j) a) b + sumN (fun i => f i b) a
    rw [sumN_add, sumN_comm f a b]
theorem si_zero {q : Nat → Bool} {f : Nat → Nat} {n : Nat} (h : ∀ u, u < n → q u = true → f u = 0) : si q f n = 0 :=
  (sumN_congr (g := fun _ => 0) fun u hu => by
    split
    · rename_i hq; exact h u hu hq
    · rfl).trans (sumN_zero n)
theorem si_comm (q : Nat → Bool) (q' : Nat → Nat → Bool) (f : Nat → Nat → Nat) (a b : Nat) : si q (fun i => si (q' i) (f i) b) a = sumN (fun j => si (fun i => q i && q' i j) (fun i => f i j) a) b := by
  unfold si
  rw [← sumN_comm (fun i j => if (q i && q' i j) = true then f i j else 0)]
  refine sumN_congr fun i _ => ?_
  by_cases h : q i = true
  · rw [if_pos h]; exact sumN_congr fun j _ => by simp [h]
  · rw [if_neg h]
    have : q i = false := by simpa using h
    rw [sumN_congr (g := fun _ => 0) fun j _ => by simp [this]]
    exact (sumN_zero b).symm
def sh (f : Nat → Nat) : Nat → Nat
  | 0 => 0
  | k + 1 => f k
/-- how many matchings of the things S below n have k pairs -/
def num (A : Nat → Nat → Bool) : Nat → (Nat → Bool) → Nat → Nat
  | 0, _, k => if k = 0 then 1 else 0
  | i + 1, S, k => num A i S k + if S i = true then si (fun u => S u && A i u) (fun u => sh (num A i (less1 S u)) k) i else 0
section
variable {A : Nat → Nat → Bool} {S S' : Nat → Bool} {n : Nat}
theorem num_congr : ∀ {n : Nat} {S S' : Nat → Bool}, (∀ v, v < n → S v = S' v) → num A n S = num A n S'
  | 0, _, _, _ => rfl
  | n + 1, S, S', h => by
    funext k
    unfold num
    rw [num_congr (n := n) fun v hv => h v (by omega), h n (by omega)]
    congr 1
    split
    · refine si_congr fun u hu => ⟨by rw [h u (by omega)], fun _ => ?_⟩
      rw [num_congr (n := n) (S := less1 S u) (S' := less1 S' u) fun v hv => by unfold less1; rw [h v (by omega)]]
    · rfl
theorem less1_comm (S : Nat → Bool) (t u : Nat) : less1 (less1 S t) u = less1 (less1 S u) t := by
  funext v; unfold less1; rw [Bool.and_right_comm]
theorem num_out {k : Nat} (h : S n = false) : num A (n + 1) S k = num A n S k := by
  show num A n S k + (if S n = true then _ else 0) = _
  rw [if_neg (by rw [h]; exact Bool.false_ne_true)]; rfl
theorem num_less (k : Nat) : num A (n + 1) (less1 S n) k = num A n S k := by
  rw [num_out (by unfold less1; simp), num_congr (S' := S)]
  intro v hv
  have : (v == n) = false := by simp; omega
  unfold less1; simp [this]
theorem sh_add (f g : Nat → Nat) (k : Nat) : sh (fun k => f k + g k) k = sh f k + sh g k := by cases k <;> rfl
theorem sh_si (q : Nat → Bool) (f : Nat → Nat → Nat) (n k : Nat) : sh (fun k => si q (fun u => f u k) n) k = si q (fun u => sh (f u) k) n := by
  cases k with
  | zero => exact (si_zero fun _ _ _ => rfl).symm
  | succ k => rfl
/-- each thing may be looked at first -/
theorem num_at (hA : ∀ a b, A a b = A b a) (hI : ∀ a, A a a = false) : ∀ (n : Nat) (S : Nat → Bool) (t : Nat), t < n → S t = true → ∀ k, num A n S k = num A n (less1 S t) k + si (fun u => S u && A t u) (fun u => sh (num A n (less1 (less1 S t) u)) k) n
  | 0, _, _, h, _, _ => by omega
  | n + 1, S, t, ht, hSt, k => by
    by_cases e : t = n
    · subst e
      rw [num_less, si_succ, if_neg (by rw [hI, Bool.and_false]; exact Bool.false_ne_true), Nat.add_zero]
      show num A t S k + (if S t = true then _ else 0) = _
      rw [if_pos hSt]
      congr 1
      refine si_congr fun u hu => ⟨rfl, fun _ => ?_⟩
      congr 1
      funext k'
      rw [less1_comm, num_less]
    · have htn : t < n := by omega
      have ih := num_at hA hI n S t htn hSt
      by_cases hSn : S n = true
      · have hne : ∀ u, u < n → less1 (less1 S t) u n = true := fun u hu => less1_iff.2 ⟨less1_iff.2 ⟨hSn, by omega⟩, by omega⟩
        -- the left side
        have hL : num A (n + 1) S k = (num A n (less1 S t) k + si (fun u => S u && A t u) (fun u => sh (num A n (less1 (less1 S t) u)) k) n) + ((if A n t = true then sh (num A n (less1 S t)) k else 0) + (si (fun w => (S w && A n w) && !(w == t)) (fun w => sh (num A n (less1 (less1 S w) t)) k) n + si (fun w => (S w && A n w) && !(w == t)) (fun w => si (fun u => less1 S w u && A t u) (fun u => sh (sh (num A n (less1 (less1 (less1 S w) t) u))) k) n) n)) := by
          show num A n S k + (if S n = true then _ else 0) = _
          rw [if_pos hSn, ih k, si_split (fun u => S u && A n u) (fun u => sh (num A n (less1 S u)) k) htn]
          congr 1
          refine congr (congrArg _ ?_) ?_
          · show (if (S t && A n t) = true then _ else 0) = _
            rw [hSt, Bool.true_and]
          · rw [← si_add]
            refine si_congr fun w hw => ⟨rfl, fun hq => ?_⟩
            simp only [Bool.and_eq_true, Bool.not_eq_true', beq_eq_false_iff_ne] at hq
            have h2 := num_at hA hI n (less1 S w) t htn (less1_iff.2 ⟨hSt, Ne.symm hq.2⟩)
            rw [show num A n (less1 S w) = fun k => num A n (less1 (less1 S w) t) k + si (fun u => less1 S w u && A t u) (fun u => sh (num A n (less1 (less1 (less1 S w) t) u)) k) n from funext h2, sh_add, sh_si]
        have hR1 : num A (n + 1) (less1 S t) k = num A n (less1 S t) k + si (fun w => (S w && A n w) && !(w == t)) (fun w => sh (num A n (less1 (less1 S w) t)) k) n := by
          show num A n (less1 S t) k + (if less1 S t n = true then _ else 0) = _
          rw [if_pos (less1_iff.2 ⟨hSn, by omega⟩)]
          congr 1
          refine si_congr fun w hw => ⟨?_, fun _ => by rw [less1_comm]⟩
          unfold less1
          cases S w <;> cases A n w <;> simp
        have hR2 : si (fun u => S u && A t u) (fun u => sh (num A (n + 1) (less1 (less1 S t) u)) k) (n + 1) = (si (fun u => S u && A t u) (fun u => sh (num A n (less1 (less1 S t) u)) k) n + si (fun u => S u && A t u) (fun u => si (fun w => less1 (less1 S t) u w && A n w) (fun w => sh (sh (num A n (less1 (less1 (less1 S t) u) w))) k) n) n) + (if A n t = true then sh (num A n (less1 S t)) k else 0) := by
          rw [si_succ, ← si_add]
          congr 1
          · refine si_congr fun u hu => ⟨rfl, fun _ => ?_⟩
            have h2 : num A (n + 1) (less1 (less1 S t) u) = fun k => num A n (less1 (less1 S t) u) k + si (fun w => less1 (less1 S t) u w && A n w) (fun w => sh (num A n (less1 (less1 (less1 S t) u) w)) k) n := by
              funext k'
              show num A n (less1 (less1 S t) u) k' + (if less1 (less1 S t) u n = true then _ else 0) = _
              rw [if_pos (hne u hu)]
            rw [h2, sh_add, sh_si]
          · rw [hSn, hA t n, Bool.true_and]
            have : num A (n + 1) (less1 (less1 S t) n) = num A n (less1 S t) := funext fun k' => num_less k'
            rw [this]
        have hD : si (fun w => (S w && A n w) && !(w == t)) (fun w => si (fun u => less1 S w u && A t u) (fun u => sh (sh (num A n (less1 (less1 (less1 S w) t) u))) k) n) n = si (fun u => S u && A t u) (fun u => si (fun w => less1 (less1 S t) u w && A n w) (fun w => sh (sh (num A n (less1 (less1 (less1 S t) u) w))) k) n) n := by
          rw [si_comm]
          unfold si
          refine sumN_congr fun u hu => ?_
          by_cases hq : (S u && A t u) = true
          · rw [if_pos hq]
            simp only [Bool.and_eq_true] at hq
            refine sumN_congr fun w hw => ?_
            have e1 : ((S w && A n w && !(w == t)) && (less1 S w u && A t u)) = (less1 (less1 S t) u w && A n w) := by
              unfold less1
              have : (u == w) = (w == u) := by rw [Bool.eq_iff_iff, beq_iff_eq, beq_iff_eq]; exact eq_comm
              rw [hq.1, hq.2, this]
              cases S w <;> cases A n w <;> cases (w == t) <;> cases (w == u) <;> rfl
            show (if (S w && A n w && !(w == t) && (less1 S w u && A t u)) = true then sh (sh (num A n (less1 (less1 (less1 S w) t) u))) k else 0) = _
            rw [e1]
            have e2 : less1 (less1 (less1 S w) t) u = less1 (less1 (less1 S t) u) w := by
              funext x
              unfold less1
              cases S x <;> cases (x == w) <;> cases (x == t) <;> cases (x == u) <;> rfl
            rw [e2]
          · rw [if_neg hq]
            have hq' : (S u && A t u) = false := by simpa using hq
            refine (sumN_congr (g := fun _ => 0) fun w _ => if_neg fun hh => ?_).trans (sumN_zero n)
            simp only [Bool.and_eq_true] at hh
            rw [(less1_iff.1 hh.2.1).1, hh.2.2] at hq'
            cases hq'
        rw [hL, hR1, hR2, hD]
        omega
      · have hSn' : S n = false := by simpa using hSn
        rw [num_out hSn', num_out (by unfold less1; rw [hSn']; rfl), si_succ, if_neg (by rw [hSn']; exact Bool.false_ne_true), Nat.add_zero, ih k]
        congr 1
        refine si_congr fun u hu => ⟨rfl, fun _ => ?_⟩
        congr 1
        funext k'
        rw [num_out (by unfold less1; rw [hSn']; rfl)]
/-- a sum over other names -/
theorem si_other {g g' : Nat → Nat} {n : Nat} (f : Nat → Nat) : ∀ (n' : Nat) (q' q : Nat → Bool), (∀ u, u < n' → q' u = true → f u < n ∧ q (f u) = true ∧ g' u = g (f u)) → (∀ u w, u < n' → w < n' → q' u = true → q' w = true → f u = f w → u = w) → (∀ x, x < n → q x = true → ∃ u, u < n' ∧ q' u = true ∧ f u = x) → si q' g' n' = si q g n
  | 0, q', q, _, _, h3 => by
    rw [si_zero (q := q) fun x hx hq => by obtain ⟨u, hu, _⟩ := h3 x hx hq; omega]
    rfl
  | n' + 1, q', q, h1, h2, h3 => by
    rw [si_succ]
    by_cases hq : q' n' = true
    · obtain ⟨k1, k2, k3⟩ := h1 n' (by omega) hq
      rw [if_pos hq, si_split q g k1, if_pos k2, k3, Nat.add_comm]
      congr 1
      refine si_other f n' q' _ (fun u hu hqu => ?_) (fun u w hu hw => h2 u w (by omega) (by omega)) (fun x hx hqx => ?_)
      · obtain ⟨a, b, c⟩ := h1 u (by omega) hqu
        refine ⟨a, ?_, c⟩
        have : (f u == f n') = false := by
          rw [beq_eq_false_iff_ne]
          intro e
          have := h2 u n' (by omega) (by omega) hqu hq e
          omega
        rw [b, this]; rfl
      · simp only [Bool.and_eq_true, Bool.not_eq_true', beq_eq_false_iff_ne] at hqx
        obtain ⟨u, hu, hqu, e⟩ := h3 x hx hqx.1
        refine ⟨u, ?_, hqu, e⟩
        have : u ≠ n' := fun e' => hqx.2 (by rw [← e, e'])
        omega
    · rw [if_neg hq, Nat.add_zero]
      refine si_other f n' q' q (fun u hu => h1 u (by omega)) (fun u w hu hw => h2 u w (by omega) (by omega)) (fun x hx hqx => ?_)
      obtain ⟨u, hu, hqu, e⟩ := h3 x hx hqx
      refine ⟨u, ?_, hqu, e⟩
      have : u ≠ n' := fun e' => hq (by rw [← e']; exact hqu)
      omega
/-- things with other names -/
theorem num_other (hA : ∀ a b, A a b = A b a) (hI : ∀ a, A a a = false) {B : Nat → Nat → Bool} (f : Nat → Nat) : ∀ (n' : Nat) (S' S : Nat → Bool), (∀ a, a < n' → S' a = true → f a < n ∧ S (f a) = true) → (∀ a b, a < n' → b < n' → S' a = true → S' b = true → (f a = f b → a = b) ∧ B a b = A (f a) (f b)) → (∀ x, x < n → S x = true → ∃ a, a < n' ∧ S' a = true ∧ f a = x) → ∀ k, num B n' S' k = num A n S k
  | 0, S', S, _, _, h3, k => by
    have : ∀ (n : Nat), (∀ x, x < n → S x = false) → num A n S k = num A 0 S k := fun n => by
      induction n with
      | zero => intro _; rfl
      | succ n ih => intro h; rw [num_out (h n (by omega)), ih fun x hx => h x (by omega)]
    rw [this n fun x hx => by
      cases e : S x with
      | false => rfl
      | true => obtain ⟨u, hu, _⟩ := h3 x hx e; omega]
    rfl
  | n' + 1, S', S, h1, h2, h3, k => by
    by_cases hq : S' n' = true
    · obtain ⟨t1, t2⟩ := h1 n' (by omega) hq
      have keyS : ∀ a, a < n' → S' a = true → f a ≠ f n' := fun a ha hs e => by
        have := (h2 a n' (by omega) (by omega) hs hq).1 e
        omega
      have e1 : num B n' S' k = num A n (less1 S (f n')) k := num_other hA hI f n' S' _ (fun a ha hs => ⟨(h1 a (by omega) hs).1, less1_iff.2 ⟨(h1 a (by omega) hs).2, keyS a ha hs⟩⟩) (fun a b ha hb => h2 a b (by omega) (by omega)) (fun x hx hs => by
        obtain ⟨hs1, hs2⟩ := less1_iff.1 hs
        obtain ⟨a, ha, hsa, e⟩ := h3 x hx hs1
        exact ⟨a, by have : a ≠ n' := fun e' => hs2 (by rw [← e, e']); omega, hsa, e⟩) k
      show num B n' S' k + (if S' n' = true then _ else 0) = _
      rw [if_pos hq, num_at hA hI n S (f n') t1 t2 k, e1]
      congr 1
      refine si_other f n' (fun u => S' u && B n' u) (fun u => S u && A (f n') u) (fun u hu hqu => ?_) (fun u w hu hw hqu hqw => ?_) (fun x hx hqx => ?_)
      · simp only [Bool.and_eq_true] at hqu
        obtain ⟨k1, k2⟩ := h1 u (by omega) hqu.1
        have hB := (h2 n' u (by omega) (by omega) hq hqu.1).2
        refine ⟨k1, ?_, ?_⟩
        · show (S (f u) && A (f n') (f u)) = true
          rw [k2, ← hB, hqu.2]; rfl
        · congr 1
          funext k'
          exact num_other hA hI f n' (less1 S' u) _ (fun a ha hs => by
            obtain ⟨hs1, hs2⟩ := less1_iff.1 hs
            refine ⟨(h1 a (by omega) hs1).1, less1_iff.2 ⟨less1_iff.2 ⟨(h1 a (by omega) hs1).2, keyS a ha hs1⟩, fun e => hs2 ?_⟩⟩
            exact (h2 a u (by omega) (by omega) hs1 hqu.1).1 e) (fun a b ha hb hsa hsb => h2 a b (by omega) (by omega) (less1_iff.1 hsa).1 (less1_iff.1 hsb).1) (fun x hx hs => by
            obtain ⟨hs0, hs2⟩ := less1_iff.1 hs
            obtain ⟨hs1, hs3⟩ := less1_iff.1 hs0
            obtain ⟨a, ha, hsa, e⟩ := h3 x hx hs1
            exact ⟨a, by have : a ≠ n' := fun e' => hs3 (by rw [← e, e']); omega, less1_iff.2 ⟨hsa, fun e' => hs2 (by rw [← e, e'])⟩, e⟩) k'
      · simp only [Bool.and_eq_true] at hqu hqw
        exact (h2 u w (by omega) (by omega) hqu.1 hqw.1).1
      · simp only [Bool.and_eq_true] at hqx
        obtain ⟨a, ha, hsa, e⟩ := h3 x hx hqx.1
        have hne : a ≠ n' := fun e' => by
          have := hqx.2
          rw [← e, e', hI] at this; cases this
        refine ⟨a, by omega, ?_, e⟩
        show (S' a && B n' a) = true
        rw [hsa, (h2 n' a (by omega) ha hq hsa).2, e, hqx.2]; rfl
    · have hq' : S' n' = false := by simpa using hq
      rw [num_out hq']
      exact num_other hA hI f n' S' S (fun a ha => h1 a (by omega)) (fun a b ha hb => h2 a b (by omega) (by omega)) (fun x hx hs => by
        obtain ⟨a, ha, hsa, e⟩ := h3 x hx hs
        exact ⟨a, by have : a ≠ n' := fun e' => hq (by rw [← e']; exact hsa); omega, hsa, e⟩) k
end
end Go.Proofs.Yteingahlmlndkaa

/-
  What is proved: plain: the greatest number of pairs, and how many matchings have it; how both come from those of fewer things.
-/
namespace Go.Proofs.Yteingahlmlndkaa
def restr (i : Nat) (S : Nat → Bool) : Nat → Bool := fun v => S v && decide (v < i)
theorem restr_iff {i v : Nat} {S : Nat → Bool} : restr i S v = true ↔ S v = true ∧ v < i := by unfold restr; simp
theorem restr_self {n : Nat} {S : Nat → Bool} (hS : ∀ t, S t = true → t < n) : restr n S = S := by
  funext v
  unfold restr
  cases e : S v with
  | false => rfl
  | true => simp [hS v e]
theorem cov_succ (i : Nat) (m : Nat → Nat) : cov (i + 1) m = cov i m + if m i ≠ i then 1 else 0 := by
  show cntB (cv m) i + (if cv m i = true then 1 else 0) = _
  congr 1
  by_cases h : m i = i
  · rw [if_neg (by rw [cv_iff]; exact fun hh => hh h), if_neg (fun hh => hh h)]
  · rw [if_pos (cv_iff.2 h), if_pos h]
section
variable {A : Nat → Nat → Bool} {S : Nat → Bool} {n : Nat}
theorem si_pos {q : Nat → Bool} {f : Nat → Nat} : ∀ {n : Nat}, 0 < si q f n ↔ ∃ u, u < n ∧ q u = true ∧ 0 < f u
  | 0 => ⟨fun h => absurd h (Nat.lt_irrefl 0), fun ⟨_, h, _⟩ => by omega⟩
  | n + 1 => by
    rw [si_succ]
    constructor
    · intro h
      by_cases h1 : 0 < si q f n
      · obtain ⟨u, hu, h2⟩ := si_pos.1 h1
        exact ⟨u, by omega, h2⟩
      · by_cases h2 : q n = true
        · rw [if_pos h2] at h; exact ⟨n, by omega, h2, by omega⟩
        · rw [if_neg h2] at h; omega
    · rintro ⟨u, hu, h1, h2⟩
      by_cases e : u = n
      · subst e; rw [if_pos h1]; omega
      · have := (si_pos (q := q) (f := f) (n := n)).2 ⟨u, by omega, h1, h2⟩
        omega
theorem num_pos (hA : ∀ a b, A a b = A b a) : ∀ (i : Nat) (S : Nat → Bool) (k : Nat), 0 < num A i S k ↔ ∃ m, IsM A (restr i S) m ∧ cov i m = 2 * k
  | 0, S, k => by
    constructor
    · intro h
      unfold num at h
      split at h
      · rename_i e; subst e; exact ⟨id, IsM.none _ _, rfl⟩
      · omega
    · rintro ⟨m, hm, h⟩
      have : k = 0 := by
        have : cov 0 m = 0 := rfl
        omega
      subst this
      show 0 < (if 0 = 0 then 1 else 0)
      simp
  | i + 1, S, k => by
    have hlt : ∀ (T : Nat → Bool) (t : Nat), restr i T t = true → t < i := fun T t h => (restr_iff.1 h).2
    have hup : ∀ t, restr i S t = true → restr (i + 1) S t = true := fun t h => restr_iff.2 ⟨(restr_iff.1 h).1, by have := (restr_iff.1 h).2; omega⟩
    have hout : ∀ {T m}, IsM A (restr i T) m → m i = i := fun {T m} hm => Classical.byContradiction fun e => by have := hlt T i (hm.ok i e).1; omega
    constructor
    · intro h
      unfold num at h
      by_cases h1 : 0 < num A i S k
      · obtain ⟨m, hm, hc⟩ := (num_pos hA i S k).1 h1
        exact ⟨m, hm.mono (fun _ _ e => e) hup, by rw [cov_succ, hout hm, if_neg (fun hh => hh rfl)]; exact hc⟩
      · by_cases hSi : S i = true
        · rw [if_pos hSi] at h
          have h9 : 0 < si (fun u => S u && A i u) (fun u => sh (num A i (less1 S u)) k) i := by omega
          obtain ⟨u, hu, hq, hf⟩ := si_pos.1 h9
          replace hq : (S u && A i u) = true := hq
          cases k with
          | zero => exact absurd hf (Nat.lt_irrefl 0)
          | succ k =>
            obtain ⟨m, hm, hc⟩ := (num_pos hA i (less1 S u) k).1 hf
            simp only [Bool.and_eq_true] at hq
            have hmu : m u = u := Classical.byContradiction fun e => (less1_iff.1 (restr_iff.1 (hm.ok u e).1).1).2 rfl
            have hm2 : IsM A (restr (i + 1) S) m := hm.mono (fun _ _ e => e) fun t h => restr_iff.2 ⟨(less1_iff.1 (restr_iff.1 h).1).1, by have := (restr_iff.1 h).2; omega⟩
            obtain ⟨q1, q2, _⟩ := hm2.pair (n := i + 1) (fun t h => (restr_iff.1 h).2) hA (hout hm) hmu (by omega : i ≠ u) (restr_iff.2 ⟨hSi, by omega⟩) (restr_iff.2 ⟨hq.1, by omega⟩) (by rw [hA]; exact hq.2)
            refine ⟨_, q1, ?_⟩
            rw [q2, cov_succ, hout hm, if_neg (fun hh => hh rfl)]
            omega
        · rw [if_neg hSi] at h; omega
    · rintro ⟨m, hm, hc⟩
      unfold num
      by_cases hmi : m i = i
      · rw [cov_succ, if_neg (fun hh => hh hmi)] at hc
        have := (num_pos hA i S k).2 ⟨m, ⟨hm.inv, fun t ht => by
          obtain ⟨h1, h2⟩ := hm.ok t ht
          obtain ⟨h3, h4⟩ := restr_iff.1 h1
          refine ⟨restr_iff.2 ⟨h3, ?_⟩, h2⟩
          have : t ≠ i := fun e => ht (by rw [e, hmi])
          omega⟩, by omega⟩
        omega
      · obtain ⟨h1, h2⟩ := hm.ok i hmi
        have h3 := restr_iff.1 (hm.in_ hmi)
        have hlt1 : m i < i := by have := h3.2; omega
        have hc2 := cov_unp (n := i + 1) (fun t h => (restr_iff.1 h).2) hm hmi
        have hcu : cov (i + 1) (unp m i) = cov i (unp m i) := by rw [cov_succ, rem_self, if_neg (fun hh => hh rfl)]; rfl
        cases k with
        | zero => omega
        | succ k =>
          have := (num_pos hA i (less1 S (m i)) k).2 ⟨unp m i, ⟨unp_inv hm.inv i, fun t ht => by
            obtain ⟨g1, g2, g3⟩ := unp_key ht
            rw [g3] at ht ⊢
            obtain ⟨k1, k2⟩ := hm.ok t ht
            obtain ⟨k3, k4⟩ := restr_iff.1 k1
            exact ⟨restr_iff.2 ⟨less1_iff.2 ⟨k3, g2⟩, by omega⟩, k2⟩⟩, by omega⟩
          rw [if_pos (restr_iff.1 h1).1]
          have := (si_pos (q := fun u => S u && A i u) (f := fun u => sh (num A i (less1 S u)) (k + 1)) (n := i)).2 ⟨m i, hlt1, (by show (S (m i) && A i (m i)) = true; rw [h3.1, h2]; rfl), this⟩
          omega
def top (p : Nat → Bool) : Nat → Nat
  | 0 => 0
  | k + 1 => if p (k + 1) = true then k + 1 else top p k
theorem top_le (p : Nat → Bool) : ∀ n, top p n ≤ n
  | 0 => Nat.le_refl _
  | n + 1 => by
    have := top_le p n
    unfold top; split <;> omega
theorem top_ge {p : Nat → Bool} : ∀ {n k : Nat}, k ≤ n → p k = true → k ≤ top p n
  | 0, k, h, _ => by omega
  | n + 1, k, h, hp => by
    unfold top
    split
    · exact h
    · rename_i hn
      have : k ≠ n + 1 := fun e => hn (e ▸ hp)
      exact top_ge (by omega) hp
theorem top_has {p : Nat → Bool} (h0 : p 0 = true) : ∀ n, p (top p n) = true
  | 0 => h0
  | n + 1 => by
    unfold top
    split
    · assumption
    · exact top_has h0 n
/-- the greatest number of pairs -/
def nu (A : Nat → Nat → Bool) (S : Nat → Bool) (n : Nat) : Nat := top (fun k => decide (0 < num A n S k)) n
/-- how many matchings have it -/
def cnt (A : Nat → Nat → Bool) (S : Nat → Bool) (n : Nat) : Nat := num A n S (nu A S n)
theorem cnt_pos (hA : ∀ a b, A a b = A b a) : 0 < cnt A S n := by
  have h := top_has (p := fun k => decide (0 < num A n S k)) (by simp only [decide_eq_true_eq]; exact (num_pos hA n S 0).2 ⟨id, IsM.none _ _, cntB_zero fun i _ => cv_false.2 rfl⟩) n
  unfold cnt nu
  simpa using h
theorem num_gt (hA : ∀ a b, A a b = A b a) {k : Nat} (h : nu A S n < k) : num A n S k = 0 := by
  refine Nat.eq_zero_of_not_pos fun hp => ?_
  obtain ⟨m, _, hc⟩ := (num_pos hA n S k).1 hp
  have h1 := cntB_le (cv m) n
  have h2 : k ≤ nu A S n := top_ge (p := fun k => decide (0 < num A n S k)) (by unfold cov at hc; omega) (by simpa using hp)
  omega
theorem nu_unique (hA : ∀ a b, A a b = A b a) {k : Nat} (h1 : 0 < num A n S k) (h2 : ∀ j, k < j → num A n S j = 0) : nu A S n = k := by
  rcases Nat.lt_trichotomy (nu A S n) k with h | h | h
  · rw [num_gt hA h] at h1; omega
  · exact h
  · have := cnt_pos (S := S) (n := n) hA
    unfold cnt at this
    rw [h2 _ h] at this; omega
theorem nu_mx (hA : ∀ a b, A a b = A b a) (hS : ∀ t, S t = true → t < n) {m : Nat → Nat} (h : Mx A S n m) : cov n m = 2 * nu A S n := by
  have h1 := h.isM.even hS
  obtain ⟨k, hk⟩ : ∃ k, cov n m = 2 * k := ⟨cov n m / 2, by omega⟩
  have h2 := (num_pos hA n S k).2 ⟨m, by rw [restr_self hS]; exact h.isM, hk⟩
  have h3 : ¬ nu A S n < k := fun hh => by rw [num_gt hA hh] at h2; omega
  obtain ⟨N, hN, hc⟩ := (num_pos hA n S _).1 (cnt_pos (S := S) (n := n) hA)
  rw [restr_self hS] at hN
  have := h.most N hN
  omega
theorem mx_nu (hA : ∀ a b, A a b = A b a) (hS : ∀ t, S t = true → t < n) {m : Nat → Nat} (h : IsM A S m) (hc : cov n m = 2 * nu A S n) : Mx A S n m := by
  obtain ⟨N, hN⟩ := Mx.exists A S n
  exact hN.of_cov h (by rw [nu_mx hA hS hN]; exact hc)
theorem le_nu (hA : ∀ a b, A a b = A b a) (hS : ∀ t, S t = true → t < n) {m : Nat → Nat} (h : IsM A S m) : cov n m ≤ 2 * nu A S n := by
  obtain ⟨N, hN⟩ := Mx.exists A S n
  rw [← nu_mx hA hS hN]
  exact hN.most m h
theorem nu_le (hA : ∀ a b, A a b = A b a) (hS : ∀ t, S t = true → t < n) : 2 * nu A S n ≤ n := by
  obtain ⟨N, hN⟩ := Mx.exists A S n
  rw [← nu_mx hA hS hN]
  exact cntB_le _ _
theorem Spare.iff_nu (hA : ∀ a b, A a b = A b a) (hS : ∀ t, S t = true → t < n) {t : Nat} (ht : S t = true) : Spare A S n t ↔ nu A (less1 S t) n = nu A S n := by
  constructor
  · rintro ⟨_, m, hm, hmt⟩
    have h1 : IsM A (less1 S t) m := ⟨hm.isM.inv, fun v hv => ⟨less1_iff.2 ⟨(hm.isM.ok v hv).1, fun e => hv (by rw [e, hmt])⟩, (hm.isM.ok v hv).2⟩⟩
    have h2 := le_nu hA (less1_lt hS t) h1
    rw [nu_mx hA hS hm] at h2
    obtain ⟨N, hN⟩ := Mx.exists A (less1 S t) n
    have h3 := hm.most N hN.isM.less
    rw [nu_mx hA hS hm, nu_mx hA (less1_lt hS t) hN] at h3
    omega
  · intro h
    obtain ⟨N, hN⟩ := Mx.exists A (less1 S t) n
    refine ⟨ht, N, mx_nu hA hS hN.isM.less ?_, hN.isM.less_alone⟩
    rw [nu_mx hA (less1_lt hS t) hN, h]

/-! ### the tally -/
def addT (x y : Nat × Nat) : Nat × Nat := if x.1 < y.1 then y else if y.1 = x.1 then (x.1, x.2 + y.2) else x
def atT (k : Nat) (L : List (Nat × Nat)) : Nat := (L.map fun x => if x.1 = k then x.2 else 0).sum
theorem atT_zero {k : Nat} : ∀ {L : List (Nat × Nat)}, (∀ x ∈ L, x.1 < k) → atT k L = 0
  | [], _ => rfl
  | x :: L, h => by
    have h1 := h x (by simp)
    have h2 : atT k L = 0 := atT_zero fun y hy => h y (by simp [hy])
    show (if x.1 = k then x.2 else 0) + atT k L = 0
    rw [if_neg (by omega), h2]
theorem atT_snoc (k : Nat) (L : List (Nat × Nat)) (x : Nat × Nat) : atT k (L ++ [x]) = atT k L + if x.1 = k then x.2 else 0 := by
  unfold atT; rw [List.map_append, List.sum_append]; simp
theorem fold_addT (L : List (Nat × Nat)) : (∀ x ∈ L, x.1 ≤ (L.foldl addT (0, 0)).1) ∧ (L.foldl addT (0, 0)).2 = atT (L.foldl addT (0, 0)).1 L ∧ ((L.foldl addT (0, 0)).1 = 0 ∨ ∃ x ∈ L, x.1 = (L.foldl addT (0, 0)).1) := by
  rw [← List.reverse_reverse L]
  generalize L.reverse = M
  induction M with
  | nil => exact ⟨fun x hx => absurd hx List.not_mem_nil, rfl, .inl rfl⟩
  | cons y M ih =>
    rw [List.reverse_cons, List.foldl_append]
    obtain ⟨h1, h2, h3⟩ := ih
    obtain ⟨x, hx⟩ : ∃ x, M.reverse.foldl addT (0, 0) = x := ⟨_, rfl⟩
    rw [hx] at h1 h2 h3 ⊢
    show (∀ z ∈ M.reverse ++ [y], z.1 ≤ (addT x y).1) ∧ (addT x y).2 = atT (addT x y).1 (M.reverse ++ [y]) ∧ ((addT x y).1 = 0 ∨ ∃ z ∈ M.reverse ++ [y], z.1 = (addT x y).1)
    unfold addT
    by_cases c1 : x.1 < y.1
    · rw [if_pos c1]
      refine ⟨fun z hz => ?_, ?_, .inr ⟨y, by simp, rfl⟩⟩
      · rcases List.mem_append.1 hz with hz | hz
        · have := h1 z hz; omega
        · rw [List.mem_singleton.1 hz]; exact Nat.le_refl _
      · rw [atT_snoc, atT_zero fun z hz => by have := h1 z hz; omega, if_pos rfl, Nat.zero_add]
    · rw [if_neg c1]
      by_cases c2 : y.1 = x.1
      · rw [if_pos c2]
        refine ⟨fun z hz => ?_, ?_, ?_⟩
        · rcases List.mem_append.1 hz with hz | hz
          · exact h1 z hz
          · rw [List.mem_singleton.1 hz, c2]; exact Nat.le_refl _
        · show x.2 + y.2 = atT x.1 _
          rw [atT_snoc, if_pos c2, h2]
        · exact .inr ⟨y, by simp, c2⟩
      · rw [if_neg c2]
        refine ⟨fun z hz => ?_, ?_, ?_⟩
        · rcases List.mem_append.1 hz with hz | hz
          · exact h1 z hz
          · rw [List.mem_singleton.1 hz]; omega
        · rw [atT_snoc, if_neg c2, h2]; rfl
        · rcases h3 with h3 | ⟨z, hz, e⟩
          · exact .inl h3
          · exact .inr ⟨z, by simp [hz], e⟩
theorem atT_le (k : Nat) {B : Nat} : ∀ {L : List (Nat × Nat)}, (∀ x ∈ L, x.2 ≤ B) → atT k L ≤ L.length * B
  | [], _ => Nat.zero_le _
  | x :: L, h => by
    have h1 := atT_le k (L := L) fun y hy => h y (by simp [hy])
    have h2 := h x (by simp)
    show (if x.1 = k then x.2 else 0) + atT k L ≤ (L.length + 1) * B
    rw [Nat.succ_mul]
    split <;> omega
theorem filter_list_sum (q : Nat → Bool) (f : Nat → Nat) (n : Nat) : (((List.range n).filter q).map f).sum = si q f n := filter_sum q f n
/-- of fewer things -/
def parts (A : Nat → Nat → Bool) (S : Nat → Bool) (n t : Nat) : List (Nat × Nat) := (nu A (less1 S t) n, cnt A (less1 S t) n) :: ((List.range n).filter fun u => less1 S t u && A t u).map fun u => (nu A (less1 (less1 S t) u) n + 1, cnt A (less1 (less1 S t) u) n)
theorem parts_tally (hA : ∀ a b, A a b = A b a) (hI : ∀ a, A a a = false) {t : Nat} (ht : t < n) (hSt : S t = true) : (parts A S n t).foldl addT (0, 0) = (nu A S n, cnt A S n) := by
  obtain ⟨h1, h2, h3⟩ := fold_addT (parts A S n t)
  obtain ⟨x, hx⟩ : ∃ x, (parts A S n t).foldl addT (0, 0) = x := ⟨_, rfl⟩
  rw [hx] at h1 h2 h3 ⊢
  have hq : ∀ u, (S u && A t u) = (less1 S t u && A t u) := fun u => by
    unfold less1
    by_cases e : u = t
    · subst e; rw [hI]; simp
    · have : (u == t) = false := by simpa using e
      simp [this]
  have key : ∀ k, x.1 ≤ k → num A n S k = atT k (parts A S n t) := fun k hk => by
    rw [num_at hA hI n S t ht hSt k, si_congr (q' := fun u => less1 S t u && A t u) (f' := fun u => if nu A (less1 (less1 S t) u) n + 1 = k then cnt A (less1 (less1 S t) u) n else 0) (fun u hu => ⟨hq u, fun hqu => ?_⟩)]
    · show _ = (if nu A (less1 S t) n = k then cnt A (less1 S t) n else 0) + atT k _
      congr 1
      · have := h1 (nu A (less1 S t) n, cnt A (less1 S t) n) (by unfold parts; simp)
        split
        · rename_i e; subst e; rfl
        · exact num_gt hA (by simp only at this; omega)
      · unfold atT
        rw [List.map_map, ← filter_list_sum]
        rfl
    · have := h1 (nu A (less1 (less1 S t) u) n + 1, cnt A (less1 (less1 S t) u) n) (by
        unfold parts
        refine List.mem_cons_of_mem _ (List.mem_map.2 ⟨u, List.mem_filter.2 ⟨List.mem_range.2 hu, ?_⟩, rfl⟩)
        rw [← hq]; exact hqu)
      simp only at this
      cases k with
      | zero => omega
      | succ k =>
        show num A n (less1 (less1 S t) u) k = _
        split
        · rename_i e
          have : nu A (less1 (less1 S t) u) n = k := by omega
          subst this; rfl
        · exact num_gt hA (by omega)
  have hpos : ∀ y ∈ parts A S n t, 0 < y.2 := fun y hy => by
    unfold parts at hy
    rcases List.mem_cons.1 hy with rfl | hy
    · exact cnt_pos hA
    · obtain ⟨u, _, rfl⟩ := List.mem_map.1 hy
      exact cnt_pos hA
  have hin : ∃ y ∈ parts A S n t, y.1 = x.1 := by
    rcases h3 with h3 | h3
    · refine ⟨_, List.mem_cons_self .., ?_⟩
      have := h1 _ (by unfold parts; exact List.mem_cons_self ..)
      simp only at this ⊢
      omega
    · exact h3
  have hx2 : 0 < atT x.1 (parts A S n t) := by
    obtain ⟨y, hy, e⟩ := hin
    obtain ⟨l1, l2, hl⟩ := List.append_of_mem hy
    have := hpos y hy
    rw [hl]
    unfold atT
    rw [List.map_append, List.sum_append, List.map_cons, List.sum_cons, if_pos e]
    omega
  have e1 : nu A S n = x.1 := nu_unique hA (by rw [key _ (Nat.le_refl _)]; exact hx2) fun j hj => by
    rw [key j (by omega)]
    exact atT_zero fun y hy => by have := h1 y hy; omega
  have e2 : cnt A S n = x.2 := by unfold cnt; rw [e1, key _ (Nat.le_refl _), ← h2]
  rw [e1, e2]
def fct : Nat → Nat
  | 0 => 1
  | n + 1 => (n + 1) * fct n
theorem fct_pos : ∀ n, 0 < fct n
  | 0 => by decide
  | n + 1 => Nat.mul_pos (by omega) (fct_pos n)
theorem si_le {q : Nat → Bool} {f : Nat → Nat} {B : Nat} : ∀ {n : Nat}, (∀ u, u < n → f u ≤ B) → si q f n ≤ n * B
  | 0, _ => Nat.zero_le _
  | n + 1, h => by
    have h1 := si_le (q := q) (n := n) fun u hu => h u (by omega)
    have h2 := h n (by omega)
    rw [si_succ, Nat.succ_mul]
    split <;> omega
theorem num_le : ∀ (n : Nat) (S : Nat → Bool) (k : Nat), num A n S k ≤ fct n
  | 0, S, k => by unfold num fct; split <;> omega
  | n + 1, S, k => by
    unfold num fct
    have h1 := num_le n S k
    have h2 : si (fun u => S u && A n u) (fun u => sh (num A n (less1 S u)) k) n ≤ n * fct n := si_le fun u _ => by
      cases k with
      | zero => exact Nat.zero_le _
      | succ k => exact num_le n _ k
    rw [Nat.succ_mul]
    split <;> omega
theorem nu_other (hA : ∀ a b, A a b = A b a) {B : Nat → Nat → Bool} (hB : ∀ a b, B a b = B b a) {T : Nat → Bool} {k : Nat} (h : ∀ j, num B k T j = num A n S j) : nu B T k = nu A S n ∧ cnt B T k = cnt A S n := by
  have e : nu B T k = nu A S n := nu_unique hB (by rw [h]; exact cnt_pos hA) fun j hj => by rw [h]; exact num_gt hA hj
  exact ⟨e, by unfold cnt; rw [e, h]⟩
end
end Go.Proofs.Yteingahlmlndkaa

/-
  What is proved: plain: all pairings, thing by thing, alone or with a later one, as the definition lists them.
-/
namespace Go.Proofs.Yteingahlmlndkaa
/-- a row of a pairing whose things from i on may be open: -2 open, -1 alone -/
def rowP (m : Nat → Nat) (n i : Nat) : List Int := (List.range n).map fun v => if m v ≠ v then (m v : Int) else if v < i then -1 else -2
def stepA (A : Nat → Nat → Bool) (n i : Nat) (p : List Int) : List (List Int) :=
  if p.getD i 0 ≠ -2 then [p] else p.set i (-1) :: ((List.range n).filter fun k => decide (i < k) && (p.getD k 0 == -2 && A i k)).map fun (k : Nat) => (p.set i (k : Int)).set k (i : Int)
def allR (A : Nat → Nat → Bool) (n : Nat) : Nat → List (List Int)
  | 0 => [List.replicate n (-2)]
  | i + 1 => (allR A n i).flatMap (stepA A n i)
def candM (A : Nat → Nat → Bool) (n i : Nat) (m : Nat → Nat) : List Nat := (List.range n).filter fun k => decide (i < k) && (decide (m k = k) && A i k)
def stepM (A : Nat → Nat → Bool) (n i : Nat) (m : Nat → Nat) : List (Nat → Nat) := if m i ≠ i then [m] else m :: (candM A n i m).map fun k => swp m i k
def allM (A : Nat → Nat → Bool) (n : Nat) : Nat → List (Nat → Nat)
  | 0 => [id]
  | i + 1 => (allM A n i).flatMap (stepM A n i)
def belowN (n : Nat) : Nat → Bool := fun v => decide (v < n)
theorem belowN_lt {n t : Nat} (h : belowN n t = true) : t < n := by simpa [belowN] using h
structure Part (A : Nat → Nat → Bool) (n i : Nat) (m : Nat → Nat) : Prop where
  isM : IsM A (belowN n) m
  low : ∀ v, m v ≠ v → v < i ∨ m v < i
section
variable {A : Nat → Nat → Bool} {n i : Nat} {m : Nat → Nat}
theorem rowP_len (m : Nat → Nat) (n i : Nat) : (rowP m n i).length = n := by simp [rowP]
theorem rowP_get (m : Nat → Nat) {n v : Nat} (i : Nat) (hv : v < n) : (rowP m n i).getD v 0 = if m v ≠ v then (m v : Int) else if v < i then -1 else -2 := by
  unfold rowP
  rw [List.getD_eq_getElem?_getD, List.getElem?_map, List.getElem?_range hv]
  rfl
theorem row_ext {p q : List Int} {n : Nat} (hp : p.length = n) (hq : q.length = n) (h : ∀ v, v < n → p.getD v 0 = q.getD v 0) : p = q := by
  refine List.ext_getElem (by omega) fun v h1 h2 => ?_
  have := h v (by omega)
  rw [List.getD_eq_getElem?_getD, List.getD_eq_getElem?_getD, List.getElem?_eq_getElem h1, List.getElem?_eq_getElem h2] at this
  exact this
theorem getD_set (p : List Int) (j v : Nat) (x : Int) : (p.set j x).getD v 0 = if v = j ∧ j < p.length then x else p.getD v 0 := by
  rw [List.getD_eq_getElem?_getD, List.getElem?_set]
  by_cases e : j = v
  · subst e
    by_cases h : j < p.length
    · simp [h]
    · simp [h, List.getD_eq_getElem?_getD]
  · have : ¬ v = j := fun h => e h.symm
    simp [e, this, List.getD_eq_getElem?_getD]
theorem swp_alone {i k z : Nat} (hk : m k = k) : swp m i k z = if z = k then i else if z = i then k else m z := by
  unfold swp
  rw [hk]
  by_cases e1 : z = k
  · simp only [if_pos e1]
  · by_cases e2 : z = i
    · simp only [if_neg e1, if_pos e2]
    · simp only [if_neg e1, if_neg e2]
theorem stepA_row (hi : i < n) : stepA A n i (rowP m n i) = (stepM A n i m).map fun m' => rowP m' n (i + 1) := by
  unfold stepA stepM
  rw [rowP_get m i hi]
  by_cases h : m i = i
  · rw [if_neg (by rw [if_neg (fun hh => hh h), if_neg (Nat.lt_irrefl i)]; exact fun hh => hh rfl), if_neg (fun hh => hh h)]
    rw [List.map_cons, List.map_map]
    congr 1
    · refine row_ext (n := n) (by simp [rowP]) (rowP_len _ _ _) fun v hv => ?_
      rw [getD_set, rowP_len, rowP_get m i hv, rowP_get m (i + 1) hv]
      by_cases e : v = i
      · subst e; simp [h, hi]
      · have : (v < i + 1) ↔ v < i := by omega
        simp [e, this]
    · have e : ((List.range n).filter fun k => decide (i < k) && ((rowP m n i).getD k 0 == -2 && A i k)) = candM A n i m := by
        unfold candM
        refine List.filter_congr fun k hk => ?_
        rw [rowP_get m i (List.mem_range.1 hk)]
        by_cases e1 : i < k
        · by_cases e2 : m k = k
          · have : ¬ k < i := by omega
            simp [e1, e2, this]
          · have : ¬ (m k : Int) = -2 := by omega
            simp [e1, e2, this]
        · simp [e1]
      rw [e]
      refine List.map_congr_left fun k hk => ?_
      unfold candM at hk
      simp only [List.mem_filter, List.mem_range, Bool.and_eq_true, decide_eq_true_eq] at hk
      obtain ⟨k1, k2, k3, _⟩ := hk
      refine row_ext (n := n) (by simp [rowP]) (rowP_len _ _ _) fun v hv => ?_
      show ((((rowP m n i).set i (k : Int)).set k (i : Int))).getD v 0 = (rowP (swp m i k) n (i + 1)).getD v 0
      rw [getD_set, getD_set, List.length_set, rowP_len, rowP_get m i hv, rowP_get (swp m i k) (i + 1) hv, swp_alone k3]
      by_cases e1 : v = k
      · subst e1
        have : i ≠ v := by omega
        simp [hv, this]
      · by_cases e2 : v = i
        · subst e2
          have : k ≠ v := by omega
          simp [hi, this, e1]
        · have : (v < i + 1) ↔ v < i := by omega
          simp [e1, e2, this]
  · rw [if_pos (by rw [if_pos h]; omega), if_pos h, List.map_cons, List.map_nil]
    congr 1
    refine row_ext (rowP_len _ _ _) (rowP_len _ _ _) fun v hv => ?_
    rw [rowP_get m i hv, rowP_get m (i + 1) hv]
    by_cases e : v = i
    · subst e; simp [h]
    · have : (v < i + 1) ↔ v < i := by omega
      simp [this]
theorem allR_rows : ∀ i, i ≤ n → allR A n i = (allM A n i).map fun m => rowP m n i
  | 0, _ => by
    show [List.replicate n (-2)] = [rowP id n 0]
    congr 1
    refine row_ext (n := n) (by simp) (rowP_len _ _ _) fun v hv => ?_
    rw [rowP_get id 0 hv]
    simp [hv]
  | i + 1, h => by
    show (allR A n i).flatMap (stepA A n i) = ((allM A n i).flatMap (stepM A n i)).map _
    rw [allR_rows i (by omega), List.flatMap_map, List.map_flatMap]
    congr 1
    funext m
    exact stepA_row (by omega)
theorem mem_allM (hA : ∀ a b, A a b = A b a) : ∀ (i : Nat), i ≤ n → ∀ m, m ∈ allM A n i ↔ Part A n i m
  | 0, _, m => by
    show m ∈ [id] ↔ _
    rw [List.mem_singleton]
    constructor
    · rintro rfl; exact ⟨IsM.none _ _, fun v h => absurd rfl h⟩
    · intro h
      funext v
      exact Classical.byContradiction fun e => by rcases h.low v e with k | k <;> omega
  | i + 1, hi, m => by
    show m ∈ (allM A n i).flatMap (stepM A n i) ↔ _
    rw [List.mem_flatMap]
    constructor
    · rintro ⟨m0, h0, h⟩
      have P0 := (mem_allM hA i (by omega) m0).1 h0
      have same : Part A n (i + 1) m0 := ⟨P0.isM, fun v hv => by rcases P0.low v hv with k | k <;> omega⟩
      unfold stepM at h
      by_cases e : m0 i = i
      · rw [if_neg (fun hh => hh e)] at h
        rcases List.mem_cons.1 h with rfl | h
        · exact same
        · obtain ⟨k, hk, rfl⟩ := List.mem_map.1 h
          unfold candM at hk
          simp only [List.mem_filter, List.mem_range, Bool.and_eq_true, decide_eq_true_eq] at hk
          obtain ⟨k1, k2, k3, k4⟩ := hk
          obtain ⟨q1, _, q3⟩ := P0.isM.pair (n := n) (fun t ht => belowN_lt ht) hA e k3 (by omega : i ≠ k) (by simp [belowN]; omega) (by simp [belowN]; omega) (by rw [hA]; exact k4)
          refine ⟨q1, fun v hv => ?_⟩
          rw [swp_alone k3]
          by_cases e1 : v = k
          · rw [if_pos e1]; exact .inr (by omega)
          · by_cases e2 : v = i
            · exact .inl (by omega)
            · rw [if_neg e1, if_neg e2]
              rcases (q3 v).1 hv with k | k | k
              · rcases P0.low v k with g | g <;> omega
              · exact absurd k e2
              · exact absurd k e1
      · rw [if_pos e, List.mem_singleton] at h
        rw [h]; exact same
    · intro P
      by_cases e : m i = i
      · refine ⟨m, (mem_allM hA i (by omega) m).2 ⟨P.isM, fun v hv => ?_⟩, ?_⟩
        · have h1 : v ≠ i := fun h => hv (by rw [h, e])
          have h2 : m v ≠ i := fun h => h1 (by rw [← P.isM.inv v, h, e])
          rcases P.low v hv with k | k <;> omega
        · unfold stepM; rw [if_neg (fun hh => hh e)]; exact List.mem_cons_self ..
      · by_cases hlt : m i < i
        · refine ⟨m, (mem_allM hA i (by omega) m).2 ⟨P.isM, fun v hv => ?_⟩, ?_⟩
          · by_cases h1 : v = i
            · subst h1; exact .inr hlt
            · by_cases h2 : m v = i
              · have : v = m i := by rw [← h2, P.isM.inv]
                exact .inl (by omega)
              · rcases P.low v hv with k | k <;> omega
          · unfold stepM; rw [if_pos e]; exact List.mem_singleton.2 rfl
        · have hn := belowN_lt (P.isM.in_ e)
          refine ⟨unp m i, (mem_allM hA i (by omega) _).2 ⟨(P.isM.unp_ i).less, fun v hv => ?_⟩, ?_⟩
          · obtain ⟨g1, g2, g3⟩ := unp_key hv
            rw [g3] at hv ⊢
            have h2 : m v ≠ i := fun h => g2 (by rw [← h, P.isM.inv])
            rcases P.low v hv with k | k <;> omega
          · unfold stepM
            rw [if_neg (fun hh => hh (rem_self m i))]
            refine List.mem_cons_of_mem _ (List.mem_map.2 ⟨m i, ?_, ?_⟩)
            · unfold candM
              simp only [List.mem_filter, List.mem_range, Bool.and_eq_true, decide_eq_true_eq]
              exact ⟨hn, by omega, rem_mate m i, (P.isM.ok i e).2⟩
            · funext v
              rw [swp_alone (rem_mate m i)]
              by_cases e1 : v = m i
              · rw [if_pos e1, e1, P.isM.inv]
              · by_cases e2 : v = i
                · rw [if_neg e1, if_pos e2, e2]
                · rw [if_neg e1, if_neg e2, rem_other e2 e1]
theorem mem_all (hA : ∀ a b, A a b = A b a) : m ∈ allM A n n ↔ IsM A (belowN n) m :=
  (mem_allM hA n (Nat.le_refl n) m).trans ⟨fun h => h.isM, fun h => ⟨h, fun v hv => .inl (belowN_lt (h.ok v hv).1)⟩⟩

/-! ### how many -/
def freeM (n i : Nat) (m : Nat → Nat) : Nat → Bool := fun v => decide (i ≤ v) && (decide (v < n) && decide (m v = v))
def wgt (A : Nat → Nat → Bool) (n i k : Nat) (m : Nat → Nat) : Nat := if cov n m ≤ 2 * k then num A n (freeM n i m) (k - cov n m / 2) else 0
theorem sum_flatMap {α β : Type} (f : α → List β) (g : β → Nat) : ∀ l : List α, ((l.flatMap f).map g).sum = (l.map fun x => ((f x).map g).sum).sum
  | [] => rfl
  | x :: l => by rw [List.flatMap_cons, List.map_append, List.sum_append, sum_flatMap f g l, List.map_cons, List.sum_cons]
theorem wgt_step (hA : ∀ a b, A a b = A b a) (hI : ∀ a, A a a = false) (hi : i < n) (P : Part A n i m) (k : Nat) : ((stepM A n i m).map (wgt A n (i + 1) k)).sum = wgt A n i k m := by
  unfold stepM
  by_cases e : m i = i
  · rw [if_neg (fun hh => hh e), List.map_cons, List.sum_cons, List.map_map]
    have hf : freeM n i m i = true := by simp [freeM, hi, e]
    have f1 : freeM n (i + 1) m = less1 (freeM n i m) i := by
      funext v
      unfold freeM less1
      by_cases h1 : v = i
      · subst h1
        have : ¬ v + 1 ≤ v := by omega
        simp [this]
      · have h2 : (i + 1 ≤ v) ↔ i ≤ v := by omega
        have h3 : (v == i) = false := by simpa using h1
        simp [h2, h3]
    have f2 : ∀ u, m u = u → freeM n (i + 1) (swp m i u) = less1 (less1 (freeM n i m) i) u := fun u hu => by
      rw [← f1]
      funext v
      unfold freeM less1
      rw [swp_alone hu]
      by_cases h1 : v = u
      · subst h1
        by_cases h2 : i = v
        · have : ¬ i + 1 ≤ i := by omega
          simp [← h2, this]
        · simp [h2]
      · have h3 : (v == u) = false := by simpa using h1
        by_cases h2 : v = i
        · have : ¬ i + 1 ≤ i := by omega
          simp [h2, this]
        · simp [h1, h2, h3]
    have hev := P.isM.even (n := n) fun t ht => belowN_lt ht
    have hc : ∀ u, i < u → u < n → m u = u → A i u = true → cov n (swp m i u) = cov n m + 2 := fun u h1 h2 h3 h4 =>
      (P.isM.pair (n := n) (fun t ht => belowN_lt ht) hA e h3 (by omega : i ≠ u) (by simp [belowN]; omega) (by simp [belowN]; omega) (by rw [hA]; exact h4)).2.1
    have hsum : ((candM A n i m).map (wgt A n (i + 1) k ∘ fun u => swp m i u)).sum = if cov n m ≤ 2 * k then si (fun u => freeM n i m u && A i u) (fun u => sh (num A n (less1 (less1 (freeM n i m) i) u)) (k - cov n m / 2)) n else 0 := by
      unfold candM
      rw [filter_list_sum]
      by_cases hle : cov n m ≤ 2 * k
      · rw [if_pos hle]
        refine si_congr fun u hu => ⟨?_, fun hq => ?_⟩
        · unfold freeM
          by_cases h1 : u = i
          · subst h1; simp [hI]
          · have h2 : (i < u) ↔ i ≤ u := by omega
            simp only [h2, hu, decide_true, Bool.true_and]
            rw [Bool.and_assoc]
        · simp only [Bool.and_eq_true, decide_eq_true_eq] at hq
          show wgt A n (i + 1) k (swp m i u) = _
          unfold wgt
          rw [hc u hq.1 hu hq.2.1 hq.2.2, f2 u hq.2.1]
          by_cases h3 : cov n m + 2 ≤ 2 * k
          · rw [if_pos h3]
            obtain ⟨j, hj⟩ : ∃ j, k - cov n m / 2 = j + 1 := ⟨k - cov n m / 2 - 1, by omega⟩
            rw [hj, show k - (cov n m + 2) / 2 = j by omega]
            rfl
          · rw [if_neg h3, show k - cov n m / 2 = 0 by omega]
            rfl
      · rw [if_neg hle]
        refine si_zero fun u hu hq => ?_
        simp only [Bool.and_eq_true, decide_eq_true_eq] at hq
        show wgt A n (i + 1) k (swp m i u) = 0
        unfold wgt
        rw [hc u hq.1 hu hq.2.1 hq.2.2, if_neg (by omega)]
    rw [hsum]
    unfold wgt
    by_cases hle : cov n m ≤ 2 * k
    · rw [if_pos hle, if_pos hle, if_pos hle, f1, num_at hA hI n (freeM n i m) i hi hf]
    · rw [if_neg hle, if_neg hle, if_neg hle]
  · rw [if_pos e, List.map_cons, List.map_nil, List.sum_cons, List.sum_nil, Nat.add_zero]
    have f1 : freeM n (i + 1) m = freeM n i m := by
      funext v
      unfold freeM
      by_cases h1 : v = i
      · subst h1; simp [e]
      · have h2 : (i + 1 ≤ v) ↔ i ≤ v := by omega
        simp [h2]
    unfold wgt
    rw [f1]
theorem wgt_sum (hA : ∀ a b, A a b = A b a) (hI : ∀ a, A a a = false) (k : Nat) : ∀ i, i ≤ n → ((allM A n i).map (wgt A n i k)).sum = num A n (belowN n) k
  | 0, _ => by
    show ([id].map (wgt A n 0 k)).sum = _
    rw [List.map_cons, List.map_nil, List.sum_cons, List.sum_nil, Nat.add_zero]
    unfold wgt
    have : cov n id = 0 := cntB_zero fun i _ => cv_false.2 rfl
    rw [this, if_pos (by omega)]
    congr 1
    funext v
    simp [freeM, belowN]
  | i + 1, h => by
    show (((allM A n i).flatMap (stepM A n i)).map _).sum = _
    rw [sum_flatMap, ← wgt_sum hA hI k i (by omega)]
    congr 1
    exact List.map_congr_left fun m hm => wgt_step hA hI (by omega) ((mem_allM hA i (by omega) m).1 hm) k
theorem all_count (hA : ∀ a b, A a b = A b a) (hI : ∀ a, A a a = false) (k : Nat) : ((allM A n n).filter fun m => decide (cov n m = 2 * k)).length = num A n (belowN n) k := by
  rw [← wgt_sum hA hI k n (Nat.le_refl n)]
  have key : ∀ l : List (Nat → Nat), (∀ m ∈ l, IsM A (belowN n) m) → (l.filter fun m => decide (cov n m = 2 * k)).length = (l.map (wgt A n n k)).sum := by
    intro l
    induction l with
    | nil => intro _; rfl
    | cons m l ih =>
      intro h
      have h1 := ih fun x hx => h x (List.mem_cons_of_mem _ hx)
      have hev := (h m (by simp)).even (n := n) fun t ht => belowN_lt ht
      have hnum : ∀ j, num A n (freeM n n m) j = if j = 0 then 1 else 0 := fun j => by
        have : ∀ N, (∀ x, x < N → freeM n n m x = false) → num A N (freeM n n m) j = num A 0 (freeM n n m) j := fun N => by
          induction N with
          | zero => intro _; rfl
          | succ N ih => intro h; rw [num_out (h N (by omega)), ih fun x hx => h x (by omega)]
        rw [this n fun x hx => by
          have : ¬ n ≤ x := by omega
          simp [freeM, this]]
        rfl
      rw [List.map_cons, List.sum_cons, ← h1]
      unfold wgt
      by_cases e : cov n m = 2 * k
      · rw [List.filter_cons_of_pos (by simpa using e), if_pos (by omega), hnum, if_pos (by omega), List.length_cons]; omega
      · rw [List.filter_cons_of_neg (by simpa using e)]
        by_cases h2 : cov n m ≤ 2 * k
        · rw [if_pos h2, hnum, if_neg (by omega)]; omega
        · rw [if_neg h2]; omega
  exact key _ fun m hm => (mem_all hA).1 hm
/-- pairs, by their lesser things -/
theorem pairs_cov (hm : IsM A (belowN n) m) : 2 * cntB (fun v => decide (v < m v)) n = cov n m := by
  have h1 : cntB (fun v => decide (v < m v)) n = cntB (fun v => decide (m v < v)) n := by
    refine Nat.le_antisymm ?_ ?_
    · refine cntB_inj (n := n) m n _ _ (fun v hv h => ?_) fun v w _ _ _ _ e => hm.inj e
      simp only [decide_eq_true_eq] at h ⊢
      exact ⟨belowN_lt (hm.in_ (by omega)), by rw [hm.inv]; exact h⟩
    · refine cntB_inj (n := n) m n _ _ (fun v hv h => ?_) fun v w _ _ _ _ e => hm.inj e
      simp only [decide_eq_true_eq] at h ⊢
      exact ⟨by omega, by rw [hm.inv]; exact h⟩
  have h2 := cntB_or (p := fun v => decide (v < m v)) (q := fun v => decide (m v < v)) (n := n) fun i _ h => by simp only [decide_eq_true_eq, decide_eq_false_iff_not] at h ⊢; omega
  have h3 : cntB (fun v => decide (v < m v) || decide (m v < v)) n = cov n m := cntB_congr fun i _ => by
    unfold cv
    rw [Bool.eq_iff_iff]
    simp only [Bool.or_eq_true, decide_eq_true_eq]
    omega
  omega
end
end Go.Proofs.Yteingahlmlndkaa

/-
  What is proved: plain: kinds of things and of pairs; when there is just one best pairing.
-/
namespace Go.Proofs.Yteingahlmlndkaa
section
variable {A : Nat → Nat → Bool} {S : Nat → Bool} {n : Nat} {m : Nat → Nat}
/-- two different ones -/
theorem num_two (hA : ∀ a b, A a b = A b a) : ∀ (i : Nat) (S : Nat → Bool) (k : Nat), 2 ≤ num A i S k → ∃ m m', m ≠ m' ∧ (IsM A (restr i S) m ∧ cov i m = 2 * k) ∧ IsM A (restr i S) m' ∧ cov i m' = 2 * k
  | 0, S, k, h => by
    unfold num at h
    split at h <;> omega
  | i + 1, S, k, h => by
    have hout : ∀ {T m}, IsM A (restr i T) m → m i = i := fun {T m} hm => Classical.byContradiction fun e => by have := (restr_iff.1 (hm.ok i e).1).2; omega
    have hup : ∀ {m}, IsM A (restr i S) m ∧ cov i m = 2 * k → IsM A (restr (i + 1) S) m ∧ cov (i + 1) m = 2 * k := fun {m} ⟨hm, hc⟩ =>
      ⟨hm.mono (fun _ _ e => e) fun t h => restr_iff.2 ⟨(restr_iff.1 h).1, by have := (restr_iff.1 h).2; omega⟩, by rw [cov_succ, hout hm, if_neg (fun hh => hh rfl)]; exact hc⟩
    unfold num at h
    by_cases h1 : 2 ≤ num A i S k
    · obtain ⟨m, m', h2, h3, h4⟩ := num_two hA i S k h1
      exact ⟨m, m', h2, hup h3, hup h4⟩
    · by_cases hSi : S i = true
      · rw [if_pos hSi] at h
        have h9 : 0 < si (fun u => S u && A i u) (fun u => sh (num A i (less1 S u)) k) i := by omega
        have more : ∀ u, u < i → (S u && A i u) = true → ∀ j, k = j + 1 → ∀ m, IsM A (restr i (less1 S u)) m → cov i m = 2 * j → (IsM A (restr (i + 1) S) (swp m i u) ∧ cov (i + 1) (swp m i u) = 2 * k) ∧ swp m i u i = u ∧ m u = u := fun u hu hq j hj m hm hc => by
          simp only [Bool.and_eq_true] at hq
          have hmu : m u = u := Classical.byContradiction fun e => (less1_iff.1 (restr_iff.1 (hm.ok u e).1).1).2 rfl
          have hm2 : IsM A (restr (i + 1) S) m := hm.mono (fun _ _ e => e) fun t h => restr_iff.2 ⟨(less1_iff.1 (restr_iff.1 h).1).1, by have := (restr_iff.1 h).2; omega⟩
          obtain ⟨q1, q2, _⟩ := hm2.pair (n := i + 1) (fun t h => (restr_iff.1 h).2) hA (hout hm) hmu (by omega : i ≠ u) (restr_iff.2 ⟨hSi, by omega⟩) (restr_iff.2 ⟨hq.1, by omega⟩) (by rw [hA]; exact hq.2)
          refine ⟨⟨q1, ?_⟩, ?_, hmu⟩
          · rw [q2, cov_succ, hout hm, if_neg (fun hh => hh rfl)]; omega
          · rw [swp_alone hmu, if_neg (by omega), if_pos rfl]
        obtain ⟨j, hj⟩ : ∃ j, k = j + 1 := by
          cases k with
          | zero => exact absurd h9 (by rw [si_zero (q := fun u => S u && A i u) (f := fun u => sh (num A i (less1 S u)) 0) (n := i) fun _ _ _ => rfl]; exact Nat.lt_irrefl 0)
          | succ k => exact ⟨k, rfl⟩
        obtain ⟨u, hu, hq, hf⟩ := si_pos.1 h9
        replace hq : (S u && A i u) = true := hq
        replace hf : 0 < sh (num A i (less1 S u)) k := hf
        by_cases h5 : 0 < num A i S k
        · obtain ⟨m, hm⟩ := (num_pos hA i S k).1 h5
          rw [hj] at hf
          obtain ⟨m', hm', hc'⟩ := (num_pos hA i (less1 S u) j).1 hf
          obtain ⟨g1, g2, _⟩ := more u hu hq j hj m' hm' hc'
          refine ⟨m, swp m' i u, fun e => ?_, hup hm, g1⟩
          rw [← e, hout hm.1] at g2; omega
        · by_cases h6 : 2 ≤ sh (num A i (less1 S u)) k
          · rw [hj] at h6
            obtain ⟨m, m', h2, h3, h4⟩ := num_two hA i (less1 S u) j h6
            obtain ⟨g1, g2, g3⟩ := more u hu hq j hj m h3.1 h3.2
            obtain ⟨g1', g2', g3'⟩ := more u hu hq j hj m' h4.1 h4.2
            refine ⟨_, _, fun e => h2 ?_, g1, g1'⟩
            funext v
            by_cases e1 : v = u
            · rw [e1, g3, g3']
            · by_cases e2 : v = i
              · rw [e2, hout h3.1, hout h4.1]
              · have := congrFun e v
                rw [swp_alone g3, swp_alone g3', if_neg e1, if_neg e2, if_neg e1, if_neg e2] at this
                exact this
          · rw [si_split _ _ hu] at h
            have h7 : (if (S u && A i u) = true then sh (num A i (less1 S u)) k else 0) = 1 := by rw [if_pos hq]; omega
            have h8 : 0 < si (fun w => (S w && A i w) && !(w == u)) (fun u => sh (num A i (less1 S u)) k) i := by omega
            obtain ⟨w, hw, hqw, hfw⟩ := si_pos.1 h8
            replace hqw : ((S w && A i w) && !(w == u)) = true := hqw
            replace hfw : 0 < sh (num A i (less1 S w)) k := hfw
            rw [Bool.and_eq_true, Bool.not_eq_true', beq_eq_false_iff_ne] at hqw
            rw [hj] at hf hfw
            obtain ⟨m, hm, hc⟩ := (num_pos hA i (less1 S u) j).1 hf
            obtain ⟨m', hm', hc'⟩ := (num_pos hA i (less1 S w) j).1 hfw
            obtain ⟨g1, g2, _⟩ := more u hu hq j hj m hm hc
            obtain ⟨g1', g2', _⟩ := more w hw hqw.1 j hj m' hm' hc'
            refine ⟨_, _, fun e => hqw.2 ?_, g1, g1'⟩
            rw [← g2', ← e, g2]
      · rw [if_neg hSi] at h; omega
theorem two_num (hA : ∀ a b, A a b = A b a) : ∀ (i : Nat) (S : Nat → Bool) (k : Nat) (m m' : Nat → Nat), m ≠ m' → IsM A (restr i S) m ∧ cov i m = 2 * k → IsM A (restr i S) m' ∧ cov i m' = 2 * k → 2 ≤ num A i S k
  | 0, S, k, m, m', hne, ⟨hm, _⟩, ⟨hm', _⟩ => by
    refine absurd (funext fun v => ?_) hne
    have h1 : m v = v := Classical.byContradiction fun e => by have := (restr_iff.1 (hm.ok v e).1).2; omega
    have h2 : m' v = v := Classical.byContradiction fun e => by have := (restr_iff.1 (hm'.ok v e).1).2; omega
    rw [h1, h2]
  | i + 1, S, k, m, m', hne, hm, hm' => by
    have low : ∀ {m}, IsM A (restr (i + 1) S) m ∧ cov (i + 1) m = 2 * k → m i = i → IsM A (restr i S) m ∧ cov i m = 2 * k := fun {m} ⟨hm, hc⟩ e => by
      rw [cov_succ, if_neg (fun hh => hh e)] at hc
      refine ⟨⟨hm.inv, fun t ht => ?_⟩, by omega⟩
      obtain ⟨h1, h2⟩ := hm.ok t ht
      obtain ⟨h3, h4⟩ := restr_iff.1 h1
      have : t ≠ i := fun e' => ht (by rw [e', e])
      exact ⟨restr_iff.2 ⟨h3, by omega⟩, h2⟩
    have high : ∀ {m}, IsM A (restr (i + 1) S) m ∧ cov (i + 1) m = 2 * k → m i ≠ i → ∃ j, k = j + 1 ∧ S i = true ∧ m i < i ∧ (S (m i) && A i (m i)) = true ∧ IsM A (restr i (less1 S (m i))) (unp m i) ∧ cov i (unp m i) = 2 * j := fun {m} ⟨hm, hc⟩ hmi => by
      obtain ⟨h1, h2⟩ := hm.ok i hmi
      have h3 := restr_iff.1 (hm.in_ hmi)
      have hlt1 : m i < i := by have := h3.2; omega
      have hc2 := cov_unp (n := i + 1) (fun t h => (restr_iff.1 h).2) hm hmi
      have hcu : cov (i + 1) (unp m i) = cov i (unp m i) := by rw [cov_succ, rem_self, if_neg (fun hh => hh rfl)]; rfl
      refine ⟨k - 1, by omega, (restr_iff.1 h1).1, hlt1, by rw [h3.1, h2]; rfl, ⟨unp_inv hm.inv i, fun t ht => ?_⟩, by omega⟩
      obtain ⟨g1, g2, g3⟩ := unp_key ht
      rw [g3] at ht ⊢
      obtain ⟨k1, k2⟩ := hm.ok t ht
      obtain ⟨k3, k4⟩ := restr_iff.1 k1
      exact ⟨restr_iff.2 ⟨less1_iff.2 ⟨k3, g2⟩, by omega⟩, k2⟩
    unfold num
    by_cases e : m i = i
    · by_cases e' : m' i = i
      · have := two_num hA i S k m m' hne (low hm e) (low hm' e')
        omega
      · obtain ⟨j, h1, h2, h3, h4, h5⟩ := high hm' e'
        have a := (num_pos hA i S k).2 ⟨m, low hm e⟩
        have b := (num_pos hA i _ j).2 ⟨_, h5⟩
        rw [if_pos h2, h1]
        have := (si_pos (q := fun u => S u && A i u) (f := fun u => sh (num A i (less1 S u)) (j + 1)) (n := i)).2 ⟨m' i, h3, h4, b⟩
        rw [h1] at a
        omega
    · obtain ⟨j, h1, h2, h3, h4, h5⟩ := high hm e
      by_cases e' : m' i = i
      · have a := (num_pos hA i S k).2 ⟨m', low hm' e'⟩
        have b := (num_pos hA i _ j).2 ⟨_, h5⟩
        rw [if_pos h2, h1]
        have := (si_pos (q := fun u => S u && A i u) (f := fun u => sh (num A i (less1 S u)) (j + 1)) (n := i)).2 ⟨m i, h3, h4, b⟩
        rw [h1] at a
        omega
      · obtain ⟨j', h1', h2', h3', h4', h5'⟩ := high hm' e'
        have hjj : j' = j := by omega
        subst hjj
        rw [if_pos h2, h1, si_split _ _ h3, if_pos h4]
        show 2 ≤ num A i S (j' + 1) + (num A i (less1 S (m i)) j' + _)
        by_cases hu : m i = m' i
        · have : unp m i ≠ unp m' i := fun hh => hne (funext fun v => by
            have h9 := congrFun hh v
            by_cases q1 : v = i
            · rw [q1, hu]
            · by_cases q2 : v = m i
              · rw [q2, hm.1.inv, hu, hm'.1.inv]
              · rw [rem_other q1 q2, rem_other q1 (by rw [← hu]; exact q2)] at h9
                exact h9)
          have := two_num hA i (less1 S (m i)) j' (unp m i) (unp m' i) this h5 (by rw [hu]; exact h5')
          omega
        · have a := (num_pos hA i _ j').2 ⟨_, h5⟩
          have b := (num_pos hA i _ j').2 ⟨_, h5'⟩
          have := (si_pos (q := fun w => (S w && A i w) && !(w == m i)) (f := fun u => sh (num A i (less1 S u)) (j' + 1)) (n := i)).2 ⟨m' i, h3', by
            show ((S (m' i) && A i (m' i)) && !(m' i == m i)) = true
            rw [h4', Bool.true_and, Bool.not_eq_true', beq_eq_false_iff_ne]
            exact Ne.symm hu, b⟩
          omega
/-- one comes to a thing that has a mate -/
theorem cov_swap (hS : ∀ t, S t = true → t < n) (hA : ∀ a b, A a b = A b a) (h : IsM A S m) {e a : Nat} (h1 : m e = e) (h2 : m a ≠ a) (hLe : S e = true) (hAe : A a e = true) : IsM A S (swp m e a) ∧ cov n (swp m e a) = cov n m ∧ swp m e a e = a := by
  have hne : e ≠ a := fun hh => h2 (by rw [← hh, h1])
  have hLa := (h.ok a h2).1
  obtain ⟨g1, g2⟩ := h.swp_ hA h1 hne hLe hLa hAe
  have hem : e ≠ m a := fun hh => hne (by rw [← h.inv a, ← hh, h1])
  refine ⟨g1, ?_, by unfold swp; rw [if_neg hne, if_pos rfl]⟩
  have a1 : cntB (cv (swp m e a)) n = cntB (fun v => cv m v && !(v == m a)) n + 1 := by
    refine cntB_one (hS e hLe) (cv_iff.2 ((g2 e).2 (.inr (.inl rfl)))) (by simp [cv_false.2 h1]) fun i _ hi => ?_
    have key : cv (swp m e a) i = true ↔ (cv m i && !(i == m a)) = true := by
      rw [cv_iff, g2]
      simp only [Bool.and_eq_true, Bool.not_eq_true', beq_eq_false_iff_ne, cv_iff]
      constructor
      · rintro (k | k | k)
        · subst k; exact ⟨h2, Ne.symm h2⟩
        · exact absurd k hi
        · exact k
      · intro k; exact .inr (.inr k)
    cases e2 : cv (swp m e a) i <;> cases e3 : (cv m i && !(i == m a)) <;> simp_all
  have b1 := cntB_less (p := cv m) (hS _ (h.in_ h2)) (cv_iff.2 (h.ne h2))
  unfold cov
  omega
/-- a thing that may stay alone, and suits another one, may have a mate -/
theorem Spare.mate (hS : ∀ t, S t = true → t < n) (hA : ∀ a b, A a b = A b a) {t u : Nat} (h : Spare A S n t) (hu : S u = true) (hne : t ≠ u) (hAtu : A t u = true) : ∃ m, Mx A S n m ∧ m t ≠ t := by
  obtain ⟨ht, m, hm, hmt⟩ := h
  by_cases hmu : m u = u
  · obtain ⟨q1, q2, _⟩ := hm.isM.pair hS hA hmt hmu hne ht hu (by rw [hA]; exact hAtu)
    have := hm.most _ q1
    omega
  · obtain ⟨q1, q2, q3⟩ := cov_swap hS hA hm.isM hmt hmu ht (by rw [hA]; exact hAtu)
    exact ⟨_, hm.of_cov q1 q2, by rw [q3]; exact hne.symm⟩
/-- a pair that some best pairing has -/
theorem pair_may (hS : ∀ t, S t = true → t < n) (hA : ∀ a b, A a b = A b a) {x y : Nat} (hx : S x = true) (hy : S y = true) (hne : x ≠ y) (hxy : A x y = true) : (∃ m, Mx A S n m ∧ m x = y) ↔ nu A (less1 (less1 S x) y) n + 1 = nu A S n := by
  have hlt : ∀ v, less1 (less1 S x) y v = true → v < n := fun v hv => hS v (less1_iff.1 (less1_iff.1 hv).1).1
  constructor
  · rintro ⟨m, hm, e⟩
    have hmx : m x ≠ x := by rw [e]; exact hne.symm
    have h1 : IsM A (less1 (less1 S x) y) (unp m x) := ⟨unp_inv hm.isM.inv x, fun v hv => by
      obtain ⟨g1, g2, g3⟩ := unp_key hv
      rw [g3] at hv ⊢
      rw [e] at g2
      exact ⟨less1_iff.2 ⟨less1_iff.2 ⟨(hm.isM.ok v hv).1, g1⟩, g2⟩, (hm.isM.ok v hv).2⟩⟩
    have h2 := cov_unp hS hm.isM hmx
    have h3 := le_nu hA hlt h1
    have h4 := nu_mx hA hS hm
    obtain ⟨N, hN⟩ := Mx.exists A (less1 (less1 S x) y) n
    have h5 := nu_mx hA hlt hN
    have nx : N x = x := Classical.byContradiction fun h => (less1_iff.1 (less1_iff.1 (hN.isM.ok x h).1).1).2 rfl
    have ny : N y = y := Classical.byContradiction fun h => (less1_iff.1 (hN.isM.ok y h).1).2 rfl
    obtain ⟨q1, q2, _⟩ := hN.isM.less.less.pair hS hA nx ny hne hx hy (by rw [hA]; exact hxy)
    have := hm.most _ q1
    omega
  · intro h
    obtain ⟨N, hN⟩ := Mx.exists A (less1 (less1 S x) y) n
    have h5 := nu_mx hA hlt hN
    have nx : N x = x := Classical.byContradiction fun h => (less1_iff.1 (less1_iff.1 (hN.isM.ok x h).1).1).2 rfl
    have ny : N y = y := Classical.byContradiction fun h => (less1_iff.1 (hN.isM.ok y h).1).2 rfl
    obtain ⟨q1, q2, _⟩ := hN.isM.less.less.pair hS hA nx ny hne hx hy (by rw [hA]; exact hxy)
    exact ⟨_, mx_nu hA hS q1 (by omega), by rw [swp_alone ny, if_neg hne, if_pos rfl]⟩
/-- two things do not suit each other -/
def delE (A : Nat → Nat → Bool) (x y : Nat) : Nat → Nat → Bool := fun a b => A a b && !((a == x && b == y) || (a == y && b == x))
theorem delE_symm (hA : ∀ a b, A a b = A b a) (x y : Nat) : ∀ a b, delE A x y a b = delE A x y b a := fun a b => by
  unfold delE
  rw [hA a b]
  cases A b a <;> cases (a == x) <;> cases (b == y) <;> cases (a == y) <;> cases (b == x) <;> rfl
theorem delE_sub {x y a b : Nat} (h : delE A x y a b = true) : A a b = true := by
  unfold delE at h
  rw [Bool.and_eq_true] at h
  exact h.1
/-- a pair that all best pairings have -/
theorem pair_always (hS : ∀ t, S t = true → t < n) (hA : ∀ a b, A a b = A b a) {x y : Nat} (hx : x ≠ y) : (∀ m, Mx A S n m → m x = y) ↔ nu (delE A x y) S n < nu A S n := by
  constructor
  · intro h
    obtain ⟨N, hN⟩ := Mx.exists (delE A x y) S n
    have h1 : IsM A S N := hN.isM.mono (fun _ _ => delE_sub) fun _ e => e
    have h2 := le_nu hA hS h1
    have h3 := nu_mx (delE_symm hA x y) hS hN
    refine Nat.lt_of_le_of_ne (by omega) fun e => ?_
    have h4 := h N (mx_nu hA hS h1 (by omega))
    have h5 := (hN.isM.ok x (by rw [h4]; exact hx.symm)).2
    rw [h4] at h5
    unfold delE at h5
    simp at h5
  · intro h m hm
    refine Classical.byContradiction fun hne => ?_
    have h1 : IsM (delE A x y) S m := ⟨hm.isM.inv, fun t ht => by
      obtain ⟨g1, g2⟩ := hm.isM.ok t ht
      refine ⟨g1, ?_⟩
      unfold delE
      rw [g2, Bool.true_and, Bool.not_eq_true', Bool.or_eq_false_iff]
      constructor
      · rw [Bool.and_eq_false_iff]
        by_cases e : t = x
        · subst e; exact .inr (by simpa using hne)
        · exact .inl (by simpa using e)
      · rw [Bool.and_eq_false_iff]
        by_cases e : t = y
        · refine .inr ?_
          rw [beq_eq_false_iff_ne]
          intro e2
          exact hne (by rw [← e2, hm.isM.inv, e])
        · exact .inl (by simpa using e)⟩
    have h2 := le_nu (delE_symm hA x y) hS h1
    have h3 := nu_mx hA hS hm
    omega
/-- just one best pairing: each pair is in all of them, or in none -/
theorem cnt_one (hS : ∀ t, S t = true → t < n) (hA : ∀ a b, A a b = A b a) : cnt A S n = 1 ↔ ∀ x y, (∃ m, Mx A S n m ∧ m x = y) → x ≠ y → ∀ m, Mx A S n m → m x = y := by
  have hpos := cnt_pos (S := S) (n := n) hA
  constructor
  · rintro h x y ⟨m, hm, e⟩ _ m' hm'
    refine Classical.byContradiction fun hne => ?_
    have h1 := nu_mx hA hS hm
    have h2 := nu_mx hA hS hm'
    have h3 := hm.isM
    have h4 := hm'.isM
    rw [← restr_self hS] at h3 h4
    have := two_num hA n S (nu A S n) m m' (fun e9 => hne (by rw [← e9]; exact e)) ⟨h3, h1⟩ ⟨h4, h2⟩
    unfold cnt at h
    omega
  · intro h
    refine Nat.le_antisymm (Nat.not_lt.1 fun h2 => ?_) hpos
    obtain ⟨m, m', h3, ⟨h4, h5⟩, h6, h7⟩ := num_two hA n S _ h2
    rw [restr_self hS] at h4 h6
    have hm := mx_nu hA hS h4 h5
    have hm' := mx_nu hA hS h6 h7
    refine h3 (funext fun v => ?_)
    by_cases e : m v = v
    · by_cases e' : m' v = v
      · rw [e, e']
      · have := h v (m' v) ⟨m', hm', rfl⟩ (Ne.symm e') m hm
        exact this
    · exact (h v (m v) ⟨m, hm, rfl⟩ (Ne.symm e) m' hm').symm
end
end Go.Proofs.Yteingahlmlndkaa

/-
  What is proved: stocks of layer 8, as numbers, and how they lie in memory.
-/
namespace Go.Proofs.Yteingahlmlndkaa
open Go.RowKit

/-- a stock: things (kind, weight, grain), kinds that go together, by how much weights may differ -/
structure Stk where
  nt : Nat
  nm : Nat
  wide : Int
  tk : Nat → Int
  tw : Nat → Int
  tg : Nat → Int
  ma : Nat → Int
  mb : Nat → Int
def outB (lo hi n : Int) : Bool := decide (n < lo) || decide (hi < n)
theorem outB_iff (lo hi n : Int) : outB lo hi n = true ↔ n < lo ∨ hi < n := by simp [outB]
def Stk.badT (s : Stk) (i : Nat) : Bool := outB 0 9 (s.tk i) || outB 0 9 (s.tg i) || outB 0 10000 (s.tw i)
def Stk.badM (s : Stk) (i : Nat) : Bool := outB 0 9 (s.ma i) || outB 0 9 (s.mb i)
/-- its error: 0 if it is valid -/
def Stk.check (s : Stk) : Nat :=
  if 16 < s.nt ∨ 20 < s.nm then 6 else if (List.range s.nt).any s.badT = true then 3 else if ((List.range s.nm).any s.badM || outB 0 10000 s.wide) = true then 2 else 0
/-- two kinds go together -/
def Stk.goes (s : Stk) (a b : Int) : Bool := (List.range s.nm).any fun i => (decide (s.ma i = a) && decide (s.mb i = b)) || (decide (s.ma i = b) && decide (s.mb i = a))
/-- two things suit each other -/
def Stk.suits (s : Stk) (i k : Nat) : Bool := !decide (i = k) && (decide (s.tw i - s.tw k ≤ s.wide) && decide (s.tw k - s.tw i ≤ s.wide)) && (decide (s.tg i = s.tg k) || decide (s.tg i = 0) || decide (s.tg k = 0)) && s.goes (s.tk i) (s.tk k)
def Stk.adj (s : Stk) (i k : Nat) : Bool := decide (i < s.nt) && decide (k < s.nt) && s.suits i k
structure Stk.Ok (s : Stk) : Prop where
  n16 : s.nt ≤ 16
  m20 : s.nm ≤ 20
  tk : ∀ i, i < s.nt → 0 ≤ s.tk i ∧ s.tk i ≤ 9
  tg : ∀ i, i < s.nt → 0 ≤ s.tg i ∧ s.tg i ≤ 9
  tw : ∀ i, i < s.nt → 0 ≤ s.tw i ∧ s.tw i ≤ 10000
  ma : ∀ i, i < s.nm → 0 ≤ s.ma i ∧ s.ma i ≤ 9
  mb : ∀ i, i < s.nm → 0 ≤ s.mb i ∧ s.mb i ≤ 9
  wide : 0 ≤ s.wide ∧ s.wide ≤ 10000
theorem Stk.ok_iff (s : Stk) : s.check = 0 ↔ s.Ok := by
  unfold Stk.check
  constructor
  · intro h
    by_cases h1 : 16 < s.nt ∨ 20 < s.nm
    · rw [if_pos h1] at h; cases h
    · rw [if_neg h1] at h
      by_cases h2 : (List.range s.nt).any s.badT = true
      · rw [if_pos h2] at h; cases h
      · rw [if_neg h2] at h
        by_cases h3 : ((List.range s.nm).any s.badM || outB 0 10000 s.wide) = true
        · rw [if_pos h3] at h; cases h
        · simp only [Bool.not_eq_true, List.any_eq_false, List.mem_range, Bool.or_eq_false_iff, Stk.badT, Stk.badM, outB, decide_eq_false_iff_not] at h2 h3
          refine ⟨by omega, by omega, fun i hi => ?_, fun i hi => ?_, fun i hi => ?_, fun i hi => ?_, fun i hi => ?_, ?_⟩
          · have := h2 i hi; omega
          · have := h2 i hi; omega
          · have := h2 i hi; omega
          · have := h3.1 i hi; omega
          · have := h3.1 i hi; omega
          · have := h3.2; omega
  · intro h
    rw [if_neg (by have := h.n16; have := h.m20; omega), if_neg, if_neg]
    · simp only [Bool.not_eq_true, List.any_eq_false, List.mem_range, Bool.or_eq_false_iff, Stk.badM, outB, decide_eq_false_iff_not]
      refine ⟨fun i hi => ?_, ?_⟩
      · have := h.ma i hi; have := h.mb i hi; omega
      · have := h.wide; omega
    · simp only [Bool.not_eq_true, List.any_eq_false, List.mem_range, Bool.or_eq_false_iff, Stk.badT, outB, decide_eq_false_iff_not]
      intro i hi
      have := h.tk i hi; have := h.tg i hi; have := h.tw i hi
      omega
theorem Stk.goes_symm (s : Stk) (a b : Int) : s.goes a b = s.goes b a := by
  unfold Stk.goes
  congr 1
  funext i
  exact Bool.or_comm _ _
theorem Stk.suits_symm (s : Stk) (i k : Nat) : s.suits i k = s.suits k i := by
  unfold Stk.suits
  rw [s.goes_symm]
  have e1 : decide (i = k) = decide (k = i) := by rw [decide_eq_decide]; exact eq_comm
  have e2 : decide (s.tg i = s.tg k) = decide (s.tg k = s.tg i) := by rw [decide_eq_decide]; exact eq_comm
  rw [e1, e2]
  cases decide (k = i) <;> cases decide (s.tw i - s.tw k ≤ s.wide) <;> cases decide (s.tw k - s.tw i ≤ s.wide) <;> cases decide (s.tg k = s.tg i) <;> cases decide (s.tg i = 0) <;> cases decide (s.tg k = 0) <;> rfl
theorem Stk.adj_symm (s : Stk) : ∀ i k, s.adj i k = s.adj k i := fun i k => by
  unfold Stk.adj
  rw [s.suits_symm, Bool.and_comm (decide (i < s.nt))]
theorem Stk.adj_irr (s : Stk) : ∀ i, s.adj i i = false := fun i => by
  unfold Stk.adj Stk.suits
  simp
theorem Stk.adj_lt {s : Stk} {i k : Nat} (h : s.adj i k = true) : i < s.nt ∧ k < s.nt := by
  unfold Stk.adj at h
  simp only [Bool.and_eq_true, decide_eq_true_eq] at h
  exact h.1
theorem Stk.adj_suits {s : Stk} {i k : Nat} (hi : i < s.nt) (hk : k < s.nt) : s.adj i k = s.suits i k := by
  unfold Stk.adj
  simp [hi, hk]

/-- a thing's cells -/
def tcell (s : Stk) (i j : Nat) : Value := if j = 0 then .int .i64 (s.tk i) else if j = 1 then .int .i64 (s.tw i) else .int .i64 (s.tg i)
/-- the cells of two kinds that go together -/
def mcell (s : Stk) (i j : Nat) : Value := if j = 0 then .int .i64 (s.ma i) else .int .i64 (s.mb i)
/-- v is the value of a stock, valid or not -/
def StkAt (w : World) (v : Value) (s : Stk) : Prop := ∃ tv mv, v = .agg #[tv, mv, .int .i64 s.wide] ∧ SliceAt w tv s.nt 3 (tcell s) ∧ SliceAt w mv s.nm 2 (mcell s)
theorem StkAt.mono {w w' : World} {v : Value} {s : Stk} (h : StkAt w v s) (g : w.grows w') : StkAt w' v s := by
  obtain ⟨tv, mv, h1, h2, h3⟩ := h
  exact ⟨tv, mv, h1, h2.mono g, h3.mono g⟩
theorem ret_int {a b : Int} (h : a = b) : (Ending.returned (.int .i64 a)) = .returned (.int .i64 b) := by rw [h]
end Go.Proofs.Yteingahlmlndkaa

/-
  What is proved: slices.IndexFunc and slices.ContainsFunc at the types of this seat, whatever the function does that they are handed.
-/
namespace Go.Proofs.Yteingahlmlndkaa
open Go.RowKit

/-- the first number below m at which q holds, or -1 -/
def fstIdx (q : Nat → Bool) (m : Nat) : Int := match (List.range m).findIdx? q with | some i => i | none => -1

theorem fstIdx_at (q : Nat → Bool) (m k : Nat) (hk : k < m) (h : ∀ i, i < k → q i = false) (hq : q k = true) : fstIdx q m = k := by
  unfold fstIdx
  have : (List.range m).findIdx? q = some k := by
    rw [List.findIdx?_eq_some_iff_getElem]
    refine ⟨by simpa using hk, by simpa using hq, fun j hj => ?_⟩
    simpa using h j hj
  rw [this]
theorem fstIdx_none (q : Nat → Bool) (m : Nat) (h : ∀ i, i < m → q i = false) : fstIdx q m = -1 := by
  unfold fstIdx
  have : (List.range m).findIdx? q = none := by
    rw [List.findIdx?_eq_none_iff]
    intro x hx
    exact h x (by simpa using hx)
  rw [this]
theorem fstIdx_any (q : Nat → Bool) (m : Nat) : decide (0 ≤ fstIdx q m) = (List.range m).any q := by
  by_cases h : ∃ k, k < m ∧ q k = true
  · obtain ⟨k, hk, hq⟩ := h
    have hr : (List.range m).any q = true := List.any_eq_true.2 ⟨k, by simpa using hk, hq⟩
    rw [hr]
    unfold fstIdx
    cases hf : (List.range m).findIdx? q with
    | some i => simp
    | none =>
      rw [List.findIdx?_eq_none_iff] at hf
      have := hf k (by simpa using hk)
      rw [hq] at this; cases this
  · have hall : ∀ i, i < m → q i = false := fun i hi => by
      cases hq : q i with
      | false => rfl
      | true => exact absurd ⟨i, hi, hq⟩ h
    rw [fstIdx_none q m hall]
    have hr : (List.range m).any q = false := by
      rw [List.any_eq_false]
      intro x hx
      rw [hall x (by simpa using hx)]; simp
    rw [hr]; rfl
theorem fstIdx_bd (q : Nat → Bool) (m : Nat) : -1 ≤ fstIdx q m ∧ fstIdx q m ≤ m := by
  unfold fstIdx
  cases hf : (List.range m).findIdx? q with
  | some i =>
    have := List.findIdx?_eq_some_iff_getElem.1 hf
    obtain ⟨h, _⟩ := this
    simp at h
    simp <;> omega
  | none => simp <;> omega

set_option maxHeartbeats 1000000 in
theorem idx72 (w : World) (s : Value) (m : Nat) (c : Nat → Nat → Value) (ff : Nat) (lb : Array Value) (q : Nat → Bool) (hs : SliceAt w s m 1 c)
    (eg : ∀ args w, (callFunc ff args).run Try.prog w = .ok (.enter ff args) w)
    (hf : ∀ i, i < m → ∀ W : World, w.grows W → Calls Try.prog ff (#[c i 0] ++ lb) W fun e W' => e = .returned (.bool (q i)) ∧ W.grows W') :
    Calls Try.prog 72 #[s, .func (.func ff) #[] lb] w fun e w' => e = .returned (.int .i64 (fstIdx q m)) ∧ w.grows w' := by
  obtain ⟨a, cap, rfl, hcap, hmax, hc⟩ := hs
  unfold maxLen at hmax
  go_enter Try.func72, Try.ntmps72
  go_wp2
  go_loopw [8] (fun i wr => ∃ k : Nat, k ≤ m ∧ i = .int .i64 k ∧ (∀ j, j < k → q j = false) ∧ w.grows wr) (fun i _ => m - (intOf i).toNat)
  case atStart => exact ⟨0, by omega, rfl, fun j hj => by omega, World.grows.refl _⟩
  case round =>
    obtain ⟨k, hk, rfl, hq, hg⟩ := hrel
    have Hq := Lib.hid hq
    clear hq
    obtain ⟨n, x, rfl⟩ := World.plus_of hg
    by_cases hlt : k < m
    · obtain ⟨b, o, rfl, h0⟩ := hc k 0 hlt (by omega)
      simp only [Nat.mul_one, Nat.add_zero] at h0

      have hfk := hf k hlt
      cases hqk : q k with
      | true =>
        rw [hqk] at hfk
        have Hqk := Lib.hid hqk
        clear hqk
        go_wp2_with (refine (hfk _ (by (repeat (first | exact World.grows.refl _ | assumption | refine World.grows.alloc ?_ _ | refine World.grows.plus ?_ _ _ | refine World.grows.drew ?_)))).mono ?_; rintro e w' ⟨rfl, hg2⟩; obtain ⟨n2, x2, rfl⟩ := World.plus_of hg2)
        go_ret
        exact ⟨ret_int (fstIdx_at q m k hlt Hq.out Hqk.out).symm, by (repeat (first | exact World.grows.refl _ | assumption | refine World.grows.alloc ?_ _ | refine World.grows.plus ?_ _ _ | refine World.grows.drew ?_))⟩
      | false =>
        rw [hqk] at hfk
        have Hqk := Lib.hid hqk
        clear hqk
        go_wp2_with (refine (hfk _ (by (repeat (first | exact World.grows.refl _ | assumption | refine World.grows.alloc ?_ _ | refine World.grows.plus ?_ _ _ | refine World.grows.drew ?_)))).mono ?_; rintro e w' ⟨rfl, hg2⟩; obtain ⟨n2, x2, rfl⟩ := World.plus_of hg2)
        go_roundw
        case rel => exact ⟨k + 1, by omega, by go_num, fun j hj => (by rcases Nat.lt_or_ge j k with h | h; exact Hq.out j h; have hjk : j = k := (by omega); subst hjk; exact Hqk.out), by (repeat (first | exact World.grows.refl _ | assumption | refine World.grows.alloc ?_ _ | refine World.grows.plus ?_ _ _ | refine World.grows.drew ?_))⟩
        case measure => simp [intOf]; omega
    · have hke : k = m := by omega
      subst hke
      go_wp2
      go_ret
      exact ⟨ret_int (fstIdx_none q k Hq.out).symm, by (repeat (first | exact World.grows.refl _ | assumption | refine World.grows.alloc ?_ _ | refine World.grows.plus ?_ _ _ | refine World.grows.drew ?_))⟩

set_option maxHeartbeats 1000000 in
theorem idx73 (w : World) (s : Value) (m : Nat) (c : Nat → Nat → Value) (ff : Nat) (lb : Array Value) (q : Nat → Bool) (hs : SliceAt w s m 3 c)
    (eg : ∀ args w, (callFunc ff args).run Try.prog w = .ok (.enter ff args) w)
    (hf : ∀ i, i < m → ∀ W : World, w.grows W → Calls Try.prog ff (#[.agg #[c i 0, c i 1, c i 2]] ++ lb) W fun e W' => e = .returned (.bool (q i)) ∧ W.grows W') :
    Calls Try.prog 73 #[s, .func (.func ff) #[] lb] w fun e w' => e = .returned (.int .i64 (fstIdx q m)) ∧ w.grows w' := by
  obtain ⟨a, cap, rfl, hcap, hmax, hc⟩ := hs
  unfold maxLen at hmax
  go_enter Try.func73, Try.ntmps73
  go_wp2
  go_loopw [8] (fun i wr => ∃ k : Nat, k ≤ m ∧ i = .int .i64 k ∧ (∀ j, j < k → q j = false) ∧ w.grows wr) (fun i _ => m - (intOf i).toNat)
  case atStart => exact ⟨0, by omega, rfl, fun j hj => by omega, World.grows.refl _⟩
  case round =>
    obtain ⟨k, hk, rfl, hq, hg⟩ := hrel
    have Hq := Lib.hid hq
    clear hq
    obtain ⟨n, x, rfl⟩ := World.plus_of hg
    by_cases hlt : k < m
    · obtain ⟨b, o, rfl, h0⟩ := hc k 0 hlt (by omega)
      simp only [Nat.add_zero] at h0
      obtain ⟨_, _, he1, h1⟩ := hc k 1 hlt (by omega)
      cases he1

      obtain ⟨_, _, he2, h2⟩ := hc k 2 hlt (by omega)
      cases he2

      have hfk := hf k hlt
      cases hqk : q k with
      | true =>
        rw [hqk] at hfk
        have Hqk := Lib.hid hqk
        clear hqk
        go_wp2_with (refine (hfk _ (by (repeat (first | exact World.grows.refl _ | assumption | refine World.grows.alloc ?_ _ | refine World.grows.plus ?_ _ _ | refine World.grows.drew ?_)))).mono ?_; rintro e w' ⟨rfl, hg2⟩; obtain ⟨n2, x2, rfl⟩ := World.plus_of hg2)
        go_ret
        exact ⟨ret_int (fstIdx_at q m k hlt Hq.out Hqk.out).symm, by (repeat (first | exact World.grows.refl _ | assumption | refine World.grows.alloc ?_ _ | refine World.grows.plus ?_ _ _ | refine World.grows.drew ?_))⟩
      | false =>
        rw [hqk] at hfk
        have Hqk := Lib.hid hqk
        clear hqk
        go_wp2_with (refine (hfk _ (by (repeat (first | exact World.grows.refl _ | assumption | refine World.grows.alloc ?_ _ | refine World.grows.plus ?_ _ _ | refine World.grows.drew ?_)))).mono ?_; rintro e w' ⟨rfl, hg2⟩; obtain ⟨n2, x2, rfl⟩ := World.plus_of hg2)
        go_roundw
        case rel => exact ⟨k + 1, by omega, by go_num, fun j hj => (by rcases Nat.lt_or_ge j k with h | h; exact Hq.out j h; have hjk : j = k := (by omega); subst hjk; exact Hqk.out), by (repeat (first | exact World.grows.refl _ | assumption | refine World.grows.alloc ?_ _ | refine World.grows.plus ?_ _ _ | refine World.grows.drew ?_))⟩
        case measure => simp [intOf]; omega
    · have hke : k = m := by omega
      subst hke
      go_wp2
      go_ret
      exact ⟨ret_int (fstIdx_none q k Hq.out).symm, by (repeat (first | exact World.grows.refl _ | assumption | refine World.grows.alloc ?_ _ | refine World.grows.plus ?_ _ _ | refine World.grows.drew ?_))⟩

set_option maxHeartbeats 1000000 in
theorem idx76 (w : World) (s : Value) (m : Nat) (c : Nat → Nat → Value) (ff : Nat) (lb : Array Value) (q : Nat → Bool) (hs : SliceAt w s m 2 c)
    (eg : ∀ args w, (callFunc ff args).run Try.prog w = .ok (.enter ff args) w)
    (hf : ∀ i, i < m → ∀ W : World, w.grows W → Calls Try.prog ff (#[.agg #[c i 0, c i 1]] ++ lb) W fun e W' => e = .returned (.bool (q i)) ∧ W.grows W') :
    Calls Try.prog 76 #[s, .func (.func ff) #[] lb] w fun e w' => e = .returned (.int .i64 (fstIdx q m)) ∧ w.grows w' := by
  obtain ⟨a, cap, rfl, hcap, hmax, hc⟩ := hs
  unfold maxLen at hmax
  go_enter Try.func76, Try.ntmps76
  go_wp2
  go_loopw [8] (fun i wr => ∃ k : Nat, k ≤ m ∧ i = .int .i64 k ∧ (∀ j, j < k → q j = false) ∧ w.grows wr) (fun i _ => m - (intOf i).toNat)
  case atStart => exact ⟨0, by omega, rfl, fun j hj => by omega, World.grows.refl _⟩
  case round =>
    obtain ⟨k, hk, rfl, hq, hg⟩ := hrel
    have Hq := Lib.hid hq
    clear hq
    obtain ⟨n, x, rfl⟩ := World.plus_of hg
    by_cases hlt : k < m
    · obtain ⟨b, o, rfl, h0⟩ := hc k 0 hlt (by omega)
      simp only [Nat.add_zero] at h0
      obtain ⟨_, _, he1, h1⟩ := hc k 1 hlt (by omega)
      cases he1

      have hfk := hf k hlt
      cases hqk : q k with
      | true =>
        rw [hqk] at hfk
        have Hqk := Lib.hid hqk
        clear hqk
        go_wp2_with (refine (hfk _ (by (repeat (first | exact World.grows.refl _ | assumption | refine World.grows.alloc ?_ _ | refine World.grows.plus ?_ _ _ | refine World.grows.drew ?_)))).mono ?_; rintro e w' ⟨rfl, hg2⟩; obtain ⟨n2, x2, rfl⟩ := World.plus_of hg2)
        go_ret
        exact ⟨ret_int (fstIdx_at q m k hlt Hq.out Hqk.out).symm, by (repeat (first | exact World.grows.refl _ | assumption | refine World.grows.alloc ?_ _ | refine World.grows.plus ?_ _ _ | refine World.grows.drew ?_))⟩
      | false =>
        rw [hqk] at hfk
        have Hqk := Lib.hid hqk
        clear hqk
        go_wp2_with (refine (hfk _ (by (repeat (first | exact World.grows.refl _ | assumption | refine World.grows.alloc ?_ _ | refine World.grows.plus ?_ _ _ | refine World.grows.drew ?_)))).mono ?_; rintro e w' ⟨rfl, hg2⟩; obtain ⟨n2, x2, rfl⟩ := World.plus_of hg2)
        go_roundw
        case rel => exact ⟨k + 1, by omega, by go_num, fun j hj => (by rcases Nat.lt_or_ge j k with h | h; exact Hq.out j h; have hjk : j = k := (by omega); subst hjk; exact Hqk.out), by (repeat (first | exact World.grows.refl _ | assumption | refine World.grows.alloc ?_ _ | refine World.grows.plus ?_ _ _ | refine World.grows.drew ?_))⟩
        case measure => simp [intOf]; omega
    · have hke : k = m := by omega
      subst hke
      go_wp2
      go_ret
      exact ⟨ret_int (fstIdx_none q k Hq.out).symm, by (repeat (first | exact World.grows.refl _ | assumption | refine World.grows.alloc ?_ _ | refine World.grows.plus ?_ _ _ | refine World.grows.drew ?_))⟩

set_option maxHeartbeats 1000000 in
theorem idx85 (w : World) (s : Value) (m : Nat) (c : Nat → Nat → Value) (ff : Nat) (lb : Array Value) (q : Nat → Bool) (hs : SliceAt w s m 1 c)
    (eg : ∀ args w, (callFunc ff args).run Try.prog w = .ok (.enter ff args) w)
    (hf : ∀ i, i < m → ∀ W : World, w.grows W → Calls Try.prog ff (#[c i 0] ++ lb) W fun e W' => e = .returned (.bool (q i)) ∧ W.grows W') :
    Calls Try.prog 85 #[s, .func (.func ff) #[] lb] w fun e w' => e = .returned (.int .i64 (fstIdx q m)) ∧ w.grows w' := by
  obtain ⟨a, cap, rfl, hcap, hmax, hc⟩ := hs
  unfold maxLen at hmax
  go_enter Try.func85, Try.ntmps85
  go_wp2
  go_loopw [8] (fun i wr => ∃ k : Nat, k ≤ m ∧ i = .int .i64 k ∧ (∀ j, j < k → q j = false) ∧ w.grows wr) (fun i _ => m - (intOf i).toNat)
  case atStart => exact ⟨0, by omega, rfl, fun j hj => by omega, World.grows.refl _⟩
  case round =>
    obtain ⟨k, hk, rfl, hq, hg⟩ := hrel
    have Hq := Lib.hid hq
    clear hq
    obtain ⟨n, x, rfl⟩ := World.plus_of hg
    by_cases hlt : k < m
    · obtain ⟨b, o, rfl, h0⟩ := hc k 0 hlt (by omega)
      simp only [Nat.mul_one, Nat.add_zero] at h0

      have hfk := hf k hlt
      cases hqk : q k with
      | true =>
        rw [hqk] at hfk
        have Hqk := Lib.hid hqk
        clear hqk
        go_wp2_with (refine (hfk _ (by (repeat (first | exact World.grows.refl _ | assumption | refine World.grows.alloc ?_ _ | refine World.grows.plus ?_ _ _ | refine World.grows.drew ?_)))).mono ?_; rintro e w' ⟨rfl, hg2⟩; obtain ⟨n2, x2, rfl⟩ := World.plus_of hg2)
        go_ret
        exact ⟨ret_int (fstIdx_at q m k hlt Hq.out Hqk.out).symm, by (repeat (first | exact World.grows.refl _ | assumption | refine World.grows.alloc ?_ _ | refine World.grows.plus ?_ _ _ | refine World.grows.drew ?_))⟩
      | false =>
        rw [hqk] at hfk
        have Hqk := Lib.hid hqk
        clear hqk
        go_wp2_with (refine (hfk _ (by (repeat (first | exact World.grows.refl _ | assumption | refine World.grows.alloc ?_ _ | refine World.grows.plus ?_ _ _ | refine World.grows.drew ?_)))).mono ?_; rintro e w' ⟨rfl, hg2⟩; obtain ⟨n2, x2, rfl⟩ := World.plus_of hg2)
        go_roundw
        case rel => exact ⟨k + 1, by omega, by go_num, fun j hj => (by rcases Nat.lt_or_ge j k with h | h; exact Hq.out j h; have hjk : j = k := (by omega); subst hjk; exact Hqk.out), by (repeat (first | exact World.grows.refl _ | assumption | refine World.grows.alloc ?_ _ | refine World.grows.plus ?_ _ _ | refine World.grows.drew ?_))⟩
        case measure => simp [intOf]; omega
    · have hke : k = m := by omega
      subst hke
      go_wp2
      go_ret
      exact ⟨ret_int (fstIdx_none q k Hq.out).symm, by (repeat (first | exact World.grows.refl _ | assumption | refine World.grows.alloc ?_ _ | refine World.grows.plus ?_ _ _ | refine World.grows.drew ?_))⟩

theorem has53 (w : World) (s : Value) (m : Nat) (c : Nat → Nat → Value) (ff : Nat) (lb : Array Value) (q : Nat → Bool) (hs : SliceAt w s m 1 c)
    (eg : ∀ args w, (callFunc ff args).run Try.prog w = .ok (.enter ff args) w)
    (hf : ∀ i, i < m → ∀ W : World, w.grows W → Calls Try.prog ff (#[c i 0] ++ lb) W fun e W' => e = .returned (.bool (q i)) ∧ W.grows W') :
    Calls Try.prog 53 #[s, .func (.func ff) #[] lb] w fun e w' => e = .returned (.bool ((List.range m).any q)) ∧ w.grows w' := by
  have hbd := fstIdx_bd q m
  have Ha := Lib.hid (fstIdx_any q m)
  go_enter Try.func53, Try.ntmps53
  go_wp2_with (go_at_call 72; refine (idx72 _ s m c ff lb q (hs.mono (by (repeat (first | exact World.grows.refl _ | assumption | refine World.grows.alloc ?_ _ | refine World.grows.plus ?_ _ _ | refine World.grows.drew ?_)))) eg (fun i hi W hW => hf i hi W hW)).mono ?_; rintro e w' ⟨rfl, hg⟩)
  go_ret
  exact ⟨by rw [← Ha.out]; rfl, by (repeat (first | exact World.grows.refl _ | assumption | refine World.grows.alloc ?_ _ | refine World.grows.plus ?_ _ _ | refine World.grows.drew ?_))⟩

theorem has58 (w : World) (s : Value) (m : Nat) (c : Nat → Nat → Value) (ff : Nat) (lb : Array Value) (q : Nat → Bool) (hs : SliceAt w s m 3 c)
    (eg : ∀ args w, (callFunc ff args).run Try.prog w = .ok (.enter ff args) w)
    (hf : ∀ i, i < m → ∀ W : World, w.grows W → Calls Try.prog ff (#[.agg #[c i 0, c i 1, c i 2]] ++ lb) W fun e W' => e = .returned (.bool (q i)) ∧ W.grows W') :
    Calls Try.prog 58 #[s, .func (.func ff) #[] lb] w fun e w' => e = .returned (.bool ((List.range m).any q)) ∧ w.grows w' := by
  have hbd := fstIdx_bd q m
  have Ha := Lib.hid (fstIdx_any q m)
  go_enter Try.func58, Try.ntmps58
  go_wp2_with (go_at_call 73; refine (idx73 _ s m c ff lb q (hs.mono (by (repeat (first | exact World.grows.refl _ | assumption | refine World.grows.alloc ?_ _ | refine World.grows.plus ?_ _ _ | refine World.grows.drew ?_)))) eg (fun i hi W hW => hf i hi W hW)).mono ?_; rintro e w' ⟨rfl, hg⟩)
  go_ret
  exact ⟨by rw [← Ha.out]; rfl, by (repeat (first | exact World.grows.refl _ | assumption | refine World.grows.alloc ?_ _ | refine World.grows.plus ?_ _ _ | refine World.grows.drew ?_))⟩

theorem has61 (w : World) (s : Value) (m : Nat) (c : Nat → Nat → Value) (ff : Nat) (lb : Array Value) (q : Nat → Bool) (hs : SliceAt w s m 2 c)
    (eg : ∀ args w, (callFunc ff args).run Try.prog w = .ok (.enter ff args) w)
    (hf : ∀ i, i < m → ∀ W : World, w.grows W → Calls Try.prog ff (#[.agg #[c i 0, c i 1]] ++ lb) W fun e W' => e = .returned (.bool (q i)) ∧ W.grows W') :
    Calls Try.prog 61 #[s, .func (.func ff) #[] lb] w fun e w' => e = .returned (.bool ((List.range m).any q)) ∧ w.grows w' := by
  have hbd := fstIdx_bd q m
  have Ha := Lib.hid (fstIdx_any q m)
  go_enter Try.func61, Try.ntmps61
  go_wp2_with (go_at_call 76; refine (idx76 _ s m c ff lb q (hs.mono (by (repeat (first | exact World.grows.refl _ | assumption | refine World.grows.alloc ?_ _ | refine World.grows.plus ?_ _ _ | refine World.grows.drew ?_)))) eg (fun i hi W hW => hf i hi W hW)).mono ?_; rintro e w' ⟨rfl, hg⟩)
  go_ret
  exact ⟨by rw [← Ha.out]; rfl, by (repeat (first | exact World.grows.refl _ | assumption | refine World.grows.alloc ?_ _ | refine World.grows.plus ?_ _ _ | refine World.grows.drew ?_))⟩

theorem has74 (w : World) (s : Value) (m : Nat) (c : Nat → Nat → Value) (ff : Nat) (lb : Array Value) (q : Nat → Bool) (hs : SliceAt w s m 1 c)
    (eg : ∀ args w, (callFunc ff args).run Try.prog w = .ok (.enter ff args) w)
    (hf : ∀ i, i < m → ∀ W : World, w.grows W → Calls Try.prog ff (#[c i 0] ++ lb) W fun e W' => e = .returned (.bool (q i)) ∧ W.grows W') :
    Calls Try.prog 74 #[s, .func (.func ff) #[] lb] w fun e w' => e = .returned (.bool ((List.range m).any q)) ∧ w.grows w' := by
  have hbd := fstIdx_bd q m
  have Ha := Lib.hid (fstIdx_any q m)
  go_enter Try.func74, Try.ntmps74
  go_wp2_with (go_at_call 85; refine (idx85 _ s m c ff lb q (hs.mono (by (repeat (first | exact World.grows.refl _ | assumption | refine World.grows.alloc ?_ _ | refine World.grows.plus ?_ _ _ | refine World.grows.drew ?_)))) eg (fun i hi W hW => hf i hi W hW)).mono ?_; rintro e w' ⟨rfl, hg⟩)
  go_ret
  exact ⟨by rw [← Ha.out]; rfl, by (repeat (first | exact World.grows.refl _ | assumption | refine World.grows.alloc ?_ _ | refine World.grows.plus ?_ _ _ | refine World.grows.drew ?_))⟩

end Go.Proofs.Yteingahlmlndkaa

