/-
  What is proved: plain words on registers of marks: parts of sets of marks, and what a set costs at least at worst.
-/
import Derived.Test.YtdminglglapnlaaM1
import Derived.Test.YtdminglglapnlaaRows
import Derived.Lib.Hide
import Derived.RangeFuncBound
set_option linter.all false
namespace Go.Proofs.Ytdminglglapnlaa

structure Reg where
  nc : Nat
  cost : Nat → Int
  nm : Nat
  who : Nat → Int
  nv : Nat → Nat
  val : Nat → Nat → Int
structure Reg.Ok (r : Reg) : Prop where
  m1 : 1 ≤ r.nm
  m10 : r.nm ≤ 10
  c1 : 1 ≤ r.nc
  c8 : r.nc ≤ 8
  cost : ∀ f, f < r.nc → 1 ≤ r.cost f ∧ r.cost f ≤ 1000
  who : ∀ m, m < r.nm → 0 ≤ r.who m ∧ r.who m ≤ 1000
  nv : ∀ m, m < r.nm → r.nv m = r.nc
  val : ∀ m f, m < r.nm → f < r.nc → 0 ≤ r.val m f ∧ r.val m f ≤ 9

/-- the first n numbers of which q holds, as bits -/
def setTo (q : Nat → Bool) : Nat → Nat
  | 0 => 0
  | n + 1 => setTo q n + if q n = true then 2 ^ n else 0
theorem setTo_lt (q : Nat → Bool) : ∀ n, setTo q n < 2 ^ n
  | 0 => by simp [setTo]
  | n + 1 => by
    have := setTo_lt q n
    simp only [setTo]
    rw [Nat.pow_succ]
    split <;> omega
theorem testBit_add_pow (x n m : Nat) (hx : x < 2 ^ n) : (x + 2 ^ n).testBit m = (x.testBit m || decide (m = n)) := by
  rw [Nat.add_comm, Nat.testBit_two_pow_add_eq_or x hx m]
where
  Nat.testBit_two_pow_add_eq_or (x : Nat) (hx : x < 2 ^ n) (m : Nat) : (2 ^ n + x).testBit m = (x.testBit m || decide (m = n)) := by
    by_cases h : m = n
    · subst h
      rw [Nat.testBit_two_pow_add_eq]
      have : x.testBit m = false := Nat.testBit_lt_two_pow hx
      simp [this]
    · rcases Nat.lt_or_ge m n with h2 | h2
      · rw [Nat.testBit_two_pow_add_gt h2]; simp [h]
      · have h3 : n < m := by omega
        have h4 : 2 ^ n + x < 2 ^ m := by
          have : 2 ^ (n + 1) ≤ 2 ^ m := Nat.pow_le_pow_right (by omega) h3
          rw [Nat.pow_succ] at this
          omega
        rw [Nat.testBit_lt_two_pow h4, Nat.testBit_lt_two_pow (Nat.lt_of_le_of_lt (Nat.le_add_left x (2 ^ n)) h4)]
        simp [h]
theorem testBit_setTo (q : Nat → Bool) (m : Nat) : ∀ n, (setTo q n).testBit m = (decide (m < n) && q m)
  | 0 => by simp [setTo]
  | n + 1 => by
    simp only [setTo]
    have ih := testBit_setTo q m n
    by_cases h : q n = true
    · rw [if_pos h, testBit_add_pow _ _ _ (setTo_lt q n), ih]
      by_cases h2 : m = n
      · subst h2; simp [h]
      · have : (m < n + 1) = (m < n) := by simp; omega
        simp [h2, this]
    · rw [if_neg h, Nat.add_zero, ih]
      by_cases h2 : m = n
      · subst h2; simp [h]
      · have : (m < n + 1) = (m < n) := by simp; omega
        simp [this]
theorem setTo_congr {q p : Nat → Bool} : ∀ n, (∀ i, i < n → q i = p i) → setTo q n = setTo p n
  | 0, _ => rfl
  | n + 1, h => by simp only [setTo]; rw [setTo_congr n (fun i hi => h i (by omega)), h n (by omega)]
theorem setTo_mono {q p : Nat → Bool} : ∀ n, (∀ i, i < n → q i = true → p i = true) → setTo q n ≤ setTo p n
  | 0, _ => Nat.le_refl _
  | n + 1, h => by
    have ih := setTo_mono n (fun i hi => h i (by omega))
    simp only [setTo]
    by_cases hq : q n = true
    · rw [if_pos hq, if_pos (h n (by omega) hq)]; omega
    · rw [if_neg hq]; have := Nat.two_pow_pos n; split <;> omega
/-- a set of numbers below n is what its bits say -/
theorem setTo_bits {s n : Nat} (h : s < 2 ^ n) : setTo (fun m => s.testBit m) n = s := by
  apply Nat.eq_of_testBit_eq
  intro m
  rw [testBit_setTo]
  by_cases hm : m < n
  · simp [hm]
  · have : s < 2 ^ m := Nat.lt_of_lt_of_le h (Nat.pow_le_pow_right (by omega) (by omega))
    simp [hm, Nat.testBit_lt_two_pow this]

/-- those of some marks that have a value of a feature -/
def Reg.part (r : Reg) (s f : Nat) (v : Int) : Nat := setTo (fun m => s.testBit m && decide (r.val m f = v)) r.nm
theorem Reg.testBit_part (r : Reg) (s f : Nat) (v : Int) (m : Nat) : (r.part s f v).testBit m = (decide (m < r.nm) && (s.testBit m && decide (r.val m f = v))) := testBit_setTo _ _ _
theorem Reg.part_lt (r : Reg) (s f : Nat) (v : Int) : r.part s f v < 2 ^ r.nm := setTo_lt _ _
theorem Reg.part_le (r : Reg) {s : Nat} (hs : s < 2 ^ r.nm) (f : Nat) (v : Int) : r.part s f v ≤ s := by
  have h : setTo (fun m => s.testBit m && decide (r.val m f = v)) r.nm ≤ setTo (fun m => s.testBit m) r.nm := setTo_mono _ fun i _ h => by simp at h; exact h.1
  rw [setTo_bits hs] at h
  exact h
/-- some marks have different makers -/
def Reg.mixed (r : Reg) (s : Nat) : Bool := (List.range r.nm).any fun a => (List.range r.nm).any fun b => s.testBit a && s.testBit b && decide (r.who a ≠ r.who b)
theorem Reg.mixed_iff (r : Reg) (s : Nat) : r.mixed s = true ↔ ∃ a b, a < r.nm ∧ b < r.nm ∧ s.testBit a = true ∧ s.testBit b = true ∧ r.who a ≠ r.who b := by
  unfold Reg.mixed
  simp only [List.any_eq_true, List.mem_range, Bool.and_eq_true, decide_eq_true_eq]
  constructor
  · rintro ⟨a, ha, b, hb, ⟨h1, h2⟩, h3⟩; exact ⟨a, b, ha, hb, h1, h2, h3⟩
  · rintro ⟨a, b, ha, hb, h1, h2, h3⟩; exact ⟨a, ha, b, hb, ⟨h1, h2⟩, h3⟩
/-- a feature parts some marks -/
def Reg.parted (r : Reg) (s f : Nat) : Bool := (List.range 10).all fun v => decide (r.part s f (v : Nat) ≠ s)
theorem Reg.parted_iff (r : Reg) (s f : Nat) : r.parted s f = true ↔ ∀ v : Nat, v < 10 → r.part s f v ≠ s := by
  unfold Reg.parted
  simp only [List.all_eq_true, List.mem_range, decide_eq_true_eq]
theorem Reg.not_parted (r : Reg) (s f : Nat) (h : ¬ r.parted s f = true) : ∃ v : Nat, v < 10 ∧ r.part s f v = s := by
  rw [r.parted_iff] at h
  simp only [Classical.not_forall, not_imp, Classical.not_not] at h
  obtain ⟨v, hv, h⟩ := h
  exact ⟨v, hv, h⟩

/-- the most that the parts of some marks by a feature cost -/
def Reg.mostR (r : Reg) (c : Nat → Int) (s f : Nat) : Nat → Int
  | 0 => 0
  | v + 1 => max (r.mostR c s f v) (c (r.part s f (v : Nat)))
/-- what the cheapest look at some marks costs, by the first n features -/
def Reg.looksR (r : Reg) (c : Nat → Int) (s : Nat) : Nat → Int
  | 0 => 1099511627776
  | f + 1 => if r.parted s f = true then min (r.looksR c s f) (r.cost f + r.mostR c s f 10) else r.looksR c s f
theorem Reg.mostR_le (r : Reg) (c : Nat → Int) (s f : Nat) (x : Int) : ∀ n, r.mostR c s f n ≤ x ↔ 0 ≤ x ∧ ∀ v : Nat, v < n → c (r.part s f v) ≤ x
  | 0 => by simp [Reg.mostR]
  | n + 1 => by
    have ih := r.mostR_le c s f x n
    simp only [Reg.mostR]
    constructor
    · intro h
      obtain ⟨h1, h2⟩ := ih.1 (by omega)
      refine ⟨h1, fun v hv => ?_⟩
      rcases Nat.lt_or_ge v n with h3 | h3
      · exact h2 v h3
      · have : v = n := by omega
        subst this; omega
    · rintro ⟨h1, h2⟩
      have := ih.2 ⟨h1, fun v hv => h2 v (by omega)⟩
      have := h2 n (by omega)
      omega
theorem Reg.mostR_nonneg (r : Reg) (c : Nat → Int) (s f : Nat) (n : Nat) : 0 ≤ r.mostR c s f n := ((r.mostR_le c s f _ n).1 (Int.le_refl _)).1
theorem Reg.le_mostR (r : Reg) (c : Nat → Int) (s f : Nat) {n v : Nat} (h : v < n) : c (r.part s f v) ≤ r.mostR c s f n := ((r.mostR_le c s f _ n).1 (Int.le_refl _)).2 v h
theorem Reg.le_looksR (r : Reg) (c : Nat → Int) (s : Nat) (x : Int) : ∀ n, x ≤ r.looksR c s n ↔ x ≤ 1099511627776 ∧ ∀ f, f < n → r.parted s f = true → x ≤ r.cost f + r.mostR c s f 10
  | 0 => by simp [Reg.looksR]
  | n + 1 => by
    have ih := r.le_looksR c s x n
    simp only [Reg.looksR]
    constructor
    · intro h
      have h0 : x ≤ r.looksR c s n := by split at h <;> omega
      obtain ⟨h1, h2⟩ := ih.1 h0
      refine ⟨h1, fun f hf hp => ?_⟩
      rcases Nat.lt_or_ge f n with h3 | h3
      · exact h2 f h3 hp
      · have : f = n := by omega
        subst this
        rw [if_pos hp] at h; omega
    · rintro ⟨h1, h2⟩
      have h3 := ih.2 ⟨h1, fun f hf hp => h2 f (by omega) hp⟩
      split
      · rename_i hp
        have := h2 n (by omega) hp
        omega
      · exact h3
theorem Reg.looksR_le (r : Reg) (c : Nat → Int) (s : Nat) (n : Nat) : r.looksR c s n ≤ 1099511627776 ∧ ∀ f, f < n → r.parted s f = true → r.looksR c s n ≤ r.cost f + r.mostR c s f 10 :=
  (r.le_looksR c s _ n).1 (Int.le_refl _)
theorem Reg.mostR_congr (r : Reg) {c c' : Nat → Int} {s f : Nat} : ∀ n, (∀ v : Nat, v < n → c (r.part s f v) = c' (r.part s f v)) → r.mostR c s f n = r.mostR c' s f n
  | 0, _ => rfl
  | n + 1, h => by simp only [Reg.mostR]; rw [r.mostR_congr n (fun v hv => h v (by omega)), h n (by omega)]
theorem Reg.looksR_congr (r : Reg) {c c' : Nat → Int} {s : Nat} (h : ∀ f v, r.parted s f = true → v < 10 → c (r.part s f (v : Nat)) = c' (r.part s f (v : Nat))) : ∀ n, r.looksR c s n = r.looksR c' s n
  | 0 => rfl
  | n + 1 => by
    simp only [Reg.looksR]
    rw [r.looksR_congr h n]
    split
    · rename_i hp
      rw [r.mostR_congr 10 fun v hv => h n v hp hv]
    · rfl
def Reg.cstF (r : Reg) : Nat → Nat → Int
  | 0, _ => 0
  | k + 1, s => if r.mixed s = true then r.looksR (r.cstF k) s r.nc else 0
/-- what some marks cost at least at worst -/
def Reg.cst (r : Reg) (s : Nat) : Int := r.cstF (s + 1) s
theorem Reg.part_less (r : Reg) {s f v : Nat} (hs : s < 2 ^ r.nm) (hp : r.parted s f = true) (hv : v < 10) : r.part s f (v : Nat) < s := by
  have h1 := r.part_le hs f (v : Nat)
  have h2 := (r.parted_iff s f).1 hp v hv
  omega
theorem Reg.cstF_fuel (r : Reg) : ∀ (s k k' : Nat), s < 2 ^ r.nm → s < k → s < k' → r.cstF k s = r.cstF k' s
  | s, 0, _, _, h, _ => absurd h (by omega)
  | s, _, 0, _, _, h => absurd h (by omega)
  | s, k + 1, k' + 1, hs, h1, h2 => by
    simp only [Reg.cstF]
    split
    · refine r.looksR_congr (fun f v hp hv => ?_) _
      have := r.part_less hs hp hv
      exact r.cstF_fuel (r.part s f (v : Nat)) k k' (r.part_lt _ _ _) (by omega) (by omega)
    · rfl
theorem Reg.cst_eq (r : Reg) {s : Nat} (hs : s < 2 ^ r.nm) : r.cst s = if r.mixed s = true then r.looksR r.cst s r.nc else 0 := by
  unfold Reg.cst
  rw [Reg.cstF]
  split
  · refine r.looksR_congr (fun f v hp hv => ?_) _
    have := r.part_less hs hp hv
    exact r.cstF_fuel (r.part s f (v : Nat)) s (r.part s f (v : Nat) + 1) (r.part_lt _ _ _) (by omega) (by omega)
  · rfl
theorem Reg.cst_not (r : Reg) {s : Nat} (hs : s < 2 ^ r.nm) (h : r.mixed s = false) : r.cst s = 0 := by
  rw [r.cst_eq hs, h]; rfl
theorem Reg.cst_nonneg (r : Reg) (hc : ∀ f, f < r.nc → 0 ≤ r.cost f) {s : Nat} (hs : s < 2 ^ r.nm) : 0 ≤ r.cst s := by
  rw [r.cst_eq hs]
  split
  · refine (r.le_looksR _ s 0 r.nc).2 ⟨by omega, fun f hf _ => ?_⟩
    have := hc f hf
    have := r.mostR_nonneg r.cst s f 10
    omega
  · exact Int.le_refl _
end Go.Proofs.Ytdminglglapnlaa

/-
  What is proved: when a register's marks lie in another one's, as cheaply to tell, they cost no more; features that tell marks cost no less than the best tree; a right table's bounds are none too great.
-/
namespace Go.Proofs.Ytdminglglapnlaa

/-- marks of r' are marks of r that can be told as well, by features that cost no more -/
structure Reg.Sub (r' r : Reg) (u : Nat → Nat) (g : Nat → Nat) (s' s : Nat) : Prop where
  lt : ∀ a, a < r'.nm → s'.testBit a = true → u a < r.nm ∧ s.testBit (u a) = true
  who : ∀ a b, a < r'.nm → b < r'.nm → s'.testBit a = true → s'.testBit b = true → r.who (u a) = r.who (u b) → r'.who a = r'.who b
  val : ∀ a f, a < r'.nm → s'.testBit a = true → f < r.nc → r'.val a (g f) = r.val (u a) f
structure Reg.Cheap (r' r : Reg) (g : Nat → Nat) : Prop where
  lt : ∀ f, f < r.nc → g f < r'.nc
  cost : ∀ f, f < r.nc → r'.cost (g f) ≤ r.cost f
theorem Reg.Sub.part {r' r : Reg} {u g : Nat → Nat} {s' s : Nat} (h : Reg.Sub r' r u g s' s) {f : Nat} (hf : f < r.nc) (v : Int) : Reg.Sub r' r u g (r'.part s' (g f) v) (r.part s f v) := by
  have key : ∀ a, (r'.part s' (g f) v).testBit a = true → a < r'.nm ∧ s'.testBit a = true ∧ r'.val a (g f) = v := fun a ha => by
    rw [r'.testBit_part] at ha
    simp at ha
    exact ⟨ha.1, ha.2.1, ha.2.2⟩
  refine ⟨fun a ha hb => ?_, fun a b ha hb h1 h2 => h.who a b ha hb (key a h1).2.1 (key b h2).2.1, fun a f' ha hb hf' => h.val a f' ha (key a hb).2.1 hf'⟩
  obtain ⟨h1, h2, h3⟩ := key a hb
  obtain ⟨h4, h5⟩ := h.lt a h1 h2
  refine ⟨h4, ?_⟩
  rw [r.testBit_part]
  have := h.val a f h1 h2 hf
  simp [h4, h5]
  omega
theorem Reg.Sub.mixed {r' r : Reg} {u g : Nat → Nat} {s' s : Nat} (h : Reg.Sub r' r u g s' s) (hm : r'.mixed s' = true) : r.mixed s = true := by
  obtain ⟨a, b, ha, hb, h1, h2, h3⟩ := (r'.mixed_iff s').1 hm
  exact (r.mixed_iff s).2 ⟨u a, u b, (h.lt a ha h1).1, (h.lt b hb h2).1, (h.lt a ha h1).2, (h.lt b hb h2).2, fun e => h3 (h.who a b ha hb h1 h2 e)⟩
theorem Reg.Sub.cst {r' r : Reg} {u g : Nat → Nat} (hc : Reg.Cheap r' r g) (h0 : ∀ f, f < r.nc → 0 ≤ r.cost f) : ∀ (n s' s : Nat), s < n → s' < 2 ^ r'.nm → s < 2 ^ r.nm → Reg.Sub r' r u g s' s → r'.cst s' ≤ r.cst s
  | 0, _, _, h, _, _, _ => absurd h (by omega)
  | n + 1, s', s, hn, hs', hs, h => by
    by_cases hm : r'.mixed s' = true
    · have hm2 := h.mixed hm
      rw [r'.cst_eq hs', if_pos hm, r.cst_eq hs, if_pos hm2]
      refine (r.le_looksR _ _ _ _).2 ⟨(r'.looksR_le _ _ _).1, fun f hf hp => ?_⟩
      have hpos := h0 f hf
      by_cases hp' : r'.parted s' (g f) = true
      · have h1 := (r'.looksR_le r'.cst s' r'.nc).2 (g f) (hc.lt f hf) hp'
        have h2 := hc.cost f hf
        have h3 : r'.mostR r'.cst s' (g f) 10 ≤ r.mostR r.cst s f 10 := by
          refine (r'.mostR_le _ _ _ _ _).2 ⟨r.mostR_nonneg _ _ _ _, fun v hv => ?_⟩
          have hlt := r.part_less hs hp hv
          have ih := Reg.Sub.cst hc h0 n _ _ (by omega) (r'.part_lt _ _ _) (r.part_lt _ _ _) (h.part hf (v : Nat))
          have := r.le_mostR r.cst s f hv
          omega
        omega
      · obtain ⟨v, hv, he⟩ := r'.not_parted s' (g f) hp'
        have hlt := r.part_less hs hp hv
        have h4 := h.part hf (v : Nat)
        rw [he] at h4
        have ih := Reg.Sub.cst hc h0 n s' _ (by omega) hs' (r.part_lt _ _ _) h4
        rw [r'.cst_eq hs', if_pos hm] at ih
        have := r.le_mostR r.cst s f hv
        omega
    · rw [r'.cst_not hs' (by simpa using hm)]
      exact r.cst_nonneg h0 hs

/-- features of a list tell some marks -/
def Reg.Tells (r : Reg) (s : Nat) (l : List Nat) : Prop := ∀ a b, a < r.nm → b < r.nm → s.testBit a = true → s.testBit b = true → r.who a ≠ r.who b → ∃ f ∈ l, r.val a f ≠ r.val b f
def Reg.price (r : Reg) : List Nat → Int
  | [] => 0
  | f :: l => r.cost f + r.price l
theorem Reg.price_nonneg (r : Reg) (h0 : ∀ f, f < r.nc → 0 ≤ r.cost f) : ∀ l : List Nat, (∀ f ∈ l, f < r.nc) → 0 ≤ r.price l
  | [], _ => Int.le_refl _
  | f :: l, h => by
    have h1 := r.price_nonneg h0 l (fun f hf => h f (by simp [hf]))
    have h2 := h0 f (h f (by simp))
    simp only [Reg.price]; omega
theorem Reg.cst_le_price (r : Reg) (h0 : ∀ f, f < r.nc → 0 ≤ r.cost f) (hv : ∀ m f, m < r.nm → f < r.nc → 0 ≤ r.val m f ∧ r.val m f ≤ 9) : ∀ (l : List Nat), (∀ f ∈ l, f < r.nc) → ∀ s, s < 2 ^ r.nm → r.Tells s l → r.cst s ≤ r.price l
  | [], _, s, hs, ht => by
    have : r.mixed s = false := by
      cases h : r.mixed s with
      | false => rfl
      | true =>
        obtain ⟨a, b, ha, hb, h1, h2, h3⟩ := (r.mixed_iff s).1 h
        obtain ⟨f, hf, _⟩ := ht a b ha hb h1 h2 h3
        cases hf
    rw [r.cst_not hs this]
    exact Int.le_refl _
  | f :: l, hl, s, hs, ht => by
    have hf := hl f (by simp)
    have hl' : ∀ f ∈ l, f < r.nc := fun f' hf' => hl f' (by simp [hf'])
    have hp0 := r.price_nonneg h0 l hl'
    have hf0 := h0 f hf
    simp only [Reg.price]
    by_cases hp : r.parted s f = true
    · by_cases hm : r.mixed s = true
      · rw [r.cst_eq hs, if_pos hm]
        have h1 := (r.looksR_le r.cst s r.nc).2 f hf hp
        have h2 : r.mostR r.cst s f 10 ≤ r.price l := by
          refine (r.mostR_le _ _ _ _ _).2 ⟨hp0, fun v hv10 => ?_⟩
          refine r.cst_le_price h0 hv l hl' _ (r.part_lt _ _ _) fun a b ha hb h1 h2 h3 => ?_
          rw [r.testBit_part] at h1 h2
          simp at h1 h2
          obtain ⟨f', hf', hne⟩ := ht a b ha hb h1.2.1 h2.2.1 h3
          rcases List.mem_cons.1 hf' with rfl | hf'
          · exact absurd (h1.2.2.trans h2.2.2.symm) hne
          · exact ⟨f', hf', hne⟩
        omega
      · rw [r.cst_not hs (by simpa using hm)]
        omega
    · obtain ⟨v, hv10, he⟩ := r.not_parted s f hp
      have := r.cst_le_price h0 hv l hl' s hs fun a b ha hb h1 h2 h3 => by
        have e1 : r.val a f = v := by
          rw [← he, r.testBit_part] at h1; simp at h1; exact h1.2.2
        have e2 : r.val b f = v := by
          rw [← he, r.testBit_part] at h2; simp at h2; exact h2.2.2
        obtain ⟨f', hf', hne⟩ := ht a b ha hb h1 h2 h3
        rcases List.mem_cons.1 hf' with rfl | hf'
        · exact absurd (e1.trans e2.symm) hne
        · exact ⟨f', hf', hne⟩
      omega
/-- bounds that are none too great for the parts give none too great ones -/
theorem Reg.looksR_mono (r : Reg) {c c' : Nat → Int} {s : Nat} (h : ∀ f v, v < 10 → c (r.part s f (v : Nat)) ≤ c' (r.part s f (v : Nat))) : ∀ n, r.looksR c s n ≤ r.looksR c' s n := fun n => by
  refine (r.le_looksR _ _ _ _).2 ⟨(r.looksR_le _ _ _).1, fun f hf hp => ?_⟩
  have h1 := (r.looksR_le c s n).2 f hf hp
  have h2 : r.mostR c s f 10 ≤ r.mostR c' s f 10 := (r.mostR_le _ _ _ _ _).2 ⟨r.mostR_nonneg _ _ _ _, fun v hv => by
    have := h f v hv
    have := r.le_mostR c' s f hv
    omega⟩
  omega
end Go.Proofs.Ytdminglglapnlaa

/-
  What is proved: a tree that tells marks costs no less at worst than they do.
-/
namespace Go.Proofs.Ytdminglglapnlaa

structure Tr where
  n : Nat
  root : Int
  feat : Nat → Int
  nb : Nat → Nat
  bv : Nat → Nat → Int
  bt : Nat → Nat → Int
/-- the branch of a node that a value takes -/
def Tr.branch (t : Tr) (i : Nat) (x : Int) : Option Nat := (List.range (t.nb i)).find? fun b => decide (t.bv i b = x)
theorem Tr.branch_some {t : Tr} {i b : Nat} {x : Int} (h : t.branch i x = some b) : b < t.nb i ∧ t.bv i b = x := by
  unfold Tr.branch at h
  have h1 := List.find?_some h
  have h2 := List.mem_of_find?_eq_some h
  exact ⟨List.mem_range.1 h2, by simpa using h1⟩
theorem Tr.branch_none {t : Tr} {i : Nat} {x : Int} (h : t.branch i x = none) : ∀ b, b < t.nb i → t.bv i b ≠ x := by
  unfold Tr.branch at h
  rw [List.find?_eq_none] at h
  intro b hb
  simpa using h b (List.mem_range.2 hb)
/-- where one ends from a number on, with values, and what the looks cost; none: it says nothing -/
def Tr.go (t : Tr) (cost val : Nat → Int) : Nat → Int → Option (Int × Int)
  | 0, p => if p < 0 then some (p, 0) else none
  | k + 1, p => if p < 0 then some (p, 0) else
    match t.branch p.toNat (val (t.feat p.toNat).toNat) with
    | none => none
    | some b => (t.go cost val k (t.bt p.toNat b)).map fun x => (x.1, cost (t.feat p.toNat).toNat + x.2)
theorem Tr.go_end (t : Tr) (cost val : Nat → Int) (k : Nat) {p : Int} (h : p < 0) : t.go cost val k p = some (p, 0) := by
  cases k <;> simp [Tr.go, h]
/-- the nodes' features are some of the register's -/
def Tr.Feats (t : Tr) (nc : Nat) : Prop := ∀ i, i < t.n → 0 ≤ t.feat i ∧ t.feat i < nc
/-- branches lead to later nodes, or to makers -/
def Tr.On (t : Tr) : Prop := ∀ i b, i < t.n → b < t.nb i → t.bt i b < 0 ∨ ((i : Int) < t.bt i b ∧ t.bt i b < t.n)
theorem Tr.go_nonneg {t : Tr} {cost val : Nat → Int} {nc : Nat} (h0 : ∀ f, f < nc → 0 ≤ cost f) (hf : t.Feats nc) (ho : t.On) : ∀ (k : Nat) (p : Int) (x : Int × Int), p < t.n → t.go cost val k p = some x → 0 ≤ x.2
  | 0, p, x, _, h => by
    simp only [Tr.go] at h
    split at h
    · cases h; exact Int.le_refl _
    · cases h
  | k + 1, p, x, hp, h => by
    simp only [Tr.go] at h
    split at h
    · cases h; exact Int.le_refl _
    · rename_i hp0
      split at h
      · cases h
      · rename_i b hb
        obtain ⟨hb1, hb2⟩ := Tr.branch_some hb
        have hpn : p.toNat < t.n := by omega
        cases hg : t.go cost val k (t.bt p.toNat b) with
        | none => rw [hg] at h; cases h
        | some y =>
          rw [hg] at h
          simp only [Option.map_some, Option.some.injEq] at h
          subst h
          have h1 := Tr.go_nonneg h0 hf ho k _ y (by rcases ho _ b hpn hb1 with h | h <;> omega) hg
          have h2 := hf _ hpn
          have h3 := h0 (t.feat p.toNat).toNat (by omega)
          show 0 ≤ cost (t.feat p.toNat).toNat + y.2
          omega
theorem Reg.cst_le_tree (r : Reg) (h0 : ∀ f, f < r.nc → 0 ≤ r.cost f) (hv : ∀ m f, m < r.nm → f < r.nc → 0 ≤ r.val m f ∧ r.val m f ≤ 9) {t : Tr} (hf : t.Feats r.nc) (ho : t.On) : ∀ (k : Nat) (p : Int) (s : Nat) (W : Int), p < t.n → s < 2 ^ r.nm → 0 ≤ W →
    (∀ m, m < r.nm → s.testBit m = true → ∃ c, t.go r.cost (r.val m) k p = some (-1 - r.who m, c) ∧ c ≤ W) → r.cst s ≤ W := by
  intro k
  induction k with
  | zero =>
    intro p s W hp hs hW h
    have : r.mixed s = false := by
      cases hm : r.mixed s with
      | false => rfl
      | true =>
        obtain ⟨a, b, ha, hb, h1, h2, h3⟩ := (r.mixed_iff s).1 hm
        obtain ⟨ca, ea, _⟩ := h a ha h1
        obtain ⟨cb, eb, _⟩ := h b hb h2
        simp only [Tr.go] at ea eb
        split at ea
        · rename_i hp0
          rw [if_pos hp0] at eb
          simp at ea eb
          omega
        · cases ea
    rw [r.cst_not hs this]; exact hW
  | succ k ih =>
    intro p s W hp hs hW h
    by_cases hm : r.mixed s = true
    · obtain ⟨a, b, ha, hb, h1, h2, h3⟩ := (r.mixed_iff s).1 hm
      by_cases hp0 : p < 0
      · obtain ⟨ca, ea, _⟩ := h a ha h1
        obtain ⟨cb, eb, _⟩ := h b hb h2
        rw [Tr.go_end _ _ _ _ hp0] at ea eb
        simp at ea eb
        omega
      · have hpn : p.toNat < t.n := by omega
        have hfe := hf _ hpn
        obtain ⟨f, hfn⟩ : ∃ f, (t.feat p.toNat).toNat = f := ⟨_, rfl⟩
        have hfr : f < r.nc := by omega
        have hf0 := h0 f hfr
        -- what a mark's way costs
        have way : ∀ m, m < r.nm → s.testBit m = true → ∃ b c, b < t.nb p.toNat ∧ t.branch p.toNat (r.val m f) = some b ∧ t.go r.cost (r.val m) k (t.bt p.toNat b) = some (-1 - r.who m, c) ∧ r.cost f + c ≤ W ∧ 0 ≤ c := fun m hm1 hm2 => by
          obtain ⟨c, e, hc⟩ := h m hm1 hm2
          simp only [Tr.go, if_neg hp0, hfn] at e
          cases hbr : t.branch p.toNat (r.val m f) with
          | none => rw [hbr] at e; cases e
          | some b =>
            rw [hbr] at e
            simp only at e
            cases hg : t.go r.cost (r.val m) k (t.bt p.toNat b) with
            | none => rw [hg] at e; cases e
            | some y =>
              rw [hg] at e
              simp only [Option.map_some, Option.some.injEq, Prod.mk.injEq] at e
              obtain ⟨hb1, _⟩ := Tr.branch_some hbr
              have hn := Tr.go_nonneg h0 hf ho k _ y (by rcases ho _ b hpn hb1 with h | h <;> omega) hg
              refine ⟨b, y.2, hb1, rfl, ?_, by omega, hn⟩
              rw [← e.1]; exact hg
        have hcW : r.cost f ≤ W := by
          obtain ⟨_, c, _, _, _, h4, h5⟩ := way a ha h1
          omega
        have hpart : ∀ v : Nat, v < 10 → r.cst (r.part s f v) ≤ W - r.cost f := fun v hv10 => by
          have hin : ∀ m, (r.part s f v).testBit m = true → m < r.nm ∧ s.testBit m = true ∧ r.val m f = v := fun m hm => by
            rw [r.testBit_part] at hm; simp at hm; exact ⟨hm.1, hm.2.1, hm.2.2⟩
          cases hbr : t.branch p.toNat v with
          | none =>
            have : r.mixed (r.part s f v) = false := by
              cases hm2 : r.mixed (r.part s f v) with
              | false => rfl
              | true =>
                obtain ⟨a', _, _, _, ha2, _, _⟩ := (r.mixed_iff _).1 hm2
                obtain ⟨i1, i2, i3⟩ := hin a' ha2
                obtain ⟨b', _, _, hb2, _⟩ := way a' i1 i2
                rw [i3, hbr] at hb2; cases hb2
            rw [r.cst_not (r.part_lt _ _ _) this]; omega
          | some b' =>
            obtain ⟨hb1, _⟩ := Tr.branch_some hbr
            refine ih (t.bt p.toNat b') _ _ (by rcases ho _ b' hpn hb1 with h | h <;> omega) (r.part_lt _ _ _) (by omega) fun m hm1 hm2 => ?_
            obtain ⟨i1, i2, i3⟩ := hin m hm2
            obtain ⟨b2, c, _, hb2, hg, hcost, _⟩ := way m i1 i2
            rw [i3, hbr] at hb2
            cases hb2
            exact ⟨c, hg, by omega⟩
        by_cases hpd : r.parted s f = true
        · rw [r.cst_eq hs, if_pos hm]
          have h4 := (r.looksR_le r.cst s r.nc).2 f hfr hpd
          have h5 : r.mostR r.cst s f 10 ≤ W - r.cost f := (r.mostR_le _ _ _ _ _).2 ⟨by omega, hpart⟩
          omega
        · obtain ⟨v, hv10, he⟩ := r.not_parted s f hpd
          have := hpart v hv10
          rw [he] at this
          omega
    · rw [r.cst_not hs (by simpa using hm)]; exact hW
end Go.Proofs.Ytdminglglapnlaa

/-
  What is proved: plain words on layer 10: errors of registers, trees, tables, features; how a list of bits goes with a set.
-/
namespace Go.Proofs.Ytdminglglapnlaa

/-! ### registers -/
def Reg.manyB (r : Reg) : Bool := decide (r.nm < 1) || decide (10 < r.nm) || decide (r.nc < 1) || decide (8 < r.nc)
def Reg.costB (r : Reg) (f : Nat) : Bool := decide (r.cost f < 1) || decide (1000 < r.cost f)
def Reg.valB (r : Reg) (m f : Nat) : Bool := decide (r.val m f < 0) || decide (9 < r.val m f)
def Reg.markB (r : Reg) (m : Nat) : Bool := decide (r.who m < 0) || decide (1000 < r.who m) || decide (r.nv m ≠ r.nc) || (List.range (r.nv m)).any (r.valB m)
/-- the error of a register, as a number -/
def Reg.check (r : Reg) : Int := if r.manyB = true then 6 else if (List.range r.nc).any r.costB = true then 2 else if (List.range r.nm).any r.markB = true then 3 else 0
theorem Reg.ok_of {r : Reg} (h : r.check = 0) : r.Ok := by
  unfold Reg.check at h
  split at h
  · exact absurd h (by decide)
  split at h
  · exact absurd h (by decide)
  split at h
  · exact absurd h (by decide)
  rename_i h1 h2 h3
  simp only [Reg.manyB, Bool.or_eq_true, decide_eq_true_eq, not_or] at h1
  simp only [Bool.not_eq_true, List.any_eq_false, List.mem_range, Reg.costB, Reg.markB, Bool.or_eq_false_iff, decide_eq_false_iff_not, Reg.valB] at h2 h3
  have hnv : ∀ m, m < r.nm → r.nv m = r.nc := fun m hm => by have := (h3 m hm).1.2; exact Classical.byContradiction this
  refine ⟨by omega, by omega, by omega, by omega, fun f hf => ?_, fun m hm => ?_, hnv, fun m f hm hf => ?_⟩
  · have := h2 f hf; omega
  · have := h3 m hm; omega
  · have := (h3 m hm).2 f (by rw [hnv m hm]; exact hf); omega
theorem Reg.Ok.check {r : Reg} (h : r.Ok) : r.check = 0 := by
  unfold Reg.check
  have h1 : r.manyB = false := by simp [Reg.manyB]; have := h.m1; have := h.m10; have := h.c1; have := h.c8; omega
  have h2 : (List.range r.nc).any r.costB = false := by
    simp only [List.any_eq_false, List.mem_range, Reg.costB, Bool.or_eq_true, decide_eq_true_eq]
    intro f hf; have := h.cost f hf; omega
  have h3 : (List.range r.nm).any r.markB = false := by
    simp only [List.any_eq_false, List.mem_range, Reg.markB, Bool.not_eq_true, Bool.or_eq_false_iff, decide_eq_false_iff_not, Reg.valB]
    intro m hm
    have h4 := h.who m hm
    have h5 := h.nv m hm
    refine ⟨⟨⟨by omega, by omega⟩, by omega⟩, fun f hf => ?_⟩
    have := h.val m f hm (by omega)
    omega
  rw [h1, h2, h3]; rfl
theorem Reg.ok_iff (r : Reg) : r.check = 0 ↔ r.Ok := ⟨Reg.ok_of, Reg.Ok.check⟩

/-! ### twins -/
def Reg.twin (r : Reg) (a b : Nat) : Bool := decide (r.who a ≠ r.who b) && (List.range r.nc).all fun f => decide (r.val a f = r.val b f)
theorem Reg.twin_iff (r : Reg) (a b : Nat) : r.twin a b = true ↔ r.who a ≠ r.who b ∧ ∀ f, f < r.nc → r.val a f = r.val b f := by
  unfold Reg.twin
  simp only [Bool.and_eq_true, decide_eq_true_eq, List.all_eq_true, List.mem_range]
theorem Reg.twin_comm (r : Reg) (a b : Nat) : r.twin a b = r.twin b a := by
  rw [Bool.eq_iff_iff, r.twin_iff, r.twin_iff]
  exact ⟨fun h => ⟨h.1.symm, fun f hf => (h.2 f hf).symm⟩, fun h => ⟨h.1.symm, fun f hf => (h.2 f hf).symm⟩⟩
def Reg.NoTwins (r : Reg) : Prop := ∀ i k, i < k → k < r.nm → r.twin i k = false
structure Reg.First (r : Reg) (i k : Nat) : Prop where
  lt : i < k
  nm : k < r.nm
  is : r.twin i k = true
  out : ∀ i' k', i' < i → i' < k' → k' < r.nm → r.twin i' k' = false
  out2 : ∀ k', i < k' → k' < k → r.twin i k' = false
/-- what Twins answers -/
inductive Reg.TwinIs (r : Reg) : Int → Int → Int → Prop
  | bad : r.check ≠ 0 → r.TwinIs 0 0 r.check
  | none : r.check = 0 → r.NoTwins → r.TwinIs 0 0 5
  | some (i k : Nat) : r.check = 0 → r.First i k → r.TwinIs i k 0
theorem Reg.First.unique {r : Reg} {i k i' k' : Nat} (h : r.First i k) (h' : r.First i' k') : i = i' ∧ k = k' := by
  have e : i = i' := by
    rcases Nat.lt_trichotomy i i' with hl | hl | hl
    · have := h'.out i k hl h.lt h.nm; rw [h.is] at this; cases this
    · exact hl
    · have := h.out i' k' hl h'.lt h'.nm; rw [h'.is] at this; cases this
  subst e
  refine ⟨rfl, ?_⟩
  rcases Nat.lt_trichotomy k k' with hl | hl | hl
  · have := h'.out2 k h.lt hl; rw [h.is] at this; cases this
  · exact hl
  · have := h.out2 k' h'.lt hl; rw [h'.is] at this; cases this
theorem Reg.TwinIs.unique {r : Reg} {a b e a' b' e' : Int} (h : r.TwinIs a b e) (h' : r.TwinIs a' b' e') : a = a' ∧ b = b' ∧ e = e' := by
  cases h with
  | bad hc =>
    cases h' with
    | bad _ => exact ⟨rfl, rfl, rfl⟩
    | none h0 _ => exact absurd h0 hc
    | some _ _ h0 _ => exact absurd h0 hc
  | none hc hn =>
    cases h' with
    | bad h0 => exact absurd hc h0
    | none _ _ => exact ⟨rfl, rfl, rfl⟩
    | some i k _ hf => have := hn i k hf.lt hf.nm; rw [hf.is] at this; cases this
  | some i k hc hf =>
    cases h' with
    | bad h0 => exact absurd hc h0
    | none _ hn => have := hn i k hf.lt hf.nm; rw [hf.is] at this; cases this
    | some i' k' _ hf' => obtain ⟨rfl, rfl⟩ := hf.unique hf'; exact ⟨rfl, rfl, rfl⟩
theorem Reg.TwinIs.none_iff {r : Reg} {a b e : Int} (h : r.TwinIs a b e) : e = 5 ↔ r.check = 0 ∧ r.NoTwins := by
  cases h with
  | bad hc =>
    constructor
    · intro h
      unfold Reg.check at h hc
      split at h
      · cases h
      split at h
      · cases h
      split at h
      · cases h
      · cases h
    · intro h; exact absurd h.1 hc
  | none hc hn => exact ⟨fun _ => ⟨hc, hn⟩, fun _ => rfl⟩
  | some i k hc hf => exact ⟨fun h => absurd h (by decide), fun h => by have := h.2 i k hf.lt hf.nm; rw [hf.is] at this; cases this⟩
theorem Reg.check_mem (r : Reg) : r.check = 0 ∨ r.check = 2 ∨ r.check = 3 ∨ r.check = 6 := by
  unfold Reg.check
  split
  · simp
  split
  · simp
  split <;> simp

/-! ### trees -/
def Tr.toB (t : Tr) (x : Int) (lo : Nat) : Bool := (decide ((lo : Int) ≤ x) && decide (x < t.n)) || (decide (-1001 ≤ x) && decide (x ≤ -1))
/-- a list of numbers that must rise: the number i is bad -/
def riseB (f : Nat → Int) (top : Int) (i : Nat) : Bool := decide (f i < 0) || decide (top ≤ f i) || (decide (0 < i) && decide (f i ≤ f (i - 1)))
def Tr.brB (t : Tr) (i b : Nat) : Bool := riseB (t.bv i) 10 b || !t.toB (t.bt i b) (i + 1)
def Tr.nodeB (t : Tr) (nc : Nat) (i : Nat) : Bool := decide (t.feat i < 0) || decide ((nc : Int) ≤ t.feat i) || (List.range (t.nb i)).any (t.brB i)
def Tr.ruleB (t : Tr) (nc : Nat) : Bool := (List.range t.n).any (t.nodeB nc) || !t.toB t.root 0
def Tr.check (t : Tr) (r : Reg) : Int := if r.check = 0 then (if 100 < t.n then 6 else if t.ruleB r.nc = true then 16 else 0) else r.check
structure Tr.Ok (t : Tr) (nc : Nat) : Prop where
  n : t.n ≤ 100
  feat : ∀ i, i < t.n → 0 ≤ t.feat i ∧ t.feat i < nc
  bv : ∀ i b, i < t.n → b < t.nb i → 0 ≤ t.bv i b ∧ t.bv i b ≤ 9
  up : ∀ i b, i < t.n → b + 1 < t.nb i → t.bv i b < t.bv i (b + 1)
  bt : ∀ i b, i < t.n → b < t.nb i → ((i : Int) < t.bt i b ∧ t.bt i b < t.n) ∨ (-1001 ≤ t.bt i b ∧ t.bt i b ≤ -1)
  root : (0 ≤ t.root ∧ t.root < t.n) ∨ (-1001 ≤ t.root ∧ t.root ≤ -1)
theorem Tr.toB_iff (t : Tr) (x : Int) (lo : Nat) : t.toB x lo = true ↔ ((lo : Int) ≤ x ∧ x < t.n) ∨ (-1001 ≤ x ∧ x ≤ -1) := by
  unfold Tr.toB
  simp only [Bool.or_eq_true, Bool.and_eq_true, decide_eq_true_eq]
theorem riseB_false (f : Nat → Int) (top : Int) (i : Nat) : riseB f top i = false ↔ 0 ≤ f i ∧ f i < top ∧ (0 < i → f (i - 1) < f i) := by
  unfold riseB
  simp only [Bool.or_eq_false_iff, decide_eq_false_iff_not, Bool.and_eq_false_imp, decide_eq_true_eq]
  omega
theorem Tr.ok_iff (t : Tr) (r : Reg) : t.check r = 0 ↔ r.check = 0 ∧ t.Ok r.nc := by
  unfold Tr.check
  by_cases hc : r.check = 0
  · rw [if_pos hc]
    have key : (if 100 < t.n then (6 : Int) else if t.ruleB r.nc = true then 16 else 0) = 0 ↔ t.n ≤ 100 ∧ t.ruleB r.nc = false := by
      by_cases h1 : 100 < t.n
      · simp [h1]; omega
      · cases h2 : t.ruleB r.nc <;> simp [h1] <;> omega
    rw [key]
    constructor
    · rintro ⟨h1, h2⟩
      unfold Tr.ruleB at h2
      simp only [Bool.or_eq_false_iff, List.any_eq_false, List.mem_range, Bool.not_eq_true, Tr.nodeB, decide_eq_false_iff_not, Tr.brB, riseB_false, Bool.not_eq_false', Tr.toB_iff] at h2
      obtain ⟨h2, h3⟩ := h2
      refine ⟨hc, h1, fun i hi => ?_, fun i b hi hb => ?_, fun i b hi hb => ?_, fun i b hi hb => ?_, ?_⟩
      · have := (h2 i hi).1; omega
      · have := ((h2 i hi).2 b hb).1; omega
      · have := ((h2 i hi).2 (b + 1) hb).1.2.2 (by omega); simpa using this
      · have := ((h2 i hi).2 b hb).2; omega
      · have := h3; simpa using this
    · rintro ⟨_, h⟩
      refine ⟨h.n, ?_⟩
      unfold Tr.ruleB
      simp only [Bool.or_eq_false_iff, List.any_eq_false, List.mem_range, Bool.not_eq_true, Tr.nodeB, decide_eq_false_iff_not, Tr.brB, riseB_false, Bool.not_eq_false', Tr.toB_iff]
      refine ⟨fun i hi => ⟨by have := h.feat i hi; omega, fun b hb => ⟨⟨(h.bv i b hi hb).1, by have := (h.bv i b hi hb).2; omega, fun h0 => ?_⟩, ?_⟩⟩, ?_⟩
      · have := h.up i (b - 1) hi (by omega)
        rw [show b - 1 + 1 = b from by omega] at this
        exact this
      · have := h.bt i b hi hb; omega
      · have := h.root; simpa using this
  · rw [if_neg hc]
    exact ⟨fun h => absurd h hc, fun h => absurd h.1 hc⟩
/-- what a tree says of values, and what that costs -/
def Tr.say (t : Tr) (r : Reg) (v : Nat → Int) : Option (Int × Int) := t.go r.cost v (t.n + 1) t.root
def valuesB (v : Nat → Int) (n : Nat) : Bool := (List.range n).any fun f => decide (v f < 0) || decide (9 < v f)
def Tr.followE (t : Tr) (r : Reg) (nv : Nat) (v : Nat → Int) : Int :=
  if t.check r = 0 then (if nv = r.nc then (if valuesB v nv = true then 3 else match t.say r v with | none => 5 | some _ => 0) else 15) else t.check r
def Tr.followA (t : Tr) (r : Reg) (nv : Nat) (v : Nat → Int) : Int := if t.followE r nv v = 0 then match t.say r v with | none => 0 | some x => -1 - x.1 else 0
def Tr.followC (t : Tr) (r : Reg) (nv : Nat) (v : Nat → Int) : Int := if t.followE r nv v = 0 then match t.say r v with | none => 0 | some x => x.2 else 0
/-- the greatest of the first n numbers, at least 0 -/
def mx (f : Nat → Int) : Nat → Int
  | 0 => 0
  | k + 1 => max (mx f k) (f k)
theorem mx_le (f : Nat → Int) (x : Int) : ∀ n, mx f n ≤ x ↔ 0 ≤ x ∧ ∀ i, i < n → f i ≤ x
  | 0 => by simp [mx]
  | n + 1 => by
    have ih := mx_le f x n
    simp only [mx]
    constructor
    · intro h
      obtain ⟨h1, h2⟩ := ih.1 (by omega)
      refine ⟨h1, fun v hv => ?_⟩
      rcases Nat.lt_or_ge v n with h3 | h3
      · exact h2 v h3
      · have : v = n := by omega
        subst this; omega
    · rintro ⟨h1, h2⟩
      have := ih.2 ⟨h1, fun v hv => h2 v (by omega)⟩
      have := h2 n (by omega)
      omega
theorem mx_nonneg (f : Nat → Int) (n : Nat) : 0 ≤ mx f n := ((mx_le f _ n).1 (Int.le_refl _)).1
theorem le_mx (f : Nat → Int) {n i : Nat} (h : i < n) : f i ≤ mx f n := ((mx_le f _ n).1 (Int.le_refl _)).2 i h
theorem mx_congr {f g : Nat → Int} : ∀ n, (∀ i, i < n → f i = g i) → mx f n = mx g n
  | 0, _ => rfl
  | n + 1, h => by simp only [mx]; rw [mx_congr n (fun i hi => h i (by omega)), h n (by omega)]
theorem mx_eq (f : Nat → Int) : ∀ n, 0 < n → (∀ i, i < n → 0 ≤ f i) → ∃ i, i < n ∧ f i = mx f n
  | 0, h, _ => absurd h (by omega)
  | n + 1, _, h => by
    simp only [mx]
    by_cases h1 : mx f n ≤ f n
    · exact ⟨n, by omega, by omega⟩
    · cases n with
      | zero => exact ⟨0, by omega, by have := h 0 (by omega); simp only [mx] at h1 ⊢; omega⟩
      | succ k =>
        obtain ⟨i, hi, e⟩ := mx_eq f (k + 1) (by omega) (fun i hi => h i (by omega))
        exact ⟨i, by omega, by omega⟩
def Tr.tellsB (t : Tr) (r : Reg) (m : Nat) : Bool := match t.say r (r.val m) with | none => false | some x => decide (-1 - x.1 = r.who m)
def Tr.costAt (t : Tr) (r : Reg) (m : Nat) : Int := match t.say r (r.val m) with | none => 0 | some x => x.2
def Tr.treeE (t : Tr) (r : Reg) : Int := if t.check r = 0 then (if (List.range r.nm).all (t.tellsB r) = true then 0 else 24) else t.check r
def Tr.treeA (t : Tr) (r : Reg) : Int := if t.treeE r = 0 then mx (t.costAt r) r.nm else 0
end Go.Proofs.Ytdminglglapnlaa

/-
  What is proved: plain words on layer 10: sets as lists of bits; right tables of bounds, whose bounds are none too great.
-/
namespace Go.Proofs.Ytdminglglapnlaa

/-- the bits of a set, in order -/
def bitsL (n s : Nat) : List Nat := (List.range n).filter fun i => s.testBit i
theorem mem_bitsL {n s i : Nat} : i ∈ bitsL n s ↔ i < n ∧ s.testBit i = true := by simp [bitsL]
theorem bitsL_succ (n s : Nat) : bitsL (n + 1) s = if s.testBit n = true then bitsL n s ++ [n] else bitsL n s := by
  unfold bitsL
  rw [List.range_succ, List.filter_append]
  by_cases h : s.testBit n = true
  · simp [h]
  · simp [h]
theorem bitsL_length_le (n s : Nat) : (bitsL n s).length ≤ n := by
  have := List.length_filter_le (fun i => s.testBit i) (List.range n)
  simpa [bitsL] using this
theorem bitsL_of_le {n m s : Nat} (hs : s < 2 ^ n) (h : n ≤ m) : bitsL m s = bitsL n s := by
  induction m with
  | zero => have : n = 0 := by omega
            subst this; rfl
  | succ m ih =>
    by_cases he : n = m + 1
    · rw [he]
    · rw [bitsL_succ, if_neg, ih (by omega)]
      rw [Nat.testBit_lt_two_pow (Nat.lt_of_lt_of_le hs (Nat.pow_le_pow_right (by omega) (by omega)))]
      exact Bool.false_ne_true
/-- numbers as bits -/
def bitsN (f : Nat → Nat) : Nat → Nat
  | 0 => 0
  | k + 1 => bitsN f k ||| 2 ^ f k
theorem testBit_bitsN (f : Nat → Nat) (m : Nat) : ∀ n, (bitsN f n).testBit m = (List.range n).any fun i => decide (f i = m)
  | 0 => by simp [bitsN]
  | n + 1 => by
    simp only [bitsN, Nat.testBit_or, testBit_bitsN f m n, List.range_succ, List.any_append, List.any_cons, List.any_nil, Bool.or_false, Nat.testBit_two_pow]
theorem bitsN_lt {f : Nat → Nat} {top : Nat} : ∀ n, (∀ i, i < n → f i < top) → bitsN f n < 2 ^ top
  | 0, _ => by simp [bitsN]; exact Nat.two_pow_pos _
  | n + 1, h => by
    have ih := bitsN_lt n (fun i hi => h i (by omega))
    simp only [bitsN]
    exact Nat.or_lt_two_pow ih (Nat.pow_lt_pow_right (by omega) (h n (by omega)))
/-- a rising list of numbers -/
structure Rise (f : Nat → Int) (n top : Nat) : Prop where
  lo : ∀ i, i < n → 0 ≤ f i
  hi : ∀ i, i < n → f i < top
  up : ∀ i, i + 1 < n → f i < f (i + 1)
theorem rise_iff (f : Nat → Int) (n top : Nat) : (List.range n).any (riseB f top) = false ↔ Rise f n top := by
  simp only [List.any_eq_false, List.mem_range, Bool.not_eq_true, riseB_false]
  constructor
  · intro h
    refine ⟨fun i hi => (h i hi).1, fun i hi => (h i hi).2.1, fun i hi => ?_⟩
    have := (h (i + 1) hi).2.2 (by omega)
    simpa using this
  · intro h i hi
    refine ⟨h.lo i hi, h.hi i hi, fun h0 => ?_⟩
    have := h.up (i - 1) (by omega)
    rwa [show i - 1 + 1 = i from by omega] at this
theorem Rise.mono {f : Nat → Int} {n top : Nat} (h : Rise f n top) : ∀ i j, i < j → j < n → f i < f j
  | i, 0, h1, _ => absurd h1 (by omega)
  | i, j + 1, h1, h2 => by
    have h3 := h.up j h2
    by_cases he : i = j
    · subst he; exact h3
    · have := h.mono i j (by omega) (by omega); omega
theorem Rise.ge {f : Nat → Int} {n top : Nat} (h : Rise f n top) : ∀ i, i < n → (i : Int) ≤ f i
  | 0, h0 => by have := h.lo 0 h0; simpa using this
  | i + 1, h0 => by have := h.ge i (by omega); have := h.up i h0; omega
theorem Rise.len {f : Nat → Int} {n top : Nat} (h : Rise f n top) : n ≤ top := by
  cases n with
  | zero => omega
  | succ n => have := h.ge n (by omega); have := h.hi n (by omega); omega
theorem Rise.all {f : Nat → Int} {n : Nat} (h : Rise f n n) : ∀ i, i < n → f i = i := by
  have : ∀ d i, i + d + 1 = n → f i ≤ i := by
    intro d
    induction d with
    | zero => intro i hi; have := h.hi i (by omega); omega
    | succ d ih => intro i hi; have := ih (i + 1) (by omega); have := h.up i (by omega); omega
  intro i hi
  have h1 := h.ge i hi
  have h2 := this (n - 1 - i) i (by omega)
  omega
def setN (f : Nat → Int) (n : Nat) : Nat := bitsN (fun i => (f i).toNat) n
theorem Rise.set_lt {f : Nat → Int} {n top : Nat} (h : Rise f n top) : setN f n < 2 ^ top :=
  bitsN_lt n fun i hi => by have := h.lo i hi; have := h.hi i hi; omega
theorem eq_all {s n : Nat} (hs : s < 2 ^ n) (h : ∀ i, i < n → s.testBit i = true) : s = 2 ^ n - 1 := by
  apply Nat.eq_of_testBit_eq
  intro m
  rw [Nat.testBit_two_pow_sub_one]
  by_cases hm : m < n
  · simp [hm, h m hm]
  · have hs2 : s < 2 ^ m := Nat.lt_of_lt_of_le hs (Nat.pow_le_pow_right (by omega) (by omega))
    simp [hm, Nat.testBit_lt_two_pow hs2]
theorem Rise.set_all {f : Nat → Int} {n : Nat} (h : Rise f n n) : setN f n = 2 ^ n - 1 :=
  eq_all h.set_lt fun i hi => by
    unfold setN
    rw [testBit_bitsN]
    simp only [List.any_eq_true, List.mem_range, decide_eq_true_eq]
    exact ⟨i, hi, by rw [h.all i hi]; omega⟩
/-- a rising list is that of its bits -/
theorem Rise.bits {f : Nat → Int} {top : Nat} : ∀ {n : Nat}, Rise f n top → bitsL top (setN f n) = (List.range n).map fun i => (f i).toNat := by
  intro n h
  have hs : ∀ k, k ≤ top → bitsL k (setN f n) = ((List.range n).map fun i => (f i).toNat).filter fun x => decide (x < k) := by
    intro k
    induction k with
    | zero => intro _; simp [bitsL]
    | succ k ih =>
      intro hk
      rw [bitsL_succ, ih (by omega)]
      have e : ∀ m, m ≤ n → ((List.range m).map fun i => (f i).toNat).filter (fun x => decide (x < k + 1)) = ((List.range m).map fun i => (f i).toNat).filter (fun x => decide (x < k)) ++ (if ((List.range m).any fun i => decide ((f i).toNat = k)) = true then [k] else []) := by
        intro m
        induction m with
        | zero => intro _; simp
        | succ m ih2 =>
          intro hm
          have i1 := ih2 (by omega)
          simp only [List.range_succ, List.map_append, List.filter_append, List.map_cons, List.map_nil, List.any_append, List.any_cons, List.any_nil, Bool.or_false] at i1 ⊢
          rw [i1]
          have hlo := h.lo m (by omega)
          by_cases h1 : (f m).toNat < k
          · have h2 : ¬ (f m).toNat = k := by omega
            have h3 : (List.range m).any (fun i => decide ((f i).toNat = k)) = false := by
              simp only [List.any_eq_false, List.mem_range, decide_eq_true_eq]
              intro i hi hc
              have := h.mono i m hi (by omega)
              have := h.lo i (by omega)
              omega
            have h4 : (f m).toNat < k + 1 := by omega
            simp [h1, h2, h3, h4]
          · by_cases h2 : (f m).toNat = k
            · have h3 : (List.range m).any (fun i => decide ((f i).toNat = k)) = false := by
                simp only [List.any_eq_false, List.mem_range, decide_eq_true_eq]
                intro i hi hc
                have := h.mono i m hi (by omega)
                have := h.lo i (by omega)
                omega
              simp [h2, h3]
            · have h4 : ¬ (f m).toNat < k + 1 := by omega
              simp [h1, h2, h4]
      rw [e n (Nat.le_refl _)]
      have h5 : (setN f n).testBit k = (List.range n).any fun i => decide ((f i).toNat = k) := testBit_bitsN _ _ _
      rw [h5]
      split <;> simp
  rw [hs top (Nat.le_refl _)]
  apply List.filter_eq_self.2
  intro x hx
  simp only [List.mem_map, List.mem_range] at hx
  obtain ⟨i, hi, rfl⟩ := hx
  have := h.hi i hi
  have := h.lo i hi
  simp; omega

/-! ### tables -/
structure Bn where
  n : Nat
  len : Nat → Nat
  el : Nat → Nat → Int
  cost : Nat → Int
def Bn.badB (b : Bn) (r : Reg) (i : Nat) : Bool := decide (b.len i = 0) || (List.range (b.len i)).any (riseB (b.el i) r.nm) || decide (b.cost i < 0) || decide (100000 < b.cost i)
def Bn.sumB (b : Bn) (r : Reg) : Bool := decide (b.n = 0) || decide (b.len (b.n - 1) < r.nm)
def Bn.set (b : Bn) (i : Nat) : Nat := setN (b.el i) (b.len i)
/-- the greatest costs of the first k entries -/
def Bn.top (b : Bn) : Nat → Nat → Int
  | 0, _ => 0
  | k + 1, s => if s = b.set k then max (b.top k s) (b.cost k) else b.top k s
def Bn.rightB (b : Bn) (r : Reg) (i : Nat) : Bool := decide (b.cost i ≤ 0) || (r.mixed (b.set i) && decide (b.cost i ≤ r.looksR (b.top i) (b.set i) r.nc))
def Bn.err (b : Bn) (r : Reg) : Int := if r.check = 0 then (if 1100 < b.n then 6 else if (List.range b.n).any (b.badB r) = true then 3 else if b.sumB r = true then 14 else if (List.range b.n).all (b.rightB r) = true then 0 else 14) else r.check
def Bn.ans (b : Bn) (r : Reg) : Int := if b.err r = 0 then b.cost (b.n - 1) else 0
structure Bn.Ok (b : Bn) (r : Reg) : Prop where
  n1 : 1 ≤ b.n
  n : b.n ≤ 1100
  len : ∀ i, i < b.n → 1 ≤ b.len i
  rise : ∀ i, i < b.n → Rise (b.el i) (b.len i) r.nm
  cost : ∀ i, i < b.n → 0 ≤ b.cost i ∧ b.cost i ≤ 100000
  last : b.len (b.n - 1) = r.nm
  right : ∀ i, i < b.n → b.rightB r i = true
theorem Bn.badB_false (b : Bn) (r : Reg) (i : Nat) : b.badB r i = false ↔ 1 ≤ b.len i ∧ Rise (b.el i) (b.len i) r.nm ∧ 0 ≤ b.cost i ∧ b.cost i ≤ 100000 := by
  unfold Bn.badB
  simp only [Bool.or_eq_false_iff, decide_eq_false_iff_not, rise_iff]
  constructor
  · rintro ⟨⟨⟨h1, h2⟩, h3⟩, h4⟩; exact ⟨by omega, h2, by omega, by omega⟩
  · rintro ⟨h1, h2, h3, h4⟩; exact ⟨⟨⟨by omega, h2⟩, by omega⟩, by omega⟩
theorem Bn.ok_iff (b : Bn) (r : Reg) : b.err r = 0 ↔ r.check = 0 ∧ b.Ok r := by
  unfold Bn.err
  by_cases hc : r.check = 0
  · rw [if_pos hc]
    constructor
    · intro h
      split at h
      · cases h
      split at h
      · cases h
      split at h
      · cases h
      split at h
      · rename_i h1 h2 h3 h4
        simp only [Bool.not_eq_true, List.any_eq_false, List.mem_range, Bn.badB_false] at h2
        unfold Bn.sumB at h3
        simp only [Bool.not_eq_true, Bool.or_eq_false_iff, decide_eq_false_iff_not] at h3
        simp only [List.all_eq_true, List.mem_range] at h4
        have hl := (h2 (b.n - 1) (by omega)).2.1.len
        exact ⟨hc, by omega, by omega, fun i hi => (h2 i hi).1, fun i hi => (h2 i hi).2.1, fun i hi => (h2 i hi).2.2, by omega, h4⟩
      · cases h
    · rintro ⟨_, h⟩
      have h0 := h.n
      have h1 := h.n1
      have h2 := h.last
      rw [if_neg (by omega), if_neg, if_neg, if_pos]
      · simp only [List.all_eq_true, List.mem_range]; exact h.right
      · unfold Bn.sumB; simp; omega
      · simp only [Bool.not_eq_true, List.any_eq_false, List.mem_range, Bn.badB_false]
        exact fun i hi => ⟨h.len i hi, h.rise i hi, h.cost i hi⟩
  · rw [if_neg hc]
    exact ⟨fun h => absurd h hc, fun h => absurd h.1 hc⟩
theorem Bn.top_nonneg (b : Bn) : ∀ k s, 0 ≤ b.top k s
  | 0, _ => Int.le_refl _
  | k + 1, s => by
    have := b.top_nonneg k s
    simp only [Bn.top]
    split <;> omega
theorem Bn.top_le {b : Bn} {r : Reg} (hr : r.Ok) : ∀ k, (∀ i, i < k → Rise (b.el i) (b.len i) r.nm) → (∀ i, i < k → b.rightB r i = true) → ∀ s, s < 2 ^ r.nm → b.top k s ≤ r.cst s
  | 0, _, _, s, hs => r.cst_nonneg (fun f hf => by have := hr.cost f hf; omega) hs
  | k + 1, h1, h2, s, hs => by
    have h0 : ∀ f, f < r.nc → 0 ≤ r.cost f := fun f hf => by have := hr.cost f hf; omega
    have ih := Bn.top_le hr k (fun i hi => h1 i (by omega)) (fun i hi => h2 i (by omega))
    have ihs := ih s hs
    simp only [Bn.top]
    split
    · rename_i he
      have hb := h2 k (by omega)
      unfold Bn.rightB at hb
      simp only [Bool.or_eq_true, decide_eq_true_eq, Bool.and_eq_true] at hb
      have hk : b.cost k ≤ r.cst s := by
        rcases hb with hb | ⟨hm, hb⟩
        · have := r.cst_nonneg h0 hs; omega
        · rw [← he] at hm hb
          rw [r.cst_eq hs, if_pos hm]
          exact Int.le_trans hb (r.looksR_mono (fun f v hv => ih _ (r.part_lt _ _ _)) _)
      omega
    · exact ihs
/-- no right table has a greater bound than a best tree costs -/
theorem Bn.ans_le {b : Bn} {r : Reg} (h : b.err r = 0) : b.ans r ≤ r.cst (2 ^ r.nm - 1) := by
  obtain ⟨hc, hb⟩ := (b.ok_iff r).1 h
  have hr := Reg.ok_of hc
  have h0 : ∀ f, f < r.nc → 0 ≤ r.cost f := fun f hf => by have := hr.cost f hf; omega
  unfold Bn.ans
  rw [if_pos h]
  have hn := hb.n1
  have hl := hb.rise (b.n - 1) (by omega)
  rw [hb.last] at hl
  have hs : b.set (b.n - 1) = 2 ^ r.nm - 1 := by
    unfold Bn.set
    rw [hb.last]
    exact hl.set_all
  have hlt : 2 ^ r.nm - 1 < 2 ^ r.nm := by have := Nat.two_pow_pos r.nm; omega
  have h1 := Bn.top_le hr (b.n - 1 + 1) (fun i hi => hb.rise i (by omega)) (fun i hi => hb.right i (by omega)) (2 ^ r.nm - 1) hlt
  simp only [Bn.top] at h1
  rw [if_pos hs.symm] at h1
  omega
end Go.Proofs.Ytdminglglapnlaa

/-
  What is proved: plain words on layer 10: features that tell, the cheapest ones, and those that nobody can do without.
-/
namespace Go.Proofs.Ytdminglglapnlaa

def Reg.partB (r : Reg) (l : List Nat) (a b : Nat) : Bool := decide (r.who a = r.who b) || l.any fun f => decide (r.val a f ≠ r.val b f)
/-- features tell the marks -/
def Reg.tellB (r : Reg) (l : List Nat) : Bool := (List.range r.nm).all fun a => (List.range a).all fun b => r.partB l a b
theorem Reg.tellB_iff (r : Reg) (l : List Nat) : r.tellB l = true ↔ ∀ a b, b < a → a < r.nm → r.who a = r.who b ∨ ∃ f ∈ l, r.val a f ≠ r.val b f := by
  unfold Reg.tellB Reg.partB
  simp only [List.all_eq_true, List.mem_range, Bool.or_eq_true, decide_eq_true_eq, List.any_eq_true]
  exact ⟨fun h a b hb ha => h a ha b hb, fun h a ha b hb => h a b hb ha⟩
theorem Reg.tellB_tells (r : Reg) (l : List Nat) (s : Nat) (h : r.tellB l = true) : r.Tells s l := by
  rw [r.tellB_iff] at h
  intro a b ha hb _ _ hne
  rcases Nat.lt_trichotomy a b with hl | hl | hl
  · rcases h b a hl hb with h1 | ⟨f, hf, h1⟩
    · exact absurd h1.symm hne
    · exact ⟨f, hf, fun e => h1 e.symm⟩
  · subst hl; exact absurd rfl hne
  · rcases h a b hl ha with h1 | h1
    · exact absurd h1 hne
    · exact h1
/-- no twins, to be asked -/
def Reg.noTwB (r : Reg) : Bool := (List.range r.nm).all fun k => (List.range k).all fun i => !r.twin i k
theorem Reg.noTwB_iff (r : Reg) : r.noTwB = true ↔ r.NoTwins := by
  unfold Reg.noTwB Reg.NoTwins
  simp only [List.all_eq_true, List.mem_range, Bool.not_eq_true']
  exact ⟨fun h i k hi hk => h k hk i hi, fun h k hk i hi => h i k hi hk⟩
theorem Reg.NoTwins.tell {r : Reg} (h : r.NoTwins) : r.tellB (List.range r.nc) = true := by
  rw [r.tellB_iff]
  intro a b hb ha
  have := h b a hb ha
  cases ht : r.twin b a with
  | true => rw [ht] at this; cases this
  | false =>
    by_cases hw : r.who a = r.who b
    · exact .inl hw
    · refine .inr (Classical.byContradiction fun hc => ?_)
      have : r.twin b a = true := (r.twin_iff b a).2 ⟨fun e => hw e.symm, fun f hf => Classical.byContradiction fun hne => hc ⟨f, by simpa using hf, fun e => hne e.symm⟩⟩
      rw [ht] at this; cases this
/-- the error of what needs a register without twins -/
def Reg.solvE (r : Reg) : Int := if r.check = 0 then (if r.noTwB = true then 0 else 24) else r.check
theorem Reg.solvE_zero {r : Reg} : r.solvE = 0 ↔ r.check = 0 ∧ r.NoTwins := by
  unfold Reg.solvE
  by_cases hc : r.check = 0
  · rw [if_pos hc]
    by_cases hn : r.noTwB = true
    · rw [if_pos hn]; exact ⟨fun _ => ⟨hc, (r.noTwB_iff).1 hn⟩, fun _ => rfl⟩
    · rw [if_neg hn]; exact ⟨fun h => absurd h (by decide), fun h => absurd ((r.noTwB_iff).2 h.2) hn⟩
  · rw [if_neg hc]; exact ⟨fun h => absurd h hc, fun h => absurd h.1 hc⟩
/-- lists in lexicographic order -/
def lexB : List Nat → List Nat → Bool
  | [], [] => false
  | [], _ :: _ => true
  | _ :: _, [] => false
  | a :: l, b :: m => if a = b then lexB l m else decide (a < b)
theorem lexB_irrefl : ∀ l, lexB l l = false
  | [] => rfl
  | a :: l => by simp [lexB, lexB_irrefl l]
theorem lexB_asymm : ∀ l m, lexB l m = true → lexB m l = false
  | [], [], _ => rfl
  | [], _ :: _, _ => rfl
  | _ :: _, [], h => by simp [lexB] at h
  | a :: l, b :: m, h => by
    simp only [lexB] at h ⊢
    by_cases e : a = b
    · rw [if_pos e] at h; rw [if_pos e.symm]; exact lexB_asymm l m h
    · rw [if_neg e] at h; rw [if_neg fun h => e h.symm]; simp at h ⊢; omega
theorem lexB_trans : ∀ l m k, lexB l m = true → lexB m k = true → lexB l k = true
  | [], [], _, h, _ => by simp [lexB] at h
  | [], _ :: _, [], _, h => by simp [lexB] at h
  | [], _ :: _, _ :: _, _, _ => rfl
  | _ :: _, [], _, h, _ => by simp [lexB] at h
  | _ :: _, _ :: _, [], _, h => by simp [lexB] at h
  | a :: l, b :: m, c :: k, h1, h2 => by
    simp only [lexB] at h1 h2 ⊢
    by_cases e1 : a = b
    · rw [if_pos e1] at h1
      subst e1
      by_cases e2 : a = c
      · rw [if_pos e2] at h2 ⊢; exact lexB_trans l m k h1 h2
      · rw [if_neg e2] at h2 ⊢; exact h2
    · rw [if_neg e1] at h1
      by_cases e2 : b = c
      · subst e2; rw [if_neg e1]; exact h1
      · rw [if_neg e2] at h2
        simp at h1 h2
        rw [if_neg (by omega)]; simp; omega
theorem lexB_total : ∀ l m, l = m ∨ lexB l m = true ∨ lexB m l = true
  | [], [] => .inl rfl
  | [], _ :: _ => .inr (.inl rfl)
  | _ :: _, [] => .inr (.inr rfl)
  | a :: l, b :: m => by
    by_cases e : a = b
    · subst e
      rcases lexB_total l m with h | h | h
      · left; rw [h]
      · right; left; simp [lexB, h]
      · right; right; simp [lexB, h]
    · right
      simp only [lexB]
      rw [if_neg e, if_neg fun h => e h.symm]
      simp; omega
/-- features, as bits, are better than others -/
def Reg.befB (r : Reg) (a b : Nat) : Bool := if r.price (bitsL 8 a) = r.price (bitsL 8 b) then lexB (bitsL 8 a) (bitsL 8 b) else decide (r.price (bitsL 8 a) < r.price (bitsL 8 b))
theorem Reg.befB_trans {r : Reg} {a b c : Nat} (h1 : r.befB a b = true) (h2 : r.befB b c = true) : r.befB a c = true := by
  unfold Reg.befB at *
  split at h1 <;> split at h2
  · rw [if_pos (by omega)]; exact lexB_trans _ _ _ h1 h2
  · rw [if_neg (by omega)]; simp at h2 ⊢; omega
  · rw [if_neg (by omega)]; simp at h1 ⊢; omega
  · simp at h1 h2; rw [if_neg (by omega)]; simp; omega
theorem Reg.befB_false {r : Reg} {a b : Nat} (h : r.befB a b = false) : r.price (bitsL 8 b) ≤ r.price (bitsL 8 a) ∧ (r.price (bitsL 8 b) = r.price (bitsL 8 a) → lexB (bitsL 8 a) (bitsL 8 b) = false) := by
  unfold Reg.befB at h
  split at h
  · exact ⟨by omega, fun _ => h⟩
  · simp at h; exact ⟨by omega, fun e => by omega⟩
theorem Reg.befB_le {r : Reg} {a b : Nat} (h : r.befB a b = true) : r.price (bitsL 8 a) ≤ r.price (bitsL 8 b) := by
  unfold Reg.befB at h
  split at h
  · omega
  · simp at h; omega
theorem Reg.befB_irrefl (r : Reg) (a : Nat) : r.befB a a = false := by simp [Reg.befB, lexB_irrefl]
/-- the best ones of the first k sets of features -/
def Reg.fixF (r : Reg) : Nat → Option Nat
  | 0 => none
  | k + 1 => if r.tellB (bitsL 8 k) = true then (match r.fixF k with | none => some k | some b => if r.befB k b = true then some k else some b) else r.fixF k
theorem Reg.fixF_spec (r : Reg) : ∀ k, match r.fixF k with
    | none => ∀ s, s < k → r.tellB (bitsL 8 s) = false
    | some b => b < k ∧ r.tellB (bitsL 8 b) = true ∧ ∀ s, s < k → r.tellB (bitsL 8 s) = true → r.befB s b = false
  | 0 => by simp [Reg.fixF]
  | k + 1 => by
    have ih := r.fixF_spec k
    simp only [Reg.fixF]
    by_cases ht : r.tellB (bitsL 8 k) = true
    · rw [if_pos ht]
      cases hf : r.fixF k with
      | none =>
        rw [hf] at ih
        simp only at ih ⊢
        refine ⟨by omega, ht, fun s hs h => ?_⟩
        by_cases he : s = k
        · subst he; exact r.befB_irrefl s
        · have := ih s (by omega); rw [h] at this; cases this
      | some b =>
        rw [hf] at ih
        simp only at ih ⊢
        by_cases hb : r.befB k b = true
        · rw [if_pos hb]
          refine ⟨by omega, ht, fun s hs h => ?_⟩
          by_cases he : s = k
          · subst he; exact r.befB_irrefl s
          · have h1 := ih.2.2 s (by omega) h
            cases h2 : r.befB s k with
            | false => rfl
            | true => rw [Reg.befB_trans h2 hb] at h1; cases h1
        · rw [if_neg hb]
          refine ⟨by omega, ih.2.1, fun s hs h => ?_⟩
          by_cases he : s = k
          · subst he; simpa using hb
          · exact ih.2.2 s (by omega) h
    · rw [if_neg ht]
      cases hf : r.fixF k with
      | none =>
        rw [hf] at ih
        simp only at ih ⊢
        intro s hs
        by_cases he : s = k
        · subst he; simpa using ht
        · exact ih s (by omega)
      | some b =>
        rw [hf] at ih
        simp only at ih ⊢
        refine ⟨by omega, ih.2.1, fun s hs h => ?_⟩
        by_cases he : s = k
        · subst he; exact absurd h ht
        · exact ih.2.2 s (by omega) h
theorem bitsL_full (n : Nat) (h : n ≤ 8) : bitsL 8 (2 ^ n - 1) = List.range n := by
  have h0 : 2 ^ n - 1 < 2 ^ n := by have := Nat.two_pow_pos n; omega
  rw [bitsL_of_le h0 h]
  unfold bitsL
  apply List.filter_eq_self.2
  intro i hi
  rw [Nat.testBit_two_pow_sub_one]
  simpa using hi
theorem Reg.fixF_some {r : Reg} (hc : r.nc ≤ 8) (h : r.NoTwins) : ∃ b, r.fixF (2 ^ r.nc) = some b := by
  have h1 := r.fixF_spec (2 ^ r.nc)
  cases hf : r.fixF (2 ^ r.nc) with
  | some b => exact ⟨b, rfl⟩
  | none =>
    rw [hf] at h1
    have h0 := Nat.two_pow_pos r.nc
    have := h1 (2 ^ r.nc - 1) (by omega)
    rw [bitsL_full _ hc, h.tell] at this
    cases this
/-- the cheapest features, as bits -/
def Reg.fix (r : Reg) : Nat := (r.fixF (2 ^ r.nc)).getD 0
theorem Reg.fix_spec {r : Reg} (hc : r.nc ≤ 8) (h : r.NoTwins) : r.fix < 2 ^ r.nc ∧ r.tellB (bitsL 8 r.fix) = true ∧ ∀ s, s < 2 ^ r.nc → r.tellB (bitsL 8 s) = true → r.befB s r.fix = false := by
  obtain ⟨b, hb⟩ := Reg.fixF_some hc h
  have h1 := r.fixF_spec (2 ^ r.nc)
  rw [hb] at h1
  unfold Reg.fix
  rw [hb]
  exact h1
/-- the features without which the others do not tell -/
def Reg.mustB (r : Reg) (f : Nat) : Bool := !r.tellB (bitsL 8 ((2 ^ r.nc - 1) - 2 ^ f))
def Reg.mustL (r : Reg) : List Nat := (List.range r.nc).filter r.mustB
def Reg.fixE (r : Reg) (n : Nat) (f : Nat → Int) : Int := if r.check = 0 then (if (List.range n).any (riseB f r.nc) = true then 3 else if r.tellB ((List.range n).map fun i => (f i).toNat) = true then 0 else 24) else r.check
def Reg.fixA (r : Reg) (n : Nat) (f : Nat → Int) : Int := if r.fixE n f = 0 then r.price ((List.range n).map fun i => (f i).toNat) else 0
end Go.Proofs.Ytdminglglapnlaa

/-
  What is proved: how registers, trees, tables and lists of layer 10 lie in memory.
-/
namespace Go.Proofs.Ytdminglglapnlaa
open Go.RowKit

/-- a mark's cells -/
def mcell (who : Nat → Int) (row : Nat → Value) (m j : Nat) : Value := if j = 0 then .int .i64 (who m) else row m
/-- v is the value of a register, valid or not -/
def RegAt (w : World) (v : Value) (r : Reg) : Prop :=
  ∃ mv cv row, v = .agg #[mv, cv] ∧ SliceAt w mv r.nm 2 (mcell r.who row) ∧ IntsAt w cv r.nc r.cost ∧ ∀ m, m < r.nm → IntsAt w (row m) (r.nv m) (r.val m)
theorem RegAt.mono {w w' : World} {v : Value} {r : Reg} (h : RegAt w v r) (g : w.grows w') : RegAt w' v r := by
  obtain ⟨mv, cv, row, h1, h2, h3, h4⟩ := h
  exact ⟨mv, cv, row, h1, h2.mono g, h3.mono g, fun m hm => (h4 m hm).mono g⟩

/-- a node's cells: its feature, its branches -/
def ncell (feat : Nat → Int) (row : Nat → Value) (i j : Nat) : Value := if j = 0 then .int .i64 (feat i) else row i
/-- a branch's cells -/
def bcell (bv bt : Nat → Int) (b j : Nat) : Value := if j = 0 then .int .i64 (bv b) else .int .i64 (bt b)
def NodesAt (w : World) (nv : Value) (t : Tr) : Prop :=
  ∃ row, SliceAt w nv t.n 2 (ncell t.feat row) ∧ ∀ i, i < t.n → SliceAt w (row i) (t.nb i) 2 (bcell (t.bv i) (t.bt i))
theorem NodesAt.mono {w w' : World} {v : Value} {t : Tr} (h : NodesAt w v t) (g : w.grows w') : NodesAt w' v t := by
  obtain ⟨row, h2, h4⟩ := h
  exact ⟨row, h2.mono g, fun m hm => (h4 m hm).mono g⟩
def TreeAt (w : World) (v : Value) (t : Tr) : Prop := ∃ nv, v = .agg #[.int .i64 t.root, nv] ∧ NodesAt w nv t
theorem TreeAt.mono {w w' : World} {v : Value} {t : Tr} (h : TreeAt w v t) (g : w.grows w') : TreeAt w' v t := by
  obtain ⟨nv, h1, h2⟩ := h
  exact ⟨nv, h1, h2.mono g⟩

/-- an entry's cells -/
def ecell (row : Nat → Value) (cost : Nat → Int) (i j : Nat) : Value := if j = 0 then row i else .int .i64 (cost i)
def TableAt (w : World) (v : Value) (b : Bn) : Prop :=
  ∃ row, SliceAt w v b.n 2 (ecell row b.cost) ∧ ∀ i, i < b.n → IntsAt w (row i) (b.len i) (b.el i)
theorem TableAt.mono {w w' : World} {v : Value} {b : Bn} (h : TableAt w v b) (g : w.grows w') : TableAt w' v b := by
  obtain ⟨row, h2, h4⟩ := h
  exact ⟨row, h2.mono g, fun m hm => (h4 m hm).mono g⟩
theorem ret_int {a b : Int} (h : a = b) : (Ending.returned (.int .i64 a)) = .returned (.int .i64 b) := by rw [h]

/-- a valid register's memory, opened -/
structure RegIn (w : World) (mb mo cb co : Nat) (rb ro rc : Nat → Nat) (r : Reg) : Prop where
  who : ∀ m : Nat, m < r.nm → w.cell? ⟨mb, mo + m * 2, none⟩ = some (.int .i64 (r.who m))
  row : ∀ m : Nat, m < r.nm → w.cell? ⟨mb, mo + m * 2 + 1, none⟩ = some (.slice (some ⟨rb m, ro m, none⟩) r.nc (rc m))
  val : ∀ m f : Nat, m < r.nm → f < r.nc → w.cell? ⟨rb m, ro m + f, none⟩ = some (.int .i64 (r.val m f))
  cost : ∀ f : Nat, f < r.nc → w.cell? ⟨cb, co + f, none⟩ = some (.int .i64 (r.cost f))
  cap : ∀ m : Nat, m < r.nm → r.nc ≤ rc m ∧ rc m ≤ maxLen
theorem RegIn.mono {w w' : World} {mb mo cb co : Nat} {rb ro rc : Nat → Nat} {r : Reg} (h : RegIn w mb mo cb co rb ro rc r) (g : w.grows w') : RegIn w' mb mo cb co rb ro rc r :=
  ⟨fun m hm => by rw [g.cell (by rw [h.who m hm]; rfl)]; exact h.who m hm,
   fun m hm => by rw [g.cell (by rw [h.row m hm]; rfl)]; exact h.row m hm,
   fun m f hm hf => by rw [g.cell (by rw [h.val m f hm hf]; rfl)]; exact h.val m f hm hf,
   fun f hf => by rw [g.cell (by rw [h.cost f hf]; rfl)]; exact h.cost f hf, h.cap⟩
/-- v is a valid register's value -/
def RegOk (w : World) (v : Value) (r : Reg) : Prop :=
  ∃ mb mo mc cb co cc rb ro rc, v = .agg #[.slice (some ⟨mb, mo, none⟩) r.nm mc, .slice (some ⟨cb, co, none⟩) r.nc cc] ∧ r.nm ≤ mc ∧ mc ≤ maxLen ∧ r.nc ≤ cc ∧ cc ≤ maxLen ∧ RegIn w mb mo cb co rb ro rc r
theorem RegOk.mono {w w' : World} {v : Value} {r : Reg} (h : RegOk w v r) (g : w.grows w') : RegOk w' v r := by
  obtain ⟨mb, mo, mc, cb, co, cc, rb, ro, rc, h1, h2, h3, h4, h5, h6⟩ := h
  exact ⟨mb, mo, mc, cb, co, cc, rb, ro, rc, h1, h2, h3, h4, h5, h6.mono g⟩
theorem RegAt.ok {w : World} {v : Value} {r : Reg} (h : RegAt w v r) (hr : r.Ok) : RegOk w v r := by
  obtain ⟨mv, cv, row, rfl, ⟨ma, mc, rfl, hm1, hm2, hm⟩, ⟨ca, cc, rfl, hc1, hc2, hc⟩, hrow⟩ := h
  have hM := hr.m1
  have hC := hr.c1
  obtain ⟨mb, mo, rfl, _⟩ := hm 0 0 (by omega) (by omega)
  obtain ⟨cb, co, rfl, _⟩ := hc 0 0 (by omega) (by omega)
  have hrow' : ∀ m, ∃ b o c, m < r.nm → row m = .slice (some ⟨b, o, none⟩) r.nc c ∧ r.nc ≤ c ∧ c ≤ maxLen ∧ ∀ f, f < r.nc → w.cell? ⟨b, o + f, none⟩ = some (.int .i64 (r.val m f)) := fun m => by
    by_cases hmm : m < r.nm
    · obtain ⟨a, c, e, h1, h2, h3⟩ := hrow m hmm
      rw [hr.nv m hmm] at h1 h3 e
      obtain ⟨b, o, rfl, _⟩ := h3 0 0 (by omega) (by omega)
      refine ⟨b, o, c, fun _ => ⟨e, h1, h2, fun f hf => ?_⟩⟩
      obtain ⟨b', o', e', h'⟩ := h3 f 0 hf (by omega)
      cases e'
      simpa using h'
    · exact ⟨0, 0, 0, fun h => absurd h hmm⟩
  obtain ⟨rb, h1⟩ := Classical.axiomOfChoice hrow'
  obtain ⟨ro, h2⟩ := Classical.axiomOfChoice h1
  obtain ⟨rc, h3⟩ := Classical.axiomOfChoice h2
  refine ⟨mb, mo, mc, cb, co, cc, rb, ro, rc, rfl, hm1, hm2, hc1, hc2, fun m hmm => ?_, fun m hmm => ?_, fun m f hmm hf => (h3 m hmm).2.2.2 f hf, fun f hf => ?_, fun m hmm => ⟨(h3 m hmm).2.1, (h3 m hmm).2.2.1⟩⟩
  · obtain ⟨b', o', e', h'⟩ := hm m 0 hmm (by omega)
    cases e'
    simpa [mcell] using h'
  · obtain ⟨b', o', e', h'⟩ := hm m 1 hmm (by omega)
    cases e'
    rw [← (h3 m hmm).1]
    simpa [mcell] using h'
  · obtain ⟨b', o', e', h'⟩ := hc f 0 hf (by omega)
    cases e'
    simpa using h'
end Go.Proofs.Ytdminglglapnlaa

/-
  What is proved: slices.IndexFunc and slices.ContainsFunc at the types of this seat, whatever the function does that they are handed.
-/
namespace Go.Proofs.Ytdminglglapnlaa
open Go.RowKit

/-- the first number below m at which q holds, or -1 -/
def fstIdx (q : Nat → Bool) (m : Nat) : Int := match (List.range m).findIdx? q with | some i => i | none => -1

theorem fstIdx_at (q : Nat → Bool) (m k : Nat) (hk : k < m) (h : ∀ i, i < k → q i = false) (hq : q k = true) : fstIdx q m = k := by
  unfold fstIdx
  have : (List.range m).findIdx? q = some k := by
    rw [List.findIdx?_eq_some_iff_getElem]
    refine ⟨by simpa using hk, by simpa using hq, fun j hj => ?_⟩
    simpa using h j hj
  rw [this]
theorem fstIdx_none (q : Nat → Bool) (m : Nat) (h : ∀ i, i < m → q i = false) : fstIdx q m = -1 := by
  unfold fstIdx
  have : (List.range m).findIdx? q = none := by
    rw [List.findIdx?_eq_none_iff]
    intro x hx
    exact h x (by simpa using hx)
  rw [this]
theorem fstIdx_any (q : Nat → Bool) (m : Nat) : decide (0 ≤ fstIdx q m) = (List.range m).any q := by
  by_cases h : ∃ k, k < m ∧ q k = true
  · obtain ⟨k, hk, hq⟩ := h
    have hr : (List.range m).any q = true := List.any_eq_true.2 ⟨k, by simpa using hk, hq⟩
    rw [hr]
    unfold fstIdx
    cases hf : (List.range m).findIdx? q with
    | some i => simp
    | none =>
      rw [List.findIdx?_eq_none_iff] at hf
      have := hf k (by simpa using hk)
      rw [hq] at this; cases this
  · have hall : ∀ i, i < m → q i = false := fun i hi => by
      cases hq : q i with
      | false => rfl
      | true => exact absurd ⟨i, hi, hq⟩ h
    rw [fstIdx_none q m hall]
    have hr : (List.range m).any q = false := by
      rw [List.any_eq_false]
      intro x hx
      rw [hall x (by simpa using hx)]; simp
    rw [hr]; rfl
theorem fstIdx_bd (q : Nat → Bool) (m : Nat) : -1 ≤ fstIdx q m ∧ fstIdx q m ≤ m := by
  unfold fstIdx
  cases hf : (List.range m).findIdx? q with
  | some i =>
    have := List.findIdx?_eq_some_iff_getElem.1 hf
    obtain ⟨h, _⟩ := this
    simp at h
    simp <;> omega
  | none => simp <;> omega

set_option maxHeartbeats 1000000 in
theorem idx103 (w : World) (s : Value) (m : Nat) (c : Nat → Nat → Value) (ff : Nat) (lb : Array Value) (q : Nat → Bool) (hs : SliceAt w s m 1 c)
    (eg : ∀ args w, (callFunc ff args).run Try.prog w = .ok (.enter ff args) w)
    (hf : ∀ i, i < m → ∀ W : World, w.grows W → Calls Try.prog ff (#[c i 0] ++ lb) W fun e W' => e = .returned (.bool (q i)) ∧ W.grows W') :
    Calls Try.prog 103 #[s, .func (.func ff) #[] lb] w fun e w' => e = .returned (.int .i64 (fstIdx q m)) ∧ w.grows w' := by
  obtain ⟨a, cap, rfl, hcap, hmax, hc⟩ := hs
  unfold maxLen at hmax
  go_enter Try.func103, Try.ntmps103
  go_wp2
  go_loopw [8] (fun i wr => ∃ k : Nat, k ≤ m ∧ i = .int .i64 k ∧ (∀ j, j < k → q j = false) ∧ w.grows wr) (fun i _ => m - (intOf i).toNat)
  case atStart => exact ⟨0, by omega, rfl, fun j hj => by omega, World.grows.refl _⟩
  case round =>
    obtain ⟨k, hk, rfl, hq, hg⟩ := hrel
    have Hq := Lib.hid hq
    clear hq
    obtain ⟨n, x, rfl⟩ := World.plus_of hg
    by_cases hlt : k < m
    · obtain ⟨b, o, rfl, h0⟩ := hc k 0 hlt (by omega)
      simp only [Nat.mul_one, Nat.add_zero] at h0

      have hfk := hf k hlt
      cases hqk : q k with
      | true =>
        rw [hqk] at hfk
        have Hqk := Lib.hid hqk
        clear hqk
        go_wp2_with (refine (hfk _ (by (repeat (first | exact World.grows.refl _ | assumption | refine World.grows.alloc ?_ _ | refine World.grows.plus ?_ _ _ | refine World.grows.drew ?_)))).mono ?_; rintro e w' ⟨rfl, hg2⟩; obtain ⟨n2, x2, rfl⟩ := World.plus_of hg2)
        go_ret
        exact ⟨ret_int (fstIdx_at q m k hlt Hq.out Hqk.out).symm, by (repeat (first | exact World.grows.refl _ | assumption | refine World.grows.alloc ?_ _ | refine World.grows.plus ?_ _ _ | refine World.grows.drew ?_))⟩
      | false =>
        rw [hqk] at hfk
        have Hqk := Lib.hid hqk
        clear hqk
        go_wp2_with (refine (hfk _ (by (repeat (first | exact World.grows.refl _ | assumption | refine World.grows.alloc ?_ _ | refine World.grows.plus ?_ _ _ | refine World.grows.drew ?_)))).mono ?_; rintro e w' ⟨rfl, hg2⟩; obtain ⟨n2, x2, rfl⟩ := World.plus_of hg2)
        go_roundw
        case rel => exact ⟨k + 1, by omega, by go_num, fun j hj => (by rcases Nat.lt_or_ge j k with h | h; exact Hq.out j h; have hjk : j = k := (by omega); subst hjk; exact Hqk.out), by (repeat (first | exact World.grows.refl _ | assumption | refine World.grows.alloc ?_ _ | refine World.grows.plus ?_ _ _ | refine World.grows.drew ?_))⟩
        case measure => simp [intOf]; omega
    · have hke : k = m := by omega
      subst hke
      go_wp2
      go_ret
      exact ⟨ret_int (fstIdx_none q k Hq.out).symm, by (repeat (first | exact World.grows.refl _ | assumption | refine World.grows.alloc ?_ _ | refine World.grows.plus ?_ _ _ | refine World.grows.drew ?_))⟩

set_option maxHeartbeats 1000000 in
theorem idx93 (w : World) (s : Value) (m : Nat) (c : Nat → Nat → Value) (ff : Nat) (lb : Array Value) (q : Nat → Bool) (hs : SliceAt w s m 1 c)
    (eg : ∀ args w, (callFunc ff args).run Try.prog w = .ok (.enter ff args) w)
    (hf : ∀ i, i < m → ∀ W : World, w.grows W → Calls Try.prog ff (#[c i 0] ++ lb) W fun e W' => e = .returned (.bool (q i)) ∧ W.grows W') :
    Calls Try.prog 93 #[s, .func (.func ff) #[] lb] w fun e w' => e = .returned (.int .i64 (fstIdx q m)) ∧ w.grows w' := by
  obtain ⟨a, cap, rfl, hcap, hmax, hc⟩ := hs
  unfold maxLen at hmax
  go_enter Try.func93, Try.ntmps93
  go_wp2
  go_loopw [8] (fun i wr => ∃ k : Nat, k ≤ m ∧ i = .int .i64 k ∧ (∀ j, j < k → q j = false) ∧ w.grows wr) (fun i _ => m - (intOf i).toNat)
  case atStart => exact ⟨0, by omega, rfl, fun j hj => by omega, World.grows.refl _⟩
  case round =>
    obtain ⟨k, hk, rfl, hq, hg⟩ := hrel
    have Hq := Lib.hid hq
    clear hq
    obtain ⟨n, x, rfl⟩ := World.plus_of hg
    by_cases hlt : k < m
    · obtain ⟨b, o, rfl, h0⟩ := hc k 0 hlt (by omega)
      simp only [Nat.mul_one, Nat.add_zero] at h0

      have hfk := hf k hlt
      cases hqk : q k with
      | true =>
        rw [hqk] at hfk
        have Hqk := Lib.hid hqk
        clear hqk
        go_wp2_with (refine (hfk _ (by (repeat (first | exact World.grows.refl _ | assumption | refine World.grows.alloc ?_ _ | refine World.grows.plus ?_ _ _ | refine World.grows.drew ?_)))).mono ?_; rintro e w' ⟨rfl, hg2⟩; obtain ⟨n2, x2, rfl⟩ := World.plus_of hg2)
        go_ret
        exact ⟨ret_int (fstIdx_at q m k hlt Hq.out Hqk.out).symm, by (repeat (first | exact World.grows.refl _ | assumption | refine World.grows.alloc ?_ _ | refine World.grows.plus ?_ _ _ | refine World.grows.drew ?_))⟩
      | false =>
        rw [hqk] at hfk
        have Hqk := Lib.hid hqk
        clear hqk
        go_wp2_with (refine (hfk _ (by (repeat (first | exact World.grows.refl _ | assumption | refine World.grows.alloc ?_ _ | refine World.grows.plus ?_ _ _ | refine World.grows.drew ?_)))).mono ?_; rintro e w' ⟨rfl, hg2⟩; obtain ⟨n2, x2, rfl⟩ := World.plus_of hg2)
        go_roundw
        case rel => exact ⟨k + 1, by omega, by go_num, fun j hj => (by rcases Nat.lt_or_ge j k with h | h; exact Hq.out j h; have hjk : j = k := (by omega); subst hjk; exact Hqk.out), by (repeat (first | exact World.grows.refl _ | assumption | refine World.grows.alloc ?_ _ | refine World.grows.plus ?_ _ _ | refine World.grows.drew ?_))⟩
        case measure => simp [intOf]; omega
    · have hke : k = m := by omega
      subst hke
      go_wp2
      go_ret
      exact ⟨ret_int (fstIdx_none q k Hq.out).symm, by (repeat (first | exact World.grows.refl _ | assumption | refine World.grows.alloc ?_ _ | refine World.grows.plus ?_ _ _ | refine World.grows.drew ?_))⟩

set_option maxHeartbeats 1000000 in
theorem idx94 (w : World) (s : Value) (m : Nat) (c : Nat → Nat → Value) (ff : Nat) (lb : Array Value) (q : Nat → Bool) (hs : SliceAt w s m 2 c)
    (eg : ∀ args w, (callFunc ff args).run Try.prog w = .ok (.enter ff args) w)
    (hf : ∀ i, i < m → ∀ W : World, w.grows W → Calls Try.prog ff (#[.agg #[c i 0, c i 1]] ++ lb) W fun e W' => e = .returned (.bool (q i)) ∧ W.grows W') :
    Calls Try.prog 94 #[s, .func (.func ff) #[] lb] w fun e w' => e = .returned (.int .i64 (fstIdx q m)) ∧ w.grows w' := by
  obtain ⟨a, cap, rfl, hcap, hmax, hc⟩ := hs
  unfold maxLen at hmax
  go_enter Try.func94, Try.ntmps94
  go_wp2
  go_loopw [8] (fun i wr => ∃ k : Nat, k ≤ m ∧ i = .int .i64 k ∧ (∀ j, j < k → q j = false) ∧ w.grows wr) (fun i _ => m - (intOf i).toNat)
  case atStart => exact ⟨0, by omega, rfl, fun j hj => by omega, World.grows.refl _⟩
  case round =>
    obtain ⟨k, hk, rfl, hq, hg⟩ := hrel
    have Hq := Lib.hid hq
    clear hq
    obtain ⟨n, x, rfl⟩ := World.plus_of hg
    by_cases hlt : k < m
    · obtain ⟨b, o, rfl, h0⟩ := hc k 0 hlt (by omega)
      simp only [Nat.add_zero] at h0
      obtain ⟨_, _, he1, h1⟩ := hc k 1 hlt (by omega)
      cases he1

      have hfk := hf k hlt
      cases hqk : q k with
      | true =>
        rw [hqk] at hfk
        have Hqk := Lib.hid hqk
        clear hqk
        go_wp2_with (refine (hfk _ (by (repeat (first | exact World.grows.refl _ | assumption | refine World.grows.alloc ?_ _ | refine World.grows.plus ?_ _ _ | refine World.grows.drew ?_)))).mono ?_; rintro e w' ⟨rfl, hg2⟩; obtain ⟨n2, x2, rfl⟩ := World.plus_of hg2)
        go_ret
        exact ⟨ret_int (fstIdx_at q m k hlt Hq.out Hqk.out).symm, by (repeat (first | exact World.grows.refl _ | assumption | refine World.grows.alloc ?_ _ | refine World.grows.plus ?_ _ _ | refine World.grows.drew ?_))⟩
      | false =>
        rw [hqk] at hfk
        have Hqk := Lib.hid hqk
        clear hqk
        go_wp2_with (refine (hfk _ (by (repeat (first | exact World.grows.refl _ | assumption | refine World.grows.alloc ?_ _ | refine World.grows.plus ?_ _ _ | refine World.grows.drew ?_)))).mono ?_; rintro e w' ⟨rfl, hg2⟩; obtain ⟨n2, x2, rfl⟩ := World.plus_of hg2)
        go_roundw
        case rel => exact ⟨k + 1, by omega, by go_num, fun j hj => (by rcases Nat.lt_or_ge j k with h | h; exact Hq.out j h; have hjk : j = k := (by omega); subst hjk; exact Hqk.out), by (repeat (first | exact World.grows.refl _ | assumption | refine World.grows.alloc ?_ _ | refine World.grows.plus ?_ _ _ | refine World.grows.drew ?_))⟩
        case measure => simp [intOf]; omega
    · have hke : k = m := by omega
      subst hke
      go_wp2
      go_ret
      exact ⟨ret_int (fstIdx_none q k Hq.out).symm, by (repeat (first | exact World.grows.refl _ | assumption | refine World.grows.alloc ?_ _ | refine World.grows.plus ?_ _ _ | refine World.grows.drew ?_))⟩

set_option maxHeartbeats 1000000 in
theorem idx97 (w : World) (s : Value) (m : Nat) (c : Nat → Nat → Value) (ff : Nat) (lb : Array Value) (q : Nat → Bool) (hs : SliceAt w s m 2 c)
    (eg : ∀ args w, (callFunc ff args).run Try.prog w = .ok (.enter ff args) w)
    (hf : ∀ i, i < m → ∀ W : World, w.grows W → Calls Try.prog ff (#[.agg #[c i 0, c i 1]] ++ lb) W fun e W' => e = .returned (.bool (q i)) ∧ W.grows W') :
    Calls Try.prog 97 #[s, .func (.func ff) #[] lb] w fun e w' => e = .returned (.int .i64 (fstIdx q m)) ∧ w.grows w' := by
  obtain ⟨a, cap, rfl, hcap, hmax, hc⟩ := hs
  unfold maxLen at hmax
  go_enter Try.func97, Try.ntmps97
  go_wp2
  go_loopw [8] (fun i wr => ∃ k : Nat, k ≤ m ∧ i = .int .i64 k ∧ (∀ j, j < k → q j = false) ∧ w.grows wr) (fun i _ => m - (intOf i).toNat)
  case atStart => exact ⟨0, by omega, rfl, fun j hj => by omega, World.grows.refl _⟩
  case round =>
    obtain ⟨k, hk, rfl, hq, hg⟩ := hrel
    have Hq := Lib.hid hq
    clear hq
    obtain ⟨n, x, rfl⟩ := World.plus_of hg
    by_cases hlt : k < m
    · obtain ⟨b, o, rfl, h0⟩ := hc k 0 hlt (by omega)
      simp only [Nat.add_zero] at h0
      obtain ⟨_, _, he1, h1⟩ := hc k 1 hlt (by omega)
      cases he1

      have hfk := hf k hlt
      cases hqk : q k with
      | true =>
        rw [hqk] at hfk
        have Hqk := Lib.hid hqk
        clear hqk
        go_wp2_with (refine (hfk _ (by (repeat (first | exact World.grows.refl _ | assumption | refine World.grows.alloc ?_ _ | refine World.grows.plus ?_ _ _ | refine World.grows.drew ?_)))).mono ?_; rintro e w' ⟨rfl, hg2⟩; obtain ⟨n2, x2, rfl⟩ := World.plus_of hg2)
        go_ret
        exact ⟨ret_int (fstIdx_at q m k hlt Hq.out Hqk.out).symm, by (repeat (first | exact World.grows.refl _ | assumption | refine World.grows.alloc ?_ _ | refine World.grows.plus ?_ _ _ | refine World.grows.drew ?_))⟩
      | false =>
        rw [hqk] at hfk
        have Hqk := Lib.hid hqk
        clear hqk
        go_wp2_with (refine (hfk _ (by (repeat (first | exact World.grows.refl _ | assumption | refine World.grows.alloc ?_ _ | refine World.grows.plus ?_ _ _ | refine World.grows.drew ?_)))).mono ?_; rintro e w' ⟨rfl, hg2⟩; obtain ⟨n2, x2, rfl⟩ := World.plus_of hg2)
        go_roundw
        case rel => exact ⟨k + 1, by omega, by go_num, fun j hj => (by rcases Nat.lt_or_ge j k with h | h; exact Hq.out j h; have hjk : j = k := (by omega); subst hjk; exact Hqk.out), by (repeat (first | exact World.grows.refl _ | assumption | refine World.grows.alloc ?_ _ | refine World.grows.plus ?_ _ _ | refine World.grows.drew ?_))⟩
        case measure => simp [intOf]; omega
    · have hke : k = m := by omega
      subst hke
      go_wp2
      go_ret
      exact ⟨ret_int (fstIdx_none q k Hq.out).symm, by (repeat (first | exact World.grows.refl _ | assumption | refine World.grows.alloc ?_ _ | refine World.grows.plus ?_ _ _ | refine World.grows.drew ?_))⟩

set_option maxHeartbeats 1000000 in
theorem idx90 (w : World) (s : Value) (m : Nat) (c : Nat → Nat → Value) (ff : Nat) (lb : Array Value) (q : Nat → Bool) (hs : SliceAt w s m 2 c)
    (eg : ∀ args w, (callFunc ff args).run Try.prog w = .ok (.enter ff args) w)
    (hf : ∀ i, i < m → ∀ W : World, w.grows W → Calls Try.prog ff (#[.agg #[c i 0, c i 1]] ++ lb) W fun e W' => e = .returned (.bool (q i)) ∧ W.grows W') :
    Calls Try.prog 90 #[s, .func (.func ff) #[] lb] w fun e w' => e = .returned (.int .i64 (fstIdx q m)) ∧ w.grows w' := by
  obtain ⟨a, cap, rfl, hcap, hmax, hc⟩ := hs
  unfold maxLen at hmax
  go_enter Try.func90, Try.ntmps90
  go_wp2
  go_loopw [8] (fun i wr => ∃ k : Nat, k ≤ m ∧ i = .int .i64 k ∧ (∀ j, j < k → q j = false) ∧ w.grows wr) (fun i _ => m - (intOf i).toNat)
  case atStart => exact ⟨0, by omega, rfl, fun j hj => by omega, World.grows.refl _⟩
  case round =>
    obtain ⟨k, hk, rfl, hq, hg⟩ := hrel
    have Hq := Lib.hid hq
    clear hq
    obtain ⟨n, x, rfl⟩ := World.plus_of hg
    by_cases hlt : k < m
    · obtain ⟨b, o, rfl, h0⟩ := hc k 0 hlt (by omega)
      simp only [Nat.add_zero] at h0
      obtain ⟨_, _, he1, h1⟩ := hc k 1 hlt (by omega)
      cases he1

      have hfk := hf k hlt
      cases hqk : q k with
      | true =>
        rw [hqk] at hfk
        have Hqk := Lib.hid hqk
        clear hqk
        go_wp2_with (refine (hfk _ (by (repeat (first | exact World.grows.refl _ | assumption | refine World.grows.alloc ?_ _ | refine World.grows.plus ?_ _ _ | refine World.grows.drew ?_)))).mono ?_; rintro e w' ⟨rfl, hg2⟩; obtain ⟨n2, x2, rfl⟩ := World.plus_of hg2)
        go_ret
        exact ⟨ret_int (fstIdx_at q m k hlt Hq.out Hqk.out).symm, by (repeat (first | exact World.grows.refl _ | assumption | refine World.grows.alloc ?_ _ | refine World.grows.plus ?_ _ _ | refine World.grows.drew ?_))⟩
      | false =>
        rw [hqk] at hfk
        have Hqk := Lib.hid hqk
        clear hqk
        go_wp2_with (refine (hfk _ (by (repeat (first | exact World.grows.refl _ | assumption | refine World.grows.alloc ?_ _ | refine World.grows.plus ?_ _ _ | refine World.grows.drew ?_)))).mono ?_; rintro e w' ⟨rfl, hg2⟩; obtain ⟨n2, x2, rfl⟩ := World.plus_of hg2)
        go_roundw
        case rel => exact ⟨k + 1, by omega, by go_num, fun j hj => (by rcases Nat.lt_or_ge j k with h | h; exact Hq.out j h; have hjk : j = k := (by omega); subst hjk; exact Hqk.out), by (repeat (first | exact World.grows.refl _ | assumption | refine World.grows.alloc ?_ _ | refine World.grows.plus ?_ _ _ | refine World.grows.drew ?_))⟩
        case measure => simp [intOf]; omega
    · have hke : k = m := by omega
      subst hke
      go_wp2
      go_ret
      exact ⟨ret_int (fstIdx_none q k Hq.out).symm, by (repeat (first | exact World.grows.refl _ | assumption | refine World.grows.alloc ?_ _ | refine World.grows.plus ?_ _ _ | refine World.grows.drew ?_))⟩

theorem has88 (w : World) (s : Value) (m : Nat) (c : Nat → Nat → Value) (ff : Nat) (lb : Array Value) (q : Nat → Bool) (hs : SliceAt w s m 1 c)
    (eg : ∀ args w, (callFunc ff args).run Try.prog w = .ok (.enter ff args) w)
    (hf : ∀ i, i < m → ∀ W : World, w.grows W → Calls Try.prog ff (#[c i 0] ++ lb) W fun e W' => e = .returned (.bool (q i)) ∧ W.grows W') :
    Calls Try.prog 88 #[s, .func (.func ff) #[] lb] w fun e w' => e = .returned (.bool ((List.range m).any q)) ∧ w.grows w' := by
  have hbd := fstIdx_bd q m
  have Ha := Lib.hid (fstIdx_any q m)
  go_enter Try.func88, Try.ntmps88
  go_wp2_with (go_at_call 103; refine (idx103 _ s m c ff lb q (hs.mono (by (repeat (first | exact World.grows.refl _ | assumption | refine World.grows.alloc ?_ _ | refine World.grows.plus ?_ _ _ | refine World.grows.drew ?_)))) eg (fun i hi W hW => hf i hi W hW)).mono ?_; rintro e w' ⟨rfl, hg⟩)
  go_ret
  exact ⟨by rw [← Ha.out]; rfl, by (repeat (first | exact World.grows.refl _ | assumption | refine World.grows.alloc ?_ _ | refine World.grows.plus ?_ _ _ | refine World.grows.drew ?_))⟩

theorem has58 (w : World) (s : Value) (m : Nat) (c : Nat → Nat → Value) (ff : Nat) (lb : Array Value) (q : Nat → Bool) (hs : SliceAt w s m 1 c)
    (eg : ∀ args w, (callFunc ff args).run Try.prog w = .ok (.enter ff args) w)
    (hf : ∀ i, i < m → ∀ W : World, w.grows W → Calls Try.prog ff (#[c i 0] ++ lb) W fun e W' => e = .returned (.bool (q i)) ∧ W.grows W') :
    Calls Try.prog 58 #[s, .func (.func ff) #[] lb] w fun e w' => e = .returned (.bool ((List.range m).any q)) ∧ w.grows w' := by
  have hbd := fstIdx_bd q m
  have Ha := Lib.hid (fstIdx_any q m)
  go_enter Try.func58, Try.ntmps58
  go_wp2_with (go_at_call 93; refine (idx93 _ s m c ff lb q (hs.mono (by (repeat (first | exact World.grows.refl _ | assumption | refine World.grows.alloc ?_ _ | refine World.grows.plus ?_ _ _ | refine World.grows.drew ?_)))) eg (fun i hi W hW => hf i hi W hW)).mono ?_; rintro e w' ⟨rfl, hg⟩)
  go_ret
  exact ⟨by rw [← Ha.out]; rfl, by (repeat (first | exact World.grows.refl _ | assumption | refine World.grows.alloc ?_ _ | refine World.grows.plus ?_ _ _ | refine World.grows.drew ?_))⟩

theorem has60 (w : World) (s : Value) (m : Nat) (c : Nat → Nat → Value) (ff : Nat) (lb : Array Value) (q : Nat → Bool) (hs : SliceAt w s m 2 c)
    (eg : ∀ args w, (callFunc ff args).run Try.prog w = .ok (.enter ff args) w)
    (hf : ∀ i, i < m → ∀ W : World, w.grows W → Calls Try.prog ff (#[.agg #[c i 0, c i 1]] ++ lb) W fun e W' => e = .returned (.bool (q i)) ∧ W.grows W') :
    Calls Try.prog 60 #[s, .func (.func ff) #[] lb] w fun e w' => e = .returned (.bool ((List.range m).any q)) ∧ w.grows w' := by
  have hbd := fstIdx_bd q m
  have Ha := Lib.hid (fstIdx_any q m)
  go_enter Try.func60, Try.ntmps60
  go_wp2_with (go_at_call 94; refine (idx94 _ s m c ff lb q (hs.mono (by (repeat (first | exact World.grows.refl _ | assumption | refine World.grows.alloc ?_ _ | refine World.grows.plus ?_ _ _ | refine World.grows.drew ?_)))) eg (fun i hi W hW => hf i hi W hW)).mono ?_; rintro e w' ⟨rfl, hg⟩)
  go_ret
  exact ⟨by rw [← Ha.out]; rfl, by (repeat (first | exact World.grows.refl _ | assumption | refine World.grows.alloc ?_ _ | refine World.grows.plus ?_ _ _ | refine World.grows.drew ?_))⟩

theorem has67 (w : World) (s : Value) (m : Nat) (c : Nat → Nat → Value) (ff : Nat) (lb : Array Value) (q : Nat → Bool) (hs : SliceAt w s m 2 c)
    (eg : ∀ args w, (callFunc ff args).run Try.prog w = .ok (.enter ff args) w)
    (hf : ∀ i, i < m → ∀ W : World, w.grows W → Calls Try.prog ff (#[.agg #[c i 0, c i 1]] ++ lb) W fun e W' => e = .returned (.bool (q i)) ∧ W.grows W') :
    Calls Try.prog 67 #[s, .func (.func ff) #[] lb] w fun e w' => e = .returned (.bool ((List.range m).any q)) ∧ w.grows w' := by
  have hbd := fstIdx_bd q m
  have Ha := Lib.hid (fstIdx_any q m)
  go_enter Try.func67, Try.ntmps67
  go_wp2_with (go_at_call 97; refine (idx97 _ s m c ff lb q (hs.mono (by (repeat (first | exact World.grows.refl _ | assumption | refine World.grows.alloc ?_ _ | refine World.grows.plus ?_ _ _ | refine World.grows.drew ?_)))) eg (fun i hi W hW => hf i hi W hW)).mono ?_; rintro e w' ⟨rfl, hg⟩)
  go_ret
  exact ⟨by rw [← Ha.out]; rfl, by (repeat (first | exact World.grows.refl _ | assumption | refine World.grows.alloc ?_ _ | refine World.grows.plus ?_ _ _ | refine World.grows.drew ?_))⟩

end Go.Proofs.Ytdminglglapnlaa

/-
  What is proved: which registers are valid, in the reference (22), and whether values are (55).
-/
namespace Go.Proofs.Ytdminglglapnlaa
open Go.RowKit

theorem any_false_of {q : Nat → Bool} {n : Nat} (h : ∀ i, i < n → q i = false) : (List.range n).any q = false := by
  simp only [List.any_eq_false, List.mem_range, Bool.not_eq_true]; exact h
theorem any_true_of {q : Nat → Bool} {n i : Nat} (hi : i < n) (h : q i = true) : (List.range n).any q = true :=
  List.any_eq_true.2 ⟨i, by simpa using hi, h⟩
theorem upto_succ {p : Nat → Prop} {k : Nat} (h : ∀ j, j < k → p j) (hk : p k) : ∀ j, j < k + 1 → p j := fun j hj => by
  rcases Nat.lt_or_ge j k with h' | h'
  · exact h j h'
  · have : j = k := by omega
    subst this; exact hk
def valB1 (v : Nat → Int) (f : Nat) : Bool := decide (v f < 0) || decide (9 < v f)
theorem valB1_of (v : Nat → Int) (f : Nat) : valB1 v f = true ↔ v f < 0 ∨ 9 < v f := by simp [valB1]

set_option maxHeartbeats 1000000 in
theorem isValues_c (w : World) (mv cv : Value) (r : Reg) (hc : IntsAt w cv r.nc r.cost) (vv : Value) (n : Nat) (v : Nat → Int) (hv : IntsAt w vv n v) :
    Calls Try.prog 55 #[.agg #[mv, cv], vv] w fun e w' => e = .returned (.bool (decide (n = r.nc) && !valuesB v n)) ∧ w.grows w' := by
  obtain ⟨ca, cc, rfl, hc1, hc2, hc⟩ := hc
  obtain ⟨va, vc, rfl, hv1, hv2, hv⟩ := hv
  unfold maxLen at hc2 hv2
  go_enter Try.func55, Try.ntmps55
  by_cases hn : n = r.nc
  · subst hn
    go_wp2
    go_loop [5] (fun i => ∃ k : Nat, k ≤ r.nc ∧ i = .int .i64 k ∧ Hid (∀ j, j < k → valB1 v j = false)) (fun i => r.nc - (intOf i).toNat)
    case atStart => exact ⟨0, by omega, rfl, Lib.hid fun j hj => by omega⟩
    case round =>
      obtain ⟨k, hk, rfl, hl⟩ := hrel
      by_cases hlt : k < r.nc
      · obtain ⟨b, o, rfl, h0⟩ := hv k 0 hlt (by omega)
        simp only [Nat.mul_one, Nat.add_zero] at h0
        by_cases h1 : v k < 0
        · have hB := Lib.hid (any_true_of hlt ((valB1_of v k).2 (.inl h1)))
          go_wp2
          (refine bodyPost_ret (v := .bool false) (by simp [results, Try.results55, go_sem]) rfl ?_)
          exact ⟨by unfold valuesB; rw [show (fun f => decide (v f < 0) || decide (9 < v f)) = valB1 v from rfl, hB.out]; simp, by (repeat (first | exact World.grows.refl _ | assumption | refine World.grows.alloc ?_ _ | refine World.grows.plus ?_ _ _ | refine World.grows.drew ?_))⟩
        by_cases h2 : 9 < v k
        · have hB := Lib.hid (any_true_of hlt ((valB1_of v k).2 (.inr h2)))
          go_wp2
          (refine bodyPost_ret (v := .bool false) (by simp [results, Try.results55, go_sem]) rfl ?_)
          exact ⟨by unfold valuesB; rw [show (fun f => decide (v f < 0) || decide (9 < v f)) = valB1 v from rfl, hB.out]; simp, by (repeat (first | exact World.grows.refl _ | assumption | refine World.grows.alloc ?_ _ | refine World.grows.plus ?_ _ _ | refine World.grows.drew ?_))⟩
        have hB : Hid (valB1 v k = false) := Lib.hid (by simp [valB1]; omega)
        go_wp2
        go_round
        case rel => exact ⟨k + 1, by omega, by go_num, Lib.hid (upto_succ hl.out hB.out)⟩
        case measure => simp [intOf]; omega
      · have hke : k = r.nc := by omega
        have hB := Lib.hid (any_false_of (n := k) hl.out)
        rw [hke] at hB
        subst hke
        clear hl
        go_wp2
        (refine bodyPost_ret (v := .bool true) (by simp [results, Try.results55, go_sem]) rfl ?_)
        exact ⟨by unfold valuesB; rw [show (fun f => decide (v f < 0) || decide (9 < v f)) = valB1 v from rfl, hB.out]; simp, by (repeat (first | exact World.grows.refl _ | assumption | refine World.grows.alloc ?_ _ | refine World.grows.plus ?_ _ _ | refine World.grows.drew ?_))⟩
  · have hn' : ¬ ((n : Int) = (r.nc : Int)) := by omega
    go_wp2
    (refine bodyPost_ret (v := .bool false) (by simp [results, Try.results55, go_sem]) rfl ?_)
    exact ⟨by simp [hn], by (repeat (first | exact World.grows.refl _ | assumption | refine World.grows.alloc ?_ _ | refine World.grows.plus ?_ _ _ | refine World.grows.drew ?_))⟩

theorem Reg.check_many {r : Reg} (h : r.nm < 1 ∨ 10 < r.nm ∨ r.nc < 1 ∨ 8 < r.nc) : r.check = 6 := by
  unfold Reg.check
  rw [if_pos]
  simp [Reg.manyB]; omega
theorem Reg.many_not {r : Reg} (h : ¬ (r.nm < 1 ∨ 10 < r.nm ∨ r.nc < 1 ∨ 8 < r.nc)) : r.manyB = false := by simp [Reg.manyB]; omega
theorem Reg.check_cost {r : Reg} (h : r.manyB = false) (hb : (List.range r.nc).any r.costB = true) : r.check = 2 := by
  unfold Reg.check
  rw [h, hb]; rfl
theorem Reg.check_mark {r : Reg} (h : r.manyB = false) (hb : (List.range r.nc).any r.costB = false) (hm : (List.range r.nm).any r.markB = true) : r.check = 3 := by
  unfold Reg.check
  rw [h, hb, hm]; rfl
theorem Reg.check_fine {r : Reg} (h : r.manyB = false) (hb : (List.range r.nc).any r.costB = false) (hm : (List.range r.nm).any r.markB = false) : r.check = 0 := by
  unfold Reg.check
  rw [h, hb, hm]; rfl

set_option maxHeartbeats 2000000 in
theorem rcheck_c (w : World) (v : Value) (r : Reg) (hv : RegAt w v r) :
    Calls Try.prog 22 #[v] w fun e w' => e = .returned (.int .i64 r.check) ∧ w.grows w' := by
  obtain ⟨mv, cv, row, rfl, hmv, hcv, hrow⟩ := hv
  have Hcv := Lib.hid hcv
  obtain ⟨ma, mc, rfl, hm1, hm2, hm⟩ := hmv
  obtain ⟨ca, cc, rfl, hc1, hc2, hc⟩ := hcv
  unfold maxLen at hm2 hc2
  go_enter Try.func22, Try.ntmps22
  by_cases hn : r.nm < 1 ∨ 10 < r.nm ∨ r.nc < 1 ∨ 8 < r.nc
  · have hcn := Lib.hid (Reg.check_many hn)
    by_cases h1 : r.nm < 1
    · go_wp2
      (refine bodyPost_ret (v := .int .i64 6) (by simp [results, Try.results22, go_sem]) rfl ?_)
      exact ⟨ret_int hcn.out.symm, by (repeat (first | exact World.grows.refl _ | assumption | refine World.grows.alloc ?_ _ | refine World.grows.plus ?_ _ _ | refine World.grows.drew ?_))⟩
    by_cases h2 : 10 < r.nm
    · go_wp2
      (refine bodyPost_ret (v := .int .i64 6) (by simp [results, Try.results22, go_sem]) rfl ?_)
      exact ⟨ret_int hcn.out.symm, by (repeat (first | exact World.grows.refl _ | assumption | refine World.grows.alloc ?_ _ | refine World.grows.plus ?_ _ _ | refine World.grows.drew ?_))⟩
    by_cases h3 : r.nc < 1
    · go_wp2
      (refine bodyPost_ret (v := .int .i64 6) (by simp [results, Try.results22, go_sem]) rfl ?_)
      exact ⟨ret_int hcn.out.symm, by (repeat (first | exact World.grows.refl _ | assumption | refine World.grows.alloc ?_ _ | refine World.grows.plus ?_ _ _ | refine World.grows.drew ?_))⟩
    have h4 : 8 < r.nc := by omega
    go_wp2
    (refine bodyPost_ret (v := .int .i64 6) (by simp [results, Try.results22, go_sem]) rfl ?_)
    exact ⟨ret_int hcn.out.symm, by (repeat (first | exact World.grows.refl _ | assumption | refine World.grows.alloc ?_ _ | refine World.grows.plus ?_ _ _ | refine World.grows.drew ?_))⟩
  have Hmany := Lib.hid (Reg.many_not hn)
  have hn1 : 1 ≤ r.nm := by omega
  have hn2 : r.nm ≤ 10 := by omega
  have hn3 : 1 ≤ r.nc := by omega
  have hn4 : r.nc ≤ 8 := by omega
  clear hn
  go_wp2
  go_loop [3] (fun i => ∃ k : Nat, k ≤ r.nc ∧ i = .int .i64 k ∧ Hid (∀ j, j < k → r.costB j = false)) (fun i => r.nc - (intOf i).toNat)
  case atStart => exact ⟨0, by omega, rfl, Lib.hid fun j hj => by omega⟩
  case round =>
    obtain ⟨k, hk, rfl, hl⟩ := hrel
    by_cases hlt : k < r.nc
    · obtain ⟨b, o, rfl, h0⟩ := hc k 0 hlt (by omega)
      simp only [Nat.mul_one, Nat.add_zero] at h0
      by_cases h1 : r.cost k < 1
      · have hcn := Lib.hid (Reg.check_cost Hmany.out (any_true_of hlt (show r.costB k = true by simp [Reg.costB, h1])))
        go_wp2
        (refine bodyPost_ret (v := .int .i64 2) (by simp [results, Try.results22, go_sem]) rfl ?_)
        exact ⟨ret_int hcn.out.symm, by (repeat (first | exact World.grows.refl _ | assumption | refine World.grows.alloc ?_ _ | refine World.grows.plus ?_ _ _ | refine World.grows.drew ?_))⟩
      by_cases h2 : 1000 < r.cost k
      · have hcn := Lib.hid (Reg.check_cost Hmany.out (any_true_of hlt (show r.costB k = true by simp [Reg.costB, h2])))
        go_wp2
        (refine bodyPost_ret (v := .int .i64 2) (by simp [results, Try.results22, go_sem]) rfl ?_)
        exact ⟨ret_int hcn.out.symm, by (repeat (first | exact World.grows.refl _ | assumption | refine World.grows.alloc ?_ _ | refine World.grows.plus ?_ _ _ | refine World.grows.drew ?_))⟩
      have hB : Hid (r.costB k = false) := Lib.hid (by simp [Reg.costB]; omega)
      go_wp2
      go_round
      case rel => exact ⟨k + 1, by omega, by go_num, Lib.hid (upto_succ hl.out hB.out)⟩
      case measure => simp [intOf]; omega
    · have hke : k = r.nc := by omega
      have Hcost := Lib.hid (any_false_of (n := k) hl.out)
      rw [hke] at Hcost
      subst hke
      clear hl
      go_wp2
      go_loopw [4] (fun i wr => ∃ k : Nat, k ≤ r.nm ∧ i = .int .i64 k ∧ Hid (∀ j, j < k → r.markB j = false) ∧ (w.alloc (.cells #[.slice ma r.nm mc, .slice ca r.nc cc] 25)).grows wr) (fun i _ => r.nm - (intOf i).toNat)
      case atStart => exact ⟨0, by omega, rfl, Lib.hid fun j hj => by omega, World.grows.refl _⟩
      case round =>
        obtain ⟨k, hk, rfl, hl, hg⟩ := hrel
        obtain ⟨n, x, rfl⟩ := World.plus_of hg
        by_cases hlt : k < r.nm
        · obtain ⟨b, o, rfl, h0⟩ := hm k 0 hlt (by omega)
          obtain ⟨_, _, e1, h1⟩ := hm k 1 hlt (by omega)
          cases e1
          simp only [Nat.add_zero, mcell, if_true, if_false, Nat.one_ne_zero] at h0 h1
          have hrk := hrow k hlt
          have Hrk := Lib.hid hrk
          obtain ⟨a1, c1, hr1, hr2, hr3, -⟩ := hrk
          rw [hr1] at h1 Hrk
          by_cases hb1 : r.who k < 0
          · have hcn := Lib.hid (Reg.check_mark Hmany.out Hcost.out (any_true_of hlt (show r.markB k = true by simp [Reg.markB, hb1])))
            go_wp2
            (refine bodyPost_ret (v := .int .i64 3) (by simp [results, Try.results22, go_sem]) rfl ?_)
            exact ⟨ret_int hcn.out.symm, by (repeat (first | exact World.grows.refl _ | assumption | refine World.grows.alloc ?_ _ | refine World.grows.plus ?_ _ _ | refine World.grows.drew ?_))⟩
          by_cases hb2 : 1000 < r.who k
          · have hcn := Lib.hid (Reg.check_mark Hmany.out Hcost.out (any_true_of hlt (show r.markB k = true by simp [Reg.markB, hb2])))
            go_wp2
            (refine bodyPost_ret (v := .int .i64 3) (by simp [results, Try.results22, go_sem]) rfl ?_)
            exact ⟨ret_int hcn.out.symm, by (repeat (first | exact World.grows.refl _ | assumption | refine World.grows.alloc ?_ _ | refine World.grows.plus ?_ _ _ | refine World.grows.drew ?_))⟩
          have h55 := fun W h1 vv h2 => isValues_c W (.slice (some ⟨b, o, none⟩) r.nm mc) (.slice ca r.nc cc) r h1 vv (r.nv k) (r.val k) h2
          cases hq : (decide (r.nv k = r.nc) && !valuesB (r.val k) (r.nv k)) with
          | false =>
            have hB : r.markB k = true := by
              unfold Reg.markB
              rw [show (List.range (r.nv k)).any (r.valB k) = valuesB (r.val k) (r.nv k) from rfl]
              cases hvb : valuesB (r.val k) (r.nv k) <;> simp [hvb] at hq ⊢
              exact .inr hq
            have hcn := Lib.hid (Reg.check_mark Hmany.out Hcost.out (any_true_of hlt hB))
            rw [hq] at h55
            clear hB hq
            go_wp2_with (go_at_call 55; refine (h55 _ (Hcv.out.mono (by (repeat (first | exact World.grows.refl _ | assumption | refine World.grows.alloc ?_ _ | refine World.grows.plus ?_ _ _ | refine World.grows.drew ?_)))) _ (Hrk.out.mono (by (repeat (first | exact World.grows.refl _ | assumption | refine World.grows.alloc ?_ _ | refine World.grows.plus ?_ _ _ | refine World.grows.drew ?_))))).mono ?_; rintro e w' ⟨rfl, hg'⟩; obtain ⟨n3, x3, rfl⟩ := World.plus_of hg')
            (refine bodyPost_ret (v := .int .i64 3) (by simp [results, Try.results22, go_sem]) rfl ?_)
            exact ⟨ret_int hcn.out.symm, by (repeat (first | exact World.grows.refl _ | assumption | refine World.grows.alloc ?_ _ | refine World.grows.plus ?_ _ _ | refine World.grows.drew ?_))⟩
          | true =>
            have hB : Hid (r.markB k = false) := Lib.hid (by
              unfold Reg.markB
              rw [show (List.range (r.nv k)).any (r.valB k) = valuesB (r.val k) (r.nv k) from rfl]
              simp at hq
              rw [hq.2]
              simp [hq.1]; omega)
            rw [hq] at h55
            clear hq
            go_wp2_with (go_at_call 55; refine (h55 _ (Hcv.out.mono (by (repeat (first | exact World.grows.refl _ | assumption | refine World.grows.alloc ?_ _ | refine World.grows.plus ?_ _ _ | refine World.grows.drew ?_)))) _ (Hrk.out.mono (by (repeat (first | exact World.grows.refl _ | assumption | refine World.grows.alloc ?_ _ | refine World.grows.plus ?_ _ _ | refine World.grows.drew ?_))))).mono ?_; rintro e w' ⟨rfl, hg'⟩; obtain ⟨n3, x3, rfl⟩ := World.plus_of hg')
            go_roundw
            case rel => exact ⟨k + 1, by omega, by go_num, Lib.hid (upto_succ hl.out hB.out), by (repeat (first | exact World.grows.refl _ | assumption | refine World.grows.alloc ?_ _ | refine World.grows.plus ?_ _ _ | refine World.grows.drew ?_))⟩
            case measure => simp [intOf]; omega
        · have hke : k = r.nm := by omega
          have Hmark := Lib.hid (any_false_of (n := k) hl.out)
          rw [hke] at Hmark
          subst hke
          clear hl
          have hcn := Lib.hid (Reg.check_fine Hmany.out Hcost.out Hmark.out)
          go_wp2
          (refine bodyPost_ret (v := .int .i64 0) (by simp [results, Try.results22, go_sem]) rfl ?_)
          exact ⟨ret_int hcn.out.symm, by (repeat (first | exact World.grows.refl _ | assumption | refine World.grows.alloc ?_ _ | refine World.grows.plus ?_ _ _ | refine World.grows.drew ?_))⟩
end Go.Proofs.Ytdminglglapnlaa

/-
  What is proved: where one looks in a tree, as a list, and how it goes with where one ends and what that costs.
-/
namespace Go.Proofs.Ytdminglglapnlaa

def Tr.ft (t : Tr) (p : Int) : Nat := (t.feat p.toNat).toNat
/-- the features at which one looks from a number on, with values, and where one ends; 0: it says nothing -/
def Tr.looks (t : Tr) (v : Nat → Int) : Nat → Int → List Nat × Int
  | 0, p => ([], p)
  | k + 1, p => if p < 0 then ([], p) else
    match t.branch p.toNat (v (t.ft p)) with
    | none => ([t.ft p], 0)
    | some b => (t.ft p :: (t.looks v k (t.bt p.toNat b)).1, (t.looks v k (t.bt p.toNat b)).2)
theorem Tr.looks_end (t : Tr) (v : Nat → Int) (k : Nat) {p : Int} (h : p < 0) : t.looks v k p = ([], p) := by
  cases k <;> simp [Tr.looks, h]
theorem Tr.Ok.bt' {t : Tr} {nc : Nat} (h : t.Ok nc) {i b : Nat} (hi : i < t.n) (hb : b < t.nb i) : (i : Int) < t.bt i b ∧ t.bt i b < t.n ∨ (-1001 ≤ t.bt i b ∧ t.bt i b < 0) := by
  have := h.bt i b hi hb; omega
theorem Tr.Ok.fuel {t : Tr} {nc : Nat} (h : t.Ok nc) (v : Nat → Int) : ∀ (k k' : Nat) (p : Int), p < t.n → (t.n : Int) - p ≤ k → (t.n : Int) - p ≤ k' → t.looks v k p = t.looks v k' p
  | 0, _, p, h1, h2, _ => by have : ((0 : Nat) : Int) = 0 := rfl; omega
  | _ + 1, 0, p, h1, _, h2 => by have : ((0 : Nat) : Int) = 0 := rfl; omega
  | k + 1, k' + 1, p, h1, h2, h3 => by
    by_cases hp : p < 0
    · rw [t.looks_end v _ hp, t.looks_end v _ hp]
    · simp only [Tr.looks, if_neg hp]
      cases hb : t.branch p.toNat (v (t.ft p)) with
      | none => rfl
      | some b =>
        obtain ⟨hb1, _⟩ := Tr.branch_some hb
        have hn := h.bt' (i := p.toNat) (by omega) hb1
        have e : t.looks v k (t.bt p.toNat b) = t.looks v k' (t.bt p.toNat b) := by
          rcases hn with hn | hn
          · exact h.fuel v k k' _ (by omega) (by omega) (by omega)
          · rw [t.looks_end v _ hn.2, t.looks_end v _ hn.2]
        simp only [e]
def Tr.look (t : Tr) (v : Nat → Int) (p : Int) : List Nat × Int := t.looks v (t.n + 1) p
theorem Tr.Ok.look_at {t : Tr} {nc : Nat} (h : t.Ok nc) (v : Nat → Int) {p : Int} (h0 : 0 ≤ p) (hn : p < t.n) : t.look v p =
    match t.branch p.toNat (v (t.ft p)) with
    | none => ([t.ft p], 0)
    | some b => (t.ft p :: (t.look v (t.bt p.toNat b)).1, (t.look v (t.bt p.toNat b)).2) := by
  unfold Tr.look
  have hp : ¬ p < 0 := by omega
  rw [Tr.looks, if_neg hp]
  cases hb : t.branch p.toNat (v (t.ft p)) with
  | none => rfl
  | some b =>
    obtain ⟨hb1, _⟩ := Tr.branch_some hb
    have hn2 := h.bt' (i := p.toNat) (by omega) hb1
    have e : t.looks v t.n (t.bt p.toNat b) = t.looks v (t.n + 1) (t.bt p.toNat b) := by
      rcases hn2 with hn2 | hn2
      · exact h.fuel v _ _ _ (by omega) (by omega) (by omega)
      · rw [t.looks_end v _ hn2.2, t.looks_end v _ hn2.2]
    simp only [e]
theorem Tr.look_end (t : Tr) (v : Nat → Int) {p : Int} (h : p < 0) : t.look v p = ([], p) := t.looks_end v _ h
theorem Tr.Ok.look_none {t : Tr} {nc : Nat} (h : t.Ok nc) (v : Nat → Int) {p : Int} (h0 : 0 ≤ p) (hn : p < t.n) (hb : t.branch p.toNat (v (t.ft p)) = none) : t.look v p = ([t.ft p], 0) := by
  rw [h.look_at v h0 hn, hb]
theorem Tr.Ok.look_some {t : Tr} {nc : Nat} (h : t.Ok nc) (v : Nat → Int) {p : Int} (h0 : 0 ≤ p) (hn : p < t.n) {b : Nat} (hb : t.branch p.toNat (v (t.ft p)) = some b) : t.look v p = (t.ft p :: (t.look v (t.bt p.toNat b)).1, (t.look v (t.bt p.toNat b)).2) := by
  rw [h.look_at v h0 hn, hb]
/-- the branch that a value takes, found as the last one that fits -/
def Tr.next (t : Tr) (i : Nat) (x : Int) : Nat → Int
  | 0 => -2000
  | b + 1 => if t.bv i b = x then t.bt i b else t.next i x b
theorem Tr.Ok.up' {t : Tr} {nc : Nat} (h : t.Ok nc) {i : Nat} (hi : i < t.n) : ∀ a b, a < b → b < t.nb i → t.bv i a < t.bv i b
  | a, 0, h1, _ => absurd h1 (by omega)
  | a, b + 1, h1, h2 => by
    have h3 := h.up i b hi h2
    by_cases he : a = b
    · subst he; exact h3
    · have := h.up' hi a b (by omega) (by omega); omega
theorem Tr.branch_is {t : Tr} {i b : Nat} {x : Int} (hb : b < t.nb i) (hx : t.bv i b = x) (hu : ∀ a, a < b → t.bv i a ≠ x) : t.branch i x = some b := by
  unfold Tr.branch
  rw [List.find?_eq_some_iff_getElem]
  refine ⟨by simp [hx], b, by simpa using hb, by simp, fun j hj => ?_⟩
  simpa using hu j hj
theorem Tr.branch_not {t : Tr} {i : Nat} {x : Int} (h : ∀ b, b < t.nb i → t.bv i b ≠ x) : t.branch i x = none := by
  unfold Tr.branch
  rw [List.find?_eq_none]
  intro b hb
  simpa using h b (by simpa using hb)
theorem Tr.next_out {t : Tr} {i : Nat} {x : Int} : ∀ k, (∀ b, b < k → t.bv i b ≠ x) → t.next i x k = -2000
  | 0, _ => rfl
  | k + 1, h => by simp only [Tr.next]; rw [if_neg (h k (by omega)), Tr.next_out k fun b hb => h b (by omega)]
theorem Tr.next_in {t : Tr} {i b : Nat} {x : Int} (hx : t.bv i b = x) : ∀ k, b < k → (∀ a, b < a → a < k → t.bv i a ≠ x) → t.next i x k = t.bt i b
  | 0, h, _ => absurd h (by omega)
  | k + 1, h, hu => by
    simp only [Tr.next]
    by_cases he : k = b
    · subst he; rw [if_pos hx]
    · rw [if_neg (hu k (by omega) (by omega)), Tr.next_in hx k (by omega) fun a h1 h2 => hu a h1 (by omega)]
theorem Tr.Ok.next_eq {t : Tr} {nc : Nat} (h : t.Ok nc) {i : Nat} (hi : i < t.n) (x : Int) : t.next i x (t.nb i) = match t.branch i x with | none => -2000 | some b => t.bt i b := by
  cases hb : t.branch i x with
  | none => exact Tr.next_out _ (Tr.branch_none hb)
  | some b =>
    obtain ⟨h1, h2⟩ := Tr.branch_some hb
    refine Tr.next_in h2 _ h1 fun a h3 h4 => ?_
    have := h.up' hi b a h3 h4
    omega
def costSum (cost : Nat → Int) : List Nat → Int
  | [] => 0
  | f :: l => cost f + costSum cost l
theorem Tr.Ok.go_looks {t : Tr} {nc : Nat} (h : t.Ok nc) (cost v : Nat → Int) : ∀ (k : Nat) (p : Int), (0 ≤ p ∧ p < t.n) ∨ p < 0 → (t.n : Int) - p ≤ k ∨ p < 0 →
    t.go cost v k p = if (t.looks v k p).2 = 0 then none else some ((t.looks v k p).2, costSum cost (t.looks v k p).1)
  | 0, p, h1, h2 => by
    have hp : p < 0 := by have : ((0 : Nat) : Int) = 0 := rfl; omega
    rw [t.looks_end v _ hp, t.go_end cost v _ hp]
    dsimp only
    rw [if_neg (by omega)]; rfl
  | k + 1, p, h1, h2 => by
    by_cases hp : p < 0
    · rw [t.looks_end v _ hp, t.go_end cost v _ hp]
      dsimp only
      rw [if_neg (by omega)]; rfl
    · simp only [Tr.go, Tr.looks, if_neg hp]
      show (match t.branch p.toNat (v (t.ft p)) with | none => none | some b => (t.go cost v k (t.bt p.toNat b)).map fun (x : Int × Int) => (x.1, cost (t.ft p) + x.2)) = _
      cases hb : t.branch p.toNat (v (t.ft p)) with
      | none => rfl
      | some b =>
        obtain ⟨hb1, _⟩ := Tr.branch_some hb
        have hn := h.bt' (i := p.toNat) (by omega) hb1
        have ih := h.go_looks cost v k (t.bt p.toNat b) (by omega) (by omega)
        dsimp only
        rw [ih]
        by_cases he : (t.looks v k (t.bt p.toNat b)).2 = 0
        · rw [if_pos he, if_pos he]; rfl
        · rw [if_neg he, if_neg he]; rfl
theorem Tr.Ok.say_eq {t : Tr} {r : Reg} (h : t.Ok r.nc) (v : Nat → Int) : t.say r v = if (t.look v t.root).2 = 0 then none else some ((t.look v t.root).2, costSum r.cost (t.look v t.root).1) := by
  unfold Tr.say Tr.look
  have := h.root
  exact h.go_looks r.cost v _ _ (by omega) (by omega)
/-- the features at which one looks are the register's -/
theorem Tr.Ok.looks_lt {t : Tr} {nc : Nat} (h : t.Ok nc) (v : Nat → Int) : ∀ (k : Nat) (p : Int), p < t.n → ∀ f ∈ (t.looks v k p).1, f < nc
  | 0, p, _, f, hf => by simp [Tr.looks] at hf
  | k + 1, p, hp, f, hf => by
    simp only [Tr.looks] at hf
    split at hf
    · simp at hf
    · rename_i hp0
      have hfe := h.feat p.toNat (by omega)
      split at hf
      · simp at hf; subst hf; unfold Tr.ft; omega
      · rename_i b hb
        obtain ⟨hb1, _⟩ := Tr.branch_some hb
        have hn := h.bt' (i := p.toNat) (by omega) hb1
        rcases List.mem_cons.1 hf with hf | hf
        · subst hf; unfold Tr.ft; omega
        · exact h.looks_lt v k _ (by omega) f hf
theorem Tr.Ok.looks_len {t : Tr} {nc : Nat} (h : t.Ok nc) (v : Nat → Int) : ∀ (k : Nat) (p : Int), p < t.n → 0 ≤ p → ((t.looks v k p).1.length : Int) ≤ t.n - p
  | 0, p, hp, h0 => by simp [Tr.looks]; omega
  | k + 1, p, hp, h0 => by
    simp only [Tr.looks, if_neg (show ¬ p < 0 by omega)]
    split
    · simp; omega
    · rename_i b hb
      obtain ⟨hb1, _⟩ := Tr.branch_some hb
      have hn := h.bt' (i := p.toNat) (by omega) hb1
      rcases hn with hn | hn
      · have := h.looks_len v k (t.bt p.toNat b) (by omega) (by omega)
        simp only [List.length_cons]
        omega
      · rw [t.looks_end v _ hn.2]; simp; omega
theorem Tr.Ok.look_len {t : Tr} {nc : Nat} (h : t.Ok nc) (v : Nat → Int) : (t.look v t.root).1.length ≤ 100 := by
  have := h.n
  rcases h.root with hr | hr
  · have := h.looks_len v (t.n + 1) t.root hr.2 hr.1
    unfold Tr.look; omega
  · rw [t.look_end v (by omega)]; simp
theorem Tr.Ok.look_lt {t : Tr} {nc : Nat} (h : t.Ok nc) (v : Nat → Int) : ∀ f ∈ (t.look v t.root).1, f < nc := h.looks_lt v _ _ (by have := h.root; omega)
theorem costSum_bd {cost : Nat → Int} {nc : Nat} (h : ∀ f, f < nc → 1 ≤ cost f ∧ cost f ≤ 1000) : ∀ l : List Nat, (∀ f ∈ l, f < nc) → 0 ≤ costSum cost l ∧ costSum cost l ≤ 1000 * l.length
  | [], _ => by simp [costSum]
  | f :: l, hl => by
    have ih := costSum_bd h l fun g hg => hl g (by simp [hg])
    have := h f (hl f (by simp))
    simp only [costSum, List.length_cons]
    omega
theorem costSum_snoc (cost : Nat → Int) (f : Nat) : ∀ l : List Nat, costSum cost (l ++ [f]) = costSum cost l + cost f
  | [] => by simp [costSum]
  | g :: l => by simp only [List.cons_append, costSum]; rw [costSum_snoc cost f l]; omega
theorem Reg.price_eq (r : Reg) : ∀ l, r.price l = costSum r.cost l
  | [] => rfl
  | f :: l => by simp only [Reg.price, costSum]; rw [r.price_eq l]
end Go.Proofs.Ytdminglglapnlaa

