/-
  What is proved: plain: how many joins there can be, as the definition keeps them in a table.
-/
import Derived.Test.YtaanbdjmibjcbaaM2
import Derived.Test.YtaanbdjmibjcbaaM1
import Derived.Test.YtaanbdjmibjcbaaM9
import Derived.ArgAppend
import Derived.Maps.OwnIn
import Derived.Test.YtaanbdjmibjcbaaM4
import Derived.Test.YtaanbdjmibjcbaaM7
import Derived.Test.YtaanbdjmibjcbaaM8
import Derived.Test.YtaanbdjmibjcbaaM3
import Derived.Deep.CutRange
set_option linter.all false
namespace Go.Proofs.Ytaanbdjmibjcbaa

theorem add_pow_bit {x k : Nat} (h : x.testBit k = false) (j : Nat) : (x + 2 ^ k).testBit j = mark (fun i => x.testBit i) k j := by
  have h1 : x / 2 ^ k % 2 = 0 := by
    rw [Nat.testBit_eq_decide_div_mod_eq] at h
    have := decide_eq_false_iff_not.1 h
    omega
  have hlo : x % 2 ^ (k + 1) = x % 2 ^ k := by rw [Nat.mod_pow_succ, h1, Nat.mul_zero, Nat.add_zero]
  have hlt : x % 2 ^ k < 2 ^ k := Nat.mod_lt _ (Nat.two_pow_pos k)
  have hx : x = 2 ^ (k + 1) * (x / 2 ^ (k + 1)) + x % 2 ^ k := by rw [← hlo]; exact (Nat.div_add_mod x (2 ^ (k + 1))).symm
  have hp : 2 ^ (k + 1) = 2 ^ k + 2 ^ k := by rw [Nat.pow_succ]; omega
  generalize x / 2 ^ (k + 1) = hi at hx
  generalize x % 2 ^ k = lo at hx hlt
  have e : x + 2 ^ k = 2 ^ (k + 1) * hi + (2 ^ k + lo) := by omega
  unfold mark
  rw [e, Nat.testBit_two_pow_mul_add _ (by omega)]
  dsimp only
  rw [hx, Nat.testBit_two_pow_mul_add _ (by omega)]
  by_cases hj : j < k + 1
  · rw [if_pos hj, if_pos hj]
    by_cases e2 : j = k
    · subst e2
      rw [if_pos rfl, Nat.testBit_two_pow_add_eq, Nat.testBit_lt_two_pow hlt]
      rfl
    · rw [if_neg e2, Nat.testBit_two_pow_add_gt (by omega)]
  · rw [if_neg hj, if_neg hj, if_neg (by omega)]
theorem add_pow_lt {x k n : Nat} (h : x.testBit k = false) (hk : k < n) (hx : x < 2 ^ n) : x + 2 ^ k < 2 ^ n := by
  refine Nat.lt_pow_two_of_testBit _ fun i hi => ?_
  rw [add_pow_bit h]
  unfold mark
  rw [if_neg (by omega)]
  exact Nat.testBit_lt_two_pow (Nat.lt_of_lt_of_le hx (Nat.pow_le_pow_right (by omega) hi))
theorem jn_congr {A : Nat → Nat → Bool} {n : Nat} : ∀ (d : Nat) {T S : Nat → Bool}, (∀ k, k < n → T k = S k) → jn A n d T = jn A n d S
  | 0, _, _, _ => rfl
  | d + 1, T, S, h => by
    unfold jn
    rw [jn_congr d h]
    have : ∀ (l : List Nat) (b : Nat), (∀ k ∈ l, k < n) → l.foldl (fun b k => if A (n - (d + 1)) k && !T k then max b (1 + jn A n d (mark T k)) else b) b = l.foldl (fun b k => if A (n - (d + 1)) k && !S k then max b (1 + jn A n d (mark S k)) else b) b := by
      intro l
      induction l with
      | nil => intro _ _; rfl
      | cons k l ih =>
        intro b hl
        rw [List.foldl_cons, List.foldl_cons, h k (hl k (List.mem_cons_self ..)), jn_congr d (T := mark T k) (S := mark S k) (fun j hj => by unfold mark; rw [h j hj])]
        exact ih _ fun x hx => hl x (List.mem_cons_of_mem _ hx)
    exact this _ _ fun k hk => List.mem_range.1 hk
/-- from a visit on, without those whose bits are there -/
def jT (A : Nat → Nat → Bool) (n v x : Nat) : Nat := jn A n (n - v) (fun k => x.testBit k)
theorem jT_end (A : Nat → Nat → Bool) (n x : Nat) : jT A n n x = 0 := by unfold jT; rw [Nat.sub_self]; rfl
/-- .. of the first k only for the visit -/
def jF (A : Nat → Nat → Bool) (n v x k : Nat) : Nat := (List.range k).foldl (fun b k => if A v k && !x.testBit k then max b (1 + jT A n (v + 1) (x + 2 ^ k)) else b) (jT A n (v + 1) x)
theorem jF_zero (A : Nat → Nat → Bool) (n v x : Nat) : jF A n v x 0 = jT A n (v + 1) x := rfl
theorem jF_succ (A : Nat → Nat → Bool) (n v x k : Nat) : jF A n v x (k + 1) = if A v k && !x.testBit k then max (jF A n v x k) (1 + jT A n (v + 1) (x + 2 ^ k)) else jF A n v x k := by
  unfold jF
  rw [List.range_succ, List.foldl_append, List.foldl_cons, List.foldl_nil]
theorem jF_all {A : Nat → Nat → Bool} {n v x : Nat} (hv : v < n) : jF A n v x n = jT A n v x := by
  obtain ⟨d, hd⟩ : ∃ d, n - v = d + 1 := ⟨n - v - 1, by omega⟩
  have hdd : n - (v + 1) = d := by omega
  have e : ∀ T, jn A n (d + 1) T = (List.range n).foldl (fun b k => if A (n - (d + 1)) k && !T k then max b (1 + jn A n d (mark T k)) else b) (jn A n d T) := fun T => rfl
  have hv2 : n - (d + 1) = v := by omega
  show jF A n v x n = jn A n (n - v) (fun k => x.testBit k)
  rw [hd, e, hv2]
  unfold jF
  have e0 : jT A n (v + 1) x = jn A n d (fun k => x.testBit k) := by unfold jT; rw [hdd]
  rw [e0]
  generalize jn A n d (fun k => x.testBit k) = b
  generalize List.range n = l
  induction l generalizing b with
  | nil => rfl
  | cons k l ih =>
    rw [List.foldl_cons, List.foldl_cons]
    have : (if A v k && !x.testBit k then max b (1 + jT A n (v + 1) (x + 2 ^ k)) else b) = if A v k && !x.testBit k then max b (1 + jn A n d (mark (fun j => x.testBit j) k)) else b := by
      by_cases e : x.testBit k = true
      · simp [e]
      · have e' : x.testBit k = false := by simpa using e
        have e3 : jT A n (v + 1) (x + 2 ^ k) = jn A n d (mark (fun j => x.testBit j) k) := by
          unfold jT
          rw [hdd, show (fun j => (x + 2 ^ k).testBit j) = mark (fun j => x.testBit j) k from funext fun j => add_pow_bit e' j]
        rw [e3]
    rw [this]
    exact ih _
theorem jT_le (A : Nat → Nat → Bool) (n v x : Nat) : jT A n v x ≤ n := by
  unfold jT
  obtain ⟨M, h1, -, -, h2⟩ := jn_ex (A := A) (n - v) (fun k => x.testBit k) (Nat.sub_le n v)
  rw [← h2]
  exact cntB_le _ _
theorem jT_mm (A : Nat → Nat → Bool) (n : Nat) : jT A n 0 0 = mm A n := by
  unfold jT mm
  rw [Nat.sub_zero]
  exact jn_congr n fun k _ => Nat.zero_testBit k
theorem jF_le (A : Nat → Nat → Bool) (n v x : Nat) (h : v < n) : ∀ k, k ≤ n → jF A n v x k ≤ n := by
  intro k hk
  rw [← show jF A n v x k = jF A n v x k from rfl]
  have : jF A n v x k ≤ jF A n v x n := by
    obtain ⟨d, rfl⟩ : ∃ d, n = k + d := ⟨n - k, by omega⟩
    generalize hN : k + d = N
    have : ∀ d, jF A N v x k ≤ jF A N v x (k + d) := by
      intro d
      induction d with
      | zero => exact Nat.le_refl _
      | succ d ih =>
        rw [show k + (d + 1) = k + d + 1 by omega, jF_succ]
        split <;> omega
    have h1 := this d
    rw [hN] at h1
    exact h1
  rw [jF_all h] at this
  exact Nat.le_trans this (jT_le _ _ _ _)
/-- the table: -1, or what it is -/
def Tab (A : Nat → Nat → Bool) (n : Nat) (g : Nat → Int) : Prop := ∀ v x, v < n → x < 2 ^ n → g (v * 2 ^ n + x) = -1 ∨ g (v * 2 ^ n + x) = (jT A n v x : Nat)
theorem Tab.start (A : Nat → Nat → Bool) (n : Nat) : Tab A n (fun _ => -1) := fun _ _ _ _ => .inl rfl
theorem Tab.set {A : Nat → Nat → Bool} {n : Nat} {g : Nat → Int} (h : Tab A n g) {v x : Nat} (_hv : v < n) (hx : x < 2 ^ n) : Tab A n (fun i => if i = v * 2 ^ n + x then ((jT A n v x : Nat) : Int) else g i) := fun u y hu hy => by
  dsimp only
  by_cases e : u * 2 ^ n + y = v * 2 ^ n + x
  · have hp := Nat.two_pow_pos n
    have h1 : u = v := by
      have a : (u * 2 ^ n + y) / 2 ^ n = (v * 2 ^ n + x) / 2 ^ n := by rw [e]
      rw [Nat.mul_comm, Nat.mul_add_div hp, Nat.mul_comm, Nat.mul_add_div hp, Nat.div_eq_of_lt hx, Nat.div_eq_of_lt hy] at a
      omega
    subst h1
    have h2 : y = x := by omega
    subst h2
    rw [if_pos rfl]; exact .inr rfl
  · rw [if_neg e]; exact h u y hu hy
end Go.Proofs.Ytaanbdjmibjcbaa

/-
  What is proved: plain: the visits that are reached, row by row, from those that nothing is joined after.
-/
namespace Go.Proofs.Ytaanbdjmibjcbaa

/-- what is so while the visits of L are still to be looked at behind v -/
structure Bfs (A : Nat → Nat → Bool) (n : Nat) (J : Jn) (Fs Ts : Nat → Bool) (wt : List Nat) (v : Nat) (L : List Nat) : Prop where
  fn : ∀ l, Fs l = true → l < n
  tn : ∀ k, Ts k = true → k < n
  free : ∀ l, l < n → J l = none → Fs l = true
  back : ∀ l k, J l = some k → Ts k = true → Fs l = true
  wtF : ∀ l, l ∈ wt → Fs l = true
  done : ∀ l, Fs l = true → l ∉ wt → ∀ k, k < n → A l k = true → Ts k = true ∨ (l = v ∧ k ∈ L)
  least : ∀ R : Nat → Prop, (∀ l, l < n → J l = none → ∀ k, k < n → A l k = true → R k) → Closed A n R J → (∀ k, Ts k = true → R k) ∧ (∀ l, Fs l = true → ∀ k, k < n → A l k = true → R k)
section
variable {A : Nat → Nat → Bool} {n : Nat} {J : Jn} {Fs Ts : Nat → Bool} {wt L : List Nat} {v k : Nat}
/-- at the start -/
theorem Bfs.start : Bfs A n J (fun l => decide (l < n) && (J l).isNone) (fun _ => false) ((List.range n).filter fun l => (J l).isNone) n [] where
  fn := fun l h => by simp at h; exact h.1
  tn := fun k h => by cases h
  free := fun l h1 h2 => by simp [h1, h2]
  back := fun l k _ h => by cases h
  wtF := fun l h => by simpa using h
  done := fun l h h2 => by
    exfalso
    apply h2
    simpa using h
  least := fun R h1 h2 => by
    refine ⟨fun k h => (by cases h), fun l hl => ?_⟩
    simp at hl
    exact h1 l hl.1 (by simpa using hl.2)
/-- one is taken out of those that wait -/
theorem Bfs.pop (h : Bfs A n J Fs Ts (k :: wt) v []) : Bfs A n J Fs Ts wt k ((List.range n).filter (A k)) ∧ Fs k = true := by
  refine ⟨⟨h.fn, h.tn, h.free, h.back, fun l hl => h.wtF l (List.mem_cons_of_mem _ hl), fun l hl hno q hq ha => ?_, h.least⟩, h.wtF k (List.mem_cons_self ..)⟩
  by_cases e : l = k
  · right
    refine ⟨e, List.mem_filter.2 ⟨List.mem_range.2 hq, by rw [← e]; exact ha⟩⟩
  · rcases h.done l hl (by simp [e, hno]) q hq ha with h1 | ⟨_, h1⟩
    · exact .inl h1
    · cases h1
theorem Bfs.seen (h : Bfs A n J Fs Ts wt v (k :: L)) (hk : Ts k = true) : Bfs A n J Fs Ts wt v L := ⟨h.fn, h.tn, h.free, h.back, h.wtF, fun l hl hno q hq ha => by
  rcases h.done l hl hno q hq ha with h1 | ⟨h1, h2⟩
  · exact .inl h1
  · rcases List.mem_cons.1 h2 with h3 | h3
    · rw [h3]; exact .inl hk
    · exact .inr ⟨h1, h3⟩, h.least⟩
theorem mark_self (s : Nat → Bool) (k : Nat) : mark s k k = true := if_pos rfl
theorem mark_or {s : Nat → Bool} {k x : Nat} (h : mark s k x = true) : x = k ∨ s x = true := by
  unfold mark at h
  by_cases e : x = k
  · exact .inl e
  · rw [if_neg e] at h; exact .inr h
theorem mark_up {s : Nat → Bool} {k x : Nat} (h : s x = true) : mark s k x = true := by
  unfold mark
  split
  · rfl
  · exact h
/-- one is reached that no other one is to be put in line for -/
theorem Bfs.new (h : Bfs A n J Fs Ts wt v (k :: L)) (hv : Fs v = true) (hkn : k < n) (ha : A v k = true) (hold : ∀ l, J l = some k → Fs l = true) : Bfs A n J Fs (mark Ts k) wt v L :=
  ⟨h.fn, fun x hx => by rcases mark_or hx with e | e; (rw [e]; exact hkn); exact h.tn x e, h.free, fun l x hl hx => by
    rcases mark_or hx with e | e
    · rw [e] at hl; exact hold l hl
    · exact h.back l x hl e, h.wtF, fun l hl hno q hq haq => by
    rcases h.done l hl hno q hq haq with h1 | ⟨h1, h2⟩
    · exact .inl (mark_up h1)
    · rcases List.mem_cons.1 h2 with h3 | h3
      · rw [h3]; exact .inl (mark_self _ _)
      · exact .inr ⟨h1, h3⟩, fun R h1 h2 => ⟨fun x hx => by
    rcases mark_or hx with e | e
    · rw [e]; exact (h.least R h1 h2).2 v hv k hkn ha
    · exact (h.least R h1 h2).1 x e, (h.least R h1 h2).2⟩⟩
/-- one is reached, and the one before it is put in line -/
theorem Bfs.more (hJ : Mat A n J) (h : Bfs A n J Fs Ts wt v (k :: L)) (hv : Fs v = true) (hkn : k < n) (ha : A v k = true) {old : Nat} (hold : J old = some k) : Bfs A n J (mark Fs old) (mark Ts k) (wt ++ [old]) v L := by
  have hon := (hJ.lt old k hold).1
  refine ⟨fun x hx => ?_, fun x hx => ?_, fun l h1 h2 => mark_up (h.free l h1 h2), fun l x hl hx => ?_, fun l hl => ?_, fun l hl hno q hq haq => ?_, fun R h1 h2 => ⟨fun x hx => ?_, fun l hl q hq haq => ?_⟩⟩
  · rcases mark_or hx with e | e
    · rw [e]; exact hon
    · exact h.fn x e
  · rcases mark_or hx with e | e
    · rw [e]; exact hkn
    · exact h.tn x e
  · rcases mark_or hx with e | e
    · rw [e] at hl
      rw [hJ.inj l old k hl hold]
      exact mark_self _ _
    · exact mark_up (h.back l x hl e)
  · rcases List.mem_append.1 hl with h1 | h1
    · exact mark_up (h.wtF l h1)
    · rw [List.mem_singleton.1 h1]; exact mark_self _ _
  · rcases mark_or hl with e | e
    · exact absurd (by rw [e]; simp) hno
    · rcases h.done l e (fun hh => hno (List.mem_append_left _ hh)) q hq haq with h1 | ⟨h1, h2⟩
      · exact .inl (mark_up h1)
      · rcases List.mem_cons.1 h2 with h3 | h3
        · rw [h3]; exact .inl (mark_self _ _)
        · exact .inr ⟨h1, h3⟩
  · rcases mark_or hx with e | e
    · rw [e]; exact (h.least R h1 h2).2 v hv k hkn ha
    · exact (h.least R h1 h2).1 x e
  · rcases mark_or hl with e | e
    · have hRk := (h.least R h1 h2).2 v hv k hkn ha
      obtain ⟨z, hz, hzn⟩ := h2 k hRk
      have : z = old := hJ.inj z old k hz hold
      rw [e, ← this] at haq
      exact hzn q hq haq
    · exact (h.least R h1 h2).2 l e q hq haq
/-- at the end -/
theorem Bfs.end_ (hU : Upto A n n J) (h : Bfs A n J Fs Ts [] v []) : (∀ i k, i < n → k < n → (Fs i && !Ts i) = true → (Fs k && !Ts k) = true → A i k = false) ∧ n ≤ J.size n + cntB (fun i => Fs i && !Ts i) n := by
  refine ⟨fun i k hi hk h1 h2 => ?_, apart_ge hU (fun l h1 h2 => h.free l h1 h2) (fun l k _ h1 h2 => h.back l k h1 h2) (fun R h1 h2 k _ h3 => (h.least R h1 h2).1 k h3)⟩
  simp only [Bool.and_eq_true, Bool.not_eq_true'] at h1 h2
  cases ha : A i k with
  | false => rfl
  | true =>
    rcases h.done i h1.1 (by simp) k hk ha with h3 | ⟨_, h3⟩
    · rw [h2.2] at h3; cases h3
    · cases h3
end
/-- all that are in line, and all that may be put in line -/
def bfsM (n : Nat) (Fs : Nat → Bool) (wt : List Nat) : Nat := 2 * cntB (fun l => !Fs l) n + wt.length
theorem bfsM_le {n : Nat} {Fs : Nat → Bool} {wt : List Nat} (hn : n ≤ 16) (h : wt.length ≤ n) : bfsM n Fs wt ≤ 48 := by
  have := cntB_le (fun l => !Fs l) n
  unfold bfsM
  omega
theorem bfsM_more {n : Nat} {Fs : Nat → Bool} {wt : List Nat} {old : Nat} (h : old < n) (hf : Fs old = false) : bfsM n (mark Fs old) (wt ++ [old]) < bfsM n Fs wt := by
  have h1 := cntB_less (p := fun l => !Fs l) h (by simp [hf])
  have h2 : cntB (fun l => !mark Fs old l) n = cntB (fun i => (!Fs i) && !(i == old)) n := cntB_congr fun i _ => by
    unfold mark
    by_cases e : i = old
    · rw [if_pos e]; simp [e]
    · have : (i == old) = false := by simpa using e
      rw [if_neg e]; simp [this]
  unfold bfsM
  rw [List.length_append, h2]
  simp
  omega
end Go.Proofs.Ytaanbdjmibjcbaa

/-
  What is proved: a queue: a slice of the call's own that is appended to at its end, and cut at its head: elements of one cell.
-/
namespace Go
open Go.RowKit

def vblk : Value → Option Nat
  | .slice (some a) _ _ => some a.block
  | _ => none
def QAt (w : World) (base : Nat) (e : TypeId) (v : Value) (xs : List Value) : Prop :=
  ∃ A cap, v = .slice A xs.length cap ∧ xs.length ≤ cap ∧ cap ≤ maxLen ∧ (∀ a, A = some a → base ≤ a.block ∧ a.block < w.heap.size) ∧ (0 < cap → ∃ b o cur, A = some ⟨b, o, none⟩ ∧ base ≤ b ∧ w.heap[b]? = some (.cells cur e) ∧ cur.size = o + cap ∧ ∀ i x, xs[i]? = some x → cur[o + i]? = some x)
theorem QAt.nil (w : World) (base : Nat) (e : TypeId) : QAt w base e (.slice none 0 0) [] := ⟨none, 0, rfl, Nat.le_refl _, Nat.zero_le _, fun _ h => (by cases h), fun h => by omega⟩
theorem QAt.keep {w w' : World} {base : Nat} {e : TypeId} {v : Value} {xs : List Value} (h : QAt w base e v xs) (hs : w.heap.size ≤ w'.heap.size) (g : ∀ b, vblk v = some b → b < w.heap.size → w'.heap[b]? = w.heap[b]?) : QAt w' base e v xs := by
  obtain ⟨A, cap, rfl, h1, h2, h0, h3⟩ := h
  refine ⟨A, cap, rfl, h1, h2, fun a ha => ⟨(h0 a ha).1, Nat.lt_of_lt_of_le (h0 a ha).2 hs⟩, fun hc => ?_⟩
  obtain ⟨b, o, cur, rfl, h4, h5, h6, h7⟩ := h3 hc
  exact ⟨b, o, cur, rfl, h4, by rw [g b rfl (World.lt_of_block h5)]; exact h5, h6, h7⟩
theorem QAt.mono {w w' : World} {base : Nat} {e : TypeId} {v : Value} {xs : List Value} (h : QAt w base e v xs) (g : w.grows w') : QAt w' base e v xs := h.keep g.size fun b _ hb => g.block b hb
theorem QAt.get {w : World} {base : Nat} {e : TypeId} {A : Option Addr} {n cap : Nat} {xs : List Value} (h : QAt w base e (.slice A n cap) xs) {i : Nat} {x : Value} (hx : xs[i]? = some x) : ∃ b o, A = some ⟨b, o, none⟩ ∧ w.cell? ⟨b, o + i, none⟩ = some x := by
  obtain ⟨A', cap', he, h1, h2, h0, h3⟩ := h
  cases he
  have hi := (List.getElem?_eq_some_iff.1 hx).1
  obtain ⟨b, o, cur, rfl, h4, h5, h6, h7⟩ := h3 (by omega)
  refine ⟨b, o, rfl, ?_⟩
  unfold World.cell?
  simp only [h5]
  exact h7 i x hx
theorem QAt.blk {w : World} {base : Nat} {e : TypeId} {v : Value} {xs : List Value} (h : QAt w base e v xs) {b : Nat} (hb : vblk v = some b) : base ≤ b ∧ b < w.heap.size := by
  obtain ⟨A, cap, rfl, h1, h2, h0, h3⟩ := h
  cases A with
  | none => cases hb
  | some a =>
    have : a.block = b := by simpa [vblk] using hb
    rw [← this]
    exact h0 a rfl
theorem QAt.form {w : World} {base : Nat} {e : TypeId} {v : Value} {xs : List Value} (h : QAt w base e v xs) : ∃ A cap, v = .slice A xs.length cap ∧ xs.length ≤ cap ∧ cap ≤ maxLen := by
  obtain ⟨A, cap, rfl, h1, h2, -⟩ := h
  exact ⟨A, cap, rfl, h1, h2⟩
/-- cut at its head -/
theorem QAt.tail {w : World} {base : Nat} {e : TypeId} {b o n cap : Nat} {x : Value} {xs : List Value} (h : QAt w base e (.slice (some ⟨b, o, none⟩) n cap) (x :: xs)) {A : Option Addr} (hA : A = some ⟨b, o + 1, none⟩ ∨ (cap = 1 ∧ A = some ⟨b, o, none⟩)) : QAt w base e (.slice A xs.length (cap - 1)) xs := by
  obtain ⟨A', cap', he, h1, h2, h0, h3⟩ := h
  cases he
  rw [List.length_cons] at h1
  obtain ⟨b', o', cur, heq, h4, h5, h6, h7⟩ := h3 (by omega)
  cases heq
  refine ⟨A, cap - 1, rfl, by omega, by omega, fun a ha => ?_, fun hc => ?_⟩
  · rcases hA with rfl | ⟨_, rfl⟩ <;> cases ha <;> exact ⟨h4, World.lt_of_block h5⟩
  · rcases hA with rfl | ⟨hc1, _⟩
    · exact ⟨b, o + 1, cur, rfl, h4, h5, by omega, fun i u hu => by rw [show o + 1 + i = o + (i + 1) by omega]; exact h7 (i + 1) u (by simpa using hu)⟩
    · omega
/-- another object is put where no cells lie -/
theorem QAt.put {w : World} {base : Nat} {e : TypeId} {v : Value} {xs : List Value} (h : QAt w base e v xs) {b : Nat} {o : Obj} (hb : ∀ c t fr, w.heap[b]? ≠ some (.cells c t fr)) : QAt (w.putObj b o) base e v xs := by
  obtain ⟨A, cap, rfl, h1, h2, h0, h3⟩ := h
  refine ⟨A, cap, rfl, h1, h2, fun a ha => ⟨(h0 a ha).1, by simpa using (h0 a ha).2⟩, fun hc => ?_⟩
  obtain ⟨b', o', cur, rfl, h4, h5, h6, h7⟩ := h3 hc
  refine ⟨b', o', cur, rfl, h4, ?_, h6, h7⟩
  rw [World.putObj_heap_other (fun e => by rw [e] at h5; exact hb _ _ _ h5)]
  exact h5
theorem setCells_one (w : World) (b o : Nat) (x : Value) : w.setCells b o [x] = w.setCell ⟨b, o, none⟩ x := rfl
section
variable {P : Program} (w : World)
theorem run_append_q (base : Nat) (t ty e : TypeId) (z : Value) (bytes : Nat) (ht : P.underlying t = some (.slice e)) (hi : P.knows e z 1 bytes) (hzs : z.cells.size = 1)
    (v : Value) (xs : List Value) (hq : QAt w base e v xs) (ad : Addr) (c : Nat) (x : Value) (hx : w.cell? ad = some x) (hs : ad.spot = none) (h1 : x.oneCell' = true)
    (h63 : xs.length + 1 ≤ maxLen) (hbytes : (xs.length + 1) * bytes ≤ 140737488355328) (hbase : base ≤ w.heap.size) :
    ∃ v' w', (Builtin.append_ #[t, t] ty #[v, .slice (some ad) 1 c]).run P w = .ok v' w' ∧ QAt w' base e v' (xs ++ [x]) ∧ w.grownBy w' (vblk v) ∧ (vblk v' = vblk v ∨ ∃ b, vblk v' = some b ∧ w.heap.size ≤ b) ∧ ∀ (k : Nat) (o : Obj), w.heap[k]? = some o → (∀ c fr, o ≠ Obj.cells c e fr) → w'.heap[k]? = some o := by
  obtain ⟨A, cap, rfl, hl, hm, hA0, hq⟩ := hq
  obtain ⟨ab, ao, asp⟩ := ad
  dsimp only at hs
  subst hs
  have hnews : ∀ j u, [x][j]? = some u → w.cell? ((⟨ab, ao, none⟩ : Addr).add j) = some u := fun j u hu => by
    cases j with
    | zero =>
      have : x = u := by simpa using hu
      subst this
      have : (⟨ab, ao, none⟩ : Addr).add 0 = ⟨ab, ao, none⟩ := by unfold Addr.add; rfl
      rw [this]; exact hx
    | succ j => simp at hu
  have hone : ∀ u ∈ [x], u.oneCell' = true := fun u hu => by rw [List.mem_singleton.1 hu]; exact h1
  obtain ⟨i, hi1, hz, hsz, hby⟩ := hi
  have hi : P.knows e z 1 bytes := ⟨i, hi1, hz, hsz, hby⟩
  by_cases hc : cap = 0
  · subst hc
    have hx0 : xs = [] := List.eq_nil_of_length_eq_zero (by omega)
    subst hx0
    have hsrc : SrcAt w (.slice (some ⟨ab, ao, none⟩) 1 c) 1 1 [x] := ⟨some ⟨ab, ao, none⟩, c, rfl, rfl, fun _ => ⟨_, rfl, hnews⟩⟩
    obtain ⟨cap', ys, hr, e1, e2, e3, e4⟩ := run_append_fresh (P := P) (w := w) (ty := ty) t e z 1 bytes ht hi hzs (by omega) A (.slice (some ⟨ab, ao, none⟩) 1 c) 1 [x] hsrc (by omega) (by unfold maxLen; omega) (by simpa using hbytes)
    refine ⟨_, _, hr, ⟨_, cap', rfl, e1, e2, fun a h => (by cases h; exact ⟨hbase, by simp⟩), fun _ => ⟨w.heap.size, 0, ys, rfl, hbase, heap_alloc_new w.drew _, by omega, fun i u hu => ?_⟩⟩, ⟨rfl, rfl, rfl, by simp, fun k hk _ => heap_alloc_old w.drew _ hk⟩, .inr ⟨w.heap.size, rfl, Nat.le_refl _⟩, fun k o ho _ => (heap_alloc_old w.drew _ (World.lt_of_block ho)).trans ho⟩
    rw [Nat.zero_add, ← Array.getElem?_toList, ← List.take_append_drop 1 ys.toList, show ys.toList.take 1 = [x] from by simpa using e4]
    have hu' : [x][i]? = some u := by simpa using hu
    have hi0 := (List.getElem?_eq_some_iff.1 hu').1
    rw [List.getElem?_append_left hi0]
    exact hu'
  · obtain ⟨b, o, cur, rfl, h4, h5, h6, h7⟩ := hq (by omega)
    by_cases hr : xs.length + 1 ≤ cap
    · have hlt : o + xs.length < cur.size := by omega
      have hcell : w.cell? ⟨b, o + xs.length, none⟩ = some cur[o + xs.length] := by
        unfold World.cell?
        simp only [h5]
        exact Array.getElem?_eq_getElem hlt
      have hrun := run_append_room_cells (P := P) w t ty e i ht hi1 b o xs.length cap ⟨ab, ao, none⟩ 1 c [x] (by rw [hsz]; rfl) hnews hone hr
        (fun j hj => by have : j = 0 := by simpa using hj
                        subst this
                        rw [hsz, Nat.mul_one, Nat.add_zero, hcell]; rfl)
        (fun j hj => by unfold World.frozen?; simp only [h5]; simp)
      rw [hsz, Nat.mul_one, setCells_one] at hrun
      have hheap : (w.setCell ⟨b, o + xs.length, none⟩ x).heap[b]? = some (.cells (cur.setIfInBounds (o + xs.length) x) e) := by
        unfold World.setCell
        simp only [Array.getElem?_modify, h5, if_true, Option.map_some]
        simp
      refine ⟨_, _, hrun, ⟨_, cap, by rw [List.length_append]; rfl, by rw [List.length_append]; simpa using hr, hm, fun a h => (by cases h; exact ⟨h4, by simpa using World.lt_of_block h5⟩), fun _ => ⟨b, o, _, rfl, h4, hheap, by simpa using h6, fun i u hu => ?_⟩⟩, ⟨rfl, rfl, rfl, by simp, fun k hk hne => ?_⟩, .inl rfl, fun k u hu hne => ?_⟩
      · rw [Array.getElem?_setIfInBounds]
        by_cases hi : o + xs.length = o + i
        · have : i = xs.length := by omega
          subst this
          rw [if_pos rfl, if_pos hlt]
          simpa using hu
        · rw [if_neg hi]
          refine h7 i u ?_
          have hil := (List.getElem?_eq_some_iff.1 hu).1
          rw [List.length_append] at hil
          simp at hil
          rwa [List.getElem?_append_left (by omega)] at hu
      · unfold World.setCell
        simp only [Array.getElem?_modify]
        rw [if_neg (fun e => hne (by rw [← e]; rfl))]
      · unfold World.setCell
        simp only [Array.getElem?_modify]
        rw [if_neg (fun e => by
          rw [← e, h5] at hu
          exact hne _ _ (Option.some.inj hu).symm)]
        exact hu
    · have holds : ∀ j u, xs[j]? = some u → w.cell? ((⟨b, o, none⟩ : Addr).add j) = some u := fun j u hu => by
        have : (⟨b, o, none⟩ : Addr).add j = ⟨b, o + j, none⟩ := by unfold Addr.add; simp
        rw [this]
        unfold World.cell?
        simp only [h5]
        exact h7 j u hu
      obtain ⟨v', w', hrun, hown, hg⟩ := run_append_arg_grows (P := P) w t ty e i z 1 bytes ht hi1 hz hsz hby hzs (by omega) ⟨b, o, none⟩ xs.length cap xs (by omega) holds ⟨ab, ao, none⟩ 1 c [x] rfl hnews (by omega) h63 hbytes
      rcases hown.2 with ⟨_, h0⟩ | ⟨g, cap', cur', rfl, hb, hheap, h11, h12, h13, h14⟩
      · omega
      · refine ⟨_, _, hrun, ⟨_, cap', by rw [List.length_append]; rfl, by rw [List.length_append]; simpa using h11, h12, fun a h => (by cases h; exact ⟨Nat.le_trans hbase hb, World.lt_of_block hheap⟩), fun _ => ⟨g, 0, cur', rfl, by omega, hheap, by omega, fun i u hu => ?_⟩⟩, ⟨hg.os, hg.tape, hg.output, hg.size, fun k hk _ => hg.block k hk (by simp)⟩, .inr ⟨g, rfl, hb⟩, fun k u hu _ => (hg.block k (World.lt_of_block hu) (by simp)).trans hu⟩
        rw [Nat.zero_add, ← Array.getElem?_toList]
        have hil := (List.getElem?_eq_some_iff.1 hu).1
        rw [← List.take_append_drop ((xs.length + 1) * 1) cur'.toList, h14, List.getElem?_append_left hil]
        exact hu
/-- at an operation of a walk -/
theorem wpList_append_q {ops : Array Oper} {rest : List Oper} {o : Oper} {a : Act} {Q : Exit → Act → World → Prop} (hgd : o.guard = none) (s x : Operand) (t : TypeId)
    (ho : o.op = .call { callee := .builtin .append, args := #[s, x], argTypes := #[t, t] })
    (base : Nat) (e : TypeId) (z : Value) (bytes : Nat) (ht : P.underlying t = some (.slice e)) (hi : P.knows e z 1 bytes) (hzs : z.cells.size = 1)
    (v : Value) (xs : List Value) (hs : a.eval s = v) (hq : QAt w base e v xs) (ad : Addr) (c : Nat) (u : Value) (hxv : a.eval x = .slice (some ad) 1 c) (hx : w.cell? ad = some u) (hsp : ad.spot = none) (h1 : u.oneCell' = true)
    (h63 : xs.length + 1 ≤ maxLen) (hbytes : (xs.length + 1) * bytes ≤ 140737488355328) (hbase : base ≤ w.heap.size)
    (h : ∀ v' w', QAt w' base e v' (xs ++ [u]) → w.grownBy w' (vblk v) → (vblk v' = vblk v ∨ ∃ b, vblk v' = some b ∧ w.heap.size ≤ b) → (∀ (k : Nat) (o : Obj), w.heap[k]? = some o → (∀ c fr, o ≠ Obj.cells c e fr) → w'.heap[k]? = some o) → wpList P ops Q rest (a.put o.dst v') w') : wpList P ops Q (o :: rest) a w := by
  refine wpList_plain hgd fun K hK => ?_
  obtain ⟨v', w', hr, h2, h3, h4, h5⟩ := run_append_q (P := P) w base t o.type e z bytes ht hi hzs v xs hq ad c u hx hsp h1 h63 hbytes hbase
  unfold Oper.wp execOp
  simp only [ho, resolve, invoke, builtin, Sem.run_bind, Sem.run_pure, Result.andThen_ok, List.map_toArray, List.map_cons, List.map_nil, hs, hxv, hr]
  exact hK _ _ (h v' w' h2 h3 h4 h5)
theorem wpListIn_append_q {F : Fence} {nF : Nat} {ops : Array Oper} {rest : List Oper} {o : Oper} {a : Act} {Q : Exit → Act → World → Prop} (hgd : o.guard = none) (s x : Operand) (t : TypeId)
    (ho : o.op = .call { callee := .builtin .append, args := #[s, x], argTypes := #[t, t] })
    (base : Nat) (e : TypeId) (z : Value) (bytes : Nat) (ht : P.underlying t = some (.slice e)) (hi : P.knows e z 1 bytes) (hzs : z.cells.size = 1)
    (v : Value) (xs : List Value) (hs : a.eval s = v) (hq : QAt w base e v xs) (ad : Addr) (c : Nat) (u : Value) (hxv : a.eval x = .slice (some ad) 1 c) (hx : w.cell? ad = some u) (hsp : ad.spot = none) (h1 : u.oneCell' = true)
    (h63 : xs.length + 1 ≤ maxLen) (hbytes : (xs.length + 1) * bytes ≤ 140737488355328) (hbase : base ≤ w.heap.size)
    (h : ∀ v' w', QAt w' base e v' (xs ++ [u]) → w.grownBy w' (vblk v) → (vblk v' = vblk v ∨ ∃ b, vblk v' = some b ∧ w.heap.size ≤ b) → (∀ (k : Nat) (o : Obj), w.heap[k]? = some o → (∀ c fr, o ≠ Obj.cells c e fr) → w'.heap[k]? = some o) → wpListIn F nF P ops Q rest (a.put o.dst v') w') : wpListIn F nF P ops Q (o :: rest) a w := by
  refine wpListIn_plain hgd fun K hK => ?_
  obtain ⟨v', w', hr, h2, h3, h4, h5⟩ := run_append_q (P := P) w base t o.type e z bytes ht hi hzs v xs hq ad c u hx hsp h1 h63 hbytes hbase
  unfold Oper.wpIn
  refine ⟨by simp [Oper.about, ho, resolve, Target.leads, Sem.run_pure], ?_⟩
  rw [Oper.semAt_plain F _ _ (by rw [ho]; intro c hc'; cases hc')]
  simp [execOp, ho, resolve, invoke, builtin, hs, hxv, hr, Result.andThen]
  exact hK _ _ (h v' w' h2 h3 h4 h5)
end
end Go

/-
  What is proved: the law of a region that draws its order: reads and calls beside a chain, and behind all of them reads and calls beside a second chain.
-/
namespace Go
open Go.RowKit
section
variable {P : Program} {ops : Array Oper}
def without2 (l : List Oper) (n : Nat) (ms : List Nat) : List Oper := ((withNo n (l.drop n)).filter fun p => !ms.contains p.1).map (·.2)
def only2 (l : List Oper) (n : Nat) (ms : List Nat) : List Oper := ((withNo n (l.drop n)).filter fun p => ms.contains p.1).map (·.2)
theorem wpAny_chain_rest {Q : Exit → Act → World → Prop} {l : List Oper} {n : Nat} {ms : List Nat} (hch : Region.chainsB l.toArray l.length ms = true) (hms : ((withNo n (l.drop n)).filter fun p => ms.contains p.1).map (·.1) = ms) (hn : n ≤ l.length) {listed : Array Bool} {a : Act} {W : World}
    (inv : HeadInv .any l.toArray n listed) (hall : ∀ i, i < n → listed.getD i false = true)
    (h : wpCalm P l.toArray W (fun a3 => wpChain P l.toArray W (fun a4 W4 => Q .normal a4 W4) (only2 l n ms) a3 W) (without2 l n ms) a) : wpAny P .any l.toArray Q (l.toArray.size - n) listed a W := by
  have hch0 := hch
  have hwn : (withNo n (l.drop n)).length = l.length - n := by
    have := congrArg List.length (withNo_snd n (l.drop n))
    simpa using this
  have hat : ∀ p ∈ withNo n (l.drop n), n ≤ p.1 ∧ p.1 < l.length ∧ l.toArray[p.1]? = some p.2 := fun p hp => by
    obtain ⟨h1, h2⟩ := (withNo_mem n _ _).1 hp
    rw [List.getElem?_drop, show n + (p.1 - n) = p.1 by omega] at h2
    exact ⟨h1, (List.getElem?_eq_some_iff.1 h2).1, by simpa using h2⟩
  have hsorted : ((withNo n (l.drop n)).map (·.1)).Pairwise (· < ·) := by rw [withNo_fst]; exact List.pairwise_lt_range'
  have hfilt : ∀ (q : Nat × Oper → Bool), (((withNo n (l.drop n)).filter q).map (·.1)).Pairwise (· < ·) := fun q => by
    have : ((withNo n (l.drop n)).filter q).Sublist (withNo n (l.drop n)) := List.filter_sublist
    exact hsorted.sublist (this.map _)
  have hlen : ((withNo n (l.drop n)).filter fun p => !ms.contains p.1).length + ((withNo n (l.drop n)).filter fun p => ms.contains p.1).length = l.length - n := by
    have := filt_len (fun p : Nat × Oper => ms.contains p.1) (withNo n (l.drop n))
    omega
  have key := wpAny_of_chain (P := P) (ops := l.toArray) (w0 := W) (Q := Q) (n := l.toArray.size) (ms0 := ms) (by simpa using hch)
    (fun listed i0 inv hi0 hun0 => heads_of_all listed)
    (K := fun a4 W4 => Q .normal a4 W4)
    (fun a W4 hK listed inv hall => by
      rw [Nat.sub_self]
      refine ⟨List.eq_nil_iff_forall_not_mem.2 fun t ht => ?_, hK⟩
      obtain ⟨hun, ot, hot, _⟩ := mem_ready.1 ht
      have h1 := hall t (Array.getElem?_eq_some_iff.1 hot).1
      rw [getD_both hun] at h1
      cases h1)
    (l.length - n) ((withNo n (l.drop n)).filter fun p => !ms.contains p.1) ((withNo n (l.drop n)).filter fun p => ms.contains p.1) listed a W hlen
    ⟨inv.size, inv.closed, fun t h1 h2 => by omega⟩
    (fun i hi => by
      have hi' : i < l.length := by simpa using hi
      simp only [List.mem_map, List.mem_filter]
      constructor
      · intro hf
        have hni : n ≤ i := by
          rcases Nat.lt_or_ge i n with h1 | h1
          · rw [hall i h1] at hf; cases hf
          · exact h1
        have hi2 : (i, l[i]) ∈ withNo n (l.drop n) := (withNo_mem n _ _).2 ⟨hni, by rw [List.getElem?_drop]; simp [show n + (i - n) = i by omega]⟩
        cases hc : ms.contains i with
        | true => exact .inr ⟨_, ⟨hi2, hc⟩, rfl⟩
        | false => exact .inl ⟨_, ⟨hi2, by simpa using hc⟩, rfl⟩
      · intro hor
        have : n ≤ i := by
          rcases hor with ⟨p, ⟨hp, _⟩, rfl⟩ | ⟨p, ⟨hp, _⟩, rfl⟩ <;> exact (hat p hp).1
        exact getD_both (inv.tail i this (by simpa using hi')))
    (fun p hp => by
      obtain ⟨h1, h2⟩ := List.mem_filter.1 hp
      exact ⟨by simpa using (hat p h1).2.1, (hat p h1).2.2, by simpa using h2⟩)
    (fun p hp => by
      obtain ⟨h1, h2⟩ := List.mem_filter.1 hp
      exact ⟨by simpa using (hat p h1).2.1, (hat p h1).2.2, h2⟩)
    (hfilt _) (hfilt _)
    (fun p q l1 l2 he => by
      simp only [Region.chainsB, Bool.and_eq_true] at hch0
      have hz := hch0.1.2
      have := zip_next ms (fun i j => decide (i < j) && Region.waitsFor .any l.toArray j i) hz p.1 q.1 (l1.map (·.1)) (l2.map (·.1)) (by rw [← hms, he]; simp)
      simp only [Bool.and_eq_true] at this
      exact this.2)
    (World.grows.refl _) h
  simpa using key
def Region.chain3B (ops : Array Oper) (n : Nat) (ms ms2 : List Nat) : Bool :=
  Region.chainsB ops n ms && decide (0 < n) && decide (n ≤ ops.size) && Region.sinkB .any ops (n - 1) && Region.restB ops (n - 1) && Region.chainsB ops ops.size ms2
/-- a chain beside reads and calls, and behind all of them (from n on) a second one -/
theorem wp_region_chain3 {id : Nat} {Q : Exit → Act → World → Prop} {a : Act} {w : World} {l : List Oper} (n : Nat) (ms ms2 : List Nat) (hm : P.follows .mixedOrders = true)
    (hB : (Region.chain3B l.toArray n ms ms2 && decide (((withNo 0 (l.take n)).filter fun p => ms.contains p.1).map (·.1) = ms) && decide (((withNo n (l.drop n)).filter fun p => ms2.contains p.1).map (·.1) = ms2)) = true)
    (h : wpCalm P l.toArray w (fun a' => wpChain P l.toArray w (fun a'' W => wpCalm P l.toArray W (fun a3 => wpChain P l.toArray W (fun a4 W4 => Q .normal a4 W4) (only2 l n ms2) a3 W) (without2 l n ms2) a'') (only l n ms) a' w) (without l n ms) a) : (Code.region id l.toArray true).wp P Q a w := by
  simp only [Region.chain3B, Bool.and_eq_true, decide_eq_true_eq] at hB
  obtain ⟨⟨⟨⟨⟨⟨⟨hch, hn0⟩, hnle⟩, hsink⟩, hrest⟩, hch2⟩, hms⟩, hms2⟩ := hB
  have hch0 := hch
  have hn : n ≤ l.length := by simpa using hnle
  refine wp_region_any hm ?_
  obtain ⟨n0, x0, h0⟩ := World.more_drew w
  rw [h0]
  have hat : ∀ p ∈ withNo 0 (l.take n), p.1 < n ∧ l.toArray[p.1]? = some p.2 := fun p hp => by
    have h2 := ((withNo_mem 0 _ p).1 hp).2
    rw [Nat.sub_zero, List.getElem?_take] at h2
    split at h2
    · rename_i hlt; exact ⟨by omega, by simpa using h2⟩
    · cases h2
  have hsorted : ((withNo 0 (l.take n)).map (·.1)).Pairwise (· < ·) := by rw [withNo_fst]; exact List.pairwise_lt_range'
  have hfilt : ∀ (q : Nat × Oper → Bool), (((withNo 0 (l.take n)).filter q).map (·.1)).Pairwise (· < ·) := fun q => by
    have : ((withNo 0 (l.take n)).filter q).Sublist (withNo 0 (l.take n)) := List.filter_sublist
    exact hsorted.sublist (this.map _)
  have hlen : ((withNo 0 (l.take n)).filter fun p => !ms.contains p.1).length + ((withNo 0 (l.take n)).filter fun p => ms.contains p.1).length = n := by
    have e1 : (withNo 0 (l.take n)).length = n := by
      have := congrArg List.length (withNo_snd 0 (l.take n))
      simp at this
      omega
    have := filt_len (fun p : Nat × Oper => ms.contains p.1) (withNo 0 (l.take n))
    omega
  obtain ⟨m, rfl⟩ : ∃ m, n = m + 1 := ⟨n - 1, by omega⟩
  rw [Nat.add_sub_cancel] at hsink hrest
  have key := wpAny_of_chain (P := P) (ops := l.toArray) (w0 := w) (Q := Q) (n := m + 1) (ms0 := ms) hch
    (fun listed i0 inv hi0 hun0 => heads_of_last hsink hrest (by omega) i0 inv hi0 hun0)
    (K := fun a'' W => wpCalm P l.toArray W (fun a3 => wpChain P l.toArray W (fun a4 W4 => Q .normal a4 W4) (only2 l (m + 1) ms2) a3 W) (without2 l (m + 1) ms2) a'')
    (fun a W hK listed inv hall => wpAny_chain_rest (by simpa using hch2) hms2 hn inv hall hK)
    (m + 1) ((withNo 0 (l.take (m + 1))).filter fun p => !ms.contains p.1) ((withNo 0 (l.take (m + 1))).filter fun p => ms.contains p.1) (Array.replicate l.toArray.size false) a (w.plus n0 x0) hlen (headInv_start (m + 1))
    (fun i hi => by
      simp only [getD_replicate_false, true_iff, List.mem_map, List.mem_filter]
      have hil : i < (l.take (m + 1)).length := by simp; omega
      have hi2 : (i, (l.take (m + 1))[i]) ∈ withNo 0 (l.take (m + 1)) := (withNo_mem 0 _ _).2 ⟨Nat.zero_le _, by rw [Nat.sub_zero]; exact List.getElem?_eq_getElem hil⟩
      cases hc : ms.contains i with
      | true => exact .inr ⟨_, ⟨hi2, hc⟩, rfl⟩
      | false => exact .inl ⟨_, ⟨hi2, by simpa using hc⟩, rfl⟩)
    (fun p hp => by
      obtain ⟨h1, h2⟩ := List.mem_filter.1 hp
      exact ⟨(hat p h1).1, (hat p h1).2, by simpa using h2⟩)
    (fun p hp => by
      obtain ⟨h1, h2⟩ := List.mem_filter.1 hp
      exact ⟨(hat p h1).1, (hat p h1).2, h2⟩)
    (hfilt _) (hfilt _)
    (fun p q l1 l2 he => by
      simp only [Region.chainsB, Bool.and_eq_true] at hch0
      have hz := hch0.1.2
      have := zip_next ms (fun i j => decide (i < j) && Region.waitsFor .any l.toArray j i) hz p.1 q.1 (l1.map (·.1)) (l2.map (·.1)) (by rw [← hms, he]; simp)
      simp only [Bool.and_eq_true] at this
      exact this.2)
    (World.grows_plus _ _ _)
    (wpCalm_mono (fun a' h => wpChain_grow (World.grows_plus _ _ _) h) _ _ h)
  rw [show m + 1 + (l.toArray.size - (m + 1)) = l.toArray.size by omega] at key
  exact key
end
end Go

/-
  What is proved: as many visits that stand apart as there can be, in the program (78).
-/
namespace Go.Proofs.Ytaanbdjmibjcbaa
open Go.RowKit
attribute [local irreducible] Go.wpCalm rowI
attribute [local go_sem] Oper.semAt_some

theorem cell_box {w : World} {b : Nat} {v : Value} {t : TypeId} (h : w.heap[b]? = some (.cells #[v] t)) : w.cell? ⟨b, 0, none⟩ = some v := cell_of_heap h rfl
theorem bitsN_mark (p : Nat → Bool) {k n : Nat} (hk : k < n) : bitsN (mark p k) n = bitsN p n ||| 2 ^ k := by
  apply Nat.eq_of_testBit_eq
  intro i
  rw [Nat.testBit_or, bitsN_bit, bitsN_bit, Nat.testBit_two_pow]
  unfold mark
  by_cases e : i = k
  · subst e; simp [hk]
  · have : ¬ k = i := fun h => e h.symm
    simp [e, this]
theorem wp_cutE {P : Program} {C : Code} {Q : Exit → Act → World → Prop} {a : Act} {w : World} (h : C.wp P (cutE fun a W => Q .normal a W) a w) : C.wp P Q a w :=
  Code.wp_mono (fun e a W h => by cases e <;> simp only [cutE] at h; exact h) h
theorem ListAt.sub {w w' : World} {v : Value} {L : List Nat} (h : ListAt w v L) (g : w.cellsub w') : ListAt w' v L := by
  obtain ⟨a, cap, h1, h2, h3, h4⟩ := h
  exact ⟨a, cap, h1, h2, h3, fun i j hi hj => by
    obtain ⟨b, o, e1, e2⟩ := h4 i j hi hj
    exact ⟨b, o, e1, g _ _ e2⟩⟩
/-- the boxes of the search -/
structure ApB (w1 W : World) (q jb n : Nat) (Fs Ts : Nat → Bool) (wb : Value) : Prop where
  sz : w1.heap.size = q
  g : w1.grows W
  b0 : W.heap[q]? = some (.cells #[.map (some jb)] 105)
  b1 : W.heap[q + 1]? = some (.cells #[.int .i64 ((bitsN Fs n : Nat) : Int)] 3)
  b2 : W.heap[q + 1 + 1]? = some (.cells #[.int .i64 ((bitsN Ts n : Nat) : Int)] 3)
  b3 : W.heap[q + 1 + 1 + 1]? = some (.cells #[wb] 35)
section
variable {w1 W W' : World} {q jb n : Nat} {Fs Ts : Nat → Bool} {wb : Value}
theorem ApB.mono (h : ApB w1 W q jb n Fs Ts wb) (g : W.grows W') : ApB w1 W' q jb n Fs Ts wb :=
  ⟨h.sz, h.g.trans g, g.heap_of h.b0, g.heap_of h.b1, g.heap_of h.b2, g.heap_of h.b3⟩
theorem ApB.setF (h : ApB w1 W q jb n Fs Ts wb) (Fs' : Nat → Bool) : ApB w1 (W.setCell ⟨q + 1, 0, none⟩ (.int .i64 ((bitsN Fs' n : Nat) : Int))) q jb n Fs' Ts wb :=
  ⟨h.sz, h.g.setCell (p := ⟨q + 1, 0, none⟩) (by have := h.sz; dsimp only; omega) _, by rw [World.heap_setCell_map _ _ _ _ (show q + 1 ≠ q by omega)]; exact h.b0, store_of_heap h.b1 0 _, by rw [World.heap_setCell_map _ _ _ _ (show q + 1 ≠ q + 1 + 1 by omega)]; exact h.b2, by rw [World.heap_setCell_map _ _ _ _ (show q + 1 ≠ q + 1 + 1 + 1 by omega)]; exact h.b3⟩
theorem ApB.setT (h : ApB w1 W q jb n Fs Ts wb) (Ts' : Nat → Bool) : ApB w1 (W.setCell ⟨q + 1 + 1, 0, none⟩ (.int .i64 ((bitsN Ts' n : Nat) : Int))) q jb n Fs Ts' wb :=
  ⟨h.sz, h.g.setCell (p := ⟨q + 1 + 1, 0, none⟩) (by have := h.sz; dsimp only; omega) _, by rw [World.heap_setCell_map _ _ _ _ (show q + 1 + 1 ≠ q by omega)]; exact h.b0, by rw [World.heap_setCell_map _ _ _ _ (show q + 1 + 1 ≠ q + 1 by omega)]; exact h.b1, store_of_heap h.b2 0 _, by rw [World.heap_setCell_map _ _ _ _ (show q + 1 + 1 ≠ q + 1 + 1 + 1 by omega)]; exact h.b3⟩
theorem ApB.setQ (h : ApB w1 W q jb n Fs Ts wb) (wv : Value) : ApB w1 (W.setCell ⟨q + 1 + 1 + 1, 0, none⟩ wv) q jb n Fs Ts wv :=
  ⟨h.sz, h.g.setCell (p := ⟨q + 1 + 1 + 1, 0, none⟩) (by have := h.sz; dsimp only; omega) _, by rw [World.heap_setCell_map _ _ _ _ (show q + 1 + 1 + 1 ≠ q by omega)]; exact h.b0, by rw [World.heap_setCell_map _ _ _ _ (show q + 1 + 1 + 1 ≠ q + 1 by omega)]; exact h.b1, by rw [World.heap_setCell_map _ _ _ _ (show q + 1 + 1 + 1 ≠ q + 1 + 1 by omega)]; exact h.b2, store_of_heap h.b3 0 _⟩
theorem ApB.app {B : Option Nat} (h : ApB w1 W q jb n Fs Ts wb) (g : W.grownBy W' B) (hB : ∀ b, B = some b → q + 4 ≤ b) : ApB w1 W' q jb n Fs Ts wb := by
  have hb : ∀ k o, k < q + 4 → W.heap[k]? = some o → W'.heap[k]? = some o := fun k o hk ho => by
    rw [g.block k (World.lt_of_block ho) (fun e => by have := hB k e.symm; omega)]; exact ho
  have hs := h.sz
  exact ⟨h.sz, ⟨g.os.trans h.g.os, g.tape.trans h.g.tape, g.output.trans h.g.output, Nat.le_trans h.g.size g.size, fun k hk => by
    rw [g.block k (Nat.lt_of_lt_of_le hk h.g.size) (fun e => by have := hB k e.symm; omega)]; exact h.g.block k hk⟩, hb _ _ (by omega) h.b0, hb _ _ (by omega) h.b1, hb _ _ (by omega) h.b2, hb _ _ (by omega) h.b3⟩
theorem ApB.putL (h : ApB w1 W q jb n Fs Ts wb) {b : Nat} {o : Obj} (hL : ∀ c t fr, W.heap[b]? ≠ some (.cells c t fr)) (hb : q ≤ b) : ApB w1 (W.putObj b o) q jb n Fs Ts wb := by
  have hk : ∀ (k : Nat) (c : Array Value) (t : TypeId), W.heap[k]? = some (Obj.cells c t) → (W.putObj b o).heap[k]? = some (Obj.cells c t) := fun k c t ho => by
    rw [World.putObj_heap_other (fun e => by rw [e] at ho; exact hL _ _ _ ho)]; exact ho
  exact ⟨h.sz, World.putObj_grows h.g _ (by rw [h.sz]; exact hb), hk _ _ _ h.b0, hk _ _ _ h.b1, hk _ _ _ h.b2, hk _ _ _ h.b3⟩
theorem _root_.Go.QAt.set {v : Value} {xs : List Value} {base b : Nat} (h : QAt W base 3 v xs) (hb : b < base) (i : Nat) (x : Value) : QAt (W.setCell ⟨b, i, none⟩ x) base 3 v xs :=
  h.keep (by simp) fun c hc _ => World.heap_setCell_map _ _ _ _ (by have := (h.blk hc).1; dsimp only; omega)
end
/-- all that is so in a round of the inner loop -/
structure ApS (w1 : World) (q jb n yb k0 p0 B : Nat) (ds : List Deferred) (U : World) (Fs Ts : Nat → Bool) (wt : List Nat) (wv : Value) : Prop where
  b : ApB w1 U q jb n Fs Ts wv
  qu : QAt U (q + 4) 3 wv (ilist wt)
  h0 : U.heap[p0]? = some (.cells #[.pointer (some ⟨yb, 0, none⟩)] 75)
  h1 : U.heap[p0 + 1]? = some (.cells #[.int .i64 (k0 : Nat)] 3)
  ne : vblk wv ≠ some (p0 + 1)
  ms : Marks B ds U
  lt : q + 4 ≤ p0
section
variable {w1 : World} {q jb n yb k0 p0 B : Nat} {ds : List Deferred} {U U' : World} {Fs Ts : Nat → Bool} {wt : List Nat} {wv : Value}
theorem ApS.mono (h : ApS w1 q jb n yb k0 p0 B ds U Fs Ts wt wv) (g : U.grows U') : ApS w1 q jb n yb k0 p0 B ds U' Fs Ts wt wv := ⟨h.b.mono g, h.qu.mono g, g.heap_of h.h0, g.heap_of h.h1, h.ne, h.ms.mono g, h.lt⟩
theorem ApS.putL (h : ApS w1 q jb n yb k0 p0 B ds U Fs Ts wt wv) {b : Nat} {lo : Loop} {o : Obj} (hL : U.heap[b]? = some (.loop lo)) (hb : q ≤ b) : ApS w1 q jb n yb k0 p0 B ds (U.putObj b o) Fs Ts wt wv := by
  have hk : ∀ (k : Nat) (c : Array Value) (t : TypeId), U.heap[k]? = some (Obj.cells c t) → (U.putObj b o).heap[k]? = some (Obj.cells c t) := fun k c t ho => by
    rw [World.putObj_heap_other (fun e => by rw [e, hL] at ho; cases ho)]; exact ho
  exact ⟨h.b.putL (fun c t fr e => by rw [hL] at e; cases e) hb, h.qu.put (fun c t fr e => by rw [hL] at e; cases e), hk _ _ _ h.h0, hk _ _ _ h.h1, h.ne, h.ms.put (fun c e => by rw [hL] at e; cases e), h.lt⟩
theorem ApS.setF (h : ApS w1 q jb n yb k0 p0 B ds U Fs Ts wt wv) (Fs' : Nat → Bool) : ApS w1 q jb n yb k0 p0 B ds (U.setCell ⟨q + 1, 0, none⟩ (.int .i64 ((bitsN Fs' n : Nat) : Int))) Fs' Ts wt wv := by
  have := h.lt
  exact ⟨h.b.setF Fs', h.qu.set (by omega) 0 _, by rw [World.heap_setCell_map _ _ _ _ (show q + 1 ≠ p0 by omega)]; exact h.h0, by rw [World.heap_setCell_map _ _ _ _ (show q + 1 ≠ p0 + 1 by omega)]; exact h.h1, h.ne, h.ms.setCell, h.lt⟩
theorem ApS.setT (h : ApS w1 q jb n yb k0 p0 B ds U Fs Ts wt wv) (Ts' : Nat → Bool) : ApS w1 q jb n yb k0 p0 B ds (U.setCell ⟨q + 1 + 1, 0, none⟩ (.int .i64 ((bitsN Ts' n : Nat) : Int))) Fs Ts' wt wv := by
  have := h.lt
  exact ⟨h.b.setT Ts', h.qu.set (by omega) 0 _, by rw [World.heap_setCell_map _ _ _ _ (show q + 1 + 1 ≠ p0 by omega)]; exact h.h0, by rw [World.heap_setCell_map _ _ _ _ (show q + 1 + 1 ≠ p0 + 1 by omega)]; exact h.h1, h.ne, h.ms.setCell, h.lt⟩
theorem ApS.app (h : ApS w1 q jb n yb k0 p0 B ds U Fs Ts wt wv) {wv' : Value} {wt' : List Nat} (hq : QAt U' (q + 4) 3 wv' (ilist wt')) (hg : U.grownBy U' (vblk wv)) (hv : vblk wv' = vblk wv ∨ ∃ b, vblk wv' = some b ∧ U.heap.size ≤ b) (hk : ∀ (k : Nat) (o : Obj), U.heap[k]? = some o → (∀ c fr, o ≠ Obj.cells c 3 fr) → U'.heap[k]? = some o) :
    ApS w1 q jb n yb k0 p0 B ds (U'.setCell ⟨q + 1 + 1 + 1, 0, none⟩ wv') Fs Ts wt' wv' := by
  have hlt := h.lt
  have hp1 := World.lt_of_block h.h1
  refine ⟨(h.b.app hg (fun b hb => (h.qu.blk hb).1)).setQ wv', hq.set (by omega) 0 _, ?_, ?_, fun e => ?_, Marks.setCell (h.ms.keep fun D hD => hk D _ hD (fun c fr e => by cases e)), h.lt⟩
  · rw [World.heap_setCell_map _ _ _ _ (show q + 1 + 1 + 1 ≠ p0 by omega)]
    exact hk _ _ h.h0 (fun c fr e => by cases e)
  · rw [World.heap_setCell_map _ _ _ _ (show q + 1 + 1 + 1 ≠ p0 + 1 by omega), hg.block _ hp1 (fun e => h.ne e.symm)]
    exact h.h1
  · rcases hv with hv | ⟨b, hv, hb⟩
    · exact h.ne (hv.symm.trans e)
    · rw [hv] at e
      have : b = p0 + 1 := Option.some.inj e
      omega
end
/-- what is left to do, as the boxes tell -/
def apM (q n : Nat) (W : World) : Nat := 2 * cntB (fun l => !(match W.cell? ⟨q + 1, 0, none⟩ with | some (.int _ f) => f.toNat.testBit l | _ => false)) n + (match W.cell? ⟨q + 1 + 1 + 1, 0, none⟩ with | some (.slice _ m _) => m | _ => 0)
theorem apM_eq {w1 W : World} {q jb n : Nat} {Fs Ts : Nat → Bool} {wv : Value} {wt : List Nat} (hB : ApB w1 W q jb n Fs Ts wv) {base e : Nat} (hQ : QAt W base e wv (ilist wt)) : apM q n W = bfsM n Fs wt := by
  obtain ⟨A, cap, rfl, -, -⟩ := hQ.form
  unfold apM bfsM
  rw [cell_box hB.b1, cell_box hB.b3]
  dsimp only
  rw [ilist_len]
  congr 2
  refine cntB_congr fun l hl => ?_
  rw [Int.toNat_natCast, bitsN_bit, decide_eq_true hl, Bool.true_and]
set_option maxRecDepth 100000 in
set_option maxHeartbeats 4000000 in
theorem apart_c (w : World) (yb n : Nat) (F : Nat → Int) (A : Nat → Nat → Bool) (hY : YA w yb n F) (hA : RowsA F A n) (hn : n ≤ 16) :
    Calls Try.prog 78 #[.pointer (some ⟨yb, 0, none⟩)] w fun e w' => ∃ (X : Nat → Bool) (v : Value), e = .returned v ∧ w.grows w' ∧ ListAt w' v (filtL X n) ∧ (∀ i k, i < n → k < n → X i = true → X k = true → A i k = false) ∧ n ≤ (joinF A n n).size n + cntB X n := by
  have HY := Lib.hid hY
  have HA := Lib.hid hA
  have hU := join_upto A n n (Nat.le_refl n)
  have HU := Lib.hid hU
  obtain ⟨J, hJ⟩ : ∃ J, joinF A n n = J := ⟨_, rfl⟩
  have h72 := join_c w yb n F A hY hA hn
  rw [hJ] at h72 HU ⊢
  clear hU hJ hY hA
  (refine (callsIn_wide (n := 0)).1 (callsIn_of_wp_marks Try.func78 rfl trivial ((wpIn_wide (n := 0)).2 ?_) rfl); simp only [Try.ntmps78, List.size_toArray, List.length_cons, List.length_nil, Nat.reduceAdd, Nat.reduceSub, Array.replicate_succ, Array.replicate_zero, List.push_toArray, List.append_toArray, List.nil_append, List.cons_append])
  go_wp2_with (go_at_call 99; fail)
  refine h72.mono ?_
  rintro e W1 ⟨jb, m, rfl, g1, hmb, hm, -⟩
  have hjl := World.lt_of_block hmb
  have HY1 := Lib.hid (HY.out.mono g1)
  have HMB := Lib.hid hmb
  have HM := Lib.hid hm
  have HG1 := Lib.hid g1
  obtain ⟨pl, sv, va, vc, P, hy, v1, v2⟩ := HY1.out
  have c2 := hy.c2
  have HC2 := Lib.hid c2
  unfold maxLen at v2
  clear hmb hm g1 h72 hy
  go_upto_region 4 with fail
  obtain ⟨q, hq⟩ : ∃ q, W1.heap.size = q := ⟨_, rfl⟩
  obtain ⟨W0, hW0⟩ : ∃ W0, W0 = allocs W1 [.cells #[.map (some jb)] 105, .cells #[.int .i64 0] 3, .cells #[.int .i64 0] 3, .cells #[.slice none 0 0] 35] := ⟨_, rfl⟩
  have e1 : ((((W1.alloc (.cells #[.map (some jb)] 105)).alloc (.cells #[.int .i64 0] 3)).alloc (.cells #[.int .i64 0] 3)).alloc (.cells #[.slice none 0 0] 35)) = W0 := by rw [hW0]; rfl
  have hz0 : bitsN (fun _ => false) n = 0 := by
    apply Nat.eq_of_testBit_eq
    intro i
    rw [bitsN_bit, Nat.zero_testBit, Bool.and_false]
  have hB0 : Hid (ApB W1 W0 q jb n (fun l => decide (l < 0) && (J l).isNone) (fun _ => false) (.slice none 0 0)) := Lib.hid (by
    have e0 : (fun l => decide (l < 0) && (J l).isNone) = fun _ => false := funext fun l => by simp
    rw [e0]
    refine ⟨hq, by rw [hW0]; exact allocs_grows _ _, ?_, ?_, ?_, ?_⟩
    · rw [hW0, ← hq]; exact allocs_at _ W1 (i := 0) rfl
    · rw [hW0, ← hq, hz0]; exact allocs_at _ W1 (i := 1) rfl
    · rw [hW0, ← hq, hz0]; exact allocs_at _ W1 (i := 2) rfl
    · rw [hW0, ← hq]; exact allocs_at _ W1 (i := 3) rfl)
  have hQ0 : Hid (QAt W0 (q + 4) 3 (.slice none 0 0) (ilist (filtL (fun l => (J l).isNone) 0))) := Lib.hid (QAt.nil _ _ _)
  have hs0 : q + 4 ≤ W0.heap.size := by rw [hW0, allocs_size, hq]; exact Nat.le_refl _
  rw [e1]
  simp only [hq]
  replace c2 : W0.cell? ⟨yb, 2, none⟩ = some (.slice va n vc) := hB0.out.g.cell_of c2
  clear hW0 e1 hz0
  go_wp2
  clear c2
  go_loopw [26] (fun i wr => ∃ (k : Nat) (wv : Value), k ≤ n ∧ i = .int .i64 k ∧ q + 4 ≤ wr.heap.size ∧ Hid (ApB W1 wr q jb n (fun l => decide (l < k) && (J l).isNone) (fun _ => false) wv) ∧ Hid (QAt wr (q + 4) 3 wv (ilist (filtL (fun l => (J l).isNone) k)))) (fun i _ => n - (intOf i).toNat)
  case atStart => exact ⟨0, _, by omega, rfl, hs0, hB0, hQ0⟩
  case round =>
    clear hB0 hQ0 hs0
    obtain ⟨k, wv, hk, rfl, hsz, hB, hQ⟩ := hrel
    have c0 := cell_box hB.out.b0
    by_cases hlt : k < n
    · have hkI : (k : Int) < n := by omega
      have hlk := lko105 m jb wr (hB.out.g.heap_of HMB.out) (k : Int)
      rw [PM.getD, HM.out.at] at hlk
      cases hJk : J k with
      | some j =>
        rw [hJk] at hlk
        have e1 : (fun l => decide (l < k) && (J l).isNone) = fun l => decide (l < k + 1) && (J l).isNone := funext fun l => by
          by_cases e : l = k
          · subst e; simp [hJk]
          · have : (l < k + 1) ↔ l < k := by omega
            simp [this]
        have e2 : filtL (fun l => (J l).isNone) (k + 1) = filtL (fun l => (J l).isNone) k := by rw [filtL_succ, if_neg (by rw [hJk]; simp)]
        have HF := Lib.hid (And.intro e1 e2)
        clear hJk e1 e2
        go_wp2
        case roundEnd => exact ⟨⟨k + 1, wv, by omega, by go_num, hsz, by rw [← HF.out.1]; exact hB, by rw [HF.out.2]; exact hQ⟩, by simp [intOf]; omega⟩
      | none =>
        rw [hJk] at hlk
        have e1 : mark (fun l => decide (l < k) && (J l).isNone) k = fun l => decide (l < k + 1) && (J l).isNone := funext fun l => by
          unfold mark
          by_cases e : l = k
          · subst e; simp [hJk]
          · have : (l < k + 1) ↔ l < k := by omega
            rw [if_neg e]; simp [this]
        have e2 : filtL (fun l => (J l).isNone) (k + 1) = filtL (fun l => (J l).isNone) k ++ [k] := by rw [filtL_succ, if_pos (by rw [hJk]; rfl)]
        obtain ⟨N, hN⟩ : ∃ N, 2 ^ k = N := ⟨_, rfl⟩
        have hN16 := pow_le16 (show k ≤ 16 by omega)
        rw [hN] at hN16
        have hO := bitsN_lt (p := fun l => decide (l < k) && (J l).isNone) hn
        have hO2 := bitsN_mark (fun l => decide (l < k) && (J l).isNone) hlt
        rw [e1, hN] at hO2
        have hor := or_nat (bitsN (fun l => decide (l < k) && (J l).isNone) n) N (by omega) (by omega)
        rw [← hO2] at hor
        have c1 := cell_box hB.out.b1
        obtain ⟨O, hOe⟩ : ∃ O, bitsN (fun l => decide (l < k) && (J l).isNone) n = O := ⟨_, rfl⟩
        obtain ⟨O2, hO2e⟩ : ∃ O, bitsN (fun l => decide (l < k + 1) && (J l).isNone) n = O := ⟨_, rfl⟩
        rw [hOe, hO2e] at hor
        rw [hOe] at c1
        have HO2 := Lib.hid hO2e
        have HN := Lib.hid hN
        have HF := Lib.hid e2
        clear hJk e1 e2 hN hN16 hO hO2 hOe hO2e
        go_upto_region 9 with fail
        (refine wp_region_chain 5 [2, 3, 4] (by kernel_rfl) (by kernel_rfl) (by decide) ?_; simp only [without, only, withNo, List.take_succ_cons, List.take_zero, List.drop_succ_cons, List.drop_zero, List.take_nil, List.drop_nil, Nat.reduceAdd, Nat.reduceSub, List.filter, List.contains_cons, List.contains_nil, Nat.reduceBEq, Bool.or_false, Bool.false_or, Bool.true_or, Bool.or_true, Bool.or_self, Bool.not_true, Bool.not_false, List.map_cons, List.map_nil]; (repeat (refine wpCalm_step (fun K hK => ?_); go_simp; first | (refine hK _ ?_; clear hK K) | (apply Exists.intro; refine ⟨fun n' x' => ?_, hK _ ?_⟩; (fail); clear hK K))); refine wpCalm_nil ?_)
        (refine wpChain_step (fun K hK nc xc => ?_); go_simp)
        refine ⟨by (repeat (first | exact World.grows.refl _ | assumption | refine World.grows.alloc ?_ _ | refine World.grows.plus ?_ _ _ | refine World.grows.drew ?_)), hK _ _ ?_⟩
        clear hK K
        (refine wpChain_step (fun K hK nc xc => ?_); go_simp)
        refine (bit_c _ _ k (by omega) (SliceAt.mono (one_slice _ _ _ _ (by simp)) (World.grows_plus _ _ _)) HN.out).mono ?_
        rintro e W3 ⟨rfl, g⟩
        refine ⟨_, rfl, g, hK _ _ ?_⟩
        clear hK K
        have g3 : wr.grows W3 := World.grows.trans (by (repeat (first | exact World.grows.refl _ | assumption | refine World.grows.alloc ?_ _ | refine World.grows.plus ?_ _ _ | refine World.grows.drew ?_))) g
        clear g
        (refine wpChain_step (fun K hK nc xc => ?_); go_simp)
        refine ⟨World.grows.refl _, hK _ _ ?_⟩
        clear hK K
        (refine wpChain_nil (fun nc xc => ?_))
        rename_i n1 x1
        have gW : wr.grows ((W3.plus n1 x1).plus nc xc) := g3.trans (by (repeat (first | exact World.grows.refl _ | assumption | refine World.grows.alloc ?_ _ | refine World.grows.plus ?_ _ _ | refine World.grows.drew ?_)))
        generalize (W3.plus n1 x1).plus nc xc = W4 at gW ⊢
        have B4 := hB.out.mono gW
        have Q4 := hQ.out.mono gW
        have hs4 : q + 4 ≤ W4.heap.size := Nat.le_trans hsz gW.size
        have B5 := B4.setF (fun l => decide (l < k + 1) && (J l).isNone)
        have Q5 := Q4.set (b := q + 1) (by omega) 0 (.int .i64 ((bitsN (fun l => decide (l < k + 1) && (J l).isNone) n : Nat) : Int))
        rw [HO2.out] at B5 Q5
        have d1 := cell_box B4.b1
        have f1 := frozen_of_heap B4.b1 0
        obtain ⟨W5, hW5⟩ : ∃ W5, W5 = W4.setCell ⟨q + 1, 0, none⟩ (.int .i64 (O2 : Int)) := ⟨_, rfl⟩
        have hs5 : q + 4 ≤ W5.heap.size := by rw [hW5]; simpa using hs4
        rw [← hW5] at B5 Q5
        clear c0 c1 g3 gW B4 Q4 hB hQ hlk hor
        go_upto_region 10 with fail
        rw [← hW5]
        clear hW5 d1 f1 hs4
        have d3 := cell_box B5.b3
        have hlen := filtL_len (fun l => (J l).isNone) k
        obtain ⟨L, hL⟩ : ∃ L, filtL (fun l => (J l).isNone) k = L := ⟨_, rfl⟩
        rw [hL] at HF hlen Q5
        obtain ⟨Aw, capw, rfl, -, -⟩ := Q5.form
        rw [ilist_len] at B5 Q5 d3
        have HB5 := Lib.hid B5
        have HQ5 := Lib.hid Q5
        clear hL B5 Q5
        iterate 10 go_step
        refine wpList_append_q _ rfl (.tmp 43) (.tmp 45) 35 (by rfl) (q + 4) 3 (.int .i64 0) 8 Try.underlying35 el3 (by rfl) (.slice Aw L.length capw) (ilist L) (by rfl) (HQ5.out.mono (by (repeat (first | exact World.grows.refl _ | assumption | refine World.grows.alloc ?_ _ | refine World.grows.plus ?_ _ _ | refine World.grows.drew ?_)))) ⟨W5.heap.size, 0, none⟩ 1 (.int .i64 (k : Nat)) (by rfl) (by simp [go_sem]) rfl (by rfl) (by rw [ilist_len]; unfold maxLen; omega) (by rw [ilist_len]; omega) (by simp; omega) ?_
        intro v' W6 hq6 hg6 hv6 hkp6
        clear hkp6
        have B6 := (HB5.out.mono (show W5.grows _ by (repeat (first | exact World.grows.refl _ | assumption | refine World.grows.alloc ?_ _ | refine World.grows.plus ?_ _ _ | refine World.grows.drew ?_)))).app hg6 (fun b hb => (HQ5.out.blk hb).1)
        have e3 := cell_box B6.b3
        have f3 := frozen_of_heap B6.b3 0
        obtain ⟨A6, cap6, rfl, -, -⟩ := hq6.form
        rw [show (ilist L ++ [Value.int .i64 (k : Nat)]).length = L.length + 1 by rw [List.length_append, ilist_len]; rfl] at hq6 ⊢
        have B7 := Lib.hid (B6.setQ (.slice A6 (L.length + 1) cap6))
        have Q7 : Hid (QAt (W6.setCell ⟨q + 1 + 1 + 1, 0, none⟩ (.slice A6 (L.length + 1) cap6)) (q + 4) 3 (.slice A6 (L.length + 1) cap6) (ilist (filtL (fun l => (J l).isNone) (k + 1)))) := Lib.hid (by rw [HF.out, ilist_snoc]; exact hq6.set (b := q + 1 + 1 + 1) (by omega) 0 _)
        have hs6 : q + 4 ≤ W6.heap.size := Nat.le_trans hs5 (Nat.le_trans (by simp) hg6.size)
        clear B6 hq6 hg6 hv6 d3 HB5 HQ5
        go_wp2
        case roundEnd => exact ⟨⟨k + 1, _, by omega, by go_num, by simpa using hs6, B7, Q7⟩, by simp [intOf]; omega⟩
    · have hke : k = n := by omega
      subst hke
      have HBf := Lib.hid (Bfs.start (A := A) (n := k) (J := J))
      clear hk hlt c0
      go_wp2
      refine wp_loop_d [false, false, false, false, false, false, false, false, false, false, true, true, true, true, false, false, false, false, false, false, false, false, false, false, false, false, false, false, false, false, false, false, false, false, false, false, false, false, false, false, false, false, false, false, false, false, false, false, true, true, true, true, true, true, true, true, true, true, true, true, true, true, true, true, true, true, true, true, true, true, true, true, true, true, true, true, true, true, true, true, true, true, true, true, true, true, true, true, true, true, true, true, true, true, true, false, false, false, false, false, false, false, false, false, false, false, false, false, false, false, false, false, false, false, false, false, false, false, false, false, false, false, false, false, false, false, false, false, false, false, false, false] (fun u ds W => ∃ (Fs Ts : Nat → Bool) (wt : List Nat) (wv : Value) (v : Nat), Hid (Bfs A k J Fs Ts wt v []) ∧ bfsM k Fs wt ≤ 48 ∧ Hid (ApB W1 W q jb k Fs Ts wv) ∧ Hid (QAt W (q + 4) 3 wv (ilist wt)) ∧ q + 4 ≤ W.heap.size ∧ Hid (Marks w.heap.size ds W)) (fun u W => apM q k W) (by rfl) ⟨_, _, _, _, _, HBf, bfsM_le hn (filtL_len _ k), hB, hQ, hsz, Lib.hid trivial⟩ ?_
      clear HBf hB hQ hsz
      rintro u ds W ⟨Fs, Ts, wt, wv, v, hBf, hM48, hB, hQ, hsz, hds⟩
      simp only [fillL, Nat.reduceAdd, Nat.zero_add]
      rw [apM_eq hB.out hQ.out]
      obtain ⟨Aw, capw, rfl, hcap, -⟩ := hQ.out.form
      rw [ilist_len] at hB hQ hcap
      have b3 := cell_box hB.out.b3
      have cy2 := hB.out.g.cell_of HC2.out
      cases wt with
      | nil =>
        have b3' : W.cell? ⟨q + 1 + 1 + 1, 0, none⟩ = some (.slice Aw 0 capw) := b3
        clear b3
        have HBf := Lib.hid hBf.out
        have HBB := Lib.hid hB.out
        have HMk := Lib.hid hds.out
        clear hBf hB hQ hcap hds
        go_wp2
        clear b3' cy2
        obtain ⟨hX1, hX2⟩ := HBf.out.end_ HU.out
        have HX := Lib.hid (And.intro hX1 hX2)
        clear hX1 hX2
        obtain ⟨W4, hW4⟩ : ∃ W4, W4 = W.alloc (.cells #[.int .i64 (-1)] 109) := ⟨_, rfl⟩
        have HN4 : Hid (W4.heap[W.heap.size]? = some (.cells #[.int .i64 (-1)] 109)) := Lib.hid (by rw [hW4]; exact World.heap_at _ _ _ rfl)
        have HB4 := Lib.hid (HBB.out.mono (show W.grows W4 by rw [hW4]; (repeat (first | exact World.grows.refl _ | assumption | refine World.grows.alloc ?_ _ | refine World.grows.plus ?_ _ _ | refine World.grows.drew ?_))))
        have HM4 := Lib.hid (HMk.out.mono (show W.grows W4 by rw [hW4]; (repeat (first | exact World.grows.refl _ | assumption | refine World.grows.alloc ?_ _ | refine World.grows.plus ?_ _ _ | refine World.grows.drew ?_))))
        have HG4 := Lib.hid (HG1.out.trans HB4.out.g)
        obtain ⟨bn, hbn⟩ : ∃ bn, W.heap.size = bn := ⟨_, rfl⟩
        rw [← hW4]
        rw [hbn] at HN4
        simp only [hbn]
        clear hW4 HBB HMk hbn hsz
        go_loopw [15, 102] (fun l i wr => ∃ c : Nat, c ≤ k ∧ i = .int .i64 c ∧ Hid (wr.ownsRow W4.heap.size 3 1 l (filtL (fun l => Fs l && !Ts l) c).length (ilist (filtL (fun l => Fs l && !Ts l) c))) ∧ Hid (W4.grows wr)) (fun _ i _ => k - (intOf i).toNat)
        case atStart => exact ⟨0, by omega, rfl, Lib.hid (World.ownsRow_nil _ _ _ _), Lib.hid (World.grows.refl _)⟩
        case round =>
          obtain ⟨c, hc, rfl, ho, hg⟩ := hrel
          obtain ⟨la, lc, rfl, -, -⟩ := row_form ho.out
          by_cases hlt : c < k
          · have hcI : (c : Int) < k := by omega
            have hc16 : c < 16 := by omega
            go_upto_region 29 with fail
            obtain ⟨V, hV⟩ : ∃ V, V = wr.alloc (.cells #[.int .i64 (c : Nat)] 109) := ⟨_, rfl⟩
            obtain ⟨bv, hbv⟩ : ∃ bv, wr.heap.size = bv := ⟨_, rfl⟩
            have gV : wr.grows V := by rw [hV]; (repeat (first | exact World.grows.refl _ | assumption | refine World.grows.alloc ?_ _ | refine World.grows.plus ?_ _ _ | refine World.grows.drew ?_))
            have cv : V.cell? ⟨bv, 0, none⟩ = some (.int .i64 (c : Nat)) := by rw [hV]; exact cell_box (World.heap_at _ _ _ hbv.symm)
            have BV := HB4.out.mono (hg.out.trans gV)
            have cF := cell_box BV.b1
            have cT := cell_box BV.b2
            have cn := cell_box ((hg.out.trans gV).heap_of HN4.out)
            have hg2 := Lib.hid (hg.out.trans gV)
            have ho2 := Lib.hid (ho.out.grow gV)
            rw [← hV]
            simp only [hbv]
            have heqv : ∀ W : World, (Op.equalIn 10000 109 (.agg #[.int .i64 (c : Nat)]) (.agg #[.int .i64 (-1)])).run Try.prog W = .ok false W := fun W => by
              have := eq109 9997 W (c : Int) (-1)
              rw [decide_eq_false (by omega)] at this
              exact this
            obtain ⟨N, hN⟩ : ∃ N, 2 ^ c = N := ⟨_, rfl⟩
            have HN := Lib.hid hN
            have hF16 := bitsN_lt (p := Fs) hn
            have hT16 := bitsN_lt (p := Ts) hn
            have hFb : (bitsN Fs k).testBit c = Fs c := by rw [bitsN_bit, decide_eq_true hlt]; rfl
            have hTb : (bitsN Ts k).testBit c = Ts c := by rw [bitsN_bit, decide_eq_true hlt]; rfl
            obtain ⟨FB, hFB⟩ : ∃ FB, bitsN Fs k = FB := ⟨_, rfl⟩
            obtain ⟨TB, hTB⟩ : ∃ TB, bitsN Ts k = TB := ⟨_, rfl⟩
            rw [hFB] at hF16 hFb cF
            rw [hTB] at hT16 hTb cT
            clear hV hbv hFB hTB BV ho hg gV
            go_cut [125] from 107 to 125 (fun p w' => p = .bool (Fs c && !Ts c) ∧ Hid (V.grows w'))
            case first =>
              cases hFc : Fs c with
              | false =>
                have HFc := Lib.hid hFc
                have hand := bits_off hF16 (show c ≤ 16 by omega) hN (by rw [hFb, hFc])
                clear hN hF16 hT16 hFb hTb hFc
                (refine wp_region_chain3 12 [6, 7, 8, 9, 10, 11] [14, 15, 16, 17, 18] (by kernel_rfl) (by kernel_rfl) ?_; simp only [without, only, withNo, List.take_succ_cons, List.take_zero, List.drop_succ_cons, List.drop_zero, List.take_nil, List.drop_nil, Nat.reduceAdd, Nat.reduceSub, List.filter, List.contains_cons, List.contains_nil, Nat.reduceBEq, Bool.or_false, Bool.false_or, Bool.true_or, Bool.or_true, Bool.or_self, Bool.not_true, Bool.not_false, List.map_cons, List.map_nil]; (repeat (refine wpCalm_step (fun K hK => ?_); go_simp; first | (refine hK _ ?_; clear hK K) | (apply Exists.intro; refine ⟨fun n' x' => ?_, hK _ ?_⟩; (fail); clear hK K))); refine wpCalm_nil ?_)
                ((refine wpChain_step (fun K hK nc xc => ?_); go_simp); refine ⟨by (repeat (first | exact World.grows.refl _ | assumption | refine World.grows.alloc ?_ _ | refine World.grows.plus ?_ _ _ | refine World.grows.drew ?_)), hK _ _ ?_⟩; clear hK K; (refine wpChain_step (fun K hK nc xc => ?_); go_simp); refine (bit_c _ _ c (by omega) (SliceAt.mono (one_slice _ _ _ _ (by simp)) (World.grows_plus _ _ _)) HN.out).mono ?_; rintro e W9 ⟨rfl, g⟩; refine ⟨_, rfl, g, hK _ _ ?_⟩; clear hK K; have g3 : (V).grows W9 := World.grows.trans (by (repeat (first | exact World.grows.refl _ | assumption | refine World.grows.alloc ?_ _ | refine World.grows.plus ?_ _ _ | refine World.grows.drew ?_))) g; clear g)
                ((refine wpChain_step (fun K hK nc xc => ?_); go_simp); refine ⟨World.grows.refl _, hK _ _ ?_⟩; clear hK K)
                ((refine wpChain_step (fun K hK nc xc => ?_); go_simp); refine ⟨World.grows.refl _, hK _ _ ?_⟩; clear hK K)
                ((refine wpChain_step (fun K hK nc xc => ?_); go_simp); refine ⟨World.grows.refl _, hK _ _ ?_⟩; clear hK K)
                ((refine wpChain_step (fun K hK nc xc => ?_); go_simp); refine ⟨World.grows.refl _, hK _ _ ?_⟩; clear hK K)
                (refine wpChain_nil (fun nc xc => ?_))
                ((try simp only [without2, only2, withNo, List.take_succ_cons, List.take_zero, List.drop_succ_cons, List.drop_zero, List.take_nil, List.drop_nil, Nat.reduceAdd, Nat.reduceSub, List.filter, List.contains_cons, List.contains_nil, Nat.reduceBEq, Bool.or_false, Bool.false_or, Bool.true_or, Bool.or_true, Bool.or_self, Bool.not_true, Bool.not_false, List.map_cons, List.map_nil]); (repeat (refine wpCalm_step (fun K hK => ?_); go_simp; first | (refine hK _ ?_; clear hK K) | (apply Exists.intro; refine ⟨fun n' x' => ?_, hK _ ?_⟩; (fail); clear hK K))); refine wpCalm_nil ?_)
                (refine wpChain_step (fun K hK nc xc => ?_); go_simp; refine hK _ _ ?_; clear hK K)
                (refine wpChain_step (fun K hK nc xc => ?_); go_simp; refine hK _ _ ?_; clear hK K)
                (refine wpChain_step (fun K hK nc xc => ?_); go_simp; refine hK _ _ ?_; clear hK K)
                (refine wpChain_step (fun K hK nc xc => ?_); go_simp; refine hK _ _ ?_; clear hK K)
                ((refine wpChain_step (fun K hK nc xc => ?_); go_simp); refine ⟨World.grows.refl _, hK _ _ ?_⟩; clear hK K)
                (refine wpChain_nil (fun nc xc => ?_))
                go_wp2
                go_meet
                exact ⟨by rw [HFc.out]; rfl, Lib.hid (g3.trans (by (repeat (first | exact World.grows.refl _ | assumption | refine World.grows.alloc ?_ _ | refine World.grows.plus ?_ _ _ | refine World.grows.drew ?_))))⟩
              | true =>
                have HFc := Lib.hid hFc
                obtain ⟨hand1, hN0⟩ := bits_on hF16 (show c ≤ 16 by omega) hN (by rw [hFb, hFc])
                cases hTc : Ts c with
                | true =>
                  have HTc := Lib.hid hTc
                  obtain ⟨hand2, -⟩ := bits_on hT16 (show c ≤ 16 by omega) hN (by rw [hTb, hTc])
                  clear hN hF16 hT16 hFb hTb hFc hTc
                  (refine wp_region_chain3 12 [6, 7, 8, 9, 10, 11] [14, 15, 16, 17, 18] (by kernel_rfl) (by kernel_rfl) ?_; simp only [without, only, withNo, List.take_succ_cons, List.take_zero, List.drop_succ_cons, List.drop_zero, List.take_nil, List.drop_nil, Nat.reduceAdd, Nat.reduceSub, List.filter, List.contains_cons, List.contains_nil, Nat.reduceBEq, Bool.or_false, Bool.false_or, Bool.true_or, Bool.or_true, Bool.or_self, Bool.not_true, Bool.not_false, List.map_cons, List.map_nil]; (repeat (refine wpCalm_step (fun K hK => ?_); go_simp; first | (refine hK _ ?_; clear hK K) | (apply Exists.intro; refine ⟨fun n' x' => ?_, hK _ ?_⟩; (fail); clear hK K))); refine wpCalm_nil ?_)
                  ((refine wpChain_step (fun K hK nc xc => ?_); go_simp); refine ⟨by (repeat (first | exact World.grows.refl _ | assumption | refine World.grows.alloc ?_ _ | refine World.grows.plus ?_ _ _ | refine World.grows.drew ?_)), hK _ _ ?_⟩; clear hK K; (refine wpChain_step (fun K hK nc xc => ?_); go_simp); refine (bit_c _ _ c (by omega) (SliceAt.mono (one_slice _ _ _ _ (by simp)) (World.grows_plus _ _ _)) HN.out).mono ?_; rintro e W9 ⟨rfl, g⟩; refine ⟨_, rfl, g, hK _ _ ?_⟩; clear hK K; have g3 : (V).grows W9 := World.grows.trans (by (repeat (first | exact World.grows.refl _ | assumption | refine World.grows.alloc ?_ _ | refine World.grows.plus ?_ _ _ | refine World.grows.drew ?_))) g; clear g)
                  ((refine wpChain_step (fun K hK nc xc => ?_); go_simp); refine ⟨World.grows.refl _, hK _ _ ?_⟩; clear hK K)
                  ((refine wpChain_step (fun K hK nc xc => ?_); go_simp); refine ⟨World.grows.refl _, hK _ _ ?_⟩; clear hK K)
                  ((refine wpChain_step (fun K hK nc xc => ?_); go_simp); refine ⟨World.grows.refl _, hK _ _ ?_⟩; clear hK K)
                  ((refine wpChain_step (fun K hK nc xc => ?_); go_simp); refine ⟨World.grows.refl _, hK _ _ ?_⟩; clear hK K)
                  (refine wpChain_nil (fun nc xc => ?_))
                  rename_i n1 x1 n2 x2 n3 x3 n4 x4
                  have cT3 := World.grows.cell_of (g3.trans (show W9.grows (((((W9.plus n1 x1).plus n2 x2).plus n3 x3).plus n4 x4).plus nc xc) by (repeat (first | exact World.grows.refl _ | assumption | refine World.grows.alloc ?_ _ | refine World.grows.plus ?_ _ _ | refine World.grows.drew ?_)))) cT
                  have g3' := g3.trans (show W9.grows (((((W9.plus n1 x1).plus n2 x2).plus n3 x3).plus n4 x4).plus nc xc) by (repeat (first | exact World.grows.refl _ | assumption | refine World.grows.alloc ?_ _ | refine World.grows.plus ?_ _ _ | refine World.grows.drew ?_)))
                  generalize (((((W9.plus n1 x1).plus n2 x2).plus n3 x3).plus n4 x4).plus nc xc) = V3 at cT3 g3' ⊢
                  ((try simp only [without2, only2, withNo, List.take_succ_cons, List.take_zero, List.drop_succ_cons, List.drop_zero, List.take_nil, List.drop_nil, Nat.reduceAdd, Nat.reduceSub, List.filter, List.contains_cons, List.contains_nil, Nat.reduceBEq, Bool.or_false, Bool.false_or, Bool.true_or, Bool.or_true, Bool.or_self, Bool.not_true, Bool.not_false, List.map_cons, List.map_nil]); (repeat (refine wpCalm_step (fun K hK => ?_); go_simp; first | (refine hK _ ?_; clear hK K) | (apply Exists.intro; refine ⟨fun n' x' => ?_, hK _ ?_⟩; (fail); clear hK K))); refine wpCalm_nil ?_)
                  ((refine wpChain_step (fun K hK nc xc => ?_); go_simp); refine ⟨by (repeat (first | exact World.grows.refl _ | assumption | refine World.grows.alloc ?_ _ | refine World.grows.plus ?_ _ _ | refine World.grows.drew ?_)), hK _ _ ?_⟩; clear hK K; (refine wpChain_step (fun K hK nc xc => ?_); go_simp); refine (bit_c _ _ c (by omega) (SliceAt.mono (one_slice _ _ _ _ (by simp)) (World.grows_plus _ _ _)) HN.out).mono ?_; rintro e W9 ⟨rfl, g⟩; refine ⟨_, rfl, g, hK _ _ ?_⟩; clear hK K; have g4 : (V3).grows W9 := World.grows.trans (by (repeat (first | exact World.grows.refl _ | assumption | refine World.grows.alloc ?_ _ | refine World.grows.plus ?_ _ _ | refine World.grows.drew ?_))) g; clear g)
                  ((refine wpChain_step (fun K hK nc xc => ?_); go_simp); refine ⟨World.grows.refl _, hK _ _ ?_⟩; clear hK K)
                  ((refine wpChain_step (fun K hK nc xc => ?_); go_simp); refine ⟨World.grows.refl _, hK _ _ ?_⟩; clear hK K)
                  ((refine wpChain_step (fun K hK nc xc => ?_); go_simp); refine ⟨World.grows.refl _, hK _ _ ?_⟩; clear hK K)
                  (refine wpChain_nil (fun nc xc => ?_))
                  go_wp2
                  go_meet
                  exact ⟨by rw [HFc.out, HTc.out]; simp <;> omega, Lib.hid (g3'.trans (g4.trans (by (repeat (first | exact World.grows.refl _ | assumption | refine World.grows.alloc ?_ _ | refine World.grows.plus ?_ _ _ | refine World.grows.drew ?_)))))⟩
                | false =>
                  have HTc := Lib.hid hTc
                  have hand2 := bits_off hT16 (show c ≤ 16 by omega) hN (by rw [hTb, hTc])
                  clear hN hF16 hT16 hFb hTb hFc hTc
                  (refine wp_region_chain3 12 [6, 7, 8, 9, 10, 11] [14, 15, 16, 17, 18] (by kernel_rfl) (by kernel_rfl) ?_; simp only [without, only, withNo, List.take_succ_cons, List.take_zero, List.drop_succ_cons, List.drop_zero, List.take_nil, List.drop_nil, Nat.reduceAdd, Nat.reduceSub, List.filter, List.contains_cons, List.contains_nil, Nat.reduceBEq, Bool.or_false, Bool.false_or, Bool.true_or, Bool.or_true, Bool.or_self, Bool.not_true, Bool.not_false, List.map_cons, List.map_nil]; (repeat (refine wpCalm_step (fun K hK => ?_); go_simp; first | (refine hK _ ?_; clear hK K) | (apply Exists.intro; refine ⟨fun n' x' => ?_, hK _ ?_⟩; (fail); clear hK K))); refine wpCalm_nil ?_)
                  ((refine wpChain_step (fun K hK nc xc => ?_); go_simp); refine ⟨by (repeat (first | exact World.grows.refl _ | assumption | refine World.grows.alloc ?_ _ | refine World.grows.plus ?_ _ _ | refine World.grows.drew ?_)), hK _ _ ?_⟩; clear hK K; (refine wpChain_step (fun K hK nc xc => ?_); go_simp); refine (bit_c _ _ c (by omega) (SliceAt.mono (one_slice _ _ _ _ (by simp)) (World.grows_plus _ _ _)) HN.out).mono ?_; rintro e W9 ⟨rfl, g⟩; refine ⟨_, rfl, g, hK _ _ ?_⟩; clear hK K; have g3 : (V).grows W9 := World.grows.trans (by (repeat (first | exact World.grows.refl _ | assumption | refine World.grows.alloc ?_ _ | refine World.grows.plus ?_ _ _ | refine World.grows.drew ?_))) g; clear g)
                  ((refine wpChain_step (fun K hK nc xc => ?_); go_simp); refine ⟨World.grows.refl _, hK _ _ ?_⟩; clear hK K)
                  ((refine wpChain_step (fun K hK nc xc => ?_); go_simp); refine ⟨World.grows.refl _, hK _ _ ?_⟩; clear hK K)
                  ((refine wpChain_step (fun K hK nc xc => ?_); go_simp); refine ⟨World.grows.refl _, hK _ _ ?_⟩; clear hK K)
                  ((refine wpChain_step (fun K hK nc xc => ?_); go_simp); refine ⟨World.grows.refl _, hK _ _ ?_⟩; clear hK K)
                  (refine wpChain_nil (fun nc xc => ?_))
                  rename_i n1 x1 n2 x2 n3 x3 n4 x4
                  have cT3 := World.grows.cell_of (g3.trans (show W9.grows (((((W9.plus n1 x1).plus n2 x2).plus n3 x3).plus n4 x4).plus nc xc) by (repeat (first | exact World.grows.refl _ | assumption | refine World.grows.alloc ?_ _ | refine World.grows.plus ?_ _ _ | refine World.grows.drew ?_)))) cT
                  have g3' := g3.trans (show W9.grows (((((W9.plus n1 x1).plus n2 x2).plus n3 x3).plus n4 x4).plus nc xc) by (repeat (first | exact World.grows.refl _ | assumption | refine World.grows.alloc ?_ _ | refine World.grows.plus ?_ _ _ | refine World.grows.drew ?_)))
                  generalize (((((W9.plus n1 x1).plus n2 x2).plus n3 x3).plus n4 x4).plus nc xc) = V3 at cT3 g3' ⊢
                  ((try simp only [without2, only2, withNo, List.take_succ_cons, List.take_zero, List.drop_succ_cons, List.drop_zero, List.take_nil, List.drop_nil, Nat.reduceAdd, Nat.reduceSub, List.filter, List.contains_cons, List.contains_nil, Nat.reduceBEq, Bool.or_false, Bool.false_or, Bool.true_or, Bool.or_true, Bool.or_self, Bool.not_true, Bool.not_false, List.map_cons, List.map_nil]); (repeat (refine wpCalm_step (fun K hK => ?_); go_simp; first | (refine hK _ ?_; clear hK K) | (apply Exists.intro; refine ⟨fun n' x' => ?_, hK _ ?_⟩; (fail); clear hK K))); refine wpCalm_nil ?_)
                  ((refine wpChain_step (fun K hK nc xc => ?_); go_simp); refine ⟨by (repeat (first | exact World.grows.refl _ | assumption | refine World.grows.alloc ?_ _ | refine World.grows.plus ?_ _ _ | refine World.grows.drew ?_)), hK _ _ ?_⟩; clear hK K; (refine wpChain_step (fun K hK nc xc => ?_); go_simp); refine (bit_c _ _ c (by omega) (SliceAt.mono (one_slice _ _ _ _ (by simp)) (World.grows_plus _ _ _)) HN.out).mono ?_; rintro e W9 ⟨rfl, g⟩; refine ⟨_, rfl, g, hK _ _ ?_⟩; clear hK K; have g4 : (V3).grows W9 := World.grows.trans (by (repeat (first | exact World.grows.refl _ | assumption | refine World.grows.alloc ?_ _ | refine World.grows.plus ?_ _ _ | refine World.grows.drew ?_))) g; clear g)
                  ((refine wpChain_step (fun K hK nc xc => ?_); go_simp); refine ⟨World.grows.refl _, hK _ _ ?_⟩; clear hK K)
                  ((refine wpChain_step (fun K hK nc xc => ?_); go_simp); refine ⟨World.grows.refl _, hK _ _ ?_⟩; clear hK K)
                  ((refine wpChain_step (fun K hK nc xc => ?_); go_simp); refine ⟨World.grows.refl _, hK _ _ ?_⟩; clear hK K)
                  (refine wpChain_nil (fun nc xc => ?_))
                  go_wp2
                  go_meet
                  exact ⟨by rw [HFc.out, HTc.out]; simp <;> omega, Lib.hid (g3'.trans (g4.trans (by (repeat (first | exact World.grows.refl _ | assumption | refine World.grows.alloc ?_ _ | refine World.grows.plus ?_ _ _ | refine World.grows.drew ?_)))))⟩
            case rest =>
              obtain ⟨rfl, gc⟩ := hcut
              replace hg2 := Lib.hid (hg2.out.trans gc.out)
              replace ho2 := Lib.hid (ho2.out.grow gc.out)
              clear gc cv cF cT cn heqv hN hF16 hT16 hFb hTb
              cases hXc : Fs c && !Ts c with
              | false =>
                have HF : Hid (filtL (fun l => Fs l && !Ts l) (c + 1) = filtL (fun l => Fs l && !Ts l) c) := Lib.hid (by rw [filtL_succ, hXc]; rfl)
                clear hXc
                go_wp2
                case roundEnd => exact ⟨⟨c + 1, by omega, by go_num, by rw [HF.out]; exact ho2, hg2⟩, by simp [intOf]; omega⟩
              | true =>
                have HF : Hid (filtL (fun l => Fs l && !Ts l) (c + 1) = filtL (fun l => Fs l && !Ts l) c ++ [c]) := Lib.hid (by rw [filtL_succ, hXc]; rfl)
                have hlen := filtL_len (fun l => Fs l && !Ts l) c
                obtain ⟨n9, hn9⟩ : ∃ n9, (filtL (fun l => Fs l && !Ts l) c).length = n9 := ⟨_, rfl⟩
                rw [hn9] at ho2 hlen ⊢
                have Hn9 := Lib.hid hn9
                have hsz := hg2.out.size
                clear hXc hn9
                go_upto_region 30 with fail
                iterate 10 go_step
                refine wpList_append_r _ rfl (.tmp 126) (.tmp 128) 35 (by rfl) W4.heap.size 3 (.int .i64 0) 1 8 Try.underlying35 el3 (by rfl) (by omega) (.slice la n9 lc) n9 _ (by rfl) (ho2.out.grow (by (repeat (first | exact World.grows.refl _ | assumption | refine World.grows.alloc ?_ _ | refine World.grows.plus ?_ _ _ | refine World.grows.drew ?_)))) (.slice (some ⟨wc.heap.size, 0, none⟩) 1 1) (by rfl) 1 _ (SliceAt.src (by omega) (one_slice _ _ _ _ (by simp))) (one_cell _) (by unfold maxLen; omega) (by omega) (by simp; omega) ?_
                intro v' w3 hown3 hgb
                obtain ⟨la3, lc3, rfl, -, -⟩ := row_form hown3
                have ho3 : Hid (w3.ownsRow W4.heap.size 3 1 (.slice la3 (n9 + 1) lc3) (filtL (fun l => Fs l && !Ts l) (c + 1)).length (ilist (filtL (fun l => Fs l && !Ts l) (c + 1)))) := Lib.hid (by rw [HF.out, ilist_snoc, List.length_append, Hn9.out]; exact hown3)
                have hg3 := Lib.hid (hgb.grows (ho2.out.grow (World.grows.alloc (World.grows.refl wc) _)) (World.grows.trans hg2.out (World.grows.alloc (World.grows.refl wc) _)) (Nat.le_refl _))
                clear hown3 hgb
                go_wp2
                case roundEnd =>
                  have hlen2 : (filtL (fun l => Fs l && !Ts l) (c + 1)).length = n9 + 1 := by rw [HF.out, List.length_append, Hn9.out]; rfl
                  exact ⟨⟨c + 1, by omega, by go_num, by rw [hlen2] at ho3 ⊢; exact ho3, hg3⟩, by simp [intOf]; omega⟩
          · have hke : c = k := by omega
            subst hke
            have hL := Lib.hid (ho.out.listAt rfl)
            have hMr := Lib.hid (HM4.out.mono hg.out)
            have hGr := Lib.hid (HG4.out.trans hg.out)
            clear ho
            go_wp2
            refine Marks.leaves (B := w.heap.size) (fun W' => w.grows W' ∧ ListAt W' (.slice la (filtL (fun l => Fs l && !Ts l) c).length lc) (filtL (fun l => Fs l && !Ts l) c)) (fun W' D h hD hd => ⟨World.putObj_grows h.1 _ hD, h.2.sub (World.putObj_cellsub fun a v ha => World.no_cell_of_deferred hd a v ha)⟩) (fun W' h => ⟨_, by simp [results, Try.results78, go_sem] <;> rfl, (fun l => Fs l && !Ts l), _, rfl, h.1, h.2, HX.out.1, HX.out.2⟩) ds _ hMr.out ⟨hGr.out, hL.out⟩
      | cons k0 wt =>
        have hget := hQ.out.get (i := 0) (x := .int .i64 (k0 : Nat)) (by rfl)
        obtain ⟨b, o, rfl, cb⟩ := hget
        rw [Nat.add_zero] at cb
        have f3 := frozen_of_heap hB.out.b3 0
        have hlI : (0 : Int) < ((wt.length + 1 : Nat) : Int) := by omega
        obtain ⟨M, hM⟩ : ∃ M, wt.length = M := ⟨_, rfl⟩
        rw [List.length_cons, hM] at hB hQ hcap b3
        rw [hM] at hlI
        have hMI : (1 : Int) ≤ ((M + 1 : Nat) : Int) := by omega
        have hMc : ((M + 1 : Nat) : Int) ≤ capw := by omega
        go_upto_region 15 with fail
        obtain ⟨A2, hA2⟩ : ∃ A2, (if capw = 1 then some ({ block := b, off := o } : Addr) else some { block := b, off := o + 1 }) = A2 := ⟨_, rfl⟩
        rw [hA2]
        have hQ2 : QAt W (q + 4) 3 (.slice A2 (ilist wt).length (capw - 1)) (ilist wt) := hQ.out.tail (A := A2) (by
          rw [← hA2]
          by_cases e : capw = 1
          · right; exact ⟨e, by rw [if_pos e]⟩
          · left; rw [if_neg e])
        rw [ilist_len, hM] at hQ2
        have B2 := hB.out.setQ (.slice A2 M (capw - 1))
        have Q2 := hQ2.set (b := q + 1 + 1 + 1) (by omega) 0 (.slice A2 M (capw - 1))
        have M2 := hds.out.setCell (a := ⟨q + 1 + 1 + 1, 0, none⟩) (v := .slice A2 M (capw - 1))
        obtain ⟨hP, hFk⟩ := hBf.out.pop
        have hMb : bfsM k Fs wt < bfsM k Fs (k0 :: wt) := by unfold bfsM; rw [List.length_cons]; omega
        have hk0 : k0 < k := hBf.out.fn _ hFk
        obtain ⟨W2, hW2⟩ : ∃ W2, W2 = W.setCell ⟨q + 1 + 1 + 1, 0, none⟩ (.slice A2 M (capw - 1)) := ⟨_, rfl⟩
        have hs2 : q + 4 ≤ W2.heap.size := by rw [hW2]; simpa using hsz
        rw [← hW2] at B2 Q2 M2 ⊢
        clear hW2 hA2 hQ2 hlI hMI hMc hcap b3 f3 cb cy2 hBf hB hQ hds hsz
        have hwv : vblk (.slice A2 M (capw - 1)) ≠ some (W2.heap.size + 1) := by
          intro e
          have := (Q2.blk e).2
          omega
        go_wp2_with (go_at_call 99; fail)
        refine (nexts_c _ yb k0).mono ?_
        rintro e W3 ⟨rfl, hW3⟩
        go_wp2
        obtain ⟨p0, hp0⟩ : ∃ p0, W2.heap.size = p0 := ⟨_, rfl⟩
        have g23 : W2.grows W3 := by rw [hW3]; (repeat (first | exact World.grows.refl _ | assumption | refine World.grows.alloc ?_ _ | refine World.grows.plus ?_ _ _ | refine World.grows.drew ?_))
        have z3 : W3.heap.size = p0 + 2 := by rw [hW3]; simp [hp0]
        have S3 : ApS W1 q jb k yb k0 p0 w.heap.size ds W3 Fs Ts wt (.slice A2 M (capw - 1)) := ⟨B2.mono g23, Q2.mono g23, by rw [hW3]; exact World.grows.heap_of (by (repeat (first | exact World.grows.refl _ | assumption | refine World.grows.alloc ?_ _ | refine World.grows.plus ?_ _ _ | refine World.grows.drew ?_))) (World.heap_at _ _ _ hp0.symm), by rw [hW3]; exact World.heap_at _ _ _ (by simp [hp0]), by rw [← hp0]; exact hwv, M2.mono g23, by omega⟩
        rw [← hW3]
        simp only [hp0]
        have HS3 := Lib.hid S3
        have HP := Lib.hid hP
        have hwsz : w.heap.size ≤ p0 := by
          have h1 := HG1.out.size
          have h2 := B2.g.size
          omega
        clear hW3 g23 S3 B2 Q2 M2 hP hwv
        refine wp_rangeFunc_own (f := 110) (by rfl) (fun _ _ => rfl) (nexts_seq p0 (p0 + 1) yb k k0 F A HA.out hn hk0) (fun x hx => by obtain ⟨r, _, rfl⟩ := List.mem_map.1 hx; rfl)
          (fun j U => ∃ (Fs' Ts' : Nat → Bool) (wt' : List Nat) (wv' : Value), Hid (Bfs A k J Fs' Ts' wt' k0 ((filtL (A k0) k).drop j)) ∧ Fs' k0 = true ∧ bfsM k Fs' wt' ≤ bfsM k Fs wt ∧ Hid (ApS W1 q jb k yb k0 p0 w.heap.size ds U Fs' Ts' wt' wv'))
          (fun j U U' ⟨Fs', Ts', wt', wv', h1, h2, h3, h4⟩ g => ⟨Fs', Ts', wt', wv', h1, h2, h3, Lib.hid (h4.out.mono g)⟩)
          (fun j U lo lo' hL ⟨Fs', Ts', wt', wv', h1, h2, h3, h4⟩ => ⟨Fs', Ts', wt', wv', h1, h2, h3, Lib.hid (h4.out.putL hL (by have := h4.out.lt; omega))⟩)
          (fun j U ⟨Fs', Ts', wt', wv', h1, h2, h3, h4⟩ => ⟨cell_box h4.out.h0, cell_box h4.out.h1, HY1.out.mono h4.out.b.g⟩)
          (fun lo => ⟨Fs, Ts, wt, _, HP, hFk, Nat.le_refl _, Lib.hid (HS3.out.mono (by (repeat (first | exact World.grows.refl _ | assumption | refine World.grows.alloc ?_ _ | refine World.grows.plus ?_ _ _ | refine World.grows.drew ?_))))⟩) ?_ ?_
        · rintro j x U hx ⟨Fs', Ts', wt', wv', hBf, hF', hMM, hS⟩ hDf ⟨lo, hLo⟩ K0 hK0
          obtain ⟨c, rfl, hc⟩ : ∃ c, x = stepV c ∧ (filtL (A k0) k)[j]? = some c := by
            rw [List.getElem?_map] at hx
            cases hc : (filtL (A k0) k)[j]? with
            | none => rw [hc] at hx; cases hx
            | some c => rw [hc] at hx; exact ⟨c, (Option.some.inj hx).symm, rfl⟩
          have hcm := List.mem_of_getElem? hc
          simp only [filtL, List.mem_filter, List.mem_range] at hcm
          obtain ⟨hck, hcA⟩ := hcm
          have hdrop : (filtL (A k0) k).drop j = c :: (filtL (A k0) k).drop (j + 1) := by
            obtain ⟨hk, he⟩ := List.getElem?_eq_some_iff.1 hc
            rw [List.drop_eq_getElem_cons hk, he]
          rw [hdrop] at hBf
          obtain ⟨R, hR⟩ : ∃ R, (filtL (A k0) k).drop (j + 1) = R := ⟨_, rfl⟩
          rw [hR] at hBf
          have HR := Lib.hid hR
          have hLl := World.lt_of_block hLo
          clear hdrop hx hc hR
          dsimp only [stepV]
          rw [zip_one]
          simp only [List.setIfInBounds_toArray, List.set_cons_zero, List.set_cons_succ]
          gi_wp2
          refine hK0.out _ _ (by (repeat (first | exact World.grows.refl _ | assumption | refine World.grows.alloc ?_ _ | refine World.grows.plus ?_ _ _ | refine World.grows.drew ?_))) fun lo' K1 hK1 => ?_
          obtain ⟨U1, hU1⟩ : ∃ U1, U1 = U.putObj (W3.heap.size + 1) (.loop lo') := ⟨_, rfl⟩
          have S1 : ApS W1 q jb k yb k0 p0 w.heap.size ds U1 Fs' Ts' wt' wv' := by rw [hU1]; exact hS.out.putL hLo (by have := hS.out.lt; omega)
          have uD : U1.heap[W3.heap.size]? = some (.deferred (some [])) := by rw [hU1, World.putObj_heap_other (by omega)]; exact hDf
          have uL : U1.heap[W3.heap.size + 1]? = some (.loop lo') := by rw [hU1]; exact World.putObj_heap_same hLl
          rw [← hU1]
          clear hU1 hDf hLo hLl hS hK0
          have HUD : Hid (∀ V : World, U1.grows V → V.heap[W3.heap.size]? = some (.deferred (some [])) ∧ V.heap[W3.heap.size + 1]? = some (.loop lo')) := Lib.hid fun V g => ⟨g.heap_of uD, g.heap_of uL⟩
          obtain ⟨N, hN⟩ : ∃ N, 2 ^ c = N := ⟨_, rfl⟩
          have HN := Lib.hid hN
          have hT16 := bitsN_lt (p := Ts') hn
          have hTb : (bitsN Ts' k).testBit c = Ts' c := by rw [bitsN_bit, decide_eq_true hck]; rfl
          obtain ⟨TB, hTB⟩ : ∃ TB, bitsN Ts' k = TB := ⟨_, rfl⟩
          have c2 := cell_box S1.b.b2
          rw [hTB] at c2 hT16 hTb
          have HTB := Lib.hid hTB
          have hc16 : c < 16 := by omega
          cases hTc : Ts' c with
          | true =>
            obtain ⟨hand, hN0⟩ := bits_on hT16 (show c ≤ 16 by omega) hN (by rw [hTb, hTc])
            have HBn := Lib.hid (hBf.out.seen hTc)
            have HS1 := Lib.hid S1
            clear hN hT16 hTb hTB hTc uD uL S1
            gi_wp2
            (refine wpIn_region_chain (Fence.free_round _ _) 6 [2, 3, 4, 5] (by kernel_rfl) (by kernel_rfl) (by kernel_rfl) (by decide) ?_; simp only [without, only, withNo, List.take_succ_cons, List.take_zero, List.drop_succ_cons, List.drop_zero, List.take_nil, List.drop_nil, Nat.reduceAdd, Nat.reduceSub, List.filter, List.contains_cons, List.contains_nil, Nat.reduceBEq, Bool.or_false, Bool.false_or, Bool.true_or, Bool.or_true, Bool.or_self, Bool.not_true, Bool.not_false, List.map_cons, List.map_nil]; (repeat (refine wpCalm_step (fun K hK => ?_); go_simp; first | (refine hK _ ?_; clear hK K) | (apply Exists.intro; refine ⟨fun n' x' => ?_, hK _ ?_⟩; (fail); clear hK K))); refine wpCalm_nil ?_)
            ((refine wpChain_step (fun K hK nc xc => ?_); go_simp); refine ⟨by (repeat (first | exact World.grows.refl _ | assumption | refine World.grows.alloc ?_ _ | refine World.grows.plus ?_ _ _ | refine World.grows.drew ?_)), hK _ _ ?_⟩; clear hK K; (refine wpChain_step (fun K hK nc xc => ?_); go_simp); refine (bit_c _ _ c (by omega) (SliceAt.mono (one_slice _ _ _ _ (by simp)) (World.grows_plus _ _ _)) HN.out).mono ?_; rintro e W9 ⟨rfl, g⟩; refine ⟨_, rfl, g, hK _ _ ?_⟩; clear hK K; have g3 : (U1).grows W9 := World.grows.trans (by (repeat (first | exact World.grows.refl _ | assumption | refine World.grows.alloc ?_ _ | refine World.grows.plus ?_ _ _ | refine World.grows.drew ?_))) g; clear g)
            ((refine wpChain_step (fun K hK nc xc => ?_); go_simp); refine ⟨World.grows.refl _, hK _ _ ?_⟩; clear hK K)
            ((refine wpChain_step (fun K hK nc xc => ?_); go_simp); refine ⟨World.grows.refl _, hK _ _ ?_⟩; clear hK K)
            (refine wpChain_nil (fun nc xc => ?_))
            rename_i n1 x1 n2 x2
            have gV : U1.grows (((W9.plus n1 x1).plus n2 x2).plus nc xc) := World.grows.trans g3 (by (repeat (first | exact World.grows.refl _ | assumption | refine World.grows.alloc ?_ _ | refine World.grows.plus ?_ _ _ | refine World.grows.drew ?_)))
            generalize (((W9.plus n1 x1).plus n2 x2).plus nc xc) = V at gV ⊢
            clear hand c2
            gi_wp2
            exact hK1.out _ _ ⟨Fs', Ts', wt', wv', by rw [HR.out]; exact HBn, hF', hMM, Lib.hid (HS1.out.mono gV)⟩ (HUD.out V gV).1 (HUD.out V gV).2
          | false =>
            have hand := bits_off hT16 (show c ≤ 16 by omega) hN (by rw [hTb, hTc])
            have HS1 := Lib.hid S1
            have hMT := bitsN_mark Ts' hck
            rw [hTB, hN] at hMT
            have hN16 := pow_le16 (show c ≤ 16 by omega)
            rw [hN] at hN16
            have hor := or_nat TB N (by omega) (by omega)
            rw [← hMT] at hor
            obtain ⟨TB2, hTB2⟩ : ∃ TB2, bitsN (mark Ts' c) k = TB2 := ⟨_, rfl⟩
            rw [hTB2] at hor
            have HTB2 := Lib.hid hTB2
            clear hN hT16 hTb hTB hTc uD uL S1 hMT hN16 hTB2
            gi_wp2
            (refine wpIn_region_chain (Fence.free_round _ _) 6 [2, 3, 4, 5] (by kernel_rfl) (by kernel_rfl) (by kernel_rfl) (by decide) ?_; simp only [without, only, withNo, List.take_succ_cons, List.take_zero, List.drop_succ_cons, List.drop_zero, List.take_nil, List.drop_nil, Nat.reduceAdd, Nat.reduceSub, List.filter, List.contains_cons, List.contains_nil, Nat.reduceBEq, Bool.or_false, Bool.false_or, Bool.true_or, Bool.or_true, Bool.or_self, Bool.not_true, Bool.not_false, List.map_cons, List.map_nil]; (repeat (refine wpCalm_step (fun K hK => ?_); go_simp; first | (refine hK _ ?_; clear hK K) | (apply Exists.intro; refine ⟨fun n' x' => ?_, hK _ ?_⟩; (fail); clear hK K))); refine wpCalm_nil ?_)
            ((refine wpChain_step (fun K hK nc xc => ?_); go_simp); refine ⟨by (repeat (first | exact World.grows.refl _ | assumption | refine World.grows.alloc ?_ _ | refine World.grows.plus ?_ _ _ | refine World.grows.drew ?_)), hK _ _ ?_⟩; clear hK K; (refine wpChain_step (fun K hK nc xc => ?_); go_simp); refine (bit_c _ _ c (by omega) (SliceAt.mono (one_slice _ _ _ _ (by simp)) (World.grows_plus _ _ _)) HN.out).mono ?_; rintro e W9 ⟨rfl, g⟩; refine ⟨_, rfl, g, hK _ _ ?_⟩; clear hK K; have g3 : (U1).grows W9 := World.grows.trans (by (repeat (first | exact World.grows.refl _ | assumption | refine World.grows.alloc ?_ _ | refine World.grows.plus ?_ _ _ | refine World.grows.drew ?_))) g; clear g)
            ((refine wpChain_step (fun K hK nc xc => ?_); go_simp); refine ⟨World.grows.refl _, hK _ _ ?_⟩; clear hK K)
            ((refine wpChain_step (fun K hK nc xc => ?_); go_simp); refine ⟨World.grows.refl _, hK _ _ ?_⟩; clear hK K)
            (refine wpChain_nil (fun nc xc => ?_))
            rename_i n1 x1 n2 x2
            have gV : U1.grows (((W9.plus n1 x1).plus n2 x2).plus nc xc) := World.grows.trans g3 (by (repeat (first | exact World.grows.refl _ | assumption | refine World.grows.alloc ?_ _ | refine World.grows.plus ?_ _ _ | refine World.grows.drew ?_)))
            generalize (((W9.plus n1 x1).plus n2 x2).plus nc xc) = V at gV ⊢
            have c2V := gV.cell_of c2
            clear hand c2 g3
            gi_wp2
            (refine wpIn_region_chain (Fence.free_round _ _) 5 [2, 3, 4] (by kernel_rfl) (by kernel_rfl) (by kernel_rfl) (by decide) ?_; simp only [without, only, withNo, List.take_succ_cons, List.take_zero, List.drop_succ_cons, List.drop_zero, List.take_nil, List.drop_nil, Nat.reduceAdd, Nat.reduceSub, List.filter, List.contains_cons, List.contains_nil, Nat.reduceBEq, Bool.or_false, Bool.false_or, Bool.true_or, Bool.or_true, Bool.or_self, Bool.not_true, Bool.not_false, List.map_cons, List.map_nil]; (repeat (refine wpCalm_step (fun K hK => ?_); go_simp; first | (refine hK _ ?_; clear hK K) | (apply Exists.intro; refine ⟨fun n' x' => ?_, hK _ ?_⟩; (fail); clear hK K))); refine wpCalm_nil ?_)
            ((refine wpChain_step (fun K hK nc xc => ?_); go_simp); refine ⟨by (repeat (first | exact World.grows.refl _ | assumption | refine World.grows.alloc ?_ _ | refine World.grows.plus ?_ _ _ | refine World.grows.drew ?_)), hK _ _ ?_⟩; clear hK K; (refine wpChain_step (fun K hK nc xc => ?_); go_simp); refine (bit_c _ _ c (by omega) (SliceAt.mono (one_slice _ _ _ _ (by simp)) (World.grows_plus _ _ _)) HN.out).mono ?_; rintro e W9 ⟨rfl, g⟩; refine ⟨_, rfl, g, hK _ _ ?_⟩; clear hK K; have g3 : (V).grows W9 := World.grows.trans (by (repeat (first | exact World.grows.refl _ | assumption | refine World.grows.alloc ?_ _ | refine World.grows.plus ?_ _ _ | refine World.grows.drew ?_))) g; clear g)
            ((refine wpChain_step (fun K hK nc xc => ?_); go_simp); refine ⟨World.grows.refl _, hK _ _ ?_⟩; clear hK K)
            (refine wpChain_nil (fun nc xc => ?_))
            rename_i n1 x1
            have gV2 : U1.grows ((W9.plus n1 x1).plus nc xc) := gV.trans (World.grows.trans g3 (by (repeat (first | exact World.grows.refl _ | assumption | refine World.grows.alloc ?_ _ | refine World.grows.plus ?_ _ _ | refine World.grows.drew ?_))))
            generalize ((W9.plus n1 x1).plus nc xc) = V2 at gV2 ⊢
            have S2 := HS1.out.mono gV2
            have d2 := cell_box S2.b.b2
            have f2 := frozen_of_heap S2.b.b2 0
            have uD2 := (HUD.out V2 gV2).1
            have uL2 := (HUD.out V2 gV2).2
            have S3' := S2.setT (mark Ts' c)
            rw [HTB2.out] at S3'
            have hqL := S2.lt
            obtain ⟨V3, hV3⟩ : ∃ V3, V3 = V2.setCell ⟨q + 1 + 1, 0, none⟩ (.int .i64 (TB2 : Int)) := ⟨_, rfl⟩
            have uD3 : V3.heap[W3.heap.size]? = some (.deferred (some [])) := by rw [hV3, World.heap_setCell_map _ _ _ _ (show q + 1 + 1 ≠ W3.heap.size by omega)]; exact uD2
            have uL3 : V3.heap[W3.heap.size + 1]? = some (.loop lo') := by rw [hV3, World.heap_setCell_map _ _ _ _ (show q + 1 + 1 ≠ W3.heap.size + 1 by omega)]; exact uL2
            rw [← hV3] at S3'
            have HS3' := Lib.hid S3'
            have c0 := cell_box S2.b.b0
            have h73 := bef_c V3 jb m J A k c HM.out HU.out.mat (S3'.b.g.heap_of HMB.out)
            clear gV c2V g3 gV2 S2 uD2 uL2 hor HUD HS1 S3'
            have HUD : Hid (∀ V : World, V3.grows V → V.heap[W3.heap.size]? = some (.deferred (some [])) ∧ V.heap[W3.heap.size + 1]? = some (.loop lo')) := Lib.hid fun V g => ⟨g.heap_of uD3, g.heap_of uL3⟩
            clear uD3 uL3
            cases hb : bef k J c with
            | none =>
              have hV : befV J k c = .tuple #[.int .i64 (-1), .bool false] := by unfold befV; rw [hb]
              rw [hV] at h73
              have HBn := Lib.hid (hBf.out.new hF' hck hcA (fun l hl => absurd hl (bef_none hb (HU.out.mat.lt l c hl).1)))
              clear hb hV
              gi_wp2_with (gi_at_call 99; fail)
              rw [← hV3]
              refine (Fence.free_round Try.prog _).calls _ _ _ _ _ (h73.mono ?_)
              rintro e V4 ⟨rfl, g4⟩
              clear hV3 d2 f2 h73 c0
              gi_wp2
              (refine wpIn_region_chain (Fence.free_round _ _) 9 [4, 5, 6, 7, 8] (by kernel_rfl) (by kernel_rfl) (by kernel_rfl) (by decide) ?_; simp only [without, only, withNo, List.take_succ_cons, List.take_zero, List.drop_succ_cons, List.drop_zero, List.take_nil, List.drop_nil, Nat.reduceAdd, Nat.reduceSub, List.filter, List.contains_cons, List.contains_nil, Nat.reduceBEq, Bool.or_false, Bool.false_or, Bool.true_or, Bool.or_true, Bool.or_self, Bool.not_true, Bool.not_false, List.map_cons, List.map_nil]; (repeat (refine wpCalm_step (fun K hK => ?_); go_simp; first | (refine hK _ ?_; clear hK K) | (apply Exists.intro; refine ⟨fun n' x' => ?_, hK _ ?_⟩; (fail); clear hK K))); refine wpCalm_nil ?_)
              (refine wpChain_step (fun K hK nc xc => ?_); go_simp; refine hK _ _ ?_; clear hK K)
              (refine wpChain_step (fun K hK nc xc => ?_); go_simp; refine hK _ _ ?_; clear hK K)
              (refine wpChain_step (fun K hK nc xc => ?_); go_simp; refine hK _ _ ?_; clear hK K)
              (refine wpChain_step (fun K hK nc xc => ?_); go_simp; refine hK _ _ ?_; clear hK K)
              ((refine wpChain_step (fun K hK nc xc => ?_); go_simp); refine ⟨World.grows.refl _, hK _ _ ?_⟩; clear hK K)
              (refine wpChain_nil (fun nc xc => ?_))
              rename_i n1 x1 n2 x2 n3 x3 n4 x4 n5 x5
              have gV : V3.grows ((((((V4.plus n1 x1).plus n2 x2).plus n3 x3).plus n4 x4).plus n5 x5).plus nc xc) := g4.trans (by (repeat (first | exact World.grows.refl _ | assumption | refine World.grows.alloc ?_ _ | refine World.grows.plus ?_ _ _ | refine World.grows.drew ?_)))
              generalize ((((((V4.plus n1 x1).plus n2 x2).plus n3 x3).plus n4 x4).plus n5 x5).plus nc xc) = V5 at gV ⊢
              gi_wp2
              exact hK1.out _ _ ⟨Fs', _, wt', wv', by rw [HR.out]; exact HBn, hF', hMM, Lib.hid (HS3'.out.mono gV)⟩ (HUD.out V5 gV).1 (HUD.out V5 gV).2
            | some old =>
              have hV : befV J k c = .tuple #[.int .i64 (old : Int), .bool true] := by unfold befV; rw [hb]
              rw [hV] at h73
              have hold := (bef_some HU.out.mat).1 hb
              obtain ⟨hon, -, -⟩ := HU.out.mat.lt old c hold
              have ho16 : old < 16 := by omega
              obtain ⟨No, hNo⟩ : ∃ No, 2 ^ old = No := ⟨_, rfl⟩
              have HNo := Lib.hid hNo
              have hF16 := bitsN_lt (p := Fs') hn
              have hFb : (bitsN Fs' k).testBit old = Fs' old := by rw [bitsN_bit, decide_eq_true hon]; rfl
              have hMF := bitsN_mark Fs' hon
              have hN16 := pow_le16 (show old ≤ 16 by omega)
              rw [hNo] at hMF hN16
              have hor := or_nat (bitsN Fs' k) No (by omega) (by omega)
              rw [← hMF] at hor
              obtain ⟨FB, hFB⟩ : ∃ FB, bitsN Fs' k = FB := ⟨_, rfl⟩
              obtain ⟨FB2, hFB2⟩ : ∃ FB2, bitsN (mark Fs' old) k = FB2 := ⟨_, rfl⟩
              have e1 := cell_box HS3'.out.b.b1
              rw [hFB] at hF16 hFb hor e1
              rw [hFB2] at hor
              have HFB2 := Lib.hid hFB2
              clear hV hb hMF hN16 hFB hFB2
              cases hFo : Fs' old with
              | true =>
                obtain ⟨hand, hN0⟩ := bits_on hF16 (show old ≤ 16 by omega) hNo (by rw [hFb, hFo])
                have HBn := Lib.hid (hBf.out.new hF' hck hcA (fun l hl => by rw [HU.out.mat.inj l old c hl hold]; exact hFo))
                clear hF16 hFb hNo hor hold hFo
                gi_wp2_with (gi_at_call 99; fail)
                rw [← hV3]
                refine (Fence.free_round Try.prog _).calls _ _ _ _ _ (h73.mono ?_)
                rintro e V4 ⟨rfl, g4⟩
                replace e1 := g4.cell_of e1
                clear hV3 d2 f2 h73 c0
                gi_wp2
                (refine wpIn_region_chain (Fence.free_round _ _) 9 [4, 5, 6, 7, 8] (by kernel_rfl) (by kernel_rfl) (by kernel_rfl) (by decide) ?_; simp only [without, only, withNo, List.take_succ_cons, List.take_zero, List.drop_succ_cons, List.drop_zero, List.take_nil, List.drop_nil, Nat.reduceAdd, Nat.reduceSub, List.filter, List.contains_cons, List.contains_nil, Nat.reduceBEq, Bool.or_false, Bool.false_or, Bool.true_or, Bool.or_true, Bool.or_self, Bool.not_true, Bool.not_false, List.map_cons, List.map_nil]; (repeat (refine wpCalm_step (fun K hK => ?_); go_simp; first | (refine hK _ ?_; clear hK K) | (apply Exists.intro; refine ⟨fun n' x' => ?_, hK _ ?_⟩; (fail); clear hK K))); refine wpCalm_nil ?_)
                ((refine wpChain_step (fun K hK nc xc => ?_); go_simp); refine ⟨by (repeat (first | exact World.grows.refl _ | assumption | refine World.grows.alloc ?_ _ | refine World.grows.plus ?_ _ _ | refine World.grows.drew ?_)), hK _ _ ?_⟩; clear hK K; (refine wpChain_step (fun K hK nc xc => ?_); go_simp); refine (bit_c _ _ old (by omega) (SliceAt.mono (one_slice _ _ _ _ (by simp)) (World.grows_plus _ _ _)) HNo.out).mono ?_; rintro e W9 ⟨rfl, g⟩; refine ⟨_, rfl, g, hK _ _ ?_⟩; clear hK K; have g5 : (V4).grows W9 := World.grows.trans (by (repeat (first | exact World.grows.refl _ | assumption | refine World.grows.alloc ?_ _ | refine World.grows.plus ?_ _ _ | refine World.grows.drew ?_))) g; clear g)
                ((refine wpChain_step (fun K hK nc xc => ?_); go_simp); refine ⟨World.grows.refl _, hK _ _ ?_⟩; clear hK K)
                ((refine wpChain_step (fun K hK nc xc => ?_); go_simp); refine ⟨World.grows.refl _, hK _ _ ?_⟩; clear hK K)
                ((refine wpChain_step (fun K hK nc xc => ?_); go_simp); refine ⟨World.grows.refl _, hK _ _ ?_⟩; clear hK K)
                (refine wpChain_nil (fun nc xc => ?_))
                rename_i n1 x1 n2 x2 n3 x3
                have gV : V3.grows ((((W9.plus n1 x1).plus n2 x2).plus n3 x3).plus nc xc) := g4.trans (g5.trans (by (repeat (first | exact World.grows.refl _ | assumption | refine World.grows.alloc ?_ _ | refine World.grows.plus ?_ _ _ | refine World.grows.drew ?_))))
                generalize ((((W9.plus n1 x1).plus n2 x2).plus n3 x3).plus nc xc) = V5 at gV ⊢
                gi_wp2
                exact hK1.out _ _ ⟨Fs', _, wt', wv', by rw [HR.out]; exact HBn, hF', hMM, Lib.hid (HS3'.out.mono gV)⟩ (HUD.out V5 gV).1 (HUD.out V5 gV).2
              | false =>
                have hand := bits_off hF16 (show old ≤ 16 by omega) hNo (by rw [hFb, hFo])
                have HBn := Lib.hid (hBf.out.more HU.out.mat hF' hck hcA hold)
                have hMM2 := bfsM_more (wt := wt') hon hFo
                have hwt := cntB_pos (n := k) (p := fun l => !Fs' l) hon (by simp [hFo])
                clear hF16 hFb hNo hold hFo
                gi_wp2_with (gi_at_call 99; fail)
                rw [← hV3]
                refine (Fence.free_round Try.prog _).calls _ _ _ _ _ (h73.mono ?_)
                rintro e V4 ⟨rfl, g4⟩
                replace e1 := g4.cell_of e1
                clear hV3 d2 f2 h73 c0
                gi_wp2
                (refine wpIn_region_chain (Fence.free_round _ _) 9 [4, 5, 6, 7, 8] (by kernel_rfl) (by kernel_rfl) (by kernel_rfl) (by decide) ?_; simp only [without, only, withNo, List.take_succ_cons, List.take_zero, List.drop_succ_cons, List.drop_zero, List.take_nil, List.drop_nil, Nat.reduceAdd, Nat.reduceSub, List.filter, List.contains_cons, List.contains_nil, Nat.reduceBEq, Bool.or_false, Bool.false_or, Bool.true_or, Bool.or_true, Bool.or_self, Bool.not_true, Bool.not_false, List.map_cons, List.map_nil]; (repeat (refine wpCalm_step (fun K hK => ?_); go_simp; first | (refine hK _ ?_; clear hK K) | (apply Exists.intro; refine ⟨fun n' x' => ?_, hK _ ?_⟩; (fail); clear hK K))); refine wpCalm_nil ?_)
                ((refine wpChain_step (fun K hK nc xc => ?_); go_simp); refine ⟨by (repeat (first | exact World.grows.refl _ | assumption | refine World.grows.alloc ?_ _ | refine World.grows.plus ?_ _ _ | refine World.grows.drew ?_)), hK _ _ ?_⟩; clear hK K; (refine wpChain_step (fun K hK nc xc => ?_); go_simp); refine (bit_c _ _ old (by omega) (SliceAt.mono (one_slice _ _ _ _ (by simp)) (World.grows_plus _ _ _)) HNo.out).mono ?_; rintro e W9 ⟨rfl, g⟩; refine ⟨_, rfl, g, hK _ _ ?_⟩; clear hK K; have g5 : (V4).grows W9 := World.grows.trans (by (repeat (first | exact World.grows.refl _ | assumption | refine World.grows.alloc ?_ _ | refine World.grows.plus ?_ _ _ | refine World.grows.drew ?_))) g; clear g)
                ((refine wpChain_step (fun K hK nc xc => ?_); go_simp); refine ⟨World.grows.refl _, hK _ _ ?_⟩; clear hK K)
                ((refine wpChain_step (fun K hK nc xc => ?_); go_simp); refine ⟨World.grows.refl _, hK _ _ ?_⟩; clear hK K)
                ((refine wpChain_step (fun K hK nc xc => ?_); go_simp); refine ⟨World.grows.refl _, hK _ _ ?_⟩; clear hK K)
                (refine wpChain_nil (fun nc xc => ?_))
                rename_i n1 x1 n2 x2 n3 x3
                have gV : V3.grows ((((W9.plus n1 x1).plus n2 x2).plus n3 x3).plus nc xc) := g4.trans (g5.trans (by (repeat (first | exact World.grows.refl _ | assumption | refine World.grows.alloc ?_ _ | refine World.grows.plus ?_ _ _ | refine World.grows.drew ?_))))
                replace e1 : ((((W9.plus n1 x1).plus n2 x2).plus n3 x3).plus nc xc).cell? ⟨q + 1, 0, none⟩ = some (.int .i64 (FB : Int)) := World.grows.cell_of (g5.trans (by (repeat (first | exact World.grows.refl _ | assumption | refine World.grows.alloc ?_ _ | refine World.grows.plus ?_ _ _ | refine World.grows.drew ?_)))) e1
                generalize ((((W9.plus n1 x1).plus n2 x2).plus n3 x3).plus nc xc) = V5 at gV e1 ⊢
                clear hand g4 g5
                gi_wp2
                (refine wpIn_region_chain (Fence.free_round _ _) 5 [2, 3, 4] (by kernel_rfl) (by kernel_rfl) (by kernel_rfl) (by decide) ?_; simp only [without, only, withNo, List.take_succ_cons, List.take_zero, List.drop_succ_cons, List.drop_zero, List.take_nil, List.drop_nil, Nat.reduceAdd, Nat.reduceSub, List.filter, List.contains_cons, List.contains_nil, Nat.reduceBEq, Bool.or_false, Bool.false_or, Bool.true_or, Bool.or_true, Bool.or_self, Bool.not_true, Bool.not_false, List.map_cons, List.map_nil]; (repeat (refine wpCalm_step (fun K hK => ?_); go_simp; first | (refine hK _ ?_; clear hK K) | (apply Exists.intro; refine ⟨fun n' x' => ?_, hK _ ?_⟩; (fail); clear hK K))); refine wpCalm_nil ?_)
                ((refine wpChain_step (fun K hK nc xc => ?_); go_simp); refine ⟨by (repeat (first | exact World.grows.refl _ | assumption | refine World.grows.alloc ?_ _ | refine World.grows.plus ?_ _ _ | refine World.grows.drew ?_)), hK _ _ ?_⟩; clear hK K; (refine wpChain_step (fun K hK nc xc => ?_); go_simp); refine (bit_c _ _ old (by omega) (SliceAt.mono (one_slice _ _ _ _ (by simp)) (World.grows_plus _ _ _)) HNo.out).mono ?_; rintro e W9 ⟨rfl, g⟩; refine ⟨_, rfl, g, hK _ _ ?_⟩; clear hK K; have g6 : (V5).grows W9 := World.grows.trans (by (repeat (first | exact World.grows.refl _ | assumption | refine World.grows.alloc ?_ _ | refine World.grows.plus ?_ _ _ | refine World.grows.drew ?_))) g; clear g)
                ((refine wpChain_step (fun K hK nc xc => ?_); go_simp); refine ⟨World.grows.refl _, hK _ _ ?_⟩; clear hK K)
                (refine wpChain_nil (fun nc xc => ?_))
                rename_i n1 x1
                have gV2 : V3.grows ((W9.plus n1 x1).plus nc xc) := gV.trans (World.grows.trans g6 (by (repeat (first | exact World.grows.refl _ | assumption | refine World.grows.alloc ?_ _ | refine World.grows.plus ?_ _ _ | refine World.grows.drew ?_))))
                generalize ((W9.plus n1 x1).plus nc xc) = V6 at gV2 ⊢
                have S6 := HS3'.out.mono gV2
                have d1 := cell_box S6.b.b1
                have f1 := frozen_of_heap S6.b.b1 0
                have d3 := cell_box S6.b.b3
                have f3 := frozen_of_heap S6.b.b3 0
                have uD6 := (HUD.out V6 gV2).1
                have uL6 := (HUD.out V6 gV2).2
                have S7 := S6.setF (mark Fs' old)
                rw [HFB2.out] at S7
                have hqL := S6.lt
                obtain ⟨V7, hV7⟩ : ∃ V7, V7 = V6.setCell ⟨q + 1, 0, none⟩ (.int .i64 (FB2 : Int)) := ⟨_, rfl⟩
                have uD7 : V7.heap[W3.heap.size]? = some (.deferred (some [])) := by rw [hV7, World.heap_setCell_map _ _ _ _ (show q + 1 ≠ W3.heap.size by omega)]; exact uD6
                have uL7 : V7.heap[W3.heap.size + 1]? = some (.loop lo') := by rw [hV7, World.heap_setCell_map _ _ _ _ (show q + 1 ≠ W3.heap.size + 1 by omega)]; exact uL6
                rw [← hV7] at S7
                obtain ⟨A7, cap7, rfl, hc7, -⟩ := S7.qu.form
                have hl7 : wt'.length ≤ 48 := by have h1 : wt'.length ≤ bfsM k Fs' wt' := by unfold bfsM; omega
                                                 omega
                have HS7 := Lib.hid S7
                clear gV gV2 e1 g6 S6 uD6 uL6 hor HUD HS3' S7
                iterate 3 gi_step
                rw [← hV7]
                clear hV7 d1 f1 d3 f3
                have d3 := cell_box HS7.out.b.b3
                rw [ilist_len] at d3
                iterate 13 gi_step
                refine wpListIn_append_q _ rfl (.tmp 91) (.tmp 93) 35 (by rfl) (q + 4) 3 (.int .i64 0) 8 Try.underlying35 el3 (by rfl) (.slice A7 wt'.length cap7) (ilist wt') (by rfl) (by have := HS7.out.qu.mono (show V7.grows (V7.alloc (.cells #[.int .i64 (old : Nat)] 3)) by (repeat (first | exact World.grows.refl _ | assumption | refine World.grows.alloc ?_ _ | refine World.grows.plus ?_ _ _ | refine World.grows.drew ?_))); rw [ilist_len] at this; exact this) ⟨V7.heap.size, 0, none⟩ 1 (.int .i64 (old : Nat)) (by rfl) (by simp [go_sem]) rfl (by rfl) (by rw [ilist_len]; unfold maxLen; omega) (by rw [ilist_len]; omega) (by have := World.lt_of_block HS7.out.h1; simp; omega) ?_
                intro v' V8 hq8 hg8 hv8 hk8
                obtain ⟨A8, cap8, rfl, -, -⟩ := hq8.form
                rw [show (ilist wt' ++ [Value.int .i64 (old : Nat)]).length = wt'.length + 1 by rw [List.length_append, ilist_len]; rfl] at hq8 hv8 ⊢
                have S7b := HS7.out.mono (show V7.grows (V7.alloc (.cells #[.int .i64 (old : Nat)] 3)) by (repeat (first | exact World.grows.refl _ | assumption | refine World.grows.alloc ?_ _ | refine World.grows.plus ?_ _ _ | refine World.grows.drew ?_)))
                rw [ilist_len] at S7b
                have B8 := S7b.b.app hg8 (fun b hb => (S7b.qu.blk hb).1)
                have d3' := cell_box B8.b3
                have f3' := frozen_of_heap B8.b3 0
                have S8 := Lib.hid (S7b.app (wt' := wt' ++ [old]) (by rw [ilist_snoc]; exact hq8) hg8 hv8 hk8)
                have uD8 : Hid ((V8.setCell ⟨q + 1 + 1 + 1, 0, none⟩ (.slice A8 (wt'.length + 1) cap8)).heap[W3.heap.size]? = some (.deferred (some []))) := Lib.hid (by
                  rw [World.heap_setCell_map _ _ _ _ (show q + 1 + 1 + 1 ≠ W3.heap.size by omega)]
                  exact hk8 _ _ (World.grows.heap_of (by (repeat (first | exact World.grows.refl _ | assumption | refine World.grows.alloc ?_ _ | refine World.grows.plus ?_ _ _ | refine World.grows.drew ?_))) uD7) (fun c fr e => by cases e))
                have uL8 : Hid ((V8.setCell ⟨q + 1 + 1 + 1, 0, none⟩ (.slice A8 (wt'.length + 1) cap8)).heap[W3.heap.size + 1]? = some (.loop lo')) := Lib.hid (by
                  rw [World.heap_setCell_map _ _ _ _ (show q + 1 + 1 + 1 ≠ W3.heap.size + 1 by omega)]
                  exact hk8 _ _ (World.grows.heap_of (by (repeat (first | exact World.grows.refl _ | assumption | refine World.grows.alloc ?_ _ | refine World.grows.plus ?_ _ _ | refine World.grows.drew ?_))) uL7) (fun c fr e => by cases e))
                have hFm := Lib.hid (mark_up (k := old) hF')
                clear d3 uD7 uL7 HS7 S7b B8 hq8 hg8 hv8 hk8
                gi_wp2
                exact hK1.out _ _ ⟨_, _, _, _, by rw [HR.out]; exact HBn, hFm.out, by omega, S8⟩ uD8.out uL8.out
        · rintro U ⟨Fs', Ts', wt', wv', hBf, hF', hMM, hS⟩ hDf
          have hBe : Hid (Bfs A k J Fs' Ts' wt' k0 []) := Lib.hid (by
            have := hBf.out
            rw [List.length_map, List.drop_eq_nil_of_le (Nat.le_refl _)] at this
            exact this)
          have hMk : Hid (Marks w.heap.size ({ target := .collected W3.heap.size, args := #[] } :: ds) U) := Lib.hid ⟨⟨W3.heap.size, rfl, by omega, hDf, fun d' hd e => by have := HS3.out.ms.lt d' hd _ e; omega⟩, hS.out.ms⟩
          have hUs := World.lt_of_block hS.out.h1
          have hqL := hS.out.lt
          have hme := apM_eq hS.out.b hS.out.qu
          have hbb := Lib.hid hS.out.b
          have hqq := Lib.hid hS.out.qu
          clear hBf hDf hS
          go_wp2
          refine ⟨_, rfl, rfl, ⟨Fs', Ts', wt', wv', k0, hBe, by omega, hbb, hqq, by omega, hMk⟩, ?_⟩
          rw [hme]
          omega
end Go.Proofs.Ytaanbdjmibjcbaa

