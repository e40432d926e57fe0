/-
  What is proved: earlier of the law (42).
-/
import Derived.Test.YtjpccfpmhmddjaaM13
import Derived.Test.YtjpccfpmhmddjaaM15
import Derived.Test.YtjpccfpmhmddjaaM5
import Derived.Test.YtjpccfpmhmddjaaM4
import Derived.Test.YtjpccfpmhmddjaaM8
import Derived.Test.YtjpccfpmhmddjaaM18
import Derived.Test.YtjpccfpmhmddjaaM14
set_option linter.all false
namespace Go.Proofs.Ytjpccfpmhmddjaa
open Go.RowKit
attribute [local irreducible] Go.wpCalm

/-- a pass comes before another one in the order of PassFree -/
def earlierB (pa la pb lb : Int) : Bool :=
  if decide (la ≤ 0) != decide (lb ≤ 0) then decide (la ≤ 0) else if la ≤ 0 then decide (pa < pb) else decide (pb - lb < pa - la)

set_option maxHeartbeats 2000000 in
theorem earlier_c (w : World) (pa la pb lb : Int) (h1 : -1000000 ≤ pa ∧ pa ≤ 1000000) (h2 : -1000000 ≤ la ∧ la ≤ 1000000) (h3 : -1000000 ≤ pb ∧ pb ≤ 1000000) (h4 : -1000000 ≤ lb ∧ lb ≤ 1000000) :
    Calls Try.prog 42 #[.agg #[.int .i64 pa, .int .i64 la], .agg #[.int .i64 pb, .int .i64 lb]] w fun e w' => e = .returned (.bool (earlierB pa la pb lb)) ∧ w.grows w' := by
  obtain ⟨a1, a2⟩ := h1
  obtain ⟨a3, a4⟩ := h2
  obtain ⟨a5, a6⟩ := h3
  obtain ⟨a7, a8⟩ := h4
  unfold earlierB
  go_enter Try.func42, Try.ntmps42
  by_cases ha : la ≤ 0
  · have da := decide_eq_true ha
    by_cases hb : lb ≤ 0
    · have db := decide_eq_true hb
      have hn : (decide (la ≤ 0) != decide (lb ≤ 0)) = false := by simp [ha, hb]
      clear da db
      go_wp2
      all_goals first
        | (rename_i hx; rw [hn] at hx; first | (cases hx; done) | (exact absurd rfl hx))
        | (go_ret; exact ⟨by simp [ha, hb], by (repeat (first | exact World.grows.refl _ | assumption | refine World.grows.alloc ?_ _ | refine World.grows.plus ?_ _ _ | refine World.grows.drew ?_))⟩)
    · have db := decide_eq_false hb
      have hn : (decide (la ≤ 0) != decide (lb ≤ 0)) = true := by simp [ha, hb]
      clear da db
      go_wp2
      all_goals first
        | (rename_i hx; rw [hn] at hx; first | (cases hx; done) | (exact absurd rfl hx))
        | (go_ret; exact ⟨by simp [ha, hb], by (repeat (first | exact World.grows.refl _ | assumption | refine World.grows.alloc ?_ _ | refine World.grows.plus ?_ _ _ | refine World.grows.drew ?_))⟩)
  · have da := decide_eq_false ha
    by_cases hb : lb ≤ 0
    · have db := decide_eq_true hb
      have hn : (decide (la ≤ 0) != decide (lb ≤ 0)) = true := by simp [ha, hb]
      clear da db
      go_wp2
      all_goals first
        | (rename_i hx; rw [hn] at hx; first | (cases hx; done) | (exact absurd rfl hx))
        | (go_ret; exact ⟨by simp [ha, hb], by (repeat (first | exact World.grows.refl _ | assumption | refine World.grows.alloc ?_ _ | refine World.grows.plus ?_ _ _ | refine World.grows.drew ?_))⟩)
    · have db := decide_eq_false hb
      have hn : (decide (la ≤ 0) != decide (lb ≤ 0)) = false := by simp [ha, hb]
      clear da db
      go_wp2
      all_goals first
        | (rename_i hx; rw [hn] at hx; first | (cases hx; done) | (exact absurd rfl hx))
        | (go_ret; exact ⟨by simp [ha, hb], by (repeat (first | exact World.grows.refl _ | assumption | refine World.grows.alloc ?_ _ | refine World.grows.plus ?_ _ _ | refine World.grows.drew ?_))⟩)
end Go.Proofs.Ytjpccfpmhmddjaa

/-
  What is proved: plain words for PassFree: of passes that come once each, an order by the law's rule becomes least hot.
-/
namespace Go.Proofs.Ytjpccfpmhmddjaa
open Go.RowKit

/-- how hot it becomes when passes are done one after another, from the heat H on -/
def mxL (a d : Nat → Int) : Int → List Nat → Int
  | _, [] => -1099511627776
  | H, r :: l => max (H + a r) (mxL a d (H + d r) l)
/-- the pass i need not come behind j -/
def leP (a d : Nat → Int) (i j : Nat) : Prop := earlierB (a j) (d j) (a i) (d i) = false
theorem leP_swap {a d : Nat → Int} {i j : Nat} (h : leP a d i j) (hi : d i ≤ a i) (hj : d j ≤ a j) (H X : Int) :
    max (H + a i) (max (H + d i + a j) X) ≤ max (H + a j) (max (H + d j + a i) X) := by
  unfold leP earlierB at h
  by_cases h1 : d i ≤ 0 <;> by_cases h2 : d j ≤ 0 <;> simp [h1, h2] at h <;> omega
theorem mxL_add (a d : Nat → Int) (i j : Nat) (l : List Nat) (H : Int) : mxL a d (H + d i + d j) l = mxL a d (H + d j + d i) l := by
  congr 1; omega
theorem mxL_front {a d : Nat → Int} (hd : ∀ r, d r ≤ a r) {i : Nat} (l2 : List Nat) : ∀ (l1 : List Nat) (H : Int), (∀ j ∈ l1, leP a d i j) → mxL a d H (i :: (l1 ++ l2)) ≤ mxL a d H (l1 ++ i :: l2)
  | [], H, _ => Int.le_refl _
  | j :: l1, H, h => by
    have ih := mxL_front hd l2 l1 (H + d j) (fun k hk => h k (by simp [hk]))
    have hs := leP_swap (h j (by simp)) (hd i) (hd j) H (mxL a d (H + d i + d j) (l1 ++ l2))
    simp only [List.cons_append, mxL] at ih ⊢
    rw [mxL_add] at hs ⊢
    omega
theorem mxL_sorted {a d : Nat → Int} (hd : ∀ r, d r ≤ a r) : ∀ (l : List Nat), l.Pairwise (leP a d) → ∀ (l' : List Nat), l'.Perm l → ∀ H, mxL a d H l ≤ mxL a d H l'
  | [], _, l', hp, H => by
    have : l' = [] := hp.eq_nil
    subst this; exact Int.le_refl _
  | i :: l, hs, l', hp, H => by
    have hi : i ∈ l' := hp.mem_iff.2 (by simp)
    obtain ⟨l1, l2, rfl⟩ := List.append_of_mem hi
    have hp2 : (l1 ++ l2).Perm l := by
      have h1 : (i :: (l1 ++ l2)).Perm (i :: l) := List.perm_middle.symm.trans hp
      exact h1.cons_inv
    obtain ⟨h1, h2⟩ := List.pairwise_cons.1 hs
    have ih := mxL_sorted hd l h2 (l1 ++ l2) hp2 (H + d i)
    have hf := mxL_front hd (i := i) l2 l1 H (fun j hj => h1 j (hp2.mem_iff.1 (by simp [hj])))
    simp only [mxL] at hf ⊢
    omega
end Go.Proofs.Ytjpccfpmhmddjaa

/-
  What is proved: plain words for PassTold.
-/
namespace Go.Proofs.Ytjpccfpmhmddjaa
open Go.RowKit

theorem least_or (q : Nat → Bool) (m : Nat) : (∀ i, i < m → q i = false) ∨ ∃ k, k < m ∧ q k = true ∧ ∀ i, i < k → q i = false := by
  induction m with
  | zero => exact .inl fun i hi => absurd hi (by omega)
  | succ m ih =>
    rcases ih with h | ⟨k, hk, h1, h2⟩
    · by_cases hm : q m = true
      · exact .inr ⟨m, by omega, hm, h⟩
      · left
        intro i hi
        rcases Nat.lt_or_ge i m with h3 | h3
        · exact h i h3
        · have : i = m := by omega
          subst this
          simpa using hm
    · exact .inr ⟨k, by omega, h1, h2⟩
/-- what Blue answers for an order that is right -/
theorem Job.blue_told {J : Job} {m : Nat} {f : Nat → Int} {l : Int} (h : J.followErr m f = 0) :
    (J.blueErr m f l = 5 ∧ J.blueAns m f l = 0 ∧ ∀ i, i < m → J.hotAt (natOf f) i ≤ l) ∨
    ∃ k : Nat, k < m ∧ J.blueErr m f l = 0 ∧ J.blueAns m f l = k ∧ l < J.hotAt (natOf f) k ∧ ∀ i, i < k → J.hotAt (natOf f) i ≤ l := by
  rcases least_or (J.blueQ f l) m with h1 | ⟨k, hk, h1, h2⟩
  · left
    have hi : J.blueIdx m f l = -1 := fstIdx_none _ _ h1
    obtain ⟨e1, e2⟩ := Job.blue_none (l := l) h (by rw [hi]; omega)
    refine ⟨e1, e2, fun i hi => ?_⟩
    have := h1 i hi
    unfold Job.blueQ at this
    simpa using this
  · right
    have hi : J.blueIdx m f l = k := fstIdx_at _ _ _ hk h2 h1
    obtain ⟨e1, e2⟩ := Job.blue_ok (l := l) h (by rw [hi]; omega)
    refine ⟨k, hk, e1, by rw [e2, hi], ?_, fun i hik => ?_⟩
    · unfold Job.blueQ at h1; simpa using h1
    · have := h2 i hik
      unfold Job.blueQ at this
      simpa using this
/-- the heat of a place that is handed over as numbers -/
theorem Job.heat_at {J : Job} (hc : J.check = 0) {p : Nat → Nat} (hp : J.In p) : J.heatErr J.n (fun i => (p i : Nat)) = 0 ∧ J.heatAns J.n (fun i => (p i : Nat)) = J.heat p := by
  have e0 : J.posErr J.n (fun i => (p i : Nat)) = 0 := Job.posErr_ok fun i hi => by have := hp.le i hi; omega
  have e1 : J.heatErr J.n (fun i => (p i : Nat)) = 0 := by unfold Job.heatErr; rw [if_pos hc, e0]
  refine ⟨e1, ?_⟩
  have e2 : J.posP J.n (fun i => (p i : Nat)) = p := by
    obtain ⟨h1, h2, h3⟩ := Job.posP_In e0
    funext i
    rcases Nat.lt_or_ge i J.n with hi | hi
    · have := h3 i hi; omega
    · rw [h2 i hi, hp.out i hi]
  unfold Job.heatAns
  rw [if_pos e1, e2]
/-- the greatest of the first heats as the law keeps it -/
def mostN (h : Nat → Int) : Nat → Int
  | 0 => 0
  | k + 1 => if k = 0 ∨ mostN h k < h k then h k else mostN h k
theorem mostN_max (h : Nat → Int) : ∀ m, 1 ≤ m → mostN h m = maxN h m
  | 0, hm => by omega
  | m + 1, _ => by
    by_cases h0 : m = 0
    · subst h0; simp [mostN, maxN]
    · have ih := mostN_max h m (by omega)
      simp only [mostN, maxN]
      rw [ih]
      split
      · rename_i hc; omega
      · rename_i hc; omega
theorem Job.OrdOk.walkIn {J : Job} {m : Nat} {g : Nat → Nat} (h : J.OrdOk m g) {k : Nat} (hk : k ≤ m) : J.In (walkP g k) :=
  ⟨fun r hr => by rw [← h.all r hr]; exact walkP_mono r m k hk, fun r hr => walkP_out k (fun i hi => h.lt i (by omega)) r hr⟩
end Go.Proofs.Ytjpccfpmhmddjaa

/-
  What is proved: the heat of a place one step on.
-/
namespace Go.Proofs.Ytjpccfpmhmddjaa
open Go.RowKit

theorem sumTo_upd {f g : Nat → Int} {r : Nat} {x : Int} : ∀ n, r < n → (∀ i, i < n → i ≠ r → g i = f i) → g r = f r + x → sumTo g n = sumTo f n + x
  | 0, h, _, _ => absurd h (by omega)
  | n + 1, hr, h, hx => by
    simp only [sumTo]
    rcases Nat.lt_or_ge r n with h1 | h1
    · rw [sumTo_upd n h1 (fun i hi hne => h i (by omega) hne) hx, h n (by omega) (by omega)]
      omega
    · have : r = n := by omega
      subst this
      rw [sumTo_congr g f r (fun i hi => h i (by omega) (by omega)), hx]
      omega
theorem Job.heat_to (J : Job) (p : Nat → Nat) {r : Nat} (hr : r < J.n) : J.heat (Job.to p r) = J.heat p + J.lv r (p r) := by
  unfold Job.heat
  rw [sumTo_upd (f := J.row p) (g := J.row (Job.to p r)) (r := r) (x := J.lv r (p r)) J.n hr (fun i hi hne => by simp [Job.row, Job.to, upd, hne]) (by simp [Job.row, Job.to, upd, sumTo])]
  omega
theorem walkP_to (g : Nat → Nat) (k : Nat) : walkP g (k + 1) = Job.to (walkP g k) (g k) := rfl
end Go.Proofs.Ytjpccfpmhmddjaa

/-
  What is proved: how hot it becomes in an order of a job of one pass an edge.
-/
namespace Go.Proofs.Ytjpccfpmhmddjaa
open Go.RowKit

/-- the greatest heat of the steps from k on -/
def maxFrom (h : Nat → Int) (k : Nat) : Nat → Int
  | 0 => -1099511627776
  | m + 1 => max (h k) (maxFrom h (k + 1) m)
theorem maxN_from (h : Nat → Int) : ∀ (m : Nat), 1 ≤ m → (∀ k, k < m → -1099511627776 ≤ h k) → ∀ (l : Int), maxN h m ≤ l ↔ ∀ k, k < m → h k ≤ l :=
  fun m hm _ l => maxN_le_iff m hm
theorem maxFrom_le {h : Nat → Int} {l : Int} (hl : -1099511627776 ≤ l) : ∀ (m k : Nat), maxFrom h k m ≤ l ↔ ∀ i, i < m → h (k + i) ≤ l
  | 0, k => by simp [maxFrom]; exact hl
  | m + 1, k => by
    have ih := maxFrom_le hl m (k + 1) (h := h)
    simp only [maxFrom]
    constructor
    · intro h1 i hi
      rcases Nat.eq_zero_or_pos i with h0 | h0
      · subst h0; simp only [Nat.add_zero]; omega
      · have := ih.1 (by omega) (i - 1) (by omega)
        rwa [show k + 1 + (i - 1) = k + i by omega] at this
    · intro h1
      have h2 := h1 0 (by omega)
      have h3 := ih.2 (fun i hi => by have := h1 (i + 1) (by omega); rwa [show k + (i + 1) = k + 1 + i by omega] at this)
      simp only [Nat.add_zero] at h2
      omega
theorem maxFrom_mxL {J : Job} {g : Nat → Nat} {m : Nat} (hlt : ∀ i, i < m → g i < J.n) (hone : ∀ i, i < m → walkP g i (g i) = 0) : ∀ (c k : Nat), k + c = m →
    maxFrom (J.hotAt g) k c = mxL (fun r => J.pk r 0) (fun r => J.lv r 0) (J.heat (walkP g k)) ((List.range c).map fun i => g (k + i))
  | 0, k, _ => by simp [maxFrom, mxL]
  | c + 1, k, h => by
    have ih := maxFrom_mxL hlt hone c (k + 1) (by omega)
    have h1 := hone k (by omega)
    have h2 := J.heat_to (walkP g k) (hlt k (by omega))
    rw [← walkP_to, h1] at h2
    have e : ((List.range (c + 1)).map fun i => g (k + i)) = g k :: ((List.range c).map fun i => g (k + 1 + i)) := by
      rw [List.range_succ_eq_map, List.map_cons, List.map_map]
      simp only [Nat.add_zero]
      congr 1
      apply List.map_congr_left
      intro i _
      simp only [Function.comp_apply]
      congr 1; omega
    rw [e]
    simp only [maxFrom, mxL]
    rw [ih, h2]
    congr 1
    unfold Job.hotAt Job.hot
    rw [h1]

theorem mxL_congr {a d a' d' : Nat → Int} : ∀ (l : List Nat) (H : Int), (∀ r ∈ l, a r = a' r ∧ d r = d' r) → mxL a d H l = mxL a' d' H l
  | [], _, _ => rfl
  | r :: l, H, h => by
    obtain ⟨h1, h2⟩ := h r (by simp)
    simp only [mxL]
    rw [h1, h2, mxL_congr l _ (fun k hk => h k (by simp [hk]))]
theorem walkP_count (g : Nat → Nat) (r : Nat) : ∀ m, walkP g m r = ((List.range m).map g).count r
  | 0 => by simp [walkP]
  | m + 1 => by
    rw [List.range_succ, List.map_append, List.count_append, ← walkP_count g r m]
    simp only [walkP, upd, List.map_cons, List.map_nil, List.count_cons, List.count_nil]
    by_cases h : r = g m
    · subst h; simp
    · have h2 : ¬ g m = r := fun e => h e.symm
      simp [h, h2]
theorem count_range (r : Nat) : ∀ n, (List.range n).count r = if r < n then 1 else 0
  | 0 => by simp
  | n + 1 => by
    rw [List.range_succ, List.count_append, count_range r n]
    simp only [List.count_cons, List.count_nil]
    by_cases h : r < n
    · have h2 : ¬ n = r := by omega
      simp [h, h2]; omega
    · by_cases h2 : n = r
      · subst h2; simp
      · have : ¬ r < n + 1 := by omega
        simp [h, h2, this]
/-- an order of a job of one pass an edge has each edge once -/
theorem Job.OrdOk.perm {J : Job} {m : Nat} {g : Nat → Nat} (h : J.OrdOk m g) (h1 : ∀ r, r < J.n → J.len r = 1) : ((List.range m).map g).Perm (List.range J.n) := by
  rw [List.perm_iff_count]
  intro r
  rw [← walkP_count]
  rcases Nat.lt_or_ge r J.n with hr | hr
  · rw [h.all r hr, h1 r hr, count_range, if_pos hr]
  · rw [walkP_out m h.lt r hr, count_range, if_neg (by omega)]
/-- an order by the law's rule is best -/
theorem Job.free_best {J : Job} (hJ : J.Ok) (h1 : ∀ r, r < J.n → J.len r = 1) {m : Nat} {g : Nat → Nat} (h : J.OrdOk m g)
    (hs : ((List.range m).map g).Pairwise (leP (fun r => J.pk r 0) (fun r => J.lv r 0))) {hot : Int} (hb : J.Best hot) {l : List Nat} (hl : Suf J hot (fun _ => 0) l) :
    maxN (J.hotAt g) m = hot := by
  have hm := (h.m_bd hJ).1
  obtain ⟨ho, hh⟩ := hl.order
  have hbd := hb.bd hJ
  have one : ∀ {m' : Nat} {g' : Nat → Nat}, J.OrdOk m' g' → ∀ i, i < m' → walkP g' i (g' i) = 0 := fun ho' i hi => by
    have h2 := ho'.lt_len hi
    rw [h1 _ (ho'.lt i hi)] at h2
    omega
  refine hb.max_eq hJ h hm ?_
  have e1 := maxFrom_mxL h.lt (one h) m 0 (by omega)
  have e2 := maxFrom_mxL ho.lt (one ho) l.length 0 (by omega)
  have le2 := (maxFrom_le (h := J.hotAt fun i => l.getD i 0) (l := hot) (by omega) l.length 0).2 (fun i hi => by rw [Nat.zero_add]; exact hh i hi)
  have hp : ((List.range l.length).map fun i => l.getD (0 + i) 0).Perm ((List.range m).map fun i => g (0 + i)) := by
    simp only [Nat.zero_add]
    exact (ho.perm h1).trans (h.perm h1).symm
  have hd : ∀ r, (if r < J.n then J.lv r 0 else 0) ≤ (if r < J.n then J.pk r 0 else 0) := fun r => by
    by_cases hr : r < J.n
    · rw [if_pos hr, if_pos hr]
      exact (hJ.lv r 0 hr (by rw [h1 r hr]; omega)).2
    · rw [if_neg hr, if_neg hr]; omega
  have cg : ∀ {m' : Nat} {g' : Nat → Nat}, J.OrdOk m' g' → ∀ H, mxL (fun r => J.pk r 0) (fun r => J.lv r 0) H ((List.range m').map fun i => g' (0 + i)) =
      mxL (fun r => if r < J.n then J.pk r 0 else 0) (fun r => if r < J.n then J.lv r 0 else 0) H ((List.range m').map fun i => g' (0 + i)) := fun ho' H => mxL_congr _ _ fun r hr => by
    obtain ⟨i, hi, rfl⟩ := List.mem_map.1 hr
    have := ho'.lt i (List.mem_range.1 hi)
    simp [this]
  have hs2 : ((List.range m).map fun i => g (0 + i)).Pairwise (leP (fun r => if r < J.n then J.pk r 0 else 0) (fun r => if r < J.n then J.lv r 0 else 0)) := by
    simp only [Nat.zero_add]
    refine hs.imp_of_mem fun {x y} hx hy hxy => ?_
    obtain ⟨i, hi, rfl⟩ := List.mem_map.1 hx
    obtain ⟨j, hj, rfl⟩ := List.mem_map.1 hy
    have a1 := h.lt i (List.mem_range.1 hi)
    have a2 := h.lt j (List.mem_range.1 hj)
    unfold leP at hxy ⊢
    simp only [a1, a2, if_true]
    exact hxy
  have key := mxL_sorted hd _ hs2 _ hp (J.heat (walkP g 0))
  have hfin : maxFrom (J.hotAt g) 0 m ≤ hot := by
    have q1 := cg h (J.heat (walkP g 0))
    have q2 := cg ho (J.heat (walkP g 0))
    have w0 : walkP (fun i => l.getD i 0) 0 = walkP g 0 := rfl
    rw [w0] at e2
    rw [e1, q1]
    rw [e2, q2] at le2
    exact Int.le_trans key le2
  intro k hk
  have := (maxFrom_le (h := J.hotAt g) (l := hot) (by omega) m 0).1 hfin k hk
  rwa [Nat.zero_add] at this
end Go.Proofs.Ytjpccfpmhmddjaa

/-
  What is proved: a job in a box whose edges are made one after another.
-/
namespace Go.Proofs.Ytjpccfpmhmddjaa
open Go.RowKit

/-- the box xb holds a job of which i edges are made -/
def MadeX (W1 W : World) (xb : Nat) (st : Int) (T : Job) (i : Nat) (xr : Value) (row : Nat → Value) : Prop :=
  W.heap[xb]? = some (.cells #[.int .i64 st, xr] 24) ∧ W.ownsRow (xb + 1) 62 1 xr i (tableL i 1 (fun t _ => row t)) ∧ (∀ t, t < i → W.ownsRow (xb + 1) 65 2 (row t) (T.len t) (tableL (T.len t) 2 (pas T t))) ∧ W1.grows W
theorem MadeX.grow {W1 W W2 : World} {xb : Nat} {st : Int} {T : Job} {i : Nat} {xr : Value} {row : Nat → Value} (h : MadeX W1 W xb st T i xr row) (g : W.grows W2) : MadeX W1 W2 xb st T i xr row :=
  ⟨g.heap_of h.1, h.2.1.grow g, fun t ht => (h.2.2.1 t ht).grow g, h.2.2.2.trans g⟩
theorem boxX_cells {W : World} {xb : Nat} {a b : Value} (h : W.heap[xb]? = some (.cells #[a, b] 24)) : W.cell? ⟨xb, 0, none⟩ = some a ∧ W.cell? ⟨xb, 1, none⟩ = some b ∧ W.frozen? ⟨xb, 1, none⟩ = false := by
  unfold World.cell? World.frozen?
  simp only [h]
  refine ⟨rfl, rfl, by simp⟩
theorem boxX_store {W : World} {xb : Nat} {a b : Value} (h : W.heap[xb]? = some (.cells #[a, b] 24)) (v : Value) : (W.setCell ⟨xb, 1, none⟩ v).heap[xb]? = some (.cells #[a, v] 24) := by
  unfold World.setCell
  simp only [Array.getElem?_modify, h, if_true, Option.map_some]
  rfl
theorem el62 : Try.prog.knows 62 (.slice none 0 0) 1 24 := Program.knows_of (by kernel_rfl)
theorem tableL_pushV {i : Nat} {row : Nat → Value} {u : Value} : tableL (i + 1) 1 (fun t _ => if t < i then row t else u) = tableL i 1 (fun t _ => row t) ++ tableL 1 1 (fun _ _ => u) := by
  rw [tableL_snoc]
  congr 1
  · unfold tableL
    apply List.map_congr_left
    intro x hx
    have : x < i := by simpa using hx
    simp [this]
  · simp [tableL]
theorem MadeX.push {W1 W W2 : World} {xb : Nat} {st : Int} {T : Job} {i : Nat} {xr u v' : Value} {row : Nat → Value} (h : MadeX W1 W xb st T i xr row) (hb : W1.heap.size ≤ xb)
    (hu : W.ownsRow (xb + 1) 65 2 u (T.len i) (tableL (T.len i) 2 (pas T i))) (h' : W2.ownsRow (xb + 1) 62 1 v' (i + 1) (tableL i 1 (fun t _ => row t) ++ tableL 1 1 (fun _ _ => u))) (g : W.grownBy W2 xr.ownBlock) :
    MadeX W1 (W2.setCell ⟨xb, 1, none⟩ v') xb st T (i + 1) v' (fun t => if t < i then row t else u) := by
  have hne : some xb ≠ xr.ownBlock := fun e => by have := (h.2.1.lt xb e.symm).1; omega
  have hx2 : W2.heap[xb]? = some (.cells #[.int .i64 st, xr] 24) := by
    rw [g.block xb (World.lt_of_block h.1) hne]; exact h.1
  refine ⟨boxX_store hx2 v', ?_, fun t ht => ?_, ?_⟩
  · rw [tableL_pushV]
    exact h'.set (show xb < xb + 1 by omega) _
  · refine World.ownsRow.set ?_ (show xb < xb + 1 by omega) _
    by_cases hlt : t < i
    · simp only [hlt, if_true]
      exact (h.2.2.1 t hlt).other h.2.1 (by decide) g
    · have : t = i := by omega
      subst this
      simp only [Nat.lt_irrefl, if_false]
      exact hu.other h.2.1 (by decide) g
  · exact (World.grownBy.grows g h.2.1 (W0 := W1) h.2.2.2 (by omega)).setCell hb _
theorem MadeX.raw {W1 W : World} {xb : Nat} {st : Int} {T : Job} {xr : Value} {row : Nat → Value} (h : MadeX W1 W xb st T T.n xr row) (hs : T.start = st) : RawAt W (.agg #[.int .i64 st, xr]) T :=
  ⟨xr, row, by rw [hs], h.2.1.sliceAt fun i j hi hj => tableL_get _ hi hj, fun i hi => (h.2.2.1 i hi).sliceAt fun k j hk hj => tableL_get _ hk hj⟩
/-- two numbers beside each other -/
def prC (a b : Int) (_ j : Nat) : Value := if j = 0 then .int .i64 a else .int .i64 b
theorem pair_slice (w : World) (a b : Int) (t blk : Nat) (hb : blk = w.heap.size) : SliceAt (w.alloc (.cells #[.int .i64 a, .int .i64 b] t)) (.slice (some ⟨blk, 0, none⟩) 1 1) 1 2 (prC a b) := by
  subst hb
  refine ⟨_, _, rfl, by omega, by unfold maxLen; omega, fun i j hi hj => ⟨_, _, rfl, ?_⟩⟩
  have hi0 : i = 0 := by omega
  subst hi0
  rcases (by omega : j = 0 ∨ j = 1) with rfl | rfl <;> simp [go_sem, prC]
theorem pair_one (a b : Int) : ∀ u ∈ tableL 1 2 (prC a b), u.oneCell' = true := by
  intro u hu
  simp only [tableL, List.mem_map] at hu
  obtain ⟨k, _, rfl⟩ := hu
  unfold prC
  split <;> rfl
theorem pas_push {w : World} {base : Nat} {e : TypeId} {v : Value} {T : Job} {q d : Nat} {a b : Int} (ho : w.ownsRow base e 2 v (d + 1) (tableL d 2 (pas T q) ++ tableL 1 2 (prC a b))) (ha : a = T.pk q d) (hb : b = T.lv q d) :
    w.ownsRow base e 2 v (d + 1) (tableL (d + 1) 2 (pas T q)) := by
  rw [tableL_snoc]
  subst ha; subst hb
  have e : tableL 1 2 (prC (T.pk q d) (T.lv q d)) = (List.range 2).map (pas T q d) := by simp [tableL, prC, pas, List.range_succ]
  rw [← e]; exact ho
/-- a row of another type stays when a block is written to -/
theorem ownsRow_setElse {W : World} {base : Nat} {e e' : TypeId} {sz : Nat} {v : Value} {n : Nat} {xs : List Value} {ys : Array Value} (h : W.ownsRow base e sz v n xs) {b : Nat} (hb : W.heap[b]? = some (.cells ys e')) (hne : e ≠ e') (i : Nat) (u : Value) :
    (W.setCell ⟨b, i, none⟩ u).ownsRow base e sz v n xs := by
  refine ⟨h.1, ?_⟩
  rcases h.2 with hn | ⟨g, cap, cur, rfl, hg, hgg, rest⟩
  · exact .inl hn
  · refine .inr ⟨g, cap, cur, rfl, hg, ?_, rest⟩
    rw [World.setCell_heap_other]
    · exact hgg
    · rintro rfl
      rw [hb] at hgg
      cases hgg
      exact hne rfl
/-- the box xb holds a job of which i edges are taken from elsewhere -/
def MadeF (W1 W : World) (xb : Nat) (st : Int) (i : Nat) (xr : Value) (V : Nat → Value) : Prop :=
  W.heap[xb]? = some (.cells #[.int .i64 st, xr] 24) ∧ W.ownsRow (xb + 1) 62 1 xr i (tableL i 1 (fun t _ => V t)) ∧ W1.grows W
theorem MadeF.grow {W1 W W2 : World} {xb : Nat} {st : Int} {i : Nat} {xr : Value} {V : Nat → Value} (h : MadeF W1 W xb st i xr V) (g : W.grows W2) : MadeF W1 W2 xb st i xr V :=
  ⟨g.heap_of h.1, h.2.1.grow g, h.2.2.trans g⟩
theorem MadeF.box {W1 W W2 : World} {xb : Nat} {st : Int} {i : Nat} {xr : Value} {V : Nat → Value} (h : MadeF W1 W xb st i xr V) (g : W.grownBy W2 xr.ownBlock) : W2.heap[xb]? = some (.cells #[.int .i64 st, xr] 24) := by
  rw [g.block xb (World.lt_of_block h.1) (fun e => by have := (h.2.1.lt xb e.symm).1; omega)]
  exact h.1
theorem MadeF.push {W1 W W2 : World} {xb : Nat} {st : Int} {i : Nat} {xr v' : Value} {V : Nat → Value} (h : MadeF W1 W xb st i xr V) (hb : W1.heap.size ≤ xb)
    (h' : W2.ownsRow (xb + 1) 62 1 v' (i + 1) (tableL i 1 (fun t _ => V t) ++ tableL 1 1 (fun _ _ => V i))) (g : W.grownBy W2 xr.ownBlock) :
    MadeF W1 (W2.setCell ⟨xb, 1, none⟩ v') xb st (i + 1) v' V := by
  refine ⟨boxX_store (h.box g) v', ?_, ?_⟩
  · rw [tableL_snoc]
    exact h'.set (show xb < xb + 1 by omega) _
  · exact (World.grownBy.grows g h.2.1 (W0 := W1) h.2.2 (by omega)).setCell hb _
/-- what else the call owns stays, too -/
theorem MadeF.also {W1 W W2 : World} {xb : Nat} {st : Int} {i : Nat} {xr v' ov : Value} {V : Nat → Value} {n : Nat} {xs : List Value} (h : MadeF W1 W xb st i xr V) (ho : W.ownsRow (xb + 1) 3 1 ov n xs) (g : W.grownBy W2 xr.ownBlock) :
    (W2.setCell ⟨xb, 1, none⟩ v').ownsRow (xb + 1) 3 1 ov n xs := (ho.other h.2.1 (by decide) g).set (show xb < xb + 1 by omega) _
theorem MadeF.beside {W1 W W2 : World} {xb : Nat} {st : Int} {i : Nat} {xr ov : Value} {V : Nat → Value} {n : Nat} {xs : List Value} (h : MadeF W1 W xb st i xr V) (hb : W1.heap.size ≤ xb) (ho : W.ownsRow (xb + 1) 3 1 ov n xs) (g : W.grownBy W2 ov.ownBlock) : MadeF W1 W2 xb st i xr V := by
  refine ⟨?_, h.2.1.other ho (by decide) g, World.grownBy.grows g ho (W0 := W1) h.2.2 (by omega)⟩
  rw [g.block xb (World.lt_of_block h.1) (fun e => by have := (ho.lt xb e.symm).1; omega)]
  exact h.1
theorem MadeF.written {W1 W : World} {xb : Nat} {st : Int} {i : Nat} {xr : Value} {V : Nat → Value} (h : MadeF W1 W xb st i xr V) (hb : W1.heap.size ≤ xb) {ob : Nat} (hob : xb < ob) {ys : Array Value} (hc : W.heap[ob]? = some (.cells ys 3)) (k : Nat) (u : Value) :
    MadeF W1 (W.setCell ⟨ob, k, none⟩ u) xb st i xr V := by
  refine ⟨?_, ownsRow_setElse h.2.1 hc (by decide) k u, h.2.2.setCell (show W1.heap.size ≤ ob by omega) _⟩
  rw [World.setCell_heap_other (by omega)]
  exact h.1
/-- the block of a row that is there -/
theorem ownsRow_block {W : World} {base : Nat} {e : TypeId} {sz : Nat} {g n cap : Nat} {xs : List Value} (h : W.ownsRow base e sz (.slice (some ⟨g, 0, none⟩) n cap) n xs) (hn : 0 < n) : base ≤ g ∧ ∃ ys, W.heap[g]? = some (.cells ys e) := by
  rcases h.2 with ⟨he, _⟩ | ⟨g', cap', cur, he, hg, hgg, _⟩
  · cases he
  · cases he; exact ⟨hg, _, hgg⟩
end Go.Proofs.Ytjpccfpmhmddjaa

/-
  What is proved: plain words for PassFree: putting one pass after another in its place; a job of whose edges just the first passes are taken.
-/
namespace Go.Proofs.Ytjpccfpmhmddjaa
open Go.RowKit

/-- the numbers j and j + 1 of a list change places -/
def swN (g : Nat → Nat) (j : Nat) (x : Nat) : Nat := if x = j then g (j + 1) else if x = j + 1 then g j else g x
theorem swN_perm (g : Nat → Nat) {n j : Nat} (h : j + 1 < n) : ((List.range n).map (swN g j)).Perm ((List.range n).map g) := by
  have e : List.range n = List.range j ++ (j :: (j + 1) :: List.range' (j + 2) (n - (j + 2))) := by
    have h1 : List.range n = List.range' 0 j ++ List.range' j (n - j) := by
      have := List.range'_append_1 (s := 0) (m := j) (n := n - j)
      rw [Nat.zero_add, show j + (n - j) = n by omega] at this
      rw [List.range_eq_range', this]
    rw [h1, ← List.range_eq_range', show n - j = (n - (j + 2)) + 1 + 1 by omega, List.range'_succ, List.range'_succ]
  rw [e]
  simp only [List.map_append, List.map_cons]
  have e1 : (List.range j).map (swN g j) = (List.range j).map g := List.map_congr_left fun x hx => by
    have := List.mem_range.1 hx
    unfold swN; rw [if_neg (by omega), if_neg (by omega)]
  have e2 : (List.range' (j + 2) (n - (j + 2))).map (swN g j) = (List.range' (j + 2) (n - (j + 2))).map g := List.map_congr_left fun x hx => by
    have := (List.mem_range'_1.1 hx).1
    unfold swN; rw [if_neg (by omega), if_neg (by omega)]
  have e3 : swN g j j = g (j + 1) := by unfold swN; rw [if_pos rfl]
  have e4 : swN g j (j + 1) = g j := by unfold swN; rw [if_neg (by omega), if_pos rfl]
  rw [e1, e2, e3, e4]
  exact List.Perm.append_left _ (List.Perm.swap ..)
theorem sw_set (g : Nat → Nat) {n j : Nat} (h : j + 1 < n) :
    ((tableL n 1 (fun x _ => Value.int .i64 (g x : Nat))).set (j + 1) (.int .i64 (g j : Nat))).set j (.int .i64 (g (j + 1) : Nat)) = tableL n 1 (fun x _ => Value.int .i64 (swN g j x : Nat)) := by
  rw [tableL_map, tableL_map]
  apply List.ext_getElem?
  intro i
  simp only [List.getElem?_set, List.length_set, List.length_map, List.length_range, List.getElem?_map]
  rcases Nat.lt_or_ge i n with hi | hi
  · rw [List.getElem?_range hi]
    unfold swN
    by_cases h1 : j = i
    · subst h1; rw [if_pos rfl, if_pos hi]; simp
    · rw [if_neg h1]
      by_cases h2 : j + 1 = i
      · subst h2; rw [if_pos rfl, if_pos hi]; simp
      · rw [if_neg h2]
        simp only [Option.map_some]
        rw [if_neg (fun e => h1 e.symm), if_neg (fun e => h2 e.symm)]
  · rw [if_neg (by omega), if_neg (by omega)]
    simp [hi]
theorem leP_trans {a d : Nat → Int} {i j k : Nat} (h1 : leP a d i j) (h2 : leP a d j k) : leP a d i k := by
  unfold leP earlierB at *
  by_cases c1 : d i ≤ 0 <;> by_cases c2 : d j ≤ 0 <;> by_cases c3 : d k ≤ 0 <;> simp [c1, c2, c3] at * <;> omega
theorem leP_of_earlier {a d : Nat → Int} {i j : Nat} (h : earlierB (a i) (d i) (a j) (d j) = true) : leP a d i j := by
  unfold leP earlierB at *
  by_cases c1 : d i ≤ 0 <;> by_cases c2 : d j ≤ 0 <;> simp [c1, c2] at * <;> omega
/-- the first i are in order -/
def sortedTo (a d : Nat → Int) (g : Nat → Nat) (i : Nat) : Prop := ∀ x y, x < y → y < i → leP a d (g x) (g y)
/-- the first i + 1 are in order but for the one at k, that comes before those behind it -/
def sortedBut (a d : Nat → Int) (g : Nat → Nat) (i k : Nat) : Prop := (∀ x y, x < y → y ≤ i → x ≠ k → y ≠ k → leP a d (g x) (g y)) ∧ ∀ y, k < y → y ≤ i → leP a d (g k) (g y)
theorem sortedBut_start {a d : Nat → Int} {g : Nat → Nat} {i : Nat} (h : sortedTo a d g i) : sortedBut a d g i i :=
  ⟨fun x y h1 h2 h3 h4 => h x y h1 (by omega), fun y h1 h2 => absurd h1 (by omega)⟩
theorem sortedBut_step {a d : Nat → Int} {g : Nat → Nat} {i j : Nat} (hj : j + 1 ≤ i) (h : sortedBut a d g i (j + 1)) (he : leP a d (g (j + 1)) (g j)) : sortedBut a d (swN g j) i j := by
  obtain ⟨h1, h2⟩ := h
  have e3 : swN g j j = g (j + 1) := by unfold swN; rw [if_pos rfl]
  have e4 : swN g j (j + 1) = g j := by unfold swN; rw [if_neg (by omega), if_pos rfl]
  have e5 : ∀ x, x ≠ j → x ≠ j + 1 → swN g j x = g x := fun x a b => by unfold swN; rw [if_neg a, if_neg b]
  refine ⟨fun x y hxy hy hx hyk => ?_, fun y hy1 hy2 => ?_⟩
  · by_cases hx2 : x = j + 1
    · subst hx2
      rw [e4, e5 y hyk (by omega)]
      exact h1 j y (by omega) hy (by omega) (by omega)
    · rw [e5 x hx hx2]
      by_cases hy2 : y = j + 1
      · subst hy2
        rw [e4]
        exact h1 x j (by omega) (by omega) hx2 (by omega)
      · rw [e5 y hyk hy2]
        exact h1 x y hxy hy hx2 hy2
  · rw [e3]
    by_cases hy : y = j + 1
    · subst hy; rw [e4]; exact he
    · rw [e5 y (by omega) hy]
      exact h2 y (by omega) hy2
theorem sortedBut_end {a d : Nat → Int} {g : Nat → Nat} {i k : Nat} (h : sortedBut a d g i k) (he : ∀ j, k = j + 1 → leP a d (g j) (g (j + 1))) : sortedTo a d g (i + 1) := by
  obtain ⟨h1, h2⟩ := h
  intro x y hxy hy
  by_cases hx : x = k
  · subst hx; exact h2 y hxy (by omega)
  · by_cases hyk : y = k
    · subst hyk
      cases y with
      | zero => omega
      | succ j =>
        have h3 := he j rfl
        by_cases hxj : x = j
        · subst hxj; exact h3
        · exact leP_trans (h1 x j (by omega) (by omega) hx (by omega)) h3
    · exact h1 x y hxy (by omega) hx hyk
theorem sortedTo_pairwise {a d : Nat → Int} {g : Nat → Nat} {n : Nat} (h : sortedTo a d g n) : ((List.range n).map g).Pairwise (leP a d) := by
  rw [List.pairwise_map]
  rw [List.pairwise_iff_getElem]
  intro i j hi hj hij
  simp only [List.getElem_range]
  exact h i j hij (by simpa using hj)

/-- just the first passes -/
def Job.first (J : Job) : Job := ⟨J.start, J.n, fun _ => 1, J.pk, J.lv⟩
theorem Job.Ok.first {J : Job} (h : J.Ok) : J.first.Ok :=
  ⟨h.n1, h.n4, fun i hi => by show 1 ≤ 1; omega, fun i hi => by show 1 ≤ 6; omega, h.st, fun i k hi hk => h.pk i k hi (Nat.lt_of_lt_of_le hk (h.l1 i hi)), fun i k hi hk => h.lv i k hi (Nat.lt_of_lt_of_le hk (h.l1 i hi))⟩
theorem perm_order {J : Job} {g : Nat → Nat} (hp : ((List.range J.n).map g).Perm (List.range J.n)) : J.first.OrdOk J.n g := by
  refine ⟨fun i hi => ?_, fun r hr => ?_⟩
  · have : g i ∈ (List.range J.n).map g := List.mem_map.2 ⟨i, List.mem_range.2 hi, rfl⟩
    exact List.mem_range.1 (hp.mem_iff.1 this)
  · rw [walkP_count, hp.count_eq, count_range, if_pos (show r < J.n from hr)]
    rfl
end Go.Proofs.Ytjpccfpmhmddjaa

/-
  What is proved: PassFree returns true (the walk).
-/
namespace Go.Proofs.Ytjpccfpmhmddjaa
open Go.RowKit
attribute [local irreducible] Go.wpCalm

set_option maxRecDepth 100000 in
set_option maxHeartbeats 16000000 in
theorem free_w (w : World) (v : Value) (J : Job) (hv : RawAt w v J) :
    Calls Try.prog 11 #[v] w fun e w' => e = .returned (.bool true) ∧ w.grows w' := by
  obtain ⟨rv, row, rfl, hs, hr⟩ := hv
  have Hv := Lib.hid (show RawAt w (.agg #[.int .i64 J.start, rv]) J from ⟨rv, row, rfl, hs, hr⟩)
  have HX := Lib.hid (BoxAt.start (w := w) (rv := rv) (J := J) ⟨rv, row, rfl, hs, hr⟩)
  clear hs hr
  have c0 := HX.out.2.2.1; have c1 := HX.out.2.2.2
  have h38 := fun W h => fine_c W (.agg #[.int .i64 J.start, rv]) J h
  go_enter Try.func11, Try.ntmps11
  by_cases hc : J.check = 0
  · rw [decide_eq_true hc] at h38
    have Hc := Lib.hid hc
    have HJ := Lib.hid ((Job.Ok_iff J).2 hc)
    clear hc
    obtain ⟨jb, jo, jcap, rb, ro, rc, hrv, hjc, hjc2, hR⟩ := Hv.out.job HJ.out
    obtain ⟨rfl⟩ : rv = .slice (some ⟨jb, jo, none⟩) J.n jcap := by simpa using hrv
    have HR := Lib.hid hR
    unfold maxLen at hjc2
    have hn1 := HJ.out.n1
    have hn4 := HJ.out.n4
    have hn9 : J.n ≤ 1000000000 := by omega
    clear hR
    go_wp2_with (first
      | (go_at_call 38; refine (h38 _ (HX.out.1.mono (by (repeat (first | exact World.grows.refl _ | assumption | refine World.grows.alloc ?_ _ | refine World.grows.plus ?_ _ _ | refine World.grows.drew ?_))))).mono ?_; rintro e W2 ⟨rfl, hg⟩; replace HX := Lib.hid (HX.out.mono (World.grows.trans (by (repeat (first | exact World.grows.refl _ | assumption | refine World.grows.alloc ?_ _ | refine World.grows.plus ?_ _ _ | refine World.grows.drew ?_))) hg)); replace c0 := HX.out.2.2.1; replace c1 := HX.out.2.2.2; clear hg)
      | (go_at_call 44; fail))
    clear h38
    replace HR := Lib.hid (HR.out.mono HX.out.2.1)
    obtain ⟨W1, rfl⟩ : ∃ W1, W1 = W2 := ⟨_, rfl⟩
    have HX0 := Lib.hid HX.out.2.1
    have hM0 : MadeF W1 (W1.alloc (.cells #[.int .i64 J.start, .slice none 0 0] 24)) W1.heap.size J.start 0 (.slice none 0 0) (fun t => .slice (some ⟨rb t, ro t, none⟩) 1 (rc t)) := ⟨heap_alloc_new _ _, World.ownsRow_nil _ _ _ _, by (repeat (first | exact World.grows.refl _ | assumption | refine World.grows.alloc ?_ _ | refine World.grows.plus ?_ _ _ | refine World.grows.drew ?_))⟩
    have ho0 : (W1.alloc (.cells #[.int .i64 J.start, .slice none 0 0] 24)).ownsRow (W1.heap.size + 1) 3 1 (.slice none 0 0) 0 (tableL 0 1 (fun i _ => .int .i64 (i : Nat))) := World.ownsRow_nil _ _ _ _
    go_loopw [4, 5] (fun s i wr => ∃ q : Nat, q ≤ J.n ∧ i = .int .i64 q ∧ Hid (∃ xr, MadeF W1 wr W1.heap.size J.start q xr (fun t => .slice (some ⟨rb t, ro t, none⟩) 1 (rc t))) ∧ Hid (wr.ownsRow (W1.heap.size + 1) 3 1 s q (tableL q 1 (fun i _ => .int .i64 (i : Nat))))) (fun _ i _ => J.n - (intOf i).toNat)
    case atStart => exact ⟨0, by omega, rfl, Lib.hid ⟨_, hM0⟩, Lib.hid ho0⟩
    case round =>
      obtain ⟨q, hq, rfl, hM, hO⟩ := hrel
      obtain ⟨xr, hM⟩ := hM.out
      have HM := Lib.hid hM
      clear hM hM0 ho0
      replace HX := Lib.hid (HX.out.mono HM.out.2.2); replace c0 := HX.out.2.2.1; replace c1 := HX.out.2.2.2
      obtain ⟨x0, x1, xf⟩ := boxX_cells HM.out.1
      obtain ⟨oo, oc, hv⟩ : ∃ oo oc, u4 = .slice oo q oc := by
        rcases hO.out.2 with ⟨rfl, hn⟩ | ⟨g, cap, cur, rfl, _⟩
        · rw [hn]; exact ⟨_, _, rfl⟩
        · exact ⟨_, _, rfl⟩
      subst hv
      by_cases hlt : q < J.n
      · have hlti : (q : Int) < J.n := by omega
        have z0 := HM.out.2.2.cell_of (HR.out.row q hlt)
        have hrc := HR.out.cap q hlt
        unfold maxLen at hrc
        have hl1 := HJ.out.l1 q hlt
        have hrc1 : (1 : Int) ≤ rc q := by omega
        have hrc0 : 1 ≤ rc q := by omega
        go_wp2
        (refine wp_region_made 9 8 _ rfl (by kernel_rfl) (by kernel_rfl) (by decide) (by decide) rfl ?_; simp only [List.take_succ_cons, List.take_zero, List.drop_succ_cons, List.drop_zero, List.take_nil, List.drop_nil, List.append_nil, List.nil_append, List.cons_append, Nat.reduceAdd, Nat.reduceSub]; (repeat (refine wpCalm_step (fun K hK => ?_); go_simp; first | (refine hK _ ?_; clear hK K) | (apply Exists.intro; refine ⟨fun n' x' => ?_, hK _ ?_⟩; (fail); clear hK K))); refine wpCalm_nil ⟨((fun b => .slice (some ⟨b, 0, none⟩) 1 1), _), fun n' x' => (by go_simp; first | exact ⟨rfl, rfl⟩ | rfl), ?_⟩; intro kq x1q mq x2q)
        simp only
        go_wp2_with (first
          | (at_builtin; (refine wpList_append_r _ rfl _ _ _ (by rfl) (W1.heap.size + 1) 62 (.slice none 0 0) 1 24 Try.underlying22 el62 (by rfl) (by omega) _ _ _ (by rfl) ((HM.out.2.1).grow (by (repeat (first | exact World.grows.refl _ | assumption | refine World.grows.alloc ?_ _ | refine World.grows.plus ?_ _ _ | refine World.grows.drew ?_)))) _ (by rfl) 1 _ (SliceAt.src (by omega) ((one_slice _ _ _ _ (by simp)).mono (World.grows_plus _ _ _))) (by simp [tableL, Value.oneCell']) (by unfold maxLen; omega) (by omega) (by have := World.lt_of_block HM.out.1; simp; omega) ?_; intro v9 w9 hown hgr; obtain ⟨g9, cap9, rfl, hgb⟩ := hown.form (by omega); have HN := Lib.hid ((HM.out.grow (by (repeat (first | exact World.grows.refl _ | assumption | refine World.grows.alloc ?_ _ | refine World.grows.plus ?_ _ _ | refine World.grows.drew ?_)))).push (Nat.le_refl _) hown hgr); have HOn := Lib.hid ((HM.out.grow (by (repeat (first | exact World.grows.refl _ | assumption | refine World.grows.alloc ?_ _ | refine World.grows.plus ?_ _ _ | refine World.grows.drew ?_)))).also (v' := .slice (some ⟨g9, 0, none⟩) (q + 1) cap9) (hO.out.grow (by (repeat (first | exact World.grows.refl _ | assumption | refine World.grows.alloc ?_ _ | refine World.grows.plus ?_ _ _ | refine World.grows.drew ?_)))) hgr); have y9 := (HM.out.grow (by (repeat (first | exact World.grows.refl _ | assumption | refine World.grows.alloc ?_ _ | refine World.grows.plus ?_ _ _ | refine World.grows.drew ?_)))).box hgr; have y0 := (boxX_cells y9).1; have y1 := (boxX_cells y9).2.1; have yf := (boxX_cells y9).2.2; clear y9 hgr hown))
          | (at_builtin; go_loud (refine wpList_append_r _ rfl _ _ _ (by rfl) (W1.heap.size + 1) 3 (.int .i64 0) 1 8 Try.underlying25 el3 (by rfl) (by omega) _ _ _ (by rfl) (HOn.out.grow (by (repeat (first | exact World.grows.refl _ | assumption | refine World.grows.alloc ?_ _ | refine World.grows.plus ?_ _ _ | refine World.grows.drew ?_)))) _ (by rfl) 1 _ (SliceAt.src (by omega) (one_slice _ _ _ _ (by simp))) (ints_one _ _) (by unfold maxLen; omega) (by omega) (by have := World.lt_of_block HN.out.1; simp at this ⊢; omega) ?_; intro v8 w8 hown hgr; have HN8 := Lib.hid ((HN.out.grow (by (repeat (first | exact World.grows.refl _ | assumption | refine World.grows.alloc ?_ _ | refine World.grows.plus ?_ _ _ | refine World.grows.drew ?_)))).beside (Nat.le_refl _) (HOn.out.grow (by (repeat (first | exact World.grows.refl _ | assumption | refine World.grows.alloc ?_ _ | refine World.grows.plus ?_ _ _ | refine World.grows.drew ?_)))) hgr); have HO8 := Lib.hid (own_push hown rfl); clear hgr hown))
          | (go_at_call 44; fail))
        go_roundw
        case rel => exact ⟨q + 1, by omega, by go_num, Lib.hid ⟨_, HN8.out⟩, HO8⟩
        case measure => change J.n - (intOf (Value.int IntKind.i64 ((q : Int) + 1))).toNat < J.n - (intOf (Value.int IntKind.i64 (q : Int))).toNat; simp [intOf] <;> omega
      · have hqe : q = J.n := by omega
        subst hqe
        obtain ⟨og, ocap, hoe, hob1⟩ := hO.out.form (by omega)
        cases hoe
        obtain ⟨hog, -⟩ := ownsRow_block hO.out (by omega)
        have hO0 := hO.out
        obtain ⟨xg, xcap, hxe, hxb1⟩ := HM.out.2.1.form (by omega)
        subst hxe
        obtain ⟨W2, rfl⟩ : ∃ W2, W2 = wr := ⟨_, rfl⟩
        go_wp2
        go_loopw [6] (fun i wr => ∃ (s : Nat) (g : Nat → Nat), s ≤ J.n ∧ i = .int .i64 s ∧ Hid (MadeF W1 wr W1.heap.size J.start J.n (.slice (some ⟨xg, 0, none⟩) J.n xcap) (fun t => .slice (some ⟨rb t, ro t, none⟩) 1 (rc t))) ∧ Hid (wr.ownsRow (W1.heap.size + 1) 3 1 (.slice (some ⟨og, 0, none⟩) J.n oc) J.n (tableL J.n 1 (fun i _ => .int .i64 (g i : Nat)))) ∧ Hid (((List.range J.n).map g).Perm (List.range J.n)) ∧ Hid (sortedTo (fun r => J.pk r 0) (fun r => J.lv r 0) g s)) (fun i _ => J.n - (intOf i).toNat)
        case atStart => exact ⟨0, fun i => i, by omega, rfl, HM, hO, Lib.hid (by simp), Lib.hid fun x y _ h => absurd h (by omega)⟩
        case round =>
          obtain ⟨s, g, hs, rfl, hM2, hO2, hP, hS⟩ := hrel
          clear HX c0 c1 HM hO hO0 x0 x1 xf hxb1 hog
          by_cases hlt : s < J.n
          · have hlti : (s : Int) < J.n := by omega
            go_wp2
            go_loopw [7] (fun k wr => ∃ (t : Nat) (g : Nat → Nat), t ≤ s ∧ k = .int .i64 t ∧ Hid (MadeF W1 wr W1.heap.size J.start J.n (.slice (some ⟨xg, 0, none⟩) J.n xcap) (fun t => .slice (some ⟨rb t, ro t, none⟩) 1 (rc t))) ∧ Hid (wr.ownsRow (W1.heap.size + 1) 3 1 (.slice (some ⟨og, 0, none⟩) J.n oc) J.n (tableL J.n 1 (fun i _ => .int .i64 (g i : Nat)))) ∧ Hid (((List.range J.n).map g).Perm (List.range J.n)) ∧ Hid (sortedBut (fun r => J.pk r 0) (fun r => J.lv r 0) g s t)) (fun k _ => (intOf k).toNat)
            case atStart => exact ⟨s, g, by omega, rfl, hM2, hO2, hP, Lib.hid (sortedBut_start hS.out)⟩
            case round =>
              clear hM2 hO2 hP hS
              obtain ⟨t, g, ht, rfl, hM, hO, hP, hS⟩ := hrel
              obtain ⟨x0, x1, xf⟩ := boxX_cells hM.out.1
              rcases Nat.eq_zero_or_pos t with ht0 | ht0
              · subst ht0
                go_wp2
                (refine wp_region_calm (by kernel_rfl) (by kernel_rfl) ?_; (repeat (refine wpCalm_step (fun K hK => ?_); go_simp; first | (refine hK _ ?_; clear hK K) | (apply Exists.intro; refine ⟨fun n' x' => ?_, hK _ ?_⟩; (fail); clear hK K))); refine wpCalm_nil ?_; intro nq xq)
                go_wp2
                go_roundw
                case rel => exact ⟨s + 1, g, by omega, by go_num, Lib.hid (hM.out.grow (by (repeat (first | exact World.grows.refl _ | assumption | refine World.grows.alloc ?_ _ | refine World.grows.plus ?_ _ _ | refine World.grows.drew ?_)))), Lib.hid (hO.out.grow (by (repeat (first | exact World.grows.refl _ | assumption | refine World.grows.alloc ?_ _ | refine World.grows.plus ?_ _ _ | refine World.grows.drew ?_)))), hP, Lib.hid (sortedBut_end hS.out fun j hj => absurd hj (by omega))⟩
                case measure => change J.n - (intOf (Value.int IntKind.i64 ((s : Int) + 1))).toNat < J.n - (intOf (Value.int IntKind.i64 (s : Int))).toNat; simp [intOf] <;> omega
              · obtain ⟨j, hjt⟩ : ∃ j, t = j + 1 := ⟨t - 1, by omega⟩
                have hj1 : t < J.n := by omega
                have hj0 : j < J.n := by omega
                have hg1 : g t < J.n := (perm_order hP.out).lt _ hj1
                have hg0 : g j < J.n := (perm_order hP.out).lt _ hj0
                have o1 : wr.cell? ⟨og, t, none⟩ = some (.int .i64 (g t : Nat)) := by
                  rw [hO.out.cellAt t (by omega), tableL_map]; simp [hj1]
                have o0 : wr.cell? ⟨og, j, none⟩ = some (.int .i64 (g j : Nat)) := by
                  rw [hO.out.cellAt j (by omega), tableL_map]; simp [hj0]
                have k1 : wr.cell? ⟨xg, g t, none⟩ = some (.slice (some ⟨rb (g t), ro (g t), none⟩) 1 (rc (g t))) := by
                  rw [hM.out.2.1.cellAt (g t) (by omega), tableL_map]; simp [hg1]
                have k0 : wr.cell? ⟨xg, g j, none⟩ = some (.slice (some ⟨rb (g j), ro (g j), none⟩) 1 (rc (g j))) := by
                  rw [hM.out.2.1.cellAt (g j) (by omega), tableL_map]; simp [hg0]
                have f1 : wr.frozen? ⟨og, t, none⟩ = false := hO.out.frozenAt t
                have f0 : wr.frozen? ⟨og, j, none⟩ = false := hO.out.frozenAt j
                have l1 := HJ.out.l1 _ hg1; have l0 := HJ.out.l1 _ hg0
                have a1 := hM.out.2.2.cell_of (HR.out.pk _ 0 hg1 (by omega)); have b1 := hM.out.2.2.cell_of (HR.out.lv _ 0 hg1 (by omega))
                have a0 := hM.out.2.2.cell_of (HR.out.pk _ 0 hg0 (by omega)); have b0 := hM.out.2.2.cell_of (HR.out.lv _ 0 hg0 (by omega))
                simp only [Nat.zero_mul, Nat.add_zero] at a1 b1 a0 b0
                have v1 := HJ.out.pk _ 0 hg1 (by omega); have u1 := HJ.out.lv _ 0 hg1 (by omega)
                have v0 := HJ.out.pk _ 0 hg0 (by omega); have u0 := HJ.out.lv _ 0 hg0 (by omega)
                have hec := Lib.hid (fun W => earlier_c W (J.pk (g t) 0) (J.lv (g t) 0) (J.pk (g j) 0) (J.lv (g j) 0) (by omega) (by omega) (by omega) (by omega))
                clear v1 u1 v0 u0
                have hsw := Lib.hid (fun h => sortedBut_step (a := fun r => J.pk r 0) (d := fun r => J.lv r 0) (j := j) (g := g) (i := s) (by omega) (hjt ▸ hS.out) (leP_of_earlier (hjt ▸ h : earlierB (J.pk (g (j + 1)) 0) (J.lv (g (j + 1)) 0) (J.pk (g j) 0) (J.lv (g j) 0) = true)))
                have hst := Lib.hid (fun (h : earlierB (J.pk (g t) 0) (J.lv (g t) 0) (J.pk (g j) 0) (J.lv (g j) 0) = false) => sortedBut_end (a := fun r => J.pk r 0) (d := fun r => J.lv r 0) hS.out (fun j' hj' => by
                  obtain rfl : j' = j := by omega
                  rw [← hjt]
                  exact h))
                have hpm := Lib.hid ((swN_perm g (n := J.n) (j := j) (by omega)).trans hP.out)
                obtain ⟨G1, hG1⟩ : ∃ G1, g t = G1 := ⟨_, rfl⟩
                obtain ⟨G0, hG0⟩ : ∃ G0, g j = G0 := ⟨_, rfl⟩
                simp only [hG1, hG0] at o1 o0 k1 k0 hec hst hsw a1 b1 a0 b0 hg1 hg0 l1 l0
                generalize earlierB (J.pk G1 0) (J.lv G1 0) (J.pk G0 0) (J.lv G0 0) = E at hec hst hsw
                have HG := Lib.hid (And.intro hG1 (And.intro hG0 hjt))
                have hg1i : (G1 : Int) < J.n := by omega
                have hg0i : (G0 : Int) < J.n := by omega
                have hj1i : (t : Int) < J.n := by omega
                have hj0i : (j : Int) < J.n := by omega
                have hti : (0 : Int) < t := by omega
                have hjt2 : (t : Int) - 1 = j := by omega
                have w1 : IntKind.i64.wrap (j : Int) = j := wrapI (by omega)
                clear hG1 hG0 hjt
                cases E with
                | true =>
                  go_wp2
                  (refine wp_region_calm (by kernel_rfl) (by kernel_rfl) ?_; (repeat (refine wpCalm_step (fun K hK => ?_); go_simp; first | (refine hK _ ?_; clear hK K) | (apply Exists.intro; refine ⟨fun n' x' => ?_, hK _ ?_⟩; (exact hec.out _); clear hK K))); refine wpCalm_nil ?_; intro nq xq)
                  have hs1 := ((hO.out.stored t (.int .i64 (G0 : Nat))).1.stored j (.int .i64 (G1 : Nat))).1
                  have hs2 := sw_set g (n := J.n) (j := j) (by have := HG.out.2.2; omega)
                  rw [← HG.out.2.2, HG.out.1, HG.out.2.1] at hs2
                  rw [hs2] at hs1
                  have HS1 := Lib.hid hs1
                  obtain ⟨hb0, ys0, hy0⟩ := ownsRow_block hO.out (by omega)
                  obtain ⟨-, ys1, hy1⟩ := ownsRow_block (hO.out.stored t (.int .i64 (G0 : Nat))).1 (by omega)
                  have HM1 := Lib.hid ((hM.out.written (Nat.le_refl _) (by omega) hy0 t (.int .i64 (G0 : Nat))).written (Nat.le_refl _) (by omega) hy1 j (.int .i64 (G1 : Nat)))
                  clear hs1 hs2 hy0 hy1
                  go_wp2
                  go_region
                  go_wp2
                  go_roundw
                  case rel => exact ⟨j, swN g j, by have := HG.out.2.2; omega, by first | rfl | simp [hjt2], Lib.hid (HM1.out.grow (by (repeat (first | exact World.grows.refl _ | assumption | refine World.grows.alloc ?_ _ | refine World.grows.plus ?_ _ _ | refine World.grows.drew ?_)))), Lib.hid (HS1.out.grow (by (repeat (first | exact World.grows.refl _ | assumption | refine World.grows.alloc ?_ _ | refine World.grows.plus ?_ _ _ | refine World.grows.drew ?_)))), hpm, Lib.hid (hsw.out trivial)⟩
                  case measure => have := HG.out.2.2; simp [intOf] <;> omega
                | false =>
                  go_wp2
                  (refine wp_region_calm (by kernel_rfl) (by kernel_rfl) ?_; (repeat (refine wpCalm_step (fun K hK => ?_); go_simp; first | (refine hK _ ?_; clear hK K) | (apply Exists.intro; refine ⟨fun n' x' => ?_, hK _ ?_⟩; (exact hec.out _); clear hK K))); refine wpCalm_nil ?_; intro nq xq)
                  go_wp2
                  go_roundw
                  case rel => exact ⟨s + 1, g, by omega, by go_num, Lib.hid (hM.out.grow (by (repeat (first | exact World.grows.refl _ | assumption | refine World.grows.alloc ?_ _ | refine World.grows.plus ?_ _ _ | refine World.grows.drew ?_)))), Lib.hid (hO.out.grow (by (repeat (first | exact World.grows.refl _ | assumption | refine World.grows.alloc ?_ _ | refine World.grows.plus ?_ _ _ | refine World.grows.drew ?_)))), hP, Lib.hid (hst.out trivial)⟩
                  case measure => change J.n - (intOf (Value.int IntKind.i64 ((s : Int) + 1))).toNat < J.n - (intOf (Value.int IntKind.i64 (s : Int))).toNat; simp [intOf] <;> omega
          · have hse : s = J.n := by omega
            subst hse
            have HQ := Lib.hid (perm_order hP.out)
            have HTk := Lib.hid HJ.out.first
            have HRX := Lib.hid (show RawAt wr (.agg #[.int .i64 J.first.start, .slice (some ⟨xg, 0, none⟩) J.n xcap]) J.first from ⟨_, fun t => .slice (some ⟨rb t, ro t, none⟩) 1 (rc t), rfl, hM2.out.2.1.sliceAt fun i j hi hj => tableL_get _ hi hj, fun i hi => ⟨_, _, rfl, Nat.le_trans (HJ.out.l1 i hi) (HR.out.cap i hi).1, (HR.out.cap i hi).2, fun k j hk hj => ⟨_, _, rfl, by
              have hk0 : k = 0 := by have : k < 1 := hk; omega
              subst hk0
              rcases (by omega : j = 0 ∨ j = 1) with rfl | rfl
              · simpa [pas, Job.first] using hM2.out.2.2.cell_of (HR.out.pk i 0 hi (by have := HJ.out.l1 i hi; omega))
              · simpa [pas, Job.first] using hM2.out.2.2.cell_of (HR.out.lv i 0 hi (by have := HJ.out.l1 i hi; omega))⟩⟩⟩)
            have HK : Hid (IntsAt wr (.slice (some ⟨og, 0, none⟩) J.n oc) J.n (fun i => (g i : Nat))) := Lib.hid (hO2.out.sliceAt fun i j hi hj => tableL_get _ hi hj)
            obtain ⟨x0, x1, xf⟩ := boxX_cells hM2.out.1
            have hgw := Lib.hid (HX0.out.trans hM2.out.2.2)
            have hTc := (Job.Ok_iff J.first).1 HTk.out
            have e1 := HQ.out.follow hTc
            have a1 := Job.ordAns_ok e1
            rw [show natOf (fun i => ((g i : Nat) : Int)) = g from rfl] at a1
            have hfb := Lib.hid (fun hot l (hB : J.first.Best hot) (hl : Suf J.first hot (fun _ => 0) l) => Job.free_best HTk.out (fun _ _ => rfl) HQ.out (sortedTo_pairwise hS.out) hB hl)
            have h18 := Lib.hid (fun W (hW : RawAt W (.agg #[.int .i64 J.first.start, .slice (some ⟨xg, 0, none⟩) J.n xcap]) J.first) (hl : IntsAt W (.slice (some ⟨og, 0, none⟩) J.n oc) J.n (fun i => (g i : Nat))) => checkOrd_c W (.agg #[.int .i64 J.first.start, .slice (some ⟨xg, 0, none⟩) J.n xcap]) J.first hW _ J.n _ hl)
            simp only [e1, a1] at h18
            have Hct := Lib.hid hTc
            obtain ⟨N, hN⟩ : ∃ N, maxN (J.first.hotAt g) J.n = N := ⟨_, rfl⟩
            rw [hN] at h18 hfb
            clear e1 a1 hN hTc
            have HY := Lib.hid (show BoxAt wr wr W1.heap.size (.slice (some ⟨xg, 0, none⟩) J.n xcap) J.first from ⟨HRX.out, World.grows.refl _, x0, x1⟩)
            have y0 := HY.out.2.2.1; have y1 := HY.out.2.2.2
            clear HRX x0 x1 xf hM2 hO2 HQ hP hS
            generalize J.first = T at hfb h18 Hct HTk HY y0 y1
            obtain ⟨W5, rfl⟩ : ∃ W5, W5 = wr := ⟨_, rfl⟩
            go_wp2_with (go_at_call 44; fail)
            (refine (h18.out _ (HY.out.1.mono (by (repeat (first | exact World.grows.refl _ | assumption | refine World.grows.alloc ?_ _ | refine World.grows.plus ?_ _ _ | refine World.grows.drew ?_)))) (HK.out.mono (by (repeat (first | exact World.grows.refl _ | assumption | refine World.grows.alloc ?_ _ | refine World.grows.plus ?_ _ _ | refine World.grows.drew ?_))))).mono ?_; rintro e W2 ⟨rfl, hg⟩; replace HY := Lib.hid (HY.out.mono (World.grows.trans (by (repeat (first | exact World.grows.refl _ | assumption | refine World.grows.alloc ?_ _ | refine World.grows.plus ?_ _ _ | refine World.grows.drew ?_))) hg)); replace y0 := HY.out.2.2.1; replace y1 := HY.out.2.2.2; clear hg HK h18)
            go_wp2_with (go_at_call 44; fail)
            (refine (best_c _ _ T (HY.out.1.mono (by (repeat (first | exact World.grows.refl _ | assumption | refine World.grows.alloc ?_ _ | refine World.grows.plus ?_ _ _ | refine World.grows.drew ?_))))).mono ?_; rintro e W2 ⟨sv, hot, rfl, hg, -, hbb⟩; rw [Hct.out]; obtain ⟨hb1, l, hb2, -⟩ := hbb Hct.out; obtain rfl := hfb.out hot l hb1 hb2; replace HY := Lib.hid (HY.out.mono (World.grows.trans (by (repeat (first | exact World.grows.refl _ | assumption | refine World.grows.alloc ?_ _ | refine World.grows.plus ?_ _ _ | refine World.grows.drew ?_))) hg)); replace y0 := HY.out.2.2.1; replace y1 := HY.out.2.2.2; clear hg hbb hb1 hb2)
            go_wp2_with (go_at_call 15; refine (works_c _).mono ?_; rintro e W2 ⟨rfl, hg⟩; replace HY := Lib.hid (HY.out.mono (World.grows.trans (by (repeat (first | exact World.grows.refl _ | assumption | refine World.grows.alloc ?_ _ | refine World.grows.plus ?_ _ _ | refine World.grows.drew ?_))) hg)); clear hg)
            go_ret
            exact ⟨rfl, (hgw.out.trans HY.out.2.1).trans (by (repeat (first | exact World.grows.refl _ | assumption | refine World.grows.alloc ?_ _ | refine World.grows.plus ?_ _ _ | refine World.grows.drew ?_)))⟩
  · rw [decide_eq_false hc] at h38
    go_wp2_with (first
      | (go_at_call 38; refine (h38 _ (HX.out.1.mono (by (repeat (first | exact World.grows.refl _ | assumption | refine World.grows.alloc ?_ _ | refine World.grows.plus ?_ _ _ | refine World.grows.drew ?_))))).mono ?_; rintro e W2 ⟨rfl, hg⟩; replace HX := Lib.hid (HX.out.mono (World.grows.trans (by (repeat (first | exact World.grows.refl _ | assumption | refine World.grows.alloc ?_ _ | refine World.grows.plus ?_ _ _ | refine World.grows.drew ?_))) hg)); replace c0 := HX.out.2.2.1; replace c1 := HX.out.2.2.2; clear hg)
      | (go_at_call 15; refine (works_c _).mono ?_; rintro e W2 ⟨rfl, hg⟩; replace HX := Lib.hid (HX.out.mono (World.grows.trans (by (repeat (first | exact World.grows.refl _ | assumption | refine World.grows.alloc ?_ _ | refine World.grows.plus ?_ _ _ | refine World.grows.drew ?_))) hg)); clear hg))
    go_ret
    exact ⟨rfl, HX.out.2.1.trans (by (repeat (first | exact World.grows.refl _ | assumption | refine World.grows.alloc ?_ _ | refine World.grows.plus ?_ _ _ | refine World.grows.drew ?_)))⟩
end Go.Proofs.Ytjpccfpmhmddjaa

/-
  What is proved: the statement PassFree, at every input.
-/
namespace Go.Proofs.Ytjpccfpmhmddjaa
open Go.ChangeShapes Go.WideShapes Go.ChangeAt Go.RowKit

set_option maxRecDepth 100000 in
theorem passFree_lifted (os : Os) (started : os.Started) (H : Type) (enc : TypeId × Value → H) :
    ReturnsInHanded {} Try.checked os 11 .any (Rows.passFreeSpec.pre6 enc Try.prog Try.f11 Rows.passFreeRow.domain false) (Rows.passFreeSpec.post enc Try.prog Try.f11 false true false false) := by
  refine law_lifted (C := Try.checked) (tb := 4) started own_c laid_c (by kernel_rfl) Try.func11 (of_decide_eq_true (by kernel_rfl))
    (ChangeSpec.witness6 (enc := enc) (C := Try.checked) false ⟨#[], #[.agg #[.int .i64 0, .slice none 0 0]], []⟩ 8 (by kernel_rfl) (by kernel_rfl) (by kernel_rfl) (by kernel_rfl))
    rfl Try.underlying4 rfl (fun ds hl => ?_) (fun W base args ds ps hval hA => ?_)
  · match ds, hl with
    | [d1], _ => exact ⟨rfl, rfl, rfl⟩
  · have hA' : DataW.TrodAll enc Try.prog W 0 (fun _ => true) true Try.f11.params.toList args.toList ds ps := hA
    have hval' : ∀ (j : Nat) t v, Try.f11.params[j]? = some t → args[j]? = some v → Value.okWide Try.prog W .any base t v := hval
    rw [Try.params11] at hA' hval'
    obtain ⟨v1, d1, rfl, rfl, h1⟩ := trodAll_one hA'
    obtain ⟨J1, hJ1, hF1⟩ := job_of (hval' 0 24 v1 rfl rfl) h1
    exact free_w W v1 J1 hJ1

theorem passFree_holds : Rows.PassFreeSaid :=
  OpenClaim.holds_of_wide 11 Try.f11 rfl rfl rfl rfl rfl rfl rfl ⟨rfl, rfl, rfl, rfl, rfl⟩ rfl rfl rfl rfl rfl (by kernel_rfl) Try.func11 (by kernel_rfl)
    (of_decide_eq_true (by kernel_rfl)) (by unfold Func.isWrapper; first | (rw [if_pos (by decide +kernel)]; kernel_rfl) | (rw [if_neg (by decide +kernel)]; exact ⟨rfl, rfl⟩))
    (fun os started H enc _ => passFree_lifted os started H enc)
end Go.Proofs.Ytjpccfpmhmddjaa

