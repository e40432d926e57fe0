/-
  What is proved: plain words for PassTold.
-/
import Derived.Test.YtjpccfpmhmddjaaM15
import Derived.Test.YtjpccfpmhmddjaaM5
import Derived.Test.YtjpccfpmhmddjaaM4
import Derived.Test.YtjpccfpmhmddjaaM8
import Derived.Test.YtjpccfpmhmddjaaM18
import Derived.Test.YtjpccfpmhmddjaaM14
set_option linter.all false
namespace Go.Proofs.Ytjpccfpmhmddjaa
open Go.RowKit

theorem least_or (q : Nat → Bool) (m : Nat) : (∀ i, i < m → q i = false) ∨ ∃ k, k < m ∧ q k = true ∧ ∀ i, i < k → q i = false := by
  induction m with
  | zero => exact .inl fun i hi => absurd hi (by omega)
  | succ m ih =>
    rcases ih with h | ⟨k, hk, h1, h2⟩
    · by_cases hm : q m = true
      · exact .inr ⟨m, by omega, hm, h⟩
      · left
        intro i hi
        rcases Nat.lt_or_ge i m with h3 | h3
        · exact h i h3
        · have : i = m := by omega
          subst this
          simpa using hm
    · exact .inr ⟨k, by omega, h1, h2⟩
/-- what Blue answers for an order that is right -/
theorem Job.blue_told {J : Job} {m : Nat} {f : Nat → Int} {l : Int} (h : J.followErr m f = 0) :
    (J.blueErr m f l = 5 ∧ J.blueAns m f l = 0 ∧ ∀ i, i < m → J.hotAt (natOf f) i ≤ l) ∨
    ∃ k : Nat, k < m ∧ J.blueErr m f l = 0 ∧ J.blueAns m f l = k ∧ l < J.hotAt (natOf f) k ∧ ∀ i, i < k → J.hotAt (natOf f) i ≤ l := by
  rcases least_or (J.blueQ f l) m with h1 | ⟨k, hk, h1, h2⟩
  · left
    have hi : J.blueIdx m f l = -1 := fstIdx_none _ _ h1
    obtain ⟨e1, e2⟩ := Job.blue_none (l := l) h (by rw [hi]; omega)
    refine ⟨e1, e2, fun i hi => ?_⟩
    have := h1 i hi
    unfold Job.blueQ at this
    simpa using this
  · right
    have hi : J.blueIdx m f l = k := fstIdx_at _ _ _ hk h2 h1
    obtain ⟨e1, e2⟩ := Job.blue_ok (l := l) h (by rw [hi]; omega)
    refine ⟨k, hk, e1, by rw [e2, hi], ?_, fun i hik => ?_⟩
    · unfold Job.blueQ at h1; simpa using h1
    · have := h2 i hik
      unfold Job.blueQ at this
      simpa using this
/-- the heat of a place that is handed over as numbers -/
theorem Job.heat_at {J : Job} (hc : J.check = 0) {p : Nat → Nat} (hp : J.In p) : J.heatErr J.n (fun i => (p i : Nat)) = 0 ∧ J.heatAns J.n (fun i => (p i : Nat)) = J.heat p := by
  have e0 : J.posErr J.n (fun i => (p i : Nat)) = 0 := Job.posErr_ok fun i hi => by have := hp.le i hi; omega
  have e1 : J.heatErr J.n (fun i => (p i : Nat)) = 0 := by unfold Job.heatErr; rw [if_pos hc, e0]
  refine ⟨e1, ?_⟩
  have e2 : J.posP J.n (fun i => (p i : Nat)) = p := by
    obtain ⟨h1, h2, h3⟩ := Job.posP_In e0
    funext i
    rcases Nat.lt_or_ge i J.n with hi | hi
    · have := h3 i hi; omega
    · rw [h2 i hi, hp.out i hi]
  unfold Job.heatAns
  rw [if_pos e1, e2]
/-- the greatest of the first heats as the law keeps it -/
def mostN (h : Nat → Int) : Nat → Int
  | 0 => 0
  | k + 1 => if k = 0 ∨ mostN h k < h k then h k else mostN h k
theorem mostN_max (h : Nat → Int) : ∀ m, 1 ≤ m → mostN h m = maxN h m
  | 0, hm => by omega
  | m + 1, _ => by
    by_cases h0 : m = 0
    · subst h0; simp [mostN, maxN]
    · have ih := mostN_max h m (by omega)
      simp only [mostN, maxN]
      rw [ih]
      split
      · rename_i hc; omega
      · rename_i hc; omega
theorem Job.OrdOk.walkIn {J : Job} {m : Nat} {g : Nat → Nat} (h : J.OrdOk m g) {k : Nat} (hk : k ≤ m) : J.In (walkP g k) :=
  ⟨fun r hr => by rw [← h.all r hr]; exact walkP_mono r m k hk, fun r hr => walkP_out k (fun i hi => h.lt i (by omega)) r hr⟩
end Go.Proofs.Ytjpccfpmhmddjaa

/-
  What is proved: the heat of a place one step on.
-/
namespace Go.Proofs.Ytjpccfpmhmddjaa
open Go.RowKit

theorem sumTo_upd {f g : Nat → Int} {r : Nat} {x : Int} : ∀ n, r < n → (∀ i, i < n → i ≠ r → g i = f i) → g r = f r + x → sumTo g n = sumTo f n + x
  | 0, h, _, _ => absurd h (by omega)
  | n + 1, hr, h, hx => by
    simp only [sumTo]
    rcases Nat.lt_or_ge r n with h1 | h1
    · rw [sumTo_upd n h1 (fun i hi hne => h i (by omega) hne) hx, h n (by omega) (by omega)]
      omega
    · have : r = n := by omega
      subst this
      rw [sumTo_congr g f r (fun i hi => h i (by omega) (by omega)), hx]
      omega
theorem Job.heat_to (J : Job) (p : Nat → Nat) {r : Nat} (hr : r < J.n) : J.heat (Job.to p r) = J.heat p + J.lv r (p r) := by
  unfold Job.heat
  rw [sumTo_upd (f := J.row p) (g := J.row (Job.to p r)) (r := r) (x := J.lv r (p r)) J.n hr (fun i hi hne => by simp [Job.row, Job.to, upd, hne]) (by simp [Job.row, Job.to, upd, sumTo])]
  omega
theorem walkP_to (g : Nat → Nat) (k : Nat) : walkP g (k + 1) = Job.to (walkP g k) (g k) := rfl
end Go.Proofs.Ytjpccfpmhmddjaa

/-
  What is proved: plain words for PassTurned: the heat of the job turned round.
-/
namespace Go.Proofs.Ytjpccfpmhmddjaa
open Go.RowKit

/-- the passes of each edge in the opposite order -/
def Job.turned (J : Job) : Job := ⟨J.heat J.last, J.n, J.len, fun i k => J.pk i (J.len i - 1 - k) - J.lv i (J.len i - 1 - k), fun i k => -(J.lv i (J.len i - 1 - k))⟩
/-- the place as it is counted from the other end -/
def Job.turn (J : Job) (p : Nat → Nat) (i : Nat) : Nat := J.last i - p i
theorem sumTo_turned (f : Nat → Int) (n : Nat) : ∀ m, m ≤ n → sumTo (fun k => -(f (n - 1 - k))) m = sumTo f (n - m) - sumTo f n
  | 0, _ => by simp only [sumTo, Nat.sub_zero]; omega
  | m + 1, h => by
    have ih := sumTo_turned f n m (by omega)
    have e : n - m = (n - (m + 1)) + 1 := by omega
    have e2 : n - 1 - m = n - (m + 1) := by omega
    rw [e] at ih
    simp only [sumTo] at ih ⊢
    rw [ih, e2]; omega
theorem sumTo_sub (f g : Nat → Int) : ∀ n, sumTo (fun i => f i - g i) n = sumTo f n - sumTo g n
  | 0 => rfl
  | n + 1 => by simp only [sumTo]; rw [sumTo_sub f g n]; omega
theorem Job.turned_heat (J : Job) {q : Nat → Nat} (h : J.In q) : J.turned.heat q = J.heat (J.turn q) := by
  show J.start + sumTo (J.row J.last) J.n + sumTo (J.turned.row q) J.n = J.start + sumTo (J.row (J.turn q)) J.n
  have e : sumTo (J.turned.row q) J.n = sumTo (fun i => J.row (J.turn q) i - J.row J.last i) J.n := by
    refine sumTo_congr _ _ J.n fun i hi => ?_
    show sumTo (fun k => -(J.lv i (J.len i - 1 - k))) (q i) = sumTo (J.lv i) (J.last i - q i) - sumTo (J.lv i) (J.last i)
    have hl : J.last i = J.len i := by unfold Job.last; rw [if_pos hi]
    rw [hl]
    exact sumTo_turned _ _ _ (h.le i hi)
  rw [e, sumTo_sub]; omega
theorem Job.turned_hot (J : Job) {q : Nat → Nat} (h : J.In q) {r : Nat} (hr : r < J.n) (h0 : 0 < q r) : J.turned.hot (dn q r) r = J.hot (J.turn q) r := by
  have hdn : J.In (dn q r) := Job.in_dn r h
  have hl : J.last r = J.len r := by unfold Job.last; rw [if_pos hr]
  have hle := h.le r hr
  show J.turned.heat (dn q r) + (J.pk r (J.len r - 1 - dn q r r) - J.lv r (J.len r - 1 - dn q r r)) = J.heat (J.turn q) + J.pk r (J.last r - q r)
  rw [J.turned_heat hdn]
  have e : J.len r - 1 - dn q r r = J.last r - q r := by simp [Go.Proofs.Ytjpccfpmhmddjaa.dn, upd]; omega
  rw [e]
  have hh : J.heat (J.turn (dn q r)) = J.heat (J.turn q) + J.lv r (J.last r - q r) := by
    show J.start + sumTo (J.row (J.turn (dn q r))) J.n = J.start + sumTo (J.row (J.turn q)) J.n + J.lv r (J.last r - q r)
    rw [sumTo_upd (f := J.row (J.turn q)) (g := J.row (J.turn (dn q r))) (r := r) (x := J.lv r (J.last r - q r)) J.n hr ?_ ?_]
    · omega
    · intro i hi hir
      show sumTo (J.lv i) (J.last i - dn q r i) = sumTo (J.lv i) (J.last i - q i)
      simp only [Go.Proofs.Ytjpccfpmhmddjaa.dn, upd, if_neg hir]
    · show sumTo (J.lv r) (J.last r - dn q r r) = sumTo (J.lv r) (J.last r - q r) + J.lv r (J.last r - q r)
      have : J.last r - dn q r r = (J.last r - q r) + 1 := by simp [Go.Proofs.Ytjpccfpmhmddjaa.dn, upd]; omega
      rw [this]; rfl
  rw [hh]; omega
theorem Job.turned_ways (J : Job) (l : Int) : ∀ (d : Nat) {q : Nat → Nat}, J.In q → J.turned.waysF l d q = J.togoF l d (J.turn q)
  | 0, _, _ => rfl
  | d + 1, q, h => by
    show sumN (fun r => if 0 < q r ∧ J.turned.hot (dn q r) r ≤ l then J.turned.waysF l d (dn q r) else 0) J.n = sumN (fun r => if J.turn q r < J.len r ∧ J.hot (J.turn q) r ≤ l then J.togoF l d (Job.to (J.turn q) r) else 0) J.n
    refine sumN_congr J.n fun r hr => ?_
    have hl : J.last r = J.len r := by unfold Job.last; rw [if_pos hr]
    have hle := h.le r hr
    have ht : J.turn q r = J.len r - q r := by unfold Job.turn; rw [hl]
    have e1 : J.turn q r < J.len r ↔ 0 < q r := by omega
    by_cases h0 : 0 < q r
    · have e2 : J.turn (dn q r) = Job.to (J.turn q) r := by
        funext i
        simp only [Job.turn, Job.to, Go.Proofs.Ytjpccfpmhmddjaa.dn, upd]
        by_cases hir : i = r
        · subst hir; simp; omega
        · simp [hir]
      rw [J.turned_hot h hr h0, J.turned_ways l d (Job.in_dn r h), e2]
      simp only [e1]
    · rw [if_neg (fun hc => h0 hc.1), if_neg (fun hc => h0 (e1.mp hc.1))]
end Go.Proofs.Ytjpccfpmhmddjaa

/-
  What is proved: as many ways lead forward from the first place to the last one as lead back from the last one to the first.
-/
namespace Go.Proofs.Ytjpccfpmhmddjaa
open Go.RowKit

def Job.pB (J : Job) (l : Int) : Nat → (Nat → Nat) → (Nat → Nat) → Nat
  | 0, p, q => if ∀ i, i < J.n → p i = q i then 1 else 0
  | d + 1, p, q => sumN (fun r => if 0 < q r ∧ J.hot (dn q r) r ≤ l then J.pB l d p (dn q r) else 0) J.n
def Job.pF (J : Job) (l : Int) : Nat → (Nat → Nat) → (Nat → Nat) → Nat
  | 0, p, q => if ∀ i, i < J.n → p i = q i then 1 else 0
  | d + 1, p, q => sumN (fun r => if p r < J.len r ∧ J.hot p r ≤ l then J.pF l d (Job.to p r) q else 0) J.n
theorem sumN_add (f g : Nat → Nat) : ∀ n, sumN (fun i => f i + g i) n = sumN f n + sumN g n
  | 0 => rfl
  | n + 1 => by simp only [sumN]; rw [sumN_add f g n]; omega
theorem sumN_swap (f : Nat → Nat → Nat) (n : Nat) : ∀ m, sumN (fun r => sumN (fun s => f r s) n) m = sumN (fun s => sumN (fun r => f r s) m) n
  | 0 => (sumN_zero n fun _ _ => rfl).symm
  | m + 1 => by
    simp only [sumN]
    rw [sumN_swap f n m, ← sumN_add]
theorem sumN_if (c : Prop) [Decidable c] (f : Nat → Nat) (n : Nat) : (if c then sumN f n else 0) = sumN (fun i => if c then f i else 0) n := by
  by_cases h : c
  · simp only [if_pos h]
  · simp only [if_neg h]; exact (sumN_zero n fun _ _ => rfl).symm
theorem Job.In.eq {J : Job} {p q : Nat → Nat} (hp : J.In p) (hq : J.In q) (h : ∀ i, i < J.n → p i = q i) : p = q := by
  funext i
  rcases Nat.lt_or_ge i J.n with hi | hi
  · exact h i hi
  · rw [hp.out i hi, hq.out i hi]
theorem Job.pB_pF (J : Job) (l : Int) : ∀ (d : Nat) {p q : Nat → Nat}, J.In p → J.In q → J.pB l d p q = J.pF l d p q
  | 0, _, _, _, _ => rfl
  | 1, p, q, hp, hq => by
    simp only [Job.pB, Job.pF]
    refine sumN_congr J.n fun r hr => ?_
    have hle := hq.le r hr
    by_cases h : 0 < q r ∧ ∀ i, i < J.n → p i = dn q r i
    · have e := hp.eq (Job.in_dn r hq) h.2
      have e2 : Job.to p r = q := by rw [e]; exact to_dn h.1
      have e3 : p r < J.len r := by rw [e]; simp [Go.Proofs.Ytjpccfpmhmddjaa.dn, upd]; omega
      rw [e2, e]
      rw [e] at e3
      by_cases hh : J.hot (dn q r) r ≤ l
      · rw [if_pos ⟨h.1, hh⟩, if_pos (show ∀ i, i < J.n → dn q r i = dn q r i from fun _ _ => rfl), if_pos ⟨e3, hh⟩, if_pos (show ∀ i, i < J.n → q i = q i from fun _ _ => rfl)]
      · rw [if_neg (fun hc => hh hc.2), if_neg (fun hc => hh hc.2)]
    · have hL : (if 0 < q r ∧ J.hot (dn q r) r ≤ l then (if ∀ i, i < J.n → p i = dn q r i then 1 else 0) else 0) = 0 := by
        by_cases hc : 0 < q r ∧ J.hot (dn q r) r ≤ l
        · rw [if_pos hc, if_neg (fun hx => h ⟨hc.1, hx⟩)]
        · rw [if_neg hc]
      have hR : (if p r < J.len r ∧ J.hot p r ≤ l then (if ∀ i, i < J.n → Job.to p r i = q i then 1 else 0) else 0) = 0 := by
        by_cases hc : p r < J.len r ∧ J.hot p r ≤ l
        · rw [if_pos hc, if_neg]
          intro hx
          have e := (Job.in_to hp hr hc.1).eq hq hx
          apply h
          rw [← e]
          refine ⟨by simp [Job.to, upd], fun i hi => ?_⟩
          show p i = dn (upd p r (p r + 1)) r i
          rw [dn_to]
        · rw [if_neg hc]
      rw [hL, hR]
  | d + 2, p, q, hp, hq => by
    have hL : J.pB l (d + 2) p q = sumN (fun r => sumN (fun s => if 0 < q r ∧ J.hot (dn q r) r ≤ l then (if p s < J.len s ∧ J.hot p s ≤ l then J.pF l d (Job.to p s) (dn q r) else 0) else 0) J.n) J.n := by
      rw [Job.pB]
      refine sumN_congr J.n fun r hr => ?_
      rw [J.pB_pF l (d + 1) hp (Job.in_dn r hq), ← sumN_if]
      rfl
    have hR : J.pF l (d + 2) p q = sumN (fun s => sumN (fun r => if 0 < q r ∧ J.hot (dn q r) r ≤ l then (if p s < J.len s ∧ J.hot p s ≤ l then J.pF l d (Job.to p s) (dn q r) else 0) else 0) J.n) J.n := by
      rw [Job.pF]
      refine sumN_congr J.n fun s hs => ?_
      by_cases hc : p s < J.len s ∧ J.hot p s ≤ l
      · simp only [if_pos hc]
        rw [← J.pB_pF l (d + 1) (Job.in_to hp hs hc.1) hq, Job.pB]
        refine sumN_congr J.n fun r hr => ?_
        rw [J.pB_pF l d (Job.in_to hp hs hc.1) (Job.in_dn r hq)]
      · simp only [if_neg hc]
        refine (sumN_zero J.n fun r hr => ?_).symm
        split <;> rfl
    rw [hL, hR, sumN_swap]
theorem Job.waysF_pB (J : Job) (l : Int) : ∀ (d : Nat) {q : Nat → Nat}, J.In q → d = J.deg q → J.waysF l d q = J.pB l d (fun _ => 0) q
  | 0, q, h, hd => by
    have e := Job.deg_zero h hd.symm
    rw [e]; simp [Job.waysF, Job.pB]
  | d + 1, q, h, hd => by
    rw [Job.waysF, Job.pB]
    refine sumN_congr J.n fun r hr => ?_
    by_cases hc : 0 < q r ∧ J.hot (dn q r) r ≤ l
    · rw [if_pos hc, if_pos hc]
      have := J.deg_dn hr hc.1
      exact J.waysF_pB l d (Job.in_dn r h) (by omega)
    · rw [if_neg hc, if_neg hc]
theorem Job.togoF_pF (J : Job) (l : Int) : ∀ (d : Nat) {p : Nat → Nat}, J.In p → d = J.rem p → J.togoF l d p = J.pF l d p J.last
  | 0, p, h, hd => by
    have e : ∀ i, i < J.n → p i = J.last i := fun i hi => by
      have h1 := sumN_eq_zero J.n hd.symm i hi
      have h2 := h.le i hi
      have h3 : J.last i = J.len i := by unfold Job.last; rw [if_pos hi]
      omega
    rw [Job.togoF, Job.pF, if_pos e]
  | d + 1, p, h, hd => by
    rw [Job.togoF, Job.pF]
    refine sumN_congr J.n fun r hr => ?_
    by_cases hc : p r < J.len r ∧ J.hot p r ≤ l
    · rw [if_pos hc, if_pos hc]
      have := J.rem_to hr hc.1
      exact J.togoF_pF l d (Job.in_to h hr hc.1) (by omega)
    · rw [if_neg hc, if_neg hc]
theorem Job.both_ways (J : Job) (l : Int) : J.togoN l (fun _ => 0) = J.waysN l J.last := by
  have hd : J.rem (fun _ => 0) = J.deg J.last := sumN_congr J.n fun i hi => by
    show J.len i - 0 = if i < J.n then J.len i else 0
    rw [if_pos hi]; omega
  unfold Job.togoN Job.waysN
  rw [J.togoF_pF l _ J.zero_in rfl, J.waysF_pB l _ J.last_in rfl, J.pB_pF l _ J.zero_in J.last_in, hd]
theorem Job.turned_waysN (J : Job) (l : Int) : J.turned.waysN l J.turned.last = J.waysN l J.last := by
  rw [← J.both_ways l]
  have hd : J.turned.deg J.turned.last = J.rem (fun _ => 0) := sumN_congr J.n fun i hi => by
    show (if i < J.n then J.len i else 0) = J.len i - 0
    rw [if_pos hi]; omega
  unfold Job.waysN Job.togoN
  rw [hd]
  have e : J.turn J.turned.last = fun _ => 0 := by
    funext i
    show J.last i - J.last i = 0
    omega
  rw [← e]
  exact J.turned_ways l _ (q := J.turned.last) J.last_in
theorem Job.Best.turned {J : Job} {hot : Int} (h : J.Best hot) : J.turned.Best hot :=
  ⟨by rw [J.turned_waysN]; exact h.1, fun l hl => by rw [J.turned_waysN]; exact h.2 l hl⟩
end Go.Proofs.Ytjpccfpmhmddjaa

/-
  What is proved: an order that is turned round is as hot for the job turned round.
-/
namespace Go.Proofs.Ytjpccfpmhmddjaa
open Go.RowKit

/-- the order from its end -/
def backO (m : Nat) (g : Nat → Nat) (i : Nat) : Nat := g (m - 1 - i)
theorem Job.turn_turn (J : Job) {p : Nat → Nat} (h : J.In p) : J.turn (J.turn p) = p := by
  funext i
  unfold Job.turn Job.last
  by_cases hi : i < J.n
  · rw [if_pos hi]; have := h.le i hi; omega
  · rw [if_neg hi]; have := h.out i (by omega); omega
theorem Job.turn_in (J : Job) {p : Nat → Nat} (h : J.In p) : J.In (J.turn p) :=
  ⟨fun i hi => by unfold Job.turn Job.last; rw [if_pos hi]; omega, fun i hi => by unfold Job.turn Job.last; rw [if_neg (by omega)]; omega⟩
theorem Job.OrdOk.last {J : Job} {m : Nat} {g : Nat → Nat} (h : J.OrdOk m g) : walkP g m = J.last := by
  refine (h.walkIn (Nat.le_refl _)).eq J.last_in fun i hi => ?_
  rw [h.all i hi]; unfold Job.last; rw [if_pos hi]
theorem Job.OrdOk.back_walk {J : Job} {m : Nat} {g : Nat → Nat} (h : J.OrdOk m g) : ∀ k, k ≤ m → walkP (backO m g) k = J.turn (walkP g (m - k))
  | 0, _ => by
    rw [Nat.sub_zero, h.last]
    funext i
    show 0 = J.last i - J.last i
    omega
  | k + 1, hk => by
    have ih := h.back_walk k (by omega)
    have e : m - k = (m - (k + 1)) + 1 := by omega
    have e2 : m - 1 - k = m - (k + 1) := by omega
    funext i
    show upd (walkP (backO m g) k) (backO m g k) (walkP (backO m g) k (backO m g k) + 1) i = _
    rw [ih, e]
    have hb : backO m g k = g (m - (k + 1)) := by unfold backO; rw [e2]
    rw [hb]
    generalize hr : g (m - (k + 1)) = r
    have hw : walkP g (m - (k + 1) + 1) = upd (walkP g (m - (k + 1))) r (walkP g (m - (k + 1)) r + 1) := by rw [← hr]; rfl
    have hlt := h.lt_len (k := m - (k + 1)) (by omega)
    rw [hr] at hlt
    have hrn := h.lt (m - (k + 1)) (by omega)
    rw [hr] at hrn
    rw [hw]
    unfold Job.turn upd
    by_cases hi : i = r
    · subst hi
      simp only [if_true]
      unfold Job.last
      rw [if_pos hrn]
      omega
    · simp only [if_neg hi]
theorem Job.OrdOk.back {J : Job} {m : Nat} {g : Nat → Nat} (h : J.OrdOk m g) : J.turned.OrdOk m (backO m g) :=
  ⟨fun i hi => h.lt _ (by omega), fun r hr => by
    rw [h.back_walk m (Nat.le_refl _), Nat.sub_self]
    show J.last r - 0 = J.len r
    unfold Job.last
    rw [if_pos (show r < J.n from hr)]; omega⟩
theorem Job.OrdOk.back_hot {J : Job} {m : Nat} {g : Nat → Nat} (h : J.OrdOk m g) {k : Nat} (hk : k < m) : J.turned.hotAt (backO m g) k = J.hotAt g (m - 1 - k) := by
  have e := h.back_walk (k + 1) (by omega)
  have e2 : m - (k + 1) = m - 1 - k := by omega
  rw [e2] at e
  have hin := h.walkIn (k := m - 1 - k) (by omega)
  have hlt := h.lt_len (k := m - 1 - k) (by omega)
  have hrn := h.lt (m - 1 - k) (by omega)
  have hd : dn (walkP (backO m g) (k + 1)) (backO m g k) = walkP (backO m g) k := dn_to _ _
  have h0 : 0 < walkP (backO m g) (k + 1) (backO m g k) := by
    show 0 < upd (walkP (backO m g) k) (backO m g k) (walkP (backO m g) k (backO m g k) + 1) (backO m g k)
    simp [upd]
  have hq : J.In (walkP (backO m g) (k + 1)) := by rw [e]; exact J.turn_in hin
  have := J.turned_hot hq (r := backO m g k) hrn h0
  rw [hd, e, J.turn_turn hin] at this
  exact this
theorem maxN_back (h : Nat → Int) (m : Nat) (hm : 1 ≤ m) : maxN (fun k => h (m - 1 - k)) m = maxN h m := by
  apply Int.le_antisymm
  · refine (maxN_le_iff m hm).2 fun k hk => ?_
    exact (maxN_le_iff m hm).1 (Int.le_refl _) (m - 1 - k) (by omega)
  · refine (maxN_le_iff m hm).2 fun k hk => ?_
    have := (maxN_le_iff (h := fun k => h (m - 1 - k)) m hm).1 (Int.le_refl _) (m - 1 - k) (by omega)
    have e : m - 1 - (m - 1 - k) = k := by omega
    simpa only [e] using this
theorem maxN_congr {f g : Nat → Int} : ∀ m, 1 ≤ m → (∀ k, k < m → f k = g k) → maxN f m = maxN g m := fun m hm h => by
  apply Int.le_antisymm
  · exact (maxN_le_iff m hm).2 fun k hk => by rw [h k hk]; exact (maxN_le_iff m hm).1 (Int.le_refl _) k hk
  · exact (maxN_le_iff m hm).2 fun k hk => by rw [← h k hk]; exact (maxN_le_iff m hm).1 (Int.le_refl _) k hk
theorem Job.OrdOk.back_max {J : Job} {m : Nat} {g : Nat → Nat} (h : J.OrdOk m g) (hm : 1 ≤ m) : maxN (J.turned.hotAt (backO m g)) m = maxN (J.hotAt g) m := by
  rw [maxN_congr m hm fun k hk => h.back_hot hk]
  exact maxN_back (J.hotAt g) m hm
end Go.Proofs.Ytjpccfpmhmddjaa

/-
  What is proved: a job in a box whose edges are made one after another.
-/
namespace Go.Proofs.Ytjpccfpmhmddjaa
open Go.RowKit

/-- the box xb holds a job of which i edges are made -/
def MadeX (W1 W : World) (xb : Nat) (st : Int) (T : Job) (i : Nat) (xr : Value) (row : Nat → Value) : Prop :=
  W.heap[xb]? = some (.cells #[.int .i64 st, xr] 24) ∧ W.ownsRow (xb + 1) 62 1 xr i (tableL i 1 (fun t _ => row t)) ∧ (∀ t, t < i → W.ownsRow (xb + 1) 65 2 (row t) (T.len t) (tableL (T.len t) 2 (pas T t))) ∧ W1.grows W
theorem MadeX.grow {W1 W W2 : World} {xb : Nat} {st : Int} {T : Job} {i : Nat} {xr : Value} {row : Nat → Value} (h : MadeX W1 W xb st T i xr row) (g : W.grows W2) : MadeX W1 W2 xb st T i xr row :=
  ⟨g.heap_of h.1, h.2.1.grow g, fun t ht => (h.2.2.1 t ht).grow g, h.2.2.2.trans g⟩
theorem boxX_cells {W : World} {xb : Nat} {a b : Value} (h : W.heap[xb]? = some (.cells #[a, b] 24)) : W.cell? ⟨xb, 0, none⟩ = some a ∧ W.cell? ⟨xb, 1, none⟩ = some b ∧ W.frozen? ⟨xb, 1, none⟩ = false := by
  unfold World.cell? World.frozen?
  simp only [h]
  refine ⟨rfl, rfl, by simp⟩
theorem boxX_store {W : World} {xb : Nat} {a b : Value} (h : W.heap[xb]? = some (.cells #[a, b] 24)) (v : Value) : (W.setCell ⟨xb, 1, none⟩ v).heap[xb]? = some (.cells #[a, v] 24) := by
  unfold World.setCell
  simp only [Array.getElem?_modify, h, if_true, Option.map_some]
  rfl
theorem el62 : Try.prog.knows 62 (.slice none 0 0) 1 24 := Program.knows_of (by kernel_rfl)
theorem tableL_pushV {i : Nat} {row : Nat → Value} {u : Value} : tableL (i + 1) 1 (fun t _ => if t < i then row t else u) = tableL i 1 (fun t _ => row t) ++ tableL 1 1 (fun _ _ => u) := by
  rw [tableL_snoc]
  congr 1
  · unfold tableL
    apply List.map_congr_left
    intro x hx
    have : x < i := by simpa using hx
    simp [this]
  · simp [tableL]
theorem MadeX.push {W1 W W2 : World} {xb : Nat} {st : Int} {T : Job} {i : Nat} {xr u v' : Value} {row : Nat → Value} (h : MadeX W1 W xb st T i xr row) (hb : W1.heap.size ≤ xb)
    (hu : W.ownsRow (xb + 1) 65 2 u (T.len i) (tableL (T.len i) 2 (pas T i))) (h' : W2.ownsRow (xb + 1) 62 1 v' (i + 1) (tableL i 1 (fun t _ => row t) ++ tableL 1 1 (fun _ _ => u))) (g : W.grownBy W2 xr.ownBlock) :
    MadeX W1 (W2.setCell ⟨xb, 1, none⟩ v') xb st T (i + 1) v' (fun t => if t < i then row t else u) := by
  have hne : some xb ≠ xr.ownBlock := fun e => by have := (h.2.1.lt xb e.symm).1; omega
  have hx2 : W2.heap[xb]? = some (.cells #[.int .i64 st, xr] 24) := by
    rw [g.block xb (World.lt_of_block h.1) hne]; exact h.1
  refine ⟨boxX_store hx2 v', ?_, fun t ht => ?_, ?_⟩
  · rw [tableL_pushV]
    exact h'.set (show xb < xb + 1 by omega) _
  · refine World.ownsRow.set ?_ (show xb < xb + 1 by omega) _
    by_cases hlt : t < i
    · simp only [hlt, if_true]
      exact (h.2.2.1 t hlt).other h.2.1 (by decide) g
    · have : t = i := by omega
      subst this
      simp only [Nat.lt_irrefl, if_false]
      exact hu.other h.2.1 (by decide) g
  · exact (World.grownBy.grows g h.2.1 (W0 := W1) h.2.2.2 (by omega)).setCell hb _
theorem MadeX.raw {W1 W : World} {xb : Nat} {st : Int} {T : Job} {xr : Value} {row : Nat → Value} (h : MadeX W1 W xb st T T.n xr row) (hs : T.start = st) : RawAt W (.agg #[.int .i64 st, xr]) T :=
  ⟨xr, row, by rw [hs], h.2.1.sliceAt fun i j hi hj => tableL_get _ hi hj, fun i hi => (h.2.2.1 i hi).sliceAt fun k j hk hj => tableL_get _ hk hj⟩
/-- two numbers beside each other -/
def prC (a b : Int) (_ j : Nat) : Value := if j = 0 then .int .i64 a else .int .i64 b
theorem pair_slice (w : World) (a b : Int) (t blk : Nat) (hb : blk = w.heap.size) : SliceAt (w.alloc (.cells #[.int .i64 a, .int .i64 b] t)) (.slice (some ⟨blk, 0, none⟩) 1 1) 1 2 (prC a b) := by
  subst hb
  refine ⟨_, _, rfl, by omega, by unfold maxLen; omega, fun i j hi hj => ⟨_, _, rfl, ?_⟩⟩
  have hi0 : i = 0 := by omega
  subst hi0
  rcases (by omega : j = 0 ∨ j = 1) with rfl | rfl <;> simp [go_sem, prC]
theorem pair_one (a b : Int) : ∀ u ∈ tableL 1 2 (prC a b), u.oneCell' = true := by
  intro u hu
  simp only [tableL, List.mem_map] at hu
  obtain ⟨k, _, rfl⟩ := hu
  unfold prC
  split <;> rfl
theorem pas_push {w : World} {base : Nat} {e : TypeId} {v : Value} {T : Job} {q d : Nat} {a b : Int} (ho : w.ownsRow base e 2 v (d + 1) (tableL d 2 (pas T q) ++ tableL 1 2 (prC a b))) (ha : a = T.pk q d) (hb : b = T.lv q d) :
    w.ownsRow base e 2 v (d + 1) (tableL (d + 1) 2 (pas T q)) := by
  rw [tableL_snoc]
  subst ha; subst hb
  have e : tableL 1 2 (prC (T.pk q d) (T.lv q d)) = (List.range 2).map (pas T q d) := by simp [tableL, prC, pas, List.range_succ]
  rw [← e]; exact ho
/-- a row of another type stays when a block is written to -/
theorem ownsRow_setElse {W : World} {base : Nat} {e e' : TypeId} {sz : Nat} {v : Value} {n : Nat} {xs : List Value} {ys : Array Value} (h : W.ownsRow base e sz v n xs) {b : Nat} (hb : W.heap[b]? = some (.cells ys e')) (hne : e ≠ e') (i : Nat) (u : Value) :
    (W.setCell ⟨b, i, none⟩ u).ownsRow base e sz v n xs := by
  refine ⟨h.1, ?_⟩
  rcases h.2 with hn | ⟨g, cap, cur, rfl, hg, hgg, rest⟩
  · exact .inl hn
  · refine .inr ⟨g, cap, cur, rfl, hg, ?_, rest⟩
    rw [World.setCell_heap_other]
    · exact hgg
    · rintro rfl
      rw [hb] at hgg
      cases hgg
      exact hne rfl
/-- the box xb holds a job of which i edges are taken from elsewhere -/
def MadeF (W1 W : World) (xb : Nat) (st : Int) (i : Nat) (xr : Value) (V : Nat → Value) : Prop :=
  W.heap[xb]? = some (.cells #[.int .i64 st, xr] 24) ∧ W.ownsRow (xb + 1) 62 1 xr i (tableL i 1 (fun t _ => V t)) ∧ W1.grows W
theorem MadeF.grow {W1 W W2 : World} {xb : Nat} {st : Int} {i : Nat} {xr : Value} {V : Nat → Value} (h : MadeF W1 W xb st i xr V) (g : W.grows W2) : MadeF W1 W2 xb st i xr V :=
  ⟨g.heap_of h.1, h.2.1.grow g, h.2.2.trans g⟩
theorem MadeF.box {W1 W W2 : World} {xb : Nat} {st : Int} {i : Nat} {xr : Value} {V : Nat → Value} (h : MadeF W1 W xb st i xr V) (g : W.grownBy W2 xr.ownBlock) : W2.heap[xb]? = some (.cells #[.int .i64 st, xr] 24) := by
  rw [g.block xb (World.lt_of_block h.1) (fun e => by have := (h.2.1.lt xb e.symm).1; omega)]
  exact h.1
theorem MadeF.push {W1 W W2 : World} {xb : Nat} {st : Int} {i : Nat} {xr v' : Value} {V : Nat → Value} (h : MadeF W1 W xb st i xr V) (hb : W1.heap.size ≤ xb)
    (h' : W2.ownsRow (xb + 1) 62 1 v' (i + 1) (tableL i 1 (fun t _ => V t) ++ tableL 1 1 (fun _ _ => V i))) (g : W.grownBy W2 xr.ownBlock) :
    MadeF W1 (W2.setCell ⟨xb, 1, none⟩ v') xb st (i + 1) v' V := by
  refine ⟨boxX_store (h.box g) v', ?_, ?_⟩
  · rw [tableL_snoc]
    exact h'.set (show xb < xb + 1 by omega) _
  · exact (World.grownBy.grows g h.2.1 (W0 := W1) h.2.2 (by omega)).setCell hb _
/-- what else the call owns stays, too -/
theorem MadeF.also {W1 W W2 : World} {xb : Nat} {st : Int} {i : Nat} {xr v' ov : Value} {V : Nat → Value} {n : Nat} {xs : List Value} (h : MadeF W1 W xb st i xr V) (ho : W.ownsRow (xb + 1) 3 1 ov n xs) (g : W.grownBy W2 xr.ownBlock) :
    (W2.setCell ⟨xb, 1, none⟩ v').ownsRow (xb + 1) 3 1 ov n xs := (ho.other h.2.1 (by decide) g).set (show xb < xb + 1 by omega) _
theorem MadeF.beside {W1 W W2 : World} {xb : Nat} {st : Int} {i : Nat} {xr ov : Value} {V : Nat → Value} {n : Nat} {xs : List Value} (h : MadeF W1 W xb st i xr V) (hb : W1.heap.size ≤ xb) (ho : W.ownsRow (xb + 1) 3 1 ov n xs) (g : W.grownBy W2 ov.ownBlock) : MadeF W1 W2 xb st i xr V := by
  refine ⟨?_, h.2.1.other ho (by decide) g, World.grownBy.grows g ho (W0 := W1) h.2.2 (by omega)⟩
  rw [g.block xb (World.lt_of_block h.1) (fun e => by have := (ho.lt xb e.symm).1; omega)]
  exact h.1
theorem MadeF.written {W1 W : World} {xb : Nat} {st : Int} {i : Nat} {xr : Value} {V : Nat → Value} (h : MadeF W1 W xb st i xr V) (hb : W1.heap.size ≤ xb) {ob : Nat} (hob : xb < ob) {ys : Array Value} (hc : W.heap[ob]? = some (.cells ys 3)) (k : Nat) (u : Value) :
    MadeF W1 (W.setCell ⟨ob, k, none⟩ u) xb st i xr V := by
  refine ⟨?_, ownsRow_setElse h.2.1 hc (by decide) k u, h.2.2.setCell (show W1.heap.size ≤ ob by omega) _⟩
  rw [World.setCell_heap_other (by omega)]
  exact h.1
/-- the block of a row that is there -/
theorem ownsRow_block {W : World} {base : Nat} {e : TypeId} {sz : Nat} {g n cap : Nat} {xs : List Value} (h : W.ownsRow base e sz (.slice (some ⟨g, 0, none⟩) n cap) n xs) (hn : 0 < n) : base ≤ g ∧ ∃ ys, W.heap[g]? = some (.cells ys e) := by
  rcases h.2 with ⟨he, _⟩ | ⟨g', cap', cur, he, hg, hgg, _⟩
  · cases he
  · cases he; exact ⟨hg, _, hgg⟩
end Go.Proofs.Ytjpccfpmhmddjaa

/-
  What is proved: PassTurned returns true (the walk).
-/
namespace Go.Proofs.Ytjpccfpmhmddjaa
open Go.RowKit
attribute [local irreducible] Go.wpCalm

set_option maxRecDepth 100000 in
set_option maxHeartbeats 16000000 in
theorem turned_w (w : World) (v : Value) (J : Job) (hv : RawAt w v J) (bv : Value) (mb : Nat) (fb : Nat → Int) (hb : NumsAt .u8 w bv mb fb) (hfb0 : ∀ i, i < mb → 0 ≤ fb i ∧ fb i ≤ 255) (l : Int) :
    Calls Try.prog 10 #[v, bv, .int .i64 l] w fun e w' => e = .returned (.bool true) ∧ w.grows w' := by
  obtain ⟨rv, row, rfl, hs, hr⟩ := hv
  have Hv := Lib.hid (show RawAt w (.agg #[.int .i64 J.start, rv]) J from ⟨rv, row, rfl, hs, hr⟩)
  have HX := Lib.hid (BoxAt.start (w := w) (rv := rv) (J := J) ⟨rv, row, rfl, hs, hr⟩)
  have hg0 : w.grows (w.alloc (.cells #[.int .i64 J.start, rv] 24)) := by (repeat (first | exact World.grows.refl _ | assumption | refine World.grows.alloc ?_ _ | refine World.grows.plus ?_ _ _ | refine World.grows.drew ?_))
  have HB := Lib.hid (hb.mono hg0)
  have hfb := Lib.hid hfb0
  obtain ⟨ba, bcap, rfl, hb1, hb2, -⟩ := hb
  unfold maxLen at hb2
  clear hs hr hfb0 hg0
  have c0 := HX.out.2.2.1; have c1 := HX.out.2.2.2
  have h38 := fun W h => fine_c W (.agg #[.int .i64 J.start, rv]) J h
  go_enter Try.func10, Try.ntmps10
  by_cases hc : J.check = 0
  · rw [decide_eq_true hc] at h38
    have Hc := Lib.hid hc
    have HJ := Lib.hid ((Job.Ok_iff J).2 hc)
    clear hc
    obtain ⟨jb, jo, jcap, rb, ro, rc, hrv, hjc, hjc2, hR⟩ := Hv.out.job HJ.out
    obtain ⟨rfl⟩ : rv = .slice (some ⟨jb, jo, none⟩) J.n jcap := by simpa using hrv
    have HR := Lib.hid hR
    unfold maxLen at hjc2
    have hn4 := HJ.out.n4
    have hn9 : J.n ≤ 1000000000 := by omega
    clear hR
    by_cases hmb : 40 < mb
    · go_wp2_with (first
        | (go_at_call 38; refine (h38 _ (HX.out.1.mono (by (repeat (first | exact World.grows.refl _ | assumption | refine World.grows.alloc ?_ _ | refine World.grows.plus ?_ _ _ | refine World.grows.drew ?_))))).mono ?_; rintro e W2 ⟨rfl, hg⟩; replace HB := Lib.hid (HB.out.mono (World.grows.trans (by (repeat (first | exact World.grows.refl _ | assumption | refine World.grows.alloc ?_ _ | refine World.grows.plus ?_ _ _ | refine World.grows.drew ?_))) hg)); replace HX := Lib.hid (HX.out.mono (World.grows.trans (by (repeat (first | exact World.grows.refl _ | assumption | refine World.grows.alloc ?_ _ | refine World.grows.plus ?_ _ _ | refine World.grows.drew ?_))) hg)); replace c0 := HX.out.2.2.1; replace c1 := HX.out.2.2.2; clear hg)
        | (go_at_call 15; refine (works_c _).mono ?_; rintro e W2 ⟨rfl, hg⟩; replace HX := Lib.hid (HX.out.mono (World.grows.trans (by (repeat (first | exact World.grows.refl _ | assumption | refine World.grows.alloc ?_ _ | refine World.grows.plus ?_ _ _ | refine World.grows.drew ?_))) hg)); clear hg))
      go_ret
      exact ⟨rfl, HX.out.2.1.trans (by (repeat (first | exact World.grows.refl _ | assumption | refine World.grows.alloc ?_ _ | refine World.grows.plus ?_ _ _ | refine World.grows.drew ?_)))⟩
    go_wp2_with (first
      | (go_at_call 38; refine (h38 _ (HX.out.1.mono (by (repeat (first | exact World.grows.refl _ | assumption | refine World.grows.alloc ?_ _ | refine World.grows.plus ?_ _ _ | refine World.grows.drew ?_))))).mono ?_; rintro e W2 ⟨rfl, hg⟩; replace HB := Lib.hid (HB.out.mono (World.grows.trans (by (repeat (first | exact World.grows.refl _ | assumption | refine World.grows.alloc ?_ _ | refine World.grows.plus ?_ _ _ | refine World.grows.drew ?_))) hg)); replace HX := Lib.hid (HX.out.mono (World.grows.trans (by (repeat (first | exact World.grows.refl _ | assumption | refine World.grows.alloc ?_ _ | refine World.grows.plus ?_ _ _ | refine World.grows.drew ?_))) hg)); replace c0 := HX.out.2.2.1; replace c1 := HX.out.2.2.2; clear hg)
      | (go_at_call 44; fail))
    clear h38
    obtain ⟨W1, rfl⟩ : ∃ W1, W1 = W2 := ⟨_, rfl⟩
    go_loopw [7, 8] (fun s i wr => ∃ q : Nat, q ≤ J.n ∧ i = .int .i64 q ∧ Hid (wr.ownsRow W1.heap.size 3 1 s q (tableL q 1 (fun i _ => .int .i64 (J.last i : Nat)))) ∧ Hid (W1.grows wr)) (fun _ i _ => J.n - (intOf i).toNat)
    case atStart => exact ⟨0, by omega, rfl, Lib.hid (World.ownsRow_nil _ _ _ _), Lib.hid (World.grows.refl _)⟩
    case round =>
      obtain ⟨q, hq, rfl, hC, hgX⟩ := hrel
      replace HX := Lib.hid (HX.out.mono hgX.out); replace c0 := HX.out.2.2.1; replace c1 := HX.out.2.2.2
      obtain ⟨co, cc, hv⟩ : ∃ co cc, u7 = .slice co q cc := by
        rcases hC.out.2 with ⟨rfl, hn⟩ | ⟨g, cap, cur, rfl, _⟩
        · rw [hn]; exact ⟨_, _, rfl⟩
        · exact ⟨_, _, rfl⟩
      subst hv
      by_cases hlt : q < J.n
      · have hlti : (q : Int) < J.n := by omega
        have z0 := HX.out.2.1.cell_of (HR.out.row q hlt)
        have hrc := HR.out.cap q hlt
        unfold maxLen at hrc
        have hl6 := HJ.out.l6 q hlt
        have hlast : J.last q = J.len q := by unfold Job.last; rw [if_pos hlt]
        go_wp2_with (at_builtin; go_loud (refine wpList_append_g _ rfl _ _ _ (by rfl) W1.heap.size 3 (.int .i64 0) 1 8 Try.underlying25 el3 (by rfl) (by omega) _ _ _ (by rfl) (hC.out.grow (World.grows.alloc (World.grows.refl _) _)) _ (by rfl) 1 _ (SliceAt.src (by omega) (one_slice _ _ _ _ (by simp))) (ints_one _ _) (by unfold maxLen; omega) (by omega) (by have := hgX.out.size; simp; omega) ?_; intro v9 w9 hown hgr; have Hown := Lib.hid hown; have Hgr := Lib.hid (hgr W1 (hgX.out.alloc _) (Nat.le_refl _)); clear hown hgr))
        go_roundw
        case rel => exact ⟨q + 1, by omega, by go_num, Lib.hid (own_push Hown.out (by rw [hlast])), Hgr⟩
        case measure => change J.n - (intOf (Value.int IntKind.i64 ((q : Int) + 1))).toNat < J.n - (intOf (Value.int IntKind.i64 (q : Int))).toNat; simp [intOf] <;> omega
      · have hqe : q = J.n := by omega
        subst hqe
        have hlin := Lib.hid (Job.heat_at Hc.out J.last_in)
        have HL : Hid (IntsAt wr (.slice co J.n cc) J.n (fun i => (J.last i : Nat))) := Lib.hid (hC.out.sliceAt fun i j hi hj => tableL_get _ hi hj)
        replace HB := Lib.hid (HB.out.mono hgX.out)
        clear hC
        have h16 := Lib.hid (fun W (hW : RawAt W (.agg #[.int .i64 J.start, .slice (some ⟨jb, jo, none⟩) J.n jcap]) J) (hl : IntsAt W (.slice co J.n cc) J.n (fun i => (J.last i : Nat))) => Heat_c W (.agg #[.int .i64 J.start, .slice (some ⟨jb, jo, none⟩) J.n jcap]) J hW _ J.n _ hl)
        have h17 := Lib.hid (fun W (hW : RawAt W (.agg #[.int .i64 J.start, .slice (some ⟨jb, jo, none⟩) J.n jcap]) J) (hl : IntsAt W (.slice co J.n cc) J.n (fun i => (J.last i : Nat))) => rHeat_c W (.agg #[.int .i64 J.start, .slice (some ⟨jb, jo, none⟩) J.n jcap]) J hW _ J.n _ hl)
        simp only [hlin.out.1, hlin.out.2] at h16 h17
        clear hlin
        obtain ⟨H, hH⟩ : ∃ H, J.heat J.last = H := ⟨_, rfl⟩
        rw [hH] at h16 h17
        go_wp2_with (first
          | (go_at_call 16; refine (h16.out _ (HX.out.1.mono (by (repeat (first | exact World.grows.refl _ | assumption | refine World.grows.alloc ?_ _ | refine World.grows.plus ?_ _ _ | refine World.grows.drew ?_)))) (HL.out.mono (by (repeat (first | exact World.grows.refl _ | assumption | refine World.grows.alloc ?_ _ | refine World.grows.plus ?_ _ _ | refine World.grows.drew ?_))))).mono ?_; rintro e W2 ⟨rfl, hg⟩; replace HB := Lib.hid (HB.out.mono (World.grows.trans (by (repeat (first | exact World.grows.refl _ | assumption | refine World.grows.alloc ?_ _ | refine World.grows.plus ?_ _ _ | refine World.grows.drew ?_))) hg)); replace HX := Lib.hid (HX.out.mono (World.grows.trans (by (repeat (first | exact World.grows.refl _ | assumption | refine World.grows.alloc ?_ _ | refine World.grows.plus ?_ _ _ | refine World.grows.drew ?_))) hg)); replace c0 := HX.out.2.2.1; replace c1 := HX.out.2.2.2; replace HL := Lib.hid (HL.out.mono (World.grows.trans (by (repeat (first | exact World.grows.refl _ | assumption | refine World.grows.alloc ?_ _ | refine World.grows.plus ?_ _ _ | refine World.grows.drew ?_))) hg)); clear hg)
          | (go_at_call 17; refine (h17.out _ (HX.out.1.mono (by (repeat (first | exact World.grows.refl _ | assumption | refine World.grows.alloc ?_ _ | refine World.grows.plus ?_ _ _ | refine World.grows.drew ?_)))) (HL.out.mono (by (repeat (first | exact World.grows.refl _ | assumption | refine World.grows.alloc ?_ _ | refine World.grows.plus ?_ _ _ | refine World.grows.drew ?_))))).mono ?_; rintro e W2 ⟨rfl, hg⟩; replace HB := Lib.hid (HB.out.mono (World.grows.trans (by (repeat (first | exact World.grows.refl _ | assumption | refine World.grows.alloc ?_ _ | refine World.grows.plus ?_ _ _ | refine World.grows.drew ?_))) hg)); replace HX := Lib.hid (HX.out.mono (World.grows.trans (by (repeat (first | exact World.grows.refl _ | assumption | refine World.grows.alloc ?_ _ | refine World.grows.plus ?_ _ _ | refine World.grows.drew ?_))) hg)); replace c0 := HX.out.2.2.1; replace c1 := HX.out.2.2.2; clear hg)
          | (go_at_call 44; fail))
        replace HR := Lib.hid (HR.out.mono HX.out.2.1)
        obtain ⟨W3, rfl⟩ : ∃ W3, W3 = W2 := ⟨_, rfl⟩
        have hM0 : MadeX W3 (W3.alloc (.cells #[.int .i64 H, .slice none 0 0] 24)) W3.heap.size H J.turned 0 (.slice none 0 0) (fun _ => undef) := ⟨heap_alloc_new _ _, World.ownsRow_nil _ _ _ _, fun t ht => absurd ht (by omega), by (repeat (first | exact World.grows.refl _ | assumption | refine World.grows.alloc ?_ _ | refine World.grows.plus ?_ _ _ | refine World.grows.drew ?_))⟩
        go_loopw [14] (fun i wr => ∃ q : Nat, q ≤ J.n ∧ i = .int .i64 q ∧ Hid (∃ xr row, MadeX W3 wr W3.heap.size H J.turned q xr row)) (fun i _ => J.n - (intOf i).toNat)
        case atStart => exact ⟨0, by omega, rfl, Lib.hid ⟨_, _, hM0⟩⟩
        case round =>
          obtain ⟨q, hq, rfl, hM⟩ := hrel
          obtain ⟨xr, row, hM⟩ := hM.out
          have HM := Lib.hid hM
          clear hM hM0
          replace HX := Lib.hid (HX.out.mono HM.out.2.2.2); replace c0 := HX.out.2.2.1; replace c1 := HX.out.2.2.2
          obtain ⟨x0, x1, xf⟩ := boxX_cells HM.out.1
          by_cases hlt : q < J.n
          · have hlti : (q : Int) < J.n := by omega
            have z0 := HM.out.2.2.2.cell_of (HR.out.row q hlt)
            have hrc := HR.out.cap q hlt
            unfold maxLen at hrc
            have hl6 := HJ.out.l6 q hlt
            go_wp2
            obtain ⟨W4, rfl⟩ : ∃ W4, W4 = wr := ⟨_, rfl⟩
            go_loopw [15, 16] (fun s k wr => ∃ (z : Int) (d : Nat), z + 1 + d = J.len q ∧ -1 ≤ z ∧ k = .int .i64 z ∧ Hid (wr.ownsRow W4.heap.size 65 2 s d (tableL d 2 (pas J.turned q))) ∧ Hid (W4.grows wr)) (fun _ k _ => (intOf k + 1).toNat)
            case atStart => exact ⟨(J.len q : Int) - 1, 0, by omega, by omega, rfl, Lib.hid (World.ownsRow_nil _ _ _ _), Lib.hid (World.grows.refl _)⟩
            case round =>
              obtain ⟨z, d, hzd, hz1, rfl, hS, hg4⟩ := hrel
              obtain ⟨so, sc, hv⟩ : ∃ so sc, u15 = .slice so d sc := by
                rcases hS.out.2 with ⟨rfl, hn⟩ | ⟨g, cap, cur, rfl, _⟩
                · rw [hn]; exact ⟨_, _, rfl⟩
                · exact ⟨_, _, rfl⟩
              subst hv
              replace HX := Lib.hid (HX.out.mono hg4.out); replace c0 := HX.out.2.2.1; replace c1 := HX.out.2.2.2
              replace z0 := hg4.out.cell_of z0
              replace x0 := hg4.out.cell_of x0
              replace x1 := hg4.out.cell_of x1
              by_cases hz : 0 ≤ z
              · obtain ⟨e, rfl⟩ := Int.eq_ofNat_of_zero_le hz
                have he : e < J.len q := by omega
                have hei : (e : Int) < J.len q := by omega
                have p0 := (HM.out.2.2.2.trans hg4.out).cell_of (HR.out.pk q e hlt he)
                have p1 := (HM.out.2.2.2.trans hg4.out).cell_of (HR.out.lv q e hlt he)
                have b0 := HJ.out.pk q e hlt he
                have b1 := HJ.out.lv q e hlt he
                have wa : IntKind.i64.wrap (J.pk q e - J.lv q e) = J.pk q e - J.lv q e := wrapI (by omega)
                have wb : IntKind.i64.wrap (-J.lv q e) = -J.lv q e := wrapI (by omega)
                go_wp2_with (first
                  | (go_at_call 41; refine (pass_c _ _ _).mono ?_; rintro e1 w1 ⟨rfl, rfl⟩)
                  | (at_builtin; go_loud (refine wpList_append_g _ rfl _ _ _ (by rfl) W4.heap.size 65 (.agg #[.int .i64 0, .int .i64 0]) 2 16 Try.underlying62 el65 (by rfl) (by omega) _ _ _ (by rfl) (hS.out.grow (by (repeat (first | exact World.grows.refl _ | assumption | refine World.grows.alloc ?_ _ | refine World.grows.plus ?_ _ _ | refine World.grows.drew ?_)))) _ (by rfl) 1 _ (SliceAt.src (by omega) (pair_slice _ _ _ _ _ (by simp))) (pair_one _ _) (by unfold maxLen; omega) (by omega) (by have := hg4.out.size; simp; omega) ?_; intro v9 w9 hown hgr; have Hown := Lib.hid hown; have Hgr := Lib.hid (hgr W4 (hg4.out.trans (by (repeat (first | exact World.grows.refl _ | assumption | refine World.grows.alloc ?_ _ | refine World.grows.plus ?_ _ _ | refine World.grows.drew ?_)))) (Nat.le_refl _)); clear hown hgr))
                  | (go_at_call 44; fail))
                go_roundw
                case rel =>
                  have hd : J.len q - 1 - d = e := by omega
                  refine ⟨(e : Int) - 1, d + 1, by omega, by omega, by go_num, Lib.hid (pas_push Hown.out ?_ ?_), Hgr⟩
                  · show _ = J.pk q (J.len q - 1 - d) - J.lv q (J.len q - 1 - d)
                    rw [hd]
                  · show _ = -(J.lv q (J.len q - 1 - d))
                    rw [hd]
                case measure => change (intOf (Value.int IntKind.i64 ((e : Int) - 1)) + 1).toNat < (intOf (Value.int IntKind.i64 (e : Int)) + 1).toNat; simp [intOf] <;> omega
              · have hd : d = J.len q := by omega
                subst hd
                have hM := HM.out.grow hg4.out
                have HM4 := Lib.hid hM
                have HS := Lib.hid (hS.out.down (base' := W3.heap.size + 1) (by have := World.lt_of_block HM.out.1; omega))
                clear hM hS
                go_wp2_with (first
                  | (at_builtin; go_loud (refine wpList_append_r _ rfl _ _ _ (by rfl) (W3.heap.size + 1) 62 (.slice none 0 0) 1 24 Try.underlying22 el62 (by rfl) (by omega) _ _ _ (by rfl) ((HM4.out.2.1).grow (by (repeat (first | exact World.grows.refl _ | assumption | refine World.grows.alloc ?_ _ | refine World.grows.plus ?_ _ _ | refine World.grows.drew ?_)))) _ (by rfl) 1 _ (SliceAt.src (by omega) (one_slice _ _ _ _ (by simp))) (by simp [tableL, Value.oneCell']) (by unfold maxLen; omega) (by omega) (by have := World.lt_of_block HM4.out.1; simp; omega) ?_; intro v9 w9 hown hgr; obtain ⟨g9, cap9, rfl, hgb⟩ := hown.form (by omega); have HN := Lib.hid ((HM4.out.grow (by (repeat (first | exact World.grows.refl _ | assumption | refine World.grows.alloc ?_ _ | refine World.grows.plus ?_ _ _ | refine World.grows.drew ?_)))).push (Nat.le_refl _) (HS.out.grow (by (repeat (first | exact World.grows.refl _ | assumption | refine World.grows.alloc ?_ _ | refine World.grows.plus ?_ _ _ | refine World.grows.drew ?_)))) hown hgr); clear hown; have y9 : w9.heap[W3.heap.size]? = some (.cells #[.int .i64 H, xr] 24) := (by rw [hgr.block W3.heap.size (World.lt_of_block (HM4.out.grow (by (repeat (first | exact World.grows.refl _ | assumption | refine World.grows.alloc ?_ _ | refine World.grows.plus ?_ _ _ | refine World.grows.drew ?_)))).1) (fun e => by have := ((HM4.out.grow (by (repeat (first | exact World.grows.refl _ | assumption | refine World.grows.alloc ?_ _ | refine World.grows.plus ?_ _ _ | refine World.grows.drew ?_)))).2.1.lt W3.heap.size e.symm).1; omega)]; exact (HM4.out.grow (by (repeat (first | exact World.grows.refl _ | assumption | refine World.grows.alloc ?_ _ | refine World.grows.plus ?_ _ _ | refine World.grows.drew ?_)))).1); have y0 := (boxX_cells y9).1; have y1 := (boxX_cells y9).2.1; have yf := (boxX_cells y9).2.2; clear y9 hgr))
                  | (go_at_call 44; fail))
                go_roundw
                case rel => exact ⟨q + 1, by omega, by go_num, Lib.hid ⟨_, _, HN.out⟩⟩
                case measure => change J.n - (intOf (Value.int IntKind.i64 ((q : Int) + 1))).toNat < J.n - (intOf (Value.int IntKind.i64 (q : Int))).toNat; simp [intOf] <;> omega
          · have hqe : q = J.n := by omega
            subst hqe
            have HRX := Lib.hid (show RawAt wr (.agg #[.int .i64 J.turned.start, xr]) J.turned from by rw [show J.turned.start = H from hH]; exact HM.out.raw (T := J.turned) hH)
            have f1 := Lib.hid (fun hot (h : J.Best hot) => h.turned)
            have f2 := Lib.hid (J.turned_waysN l)
            have f3 := Lib.hid (fun m g (h : J.OrdOk m g) => And.intro h.back (h.back_max (h.m_bd HJ.out).1))
            have hx1 := HM.out.2.2.2
            have hTs : J.turned.start = H := hH
            clear HM hM xf hlt
            obtain ⟨T, hT⟩ : ∃ T, J.turned = T := ⟨_, rfl⟩
            rw [hT] at f1 f2 f3 hTs HRX
            clear hT
            subst hTs
            have HY := Lib.hid (show BoxAt wr wr W3.heap.size xr T from ⟨HRX.out, World.grows.refl _, x0, x1⟩)
            have y0 := HY.out.2.2.1; have y1 := HY.out.2.2.2
            replace HB := Lib.hid (HB.out.mono hx1)
            clear HRX x0 x1 hx1 HR HL hH h16 h17
            obtain ⟨W5, rfl⟩ : ∃ W5, W5 = wr := ⟨_, rfl⟩
            have h38 := Lib.hid (fun W h => fine_c W (.agg #[.int .i64 T.start, xr]) T h)
            by_cases hct : T.check = 0
            · rw [decide_eq_true hct] at h38
              have Hct := Lib.hid hct
              have HTk := Lib.hid ((Job.Ok_iff T).2 hct)
              clear hct
              go_wp2_with (first
                | (go_at_call 38; refine (h38.out _ (HY.out.1.mono (by (repeat (first | exact World.grows.refl _ | assumption | refine World.grows.alloc ?_ _ | refine World.grows.plus ?_ _ _ | refine World.grows.drew ?_))))).mono ?_; rintro e W2 ⟨rfl, hg⟩; replace HB := Lib.hid (HB.out.mono (World.grows.trans (by (repeat (first | exact World.grows.refl _ | assumption | refine World.grows.alloc ?_ _ | refine World.grows.plus ?_ _ _ | refine World.grows.drew ?_))) hg)); replace HX := Lib.hid (HX.out.mono (World.grows.trans (by (repeat (first | exact World.grows.refl _ | assumption | refine World.grows.alloc ?_ _ | refine World.grows.plus ?_ _ _ | refine World.grows.drew ?_))) hg)); replace c0 := HX.out.2.2.1; replace c1 := HX.out.2.2.2; replace HY := Lib.hid (HY.out.mono (World.grows.trans (by (repeat (first | exact World.grows.refl _ | assumption | refine World.grows.alloc ?_ _ | refine World.grows.plus ?_ _ _ | refine World.grows.drew ?_))) hg)); replace y0 := HY.out.2.2.1; replace y1 := HY.out.2.2.2; clear hg)
                | (go_at_call 44; fail))
              (refine (order_c _ _ J (HX.out.1.mono (by (repeat (first | exact World.grows.refl _ | assumption | refine World.grows.alloc ?_ _ | refine World.grows.plus ?_ _ _ | refine World.grows.drew ?_)))) HJ.out _ mb fb (HB.out.mono (by (repeat (first | exact World.grows.refl _ | assumption | refine World.grows.alloc ?_ _ | refine World.grows.plus ?_ _ _ | refine World.grows.drew ?_)))) hfb.out).mono ?_; rintro e W2 ⟨ov, m, g, rfl, hg, ho, hok⟩; have HO := Lib.hid ho; have HQ := Lib.hid hok; obtain ⟨oa, ocap, rfl, ho1, ho2, -⟩ := ho; unfold maxLen at ho2; clear hok HB; replace HX := Lib.hid (HX.out.mono (World.grows.trans (by (repeat (first | exact World.grows.refl _ | assumption | refine World.grows.alloc ?_ _ | refine World.grows.plus ?_ _ _ | refine World.grows.drew ?_))) hg)); replace c0 := HX.out.2.2.1; replace c1 := HX.out.2.2.2; replace HY := Lib.hid (HY.out.mono (World.grows.trans (by (repeat (first | exact World.grows.refl _ | assumption | refine World.grows.alloc ?_ _ | refine World.grows.plus ?_ _ _ | refine World.grows.drew ?_))) hg)); replace y0 := HY.out.2.2.1; replace y1 := HY.out.2.2.2; clear hg)
              have hm := HQ.out.m_bd HJ.out
              obtain ⟨hm1, hm2⟩ := hm
              obtain ⟨W6, rfl⟩ : ∃ W6, W6 = W2 := ⟨_, rfl⟩
              obtain ⟨_, _, heo, _, _, hoc⟩ := HO.out
              cases heo
              obtain ⟨ob, oo, rfl, -⟩ := hoc 0 0 (by omega) (by omega)
              have Hoc : Hid (∀ i : Nat, i < m → W6.cell? ⟨ob, oo + i, none⟩ = some (.int .i64 (g i : Nat))) := Lib.hid fun i hi => by
                obtain ⟨b', o', he, hc⟩ := hoc i 0 hi (by omega)
                cases he
                simpa using hc
              clear hoc
              go_wp2
              go_loopw [19, 20] (fun s k wr => ∃ (z : Int) (d : Nat), z + 1 + d = m ∧ -1 ≤ z ∧ k = .int .i64 z ∧ Hid (wr.ownsRow W6.heap.size 3 1 s d (tableL d 1 (fun i _ => .int .i64 (backO m g i : Nat)))) ∧ Hid (W6.grows wr)) (fun _ k _ => (intOf k + 1).toNat)
              case atStart => exact ⟨(m : Int) - 1, 0, by omega, by omega, rfl, Lib.hid (World.ownsRow_nil _ _ _ _), Lib.hid (World.grows.refl _)⟩
              case round =>
                obtain ⟨z, d, hzd, hz1, rfl, hS, hg6⟩ := hrel
                obtain ⟨so, sc, hv⟩ : ∃ so sc, u19 = .slice so d sc := by
                  rcases hS.out.2 with ⟨rfl, hn⟩ | ⟨g, cap, cur, rfl, _⟩
                  · rw [hn]; exact ⟨_, _, rfl⟩
                  · exact ⟨_, _, rfl⟩
                subst hv
                replace HX := Lib.hid (HX.out.mono hg6.out); replace c0 := HX.out.2.2.1; replace c1 := HX.out.2.2.2
                replace HY := Lib.hid (HY.out.mono hg6.out); replace y0 := HY.out.2.2.1; replace y1 := HY.out.2.2.2
                by_cases hz : 0 ≤ z
                · obtain ⟨e, rfl⟩ := Int.eq_ofNat_of_zero_le hz
                  have he : e < m := by omega
                  have hei : (e : Int) < m := by omega
                  have o0 := hg6.out.cell_of (Hoc.out e he)
                  have hbo : backO m g d = g e := by unfold backO; congr 1; omega
                  go_wp2_with (first
                    | (at_builtin; go_loud (refine wpList_append_g _ rfl _ _ _ (by rfl) W6.heap.size 3 (.int .i64 0) 1 8 Try.underlying25 el3 (by rfl) (by omega) _ _ _ (by rfl) (hS.out.grow (by (repeat (first | exact World.grows.refl _ | assumption | refine World.grows.alloc ?_ _ | refine World.grows.plus ?_ _ _ | refine World.grows.drew ?_)))) _ (by rfl) 1 _ (SliceAt.src (by omega) (one_slice _ _ _ _ (by simp))) (ints_one _ _) (by unfold maxLen; omega) (by omega) (by have := hg6.out.size; simp; omega) ?_; intro v9 w9 hown hgr; have Hown := Lib.hid hown; have Hgr := Lib.hid (hgr W6 (hg6.out.trans (by (repeat (first | exact World.grows.refl _ | assumption | refine World.grows.alloc ?_ _ | refine World.grows.plus ?_ _ _ | refine World.grows.drew ?_)))) (Nat.le_refl _)); clear hown hgr))
                    | (go_at_call 44; fail))
                  go_roundw
                  case rel => exact ⟨(e : Int) - 1, d + 1, by omega, by omega, by go_num, Lib.hid (own_push Hown.out (by rw [hbo])), Hgr⟩
                  case measure => change (intOf (Value.int IntKind.i64 ((e : Int) - 1)) + 1).toNat < (intOf (Value.int IntKind.i64 (e : Int)) + 1).toNat; simp [intOf] <;> omega
                · have hd : d = m := by omega
                  subst hd
                  have HK : Hid (IntsAt wr (.slice so d sc) d (fun i => (backO d g i : Nat))) := Lib.hid (hS.out.sliceAt fun i j hi hj => tableL_get _ hi hj)
                  replace HO := Lib.hid (HO.out.mono hg6.out)
                  clear hS Hoc
                  have F3 := Lib.hid (f3.out d g HQ.out)
                  have e1 := HQ.out.follow Hc.out
                  have e2 := F3.out.1.follow Hct.out
                  have a1 := Job.ordAns_ok e1
                  have a2 := Job.ordAns_ok e2
                  rw [show natOf (fun i => ((g i : Nat) : Int)) = g from rfl] at a1
                  rw [show natOf (fun i => ((backO d g i : Nat) : Int)) = backO d g from rfl, F3.out.2] at a2
                  have h18 := Lib.hid (fun W (hW : RawAt W (.agg #[.int .i64 J.start, .slice (some ⟨jb, jo, none⟩) J.n jcap]) J) ov (hl : IntsAt W ov d (fun i => (g i : Nat))) => checkOrd_c W (.agg #[.int .i64 J.start, .slice (some ⟨jb, jo, none⟩) J.n jcap]) J hW ov d _ hl)
                  have k18 := Lib.hid (fun W (hW : RawAt W (.agg #[.int .i64 T.start, xr]) T) ov (hl : IntsAt W ov d (fun i => (backO d g i : Nat))) => checkOrd_c W (.agg #[.int .i64 T.start, xr]) T hW ov d _ hl)
                  simp only [e1, a1] at h18
                  simp only [e2, a2] at k18
                  obtain ⟨N, hN⟩ : ∃ N, maxN (J.hotAt g) d = N := ⟨_, rfl⟩
                  rw [hN] at h18 k18
                  have b1 : J.countAns l = (J.waysN l J.last : Nat) := by unfold Job.countAns; rw [if_pos Hc.out]
                  have b2 : T.countAns l = (J.waysN l J.last : Nat) := by unfold Job.countAns; rw [if_pos Hct.out, f2.out]
                  have h26 := Lib.hid (fun W (hW : RawAt W (.agg #[.int .i64 J.start, .slice (some ⟨jb, jo, none⟩) J.n jcap]) J) => count_c W (.agg #[.int .i64 J.start, .slice (some ⟨jb, jo, none⟩) J.n jcap]) J hW l)
                  have k26 := Lib.hid (fun W (hW : RawAt W (.agg #[.int .i64 T.start, xr]) T) => count_c W (.agg #[.int .i64 T.start, xr]) T hW l)
                  simp only [Hc.out, b1] at h26
                  simp only [Hct.out, b2] at k26
                  obtain ⟨C, hC⟩ : ∃ C : Int, (J.waysN l J.last : Nat) = C := ⟨_, rfl⟩
                  rw [hC] at h26 k26
                  clear hN hC e1 e2 a1 a2 b1 b2 F3 f2 f3
                  go_wp2_with (go_at_call 44; fail)
                  (refine (h18.out _ (HX.out.1.mono (by (repeat (first | exact World.grows.refl _ | assumption | refine World.grows.alloc ?_ _ | refine World.grows.plus ?_ _ _ | refine World.grows.drew ?_)))) _ (HO.out.mono (by (repeat (first | exact World.grows.refl _ | assumption | refine World.grows.alloc ?_ _ | refine World.grows.plus ?_ _ _ | refine World.grows.drew ?_))))).mono ?_; rintro e W2 ⟨rfl, hg⟩; replace HK := Lib.hid (HK.out.mono (World.grows.trans (by (repeat (first | exact World.grows.refl _ | assumption | refine World.grows.alloc ?_ _ | refine World.grows.plus ?_ _ _ | refine World.grows.drew ?_))) hg)); replace HX := Lib.hid (HX.out.mono (World.grows.trans (by (repeat (first | exact World.grows.refl _ | assumption | refine World.grows.alloc ?_ _ | refine World.grows.plus ?_ _ _ | refine World.grows.drew ?_))) hg)); replace c0 := HX.out.2.2.1; replace c1 := HX.out.2.2.2; replace HY := Lib.hid (HY.out.mono (World.grows.trans (by (repeat (first | exact World.grows.refl _ | assumption | refine World.grows.alloc ?_ _ | refine World.grows.plus ?_ _ _ | refine World.grows.drew ?_))) hg)); replace y0 := HY.out.2.2.1; replace y1 := HY.out.2.2.2; clear hg HO h18)
                  go_wp2_with (go_at_call 44; fail)
                  (refine (k18.out _ (HY.out.1.mono (by (repeat (first | exact World.grows.refl _ | assumption | refine World.grows.alloc ?_ _ | refine World.grows.plus ?_ _ _ | refine World.grows.drew ?_)))) _ (HK.out.mono (by (repeat (first | exact World.grows.refl _ | assumption | refine World.grows.alloc ?_ _ | refine World.grows.plus ?_ _ _ | refine World.grows.drew ?_))))).mono ?_; rintro e W2 ⟨rfl, hg⟩; replace HX := Lib.hid (HX.out.mono (World.grows.trans (by (repeat (first | exact World.grows.refl _ | assumption | refine World.grows.alloc ?_ _ | refine World.grows.plus ?_ _ _ | refine World.grows.drew ?_))) hg)); replace c0 := HX.out.2.2.1; replace c1 := HX.out.2.2.2; replace HY := Lib.hid (HY.out.mono (World.grows.trans (by (repeat (first | exact World.grows.refl _ | assumption | refine World.grows.alloc ?_ _ | refine World.grows.plus ?_ _ _ | refine World.grows.drew ?_))) hg)); replace y0 := HY.out.2.2.1; replace y1 := HY.out.2.2.2; clear hg HK k18)
                  go_wp2_with (go_at_call 44; fail)
                  (refine (best_c _ _ J (HX.out.1.mono (by (repeat (first | exact World.grows.refl _ | assumption | refine World.grows.alloc ?_ _ | refine World.grows.plus ?_ _ _ | refine World.grows.drew ?_))))).mono ?_; rintro e W2 ⟨sv, hot, rfl, hg, -, hbb⟩; rw [Hc.out]; have hB := Lib.hid (hbb Hc.out).1; replace HX := Lib.hid (HX.out.mono (World.grows.trans (by (repeat (first | exact World.grows.refl _ | assumption | refine World.grows.alloc ?_ _ | refine World.grows.plus ?_ _ _ | refine World.grows.drew ?_))) hg)); replace c0 := HX.out.2.2.1; replace c1 := HX.out.2.2.2; replace HY := Lib.hid (HY.out.mono (World.grows.trans (by (repeat (first | exact World.grows.refl _ | assumption | refine World.grows.alloc ?_ _ | refine World.grows.plus ?_ _ _ | refine World.grows.drew ?_))) hg)); replace y0 := HY.out.2.2.1; replace y1 := HY.out.2.2.2; clear hg hbb)
                  go_wp2_with (go_at_call 44; fail)
                  (refine (best_c _ _ T (HY.out.1.mono (by (repeat (first | exact World.grows.refl _ | assumption | refine World.grows.alloc ?_ _ | refine World.grows.plus ?_ _ _ | refine World.grows.drew ?_))))).mono ?_; rintro e W2 ⟨sv2, hot2, rfl, hg, -, hbb⟩; rw [Hct.out]; obtain rfl := (hbb Hct.out).1.unique (f1.out _ hB.out); replace HX := Lib.hid (HX.out.mono (World.grows.trans (by (repeat (first | exact World.grows.refl _ | assumption | refine World.grows.alloc ?_ _ | refine World.grows.plus ?_ _ _ | refine World.grows.drew ?_))) hg)); replace c0 := HX.out.2.2.1; replace c1 := HX.out.2.2.2; replace HY := Lib.hid (HY.out.mono (World.grows.trans (by (repeat (first | exact World.grows.refl _ | assumption | refine World.grows.alloc ?_ _ | refine World.grows.plus ?_ _ _ | refine World.grows.drew ?_))) hg)); replace y0 := HY.out.2.2.1; replace y1 := HY.out.2.2.2; clear hg hbb)
                  go_wp2_with (go_at_call 44; fail)
                  (refine (h26.out _ (HX.out.1.mono (by (repeat (first | exact World.grows.refl _ | assumption | refine World.grows.alloc ?_ _ | refine World.grows.plus ?_ _ _ | refine World.grows.drew ?_))))).mono ?_; rintro e W2 ⟨rfl, hg⟩; replace HX := Lib.hid (HX.out.mono (World.grows.trans (by (repeat (first | exact World.grows.refl _ | assumption | refine World.grows.alloc ?_ _ | refine World.grows.plus ?_ _ _ | refine World.grows.drew ?_))) hg)); replace c0 := HX.out.2.2.1; replace c1 := HX.out.2.2.2; replace HY := Lib.hid (HY.out.mono (World.grows.trans (by (repeat (first | exact World.grows.refl _ | assumption | refine World.grows.alloc ?_ _ | refine World.grows.plus ?_ _ _ | refine World.grows.drew ?_))) hg)); replace y0 := HY.out.2.2.1; replace y1 := HY.out.2.2.2; clear hg h26)
                  go_wp2_with (go_at_call 44; fail)
                  (refine (k26.out _ (HY.out.1.mono (by (repeat (first | exact World.grows.refl _ | assumption | refine World.grows.alloc ?_ _ | refine World.grows.plus ?_ _ _ | refine World.grows.drew ?_))))).mono ?_; rintro e W2 ⟨rfl, hg⟩; replace HX := Lib.hid (HX.out.mono (World.grows.trans (by (repeat (first | exact World.grows.refl _ | assumption | refine World.grows.alloc ?_ _ | refine World.grows.plus ?_ _ _ | refine World.grows.drew ?_))) hg)); replace c0 := HX.out.2.2.1; replace c1 := HX.out.2.2.2; replace HY := Lib.hid (HY.out.mono (World.grows.trans (by (repeat (first | exact World.grows.refl _ | assumption | refine World.grows.alloc ?_ _ | refine World.grows.plus ?_ _ _ | refine World.grows.drew ?_))) hg)); replace y0 := HY.out.2.2.1; replace y1 := HY.out.2.2.2; clear hg k26)
                  go_wp2_with (go_at_call 15; refine (works_c _).mono ?_; rintro e W2 ⟨rfl, hg⟩; replace HX := Lib.hid (HX.out.mono (World.grows.trans (by (repeat (first | exact World.grows.refl _ | assumption | refine World.grows.alloc ?_ _ | refine World.grows.plus ?_ _ _ | refine World.grows.drew ?_))) hg)); clear hg)
                  go_ret
                  exact ⟨rfl, HX.out.2.1.trans (by (repeat (first | exact World.grows.refl _ | assumption | refine World.grows.alloc ?_ _ | refine World.grows.plus ?_ _ _ | refine World.grows.drew ?_)))⟩
            · rw [decide_eq_false hct] at h38
              go_wp2_with (first
                | (go_at_call 38; refine (h38.out _ (HY.out.1.mono (by (repeat (first | exact World.grows.refl _ | assumption | refine World.grows.alloc ?_ _ | refine World.grows.plus ?_ _ _ | refine World.grows.drew ?_))))).mono ?_; rintro e W2 ⟨rfl, hg⟩; replace HX := Lib.hid (HX.out.mono (World.grows.trans (by (repeat (first | exact World.grows.refl _ | assumption | refine World.grows.alloc ?_ _ | refine World.grows.plus ?_ _ _ | refine World.grows.drew ?_))) hg)); replace c0 := HX.out.2.2.1; replace c1 := HX.out.2.2.2; clear hg)
                | (go_at_call 15; refine (works_c _).mono ?_; rintro e W2 ⟨rfl, hg⟩; replace HX := Lib.hid (HX.out.mono (World.grows.trans (by (repeat (first | exact World.grows.refl _ | assumption | refine World.grows.alloc ?_ _ | refine World.grows.plus ?_ _ _ | refine World.grows.drew ?_))) hg)); clear hg))
              go_ret
              exact ⟨rfl, HX.out.2.1.trans (by (repeat (first | exact World.grows.refl _ | assumption | refine World.grows.alloc ?_ _ | refine World.grows.plus ?_ _ _ | refine World.grows.drew ?_)))⟩
  · rw [decide_eq_false hc] at h38
    go_wp2_with (first
      | (go_at_call 38; refine (h38 _ (HX.out.1.mono (by (repeat (first | exact World.grows.refl _ | assumption | refine World.grows.alloc ?_ _ | refine World.grows.plus ?_ _ _ | refine World.grows.drew ?_))))).mono ?_; rintro e W2 ⟨rfl, hg⟩; replace HB := Lib.hid (HB.out.mono (World.grows.trans (by (repeat (first | exact World.grows.refl _ | assumption | refine World.grows.alloc ?_ _ | refine World.grows.plus ?_ _ _ | refine World.grows.drew ?_))) hg)); replace HX := Lib.hid (HX.out.mono (World.grows.trans (by (repeat (first | exact World.grows.refl _ | assumption | refine World.grows.alloc ?_ _ | refine World.grows.plus ?_ _ _ | refine World.grows.drew ?_))) hg)); replace c0 := HX.out.2.2.1; replace c1 := HX.out.2.2.2; clear hg)
      | (go_at_call 15; refine (works_c _).mono ?_; rintro e W2 ⟨rfl, hg⟩; replace HX := Lib.hid (HX.out.mono (World.grows.trans (by (repeat (first | exact World.grows.refl _ | assumption | refine World.grows.alloc ?_ _ | refine World.grows.plus ?_ _ _ | refine World.grows.drew ?_))) hg)); clear hg))
    go_ret
    exact ⟨rfl, HX.out.2.1.trans (by (repeat (first | exact World.grows.refl _ | assumption | refine World.grows.alloc ?_ _ | refine World.grows.plus ?_ _ _ | refine World.grows.drew ?_)))⟩
end Go.Proofs.Ytjpccfpmhmddjaa

/-
  What is proved: the statement PassTurned, at every input.
-/
namespace Go.Proofs.Ytjpccfpmhmddjaa
open Go.ChangeShapes Go.WideShapes Go.ChangeAt Go.RowKit

set_option maxRecDepth 100000 in
theorem passTurned_lifted (os : Os) (started : os.Started) (H : Type) (enc : TypeId × Value → H) :
    ReturnsInHanded {} Try.checked os 10 .any (Rows.passTurnedSpec.pre6 enc Try.prog Try.f10 Rows.passTurnedRow.domain false) (Rows.passTurnedSpec.post enc Try.prog Try.f10 false true false false) := by
  refine law_lifted (C := Try.checked) (tb := 4) started own_c laid_c (by kernel_rfl) Try.func10 (of_decide_eq_true (by kernel_rfl))
    (ChangeSpec.witness6 (enc := enc) (C := Try.checked) false ⟨#[], #[.agg #[.int .i64 0, .slice none 0 0], .slice none 0 0, .int .i64 0], []⟩ 8 (by kernel_rfl) (by kernel_rfl) (by kernel_rfl) (by kernel_rfl))
    rfl Try.underlying4 rfl (fun ds hl => ?_) (fun W base args ds ps hval hA => ?_)
  · match ds, hl with
    | [d1, d2, d3], _ => exact ⟨rfl, rfl, rfl⟩
  · have hA' : DataW.TrodAll enc Try.prog W 0 (fun _ => true) true Try.f10.params.toList args.toList ds ps := hA
    have hval' : ∀ (j : Nat) t v, Try.f10.params[j]? = some t → args[j]? = some v → Value.okWide Try.prog W .any base t v := hval
    rw [Try.params10] at hA' hval'
    obtain ⟨v1, v2, v3, d1, d2, d3, p1, p2, p3, rfl, rfl, rfl, h1, h2, h3⟩ := trodAll_three hA'
    obtain ⟨J1, hJ1, hF1⟩ := job_of (hval' 0 24 v1 rfl rfl) h1
    obtain ⟨m2, f2, hf2, hb2⟩ := bytes_of (hval' 1 55 v2 rfl rfl) h2
    obtain ⟨z3, rfl, -, -, hw3⟩ := open_int Try.underlying2 (hval' 2 2 v3 rfl rfl) h3; have hz3 := lit_i64 hw3
    exact turned_w W v1 J1 hJ1 v2 m2 f2 hf2 hb2 z3

theorem passTurned_holds : Rows.PassTurnedSaid :=
  OpenClaim.holds_of_wide 10 Try.f10 rfl rfl rfl rfl rfl rfl rfl ⟨rfl, rfl, rfl, rfl, rfl⟩ rfl rfl rfl rfl rfl (by kernel_rfl) Try.func10 (by kernel_rfl)
    (of_decide_eq_true (by kernel_rfl)) (by unfold Func.isWrapper; first | (rw [if_pos (by decide +kernel)]; kernel_rfl) | (rw [if_neg (by decide +kernel)]; exact ⟨rfl, rfl⟩))
    (fun os started H enc _ => passTurned_lifted os started H enc)
end Go.Proofs.Ytjpccfpmhmddjaa

