/-
  What is proved: plain words on the barrier that proves how hot it becomes at least.
-/
import Derived.Test.YtjpccfpmhmddjaaM11
import Derived.Test.YtjpccfpmhmddjaaM8
set_option linter.all false
namespace Go.Proofs.Ytjpccfpmhmddjaa
open Go.RowKit

theorem Job.bdR_le (J : Job) (S : (Nat → Nat) → Bool) (p : Nat → Nat) (b : Int) : ∀ r, J.bdR S p r b ≤ b
  | 0 => Int.le_refl _
  | r + 1 => by
    have := J.bdR_le S p b r
    simp only [Job.bdR]
    split <;> omega
theorem Job.bdR_step (J : Job) (S : (Nat → Nat) → Bool) (p : Nat → Nat) (b : Int) {k : Nat} (hc : p k < J.len k ∧ S p = true ∧ S (Job.to p k) = false) : ∀ r, k < r → J.bdR S p r b ≤ J.hot p k
  | 0, h => absurd h (by omega)
  | r + 1, h => by
    rcases Nat.lt_or_ge k r with h1 | h1
    · have := J.bdR_step S p b hc r h1
      simp only [Job.bdR]
      split <;> omega
    · have : k = r := by omega
      subst this
      simp only [Job.bdR]
      rw [if_pos hc]
      omega
theorem Job.bdT_anti (J : Job) (S : (Nat → Nat) → Bool) (t : Nat) : ∀ d, J.bdT S (t + d) ≤ J.bdT S t
  | 0 => Int.le_refl _
  | d + 1 => by
    have h1 := J.bdT_anti S t d
    have h2 := J.bdR_le S (J.dig (t + d)) (J.bdT S (t + d)) J.n
    rw [← Nat.add_assoc]
    simp only [Job.bdT]
    omega
theorem Job.bdT_step (J : Job) (S : (Nat → Nat) → Bool) {t k T : Nat} (ht : t < T) (hk : k < J.n) (hc : J.dig t k < J.len k ∧ S (J.dig t) = true ∧ S (Job.to (J.dig t) k) = false) : J.bdT S T ≤ J.hot (J.dig t) k := by
  obtain ⟨d, rfl⟩ : ∃ d, T = t + 1 + d := ⟨T - (t + 1), by omega⟩
  have h1 := J.bdT_anti S (t + 1) d
  have h2 := J.bdR_step S (J.dig t) (J.bdT S t) hc J.n hk
  simp only [Job.bdT] at h1
  omega
theorem Job.bdT_lo {J : Job} {S : (Nat → Nat) → Bool} {l : Int} (hl : l ≤ 1099511627776) (h : ∀ p r, J.In p → r < J.n → p r < J.len r → S p = true → S (Job.to p r) = false → l ≤ J.hot p r) : ∀ t, l ≤ J.bdT S t
  | 0 => hl
  | t + 1 => by
    have ih := J.bdT_lo hl h t
    have key : ∀ r, r ≤ J.n → l ≤ J.bdR S (J.dig t) r (J.bdT S t) := by
      intro r
      induction r with
      | zero => intro _; exact ih
      | succ r ih2 =>
        intro hr
        have h1 := ih2 (by omega)
        simp only [Job.bdR]
        split
        · rename_i hc
          have := h _ r (J.dig_in t) (by omega) hc.1 hc.2.1 hc.2.2
          omega
        · exact h1
    exact key J.n (Nat.le_refl _)
theorem Job.bdT_congr (J : Job) {S S' : (Nat → Nat) → Bool} (h : ∀ p, J.In p → S p = S' p) : ∀ t, J.bdT S t = J.bdT S' t
  | 0 => rfl
  | t + 1 => by
    have key : ∀ r b, r ≤ J.n → J.bdR S (J.dig t) r b = J.bdR S' (J.dig t) r b := by
      intro r b
      induction r with
      | zero => intro _; rfl
      | succ r ih =>
        intro hr
        simp only [Job.bdR]
        rw [ih (by omega)]
        by_cases hd : J.dig t r < J.len r
        · rw [h _ (J.dig_in t), h _ (Job.in_to (J.dig_in t) (by omega) hd)]
        · rw [if_neg fun hc => hd hc.1, if_neg fun hc => hd hc.1]
    simp only [Job.bdT]
    rw [J.bdT_congr h t, key _ _ (Nat.le_refl _)]

/-- a step within a limit from a place to which one comes within it -/
theorem Job.ways_to {J : Job} {l : Int} {p : Nat → Nat} {r : Nat} (hr : r < J.n) (hh : J.hot p r ≤ l) (hp : 0 < J.waysN l p) : 0 < J.waysN l (Job.to p r) := by
  have h0 : 0 < Job.to p r r := by simp [Job.to, upd]
  have hdn : dn (Job.to p r) r = p := dn_to _ _
  have hd : J.deg (Job.to p r) ≠ 0 := fun h => by
    have := sumN_eq_zero J.n h r hr
    omega
  rw [J.waysN_eq l hd]
  refine (sumN_gt J.n).2 ⟨r, hr, ?_⟩
  rw [hdn, if_pos ⟨h0, hh⟩]
  exact hp
/-- on the way to a place one leaves those to which one comes within a lower limit -/
theorem Job.leave (J : Job) {l l' : Int} : ∀ (d : Nat) (q : Nat → Nat), J.In q → J.deg q = d → 0 < J.waysN l q → J.waysN l' q = 0 →
    ∃ p r, J.In p ∧ r < J.n ∧ p r < J.len r ∧ J.hot p r ≤ l ∧ 0 < J.waysN l' p ∧ J.waysN l' (Job.to p r) = 0
  | 0, q, _, hd, _, h => by rw [J.waysN_zero _ hd] at h; cases h
  | d + 1, q, hq, hd, h1, h2 => by
    rw [J.waysN_eq _ (by omega)] at h1
    obtain ⟨r, hr, h3⟩ := (sumN_gt J.n).1 h1
    by_cases hc : 0 < q r ∧ J.hot (dn q r) r ≤ l
    · rw [if_pos hc] at h3
      have hto : Job.to (dn q r) r = q := to_dn hc.1
      by_cases h4 : 0 < J.waysN l' (dn q r)
      · refine ⟨dn q r, r, Job.in_dn r hq, hr, ?_, hc.2, h4, by rw [hto]; exact h2⟩
        have := hq.le r hr
        simp [dn, upd]; omega
      · exact J.leave d (dn q r) (Job.in_dn r hq) (by have := J.deg_dn hr hc.1; omega) h3 (by omega)
    · rw [if_neg hc] at h3; omega
theorem Job.Best.bound {J : Job} (hJ : J.Ok) {hot : Int} (hb : J.Best hot) {S : (Nat → Nat) → Bool} (hS : ∀ p, J.In p → (S p = true ↔ 0 < J.waysN (hot - 1) p)) : J.bdT S J.size = hot := by
  have hbd := hb.bd hJ
  have h1 : hot ≤ J.bdT S J.size := Job.bdT_lo (by omega) (fun p r hp hr hd h1 h2 => by
    rcases Int.lt_or_le (J.hot p r) hot with h3 | h3
    · have h4 := Job.ways_to hr (show J.hot p r ≤ hot - 1 by omega) ((hS p hp).1 h1)
      rw [(hS _ (Job.in_to hp hr hd)).2 h4] at h2
      cases h2
    · exact h3) _
  obtain ⟨p, r, hp, hr, hd, hh, h2, h3⟩ := J.leave _ J.last J.in_last rfl hb.1 (hb.2 (hot - 1) (by omega))
  have hnum := J.num_lt hp
  have hdg := J.dig_num hp
  have h4 := J.bdT_step S (k := r) hnum hr ⟨by rw [hdg]; exact hd, by rw [hdg]; exact (hS p hp).2 h2, by
    rw [hdg]
    cases h5 : S (Job.to p r) with
    | false => rfl
    | true => have := (hS _ (Job.in_to hp hr hd)).1 h5; omega⟩
  rw [hdg] at h4
  omega

theorem Job.tup_in {J : Job} (h4 : J.n ≤ 4) {p q : Nat → Nat} (hp : J.In p) (hq : J.In q) (h : tup p = tup q) : p = q := by
  simp only [tup, Prod.mk.injEq] at h
  funext i
  rcases Nat.lt_or_ge i 4 with hi | hi
  · rcases (by omega : i = 0 ∨ i = 1 ∨ i = 2 ∨ i = 3) with rfl | rfl | rfl | rfl
    · exact h.1
    · exact h.2.1
    · exact h.2.2.1
    · exact h.2.2.2
  · rw [hp.out i (by omega), hq.out i (by omega)]
theorem Job.okL_mem {J : Job} {l : Int} {T : Nat} {t : Nat} : t ∈ J.okL l T ↔ t < T ∧ 0 < J.waysN l (J.dig t) := by
  unfold Job.okL
  simp
theorem Job.okL_nodup (J : Job) (l : Int) (T : Nat) : (J.okL l T).Nodup := List.Pairwise.filter _ List.nodup_range
/-- the barrier that is returned -/
def Job.barF (J : Job) (hot : Int) (i j : Nat) : Int := (J.dig ((J.okL (hot - 1) J.size).getD i 0) j : Nat)
theorem Job.barF_ok (J : Job) (hot : Int) (i : Nat) : J.posErr J.n (J.barF hot i) = 0 :=
  Job.posErr_ok fun j hj => by
    have := (J.dig_in ((J.okL (hot - 1) J.size).getD i 0)).le j hj
    unfold Job.barF
    omega
theorem Job.barF_pos (J : Job) (hot : Int) (i : Nat) : J.posP J.n (J.barF hot i) = J.dig ((J.okL (hot - 1) J.size).getD i 0) := by
  obtain ⟨h1, h2, h3⟩ := Job.posP_In (J.barF_ok hot i)
  funext j
  rcases Nat.lt_or_ge j J.n with hj | hj
  · have := h3 j hj
    unfold Job.barF at this ⊢
    omega
  · rw [h2 j hj, (J.dig_in _).out j hj]
theorem Job.barF_at {J : Job} {hot : Int} {i : Nat} (hi : i < (J.okL (hot - 1) J.size).length) : (J.okL (hot - 1) J.size).getD i 0 < J.size ∧ 0 < J.waysN (hot - 1) (J.dig ((J.okL (hot - 1) J.size).getD i 0)) := by
  have : (J.okL (hot - 1) J.size).getD i 0 ∈ J.okL (hot - 1) J.size := by
    rw [List.getD_eq_getElem?_getD, List.getElem?_eq_getElem hi]
    exact List.getElem_mem hi
  exact Job.okL_mem.1 this
theorem Job.barF_bar {J : Job} (hJ : J.Ok) (hot : Int) {p : Nat → Nat} (hp : J.In p) : J.bar (J.okL (hot - 1) J.size).length (fun _ => J.n) (J.barF hot) p = true ↔ 0 < J.waysN (hot - 1) p := by
  unfold Job.bar
  rw [List.any_eq_true]
  constructor
  · rintro ⟨i, hi, h⟩
    have hi := List.mem_range.1 hi
    simp only [decide_eq_true_eq] at h
    rw [J.barF_pos] at h
    have := Job.tup_in hJ.n4 (J.dig_in _) hp h
    rw [← this]
    exact (Job.barF_at hi).2
  · intro h
    have hm : J.num p ∈ J.okL (hot - 1) J.size := Job.okL_mem.2 ⟨J.num_lt hp, by rw [J.dig_num hp]; exact h⟩
    obtain ⟨i, hi, he⟩ := List.getElem_of_mem hm
    refine ⟨i, List.mem_range.2 hi, ?_⟩
    simp only [decide_eq_true_eq]
    rw [J.barF_pos, List.getD_eq_getElem?_getD, List.getElem?_eq_getElem hi, he]
    simp only [Option.getD_some]
    rw [J.dig_num hp]
/-- the bound of the barrier that is returned -/
theorem Job.Best.barrier {J : Job} (hc : J.check = 0) {hot : Int} (hb : J.Best hot) :
    J.barErr (J.okL (hot - 1) J.size).length (fun _ => J.n) (J.barF hot) = 0 ∧ J.barAns (J.okL (hot - 1) J.size).length (fun _ => J.n) (J.barF hot) = hot := by
  have hJ := (Job.Ok_iff J).2 hc
  have hlen := J.okL_len (hot - 1) J.size
  have hsz := J.size_le hJ
  have e1 : J.barErr (J.okL (hot - 1) J.size).length (fun _ => J.n) (J.barF hot) = 0 := by
    rw [Job.barErr_sum hc (by omega) fun t _ => J.barF_ok hot t, if_neg]
    rintro (h | h)
    · have h2 := (Job.barF_bar hJ hot J.zero_in).2 (by rw [J.waysN_zero _ (sumN_zero _ fun _ _ => rfl)]; omega)
      rw [h] at h2; cases h2
    · have h2 := (Job.barF_bar hJ hot J.in_last).1 h
      rw [hb.2 (hot - 1) (by omega)] at h2
      omega
  refine ⟨e1, ?_⟩
  unfold Job.barAns
  rw [if_pos e1]
  exact hb.bound hJ fun p hp => Job.barF_bar hJ hot hp
theorem Job.barF_apart {J : Job} {hot : Int} {i k : Nat} (hi : i < (J.okL (hot - 1) J.size).length) (hk : k < i) : ∃ j, j < J.n ∧ J.barF hot i j ≠ J.barF hot k j := by
  refine Classical.byContradiction fun hx => ?_
  have hall : ∀ j, j < J.n → J.barF hot i j = J.barF hot k j := fun j hj => Classical.byContradiction fun h => hx ⟨j, hj, h⟩
  have hd : J.dig ((J.okL (hot - 1) J.size).getD i 0) = J.dig ((J.okL (hot - 1) J.size).getD k 0) := by
    funext j
    rcases Nat.lt_or_ge j J.n with hj | hj
    · have := hall j hj
      unfold Job.barF at this
      omega
    · rw [(J.dig_in _).out j hj, (J.dig_in _).out j hj]
  have h1 := J.num_dig (Job.barF_at hi).1
  have h2 := J.num_dig (Job.barF_at (i := k) (hot := hot) (by omega)).1
  rw [hd] at h1
  have he : (J.okL (hot - 1) J.size).getD i 0 = (J.okL (hot - 1) J.size).getD k 0 := h1.symm.trans h2
  rw [List.getD_eq_getElem?_getD, List.getD_eq_getElem?_getD, List.getElem?_eq_getElem hi, List.getElem?_eq_getElem (by omega)] at he
  simp only [Option.getD_some] at he
  exact List.pairwise_iff_getElem.1 (J.okL_nodup (hot - 1) J.size) k i (by omega) hi hk he.symm
end Go.Proofs.Ytjpccfpmhmddjaa

