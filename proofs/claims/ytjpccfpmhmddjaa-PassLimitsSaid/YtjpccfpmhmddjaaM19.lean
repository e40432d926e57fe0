/-
  What is proved: plain words for PassTold.
-/
import Derived.Test.YtjpccfpmhmddjaaM15
import Derived.Test.YtjpccfpmhmddjaaM5
import Derived.Test.YtjpccfpmhmddjaaM4
import Derived.Test.YtjpccfpmhmddjaaM8
import Derived.Test.YtjpccfpmhmddjaaM9
import Derived.Test.YtjpccfpmhmddjaaM13
import Derived.Test.YtjpccfpmhmddjaaM7
import Derived.Test.YtjpccfpmhmddjaaM18
import Derived.Deep.CutRange
import Derived.Test.YtjpccfpmhmddjaaM1
import Derived.Test.YtjpccfpmhmddjaaM11
import Derived.Deep.RegionHeldLaw
set_option linter.all false
namespace Go.Proofs.Ytjpccfpmhmddjaa
open Go.RowKit

theorem least_or (q : Nat → Bool) (m : Nat) : (∀ i, i < m → q i = false) ∨ ∃ k, k < m ∧ q k = true ∧ ∀ i, i < k → q i = false := by
  induction m with
  | zero => exact .inl fun i hi => absurd hi (by omega)
  | succ m ih =>
    rcases ih with h | ⟨k, hk, h1, h2⟩
    · by_cases hm : q m = true
      · exact .inr ⟨m, by omega, hm, h⟩
      · left
        intro i hi
        rcases Nat.lt_or_ge i m with h3 | h3
        · exact h i h3
        · have : i = m := by omega
          subst this
          simpa using hm
    · exact .inr ⟨k, by omega, h1, h2⟩
/-- what Blue answers for an order that is right -/
theorem Job.blue_told {J : Job} {m : Nat} {f : Nat → Int} {l : Int} (h : J.followErr m f = 0) :
    (J.blueErr m f l = 5 ∧ J.blueAns m f l = 0 ∧ ∀ i, i < m → J.hotAt (natOf f) i ≤ l) ∨
    ∃ k : Nat, k < m ∧ J.blueErr m f l = 0 ∧ J.blueAns m f l = k ∧ l < J.hotAt (natOf f) k ∧ ∀ i, i < k → J.hotAt (natOf f) i ≤ l := by
  rcases least_or (J.blueQ f l) m with h1 | ⟨k, hk, h1, h2⟩
  · left
    have hi : J.blueIdx m f l = -1 := fstIdx_none _ _ h1
    obtain ⟨e1, e2⟩ := Job.blue_none (l := l) h (by rw [hi]; omega)
    refine ⟨e1, e2, fun i hi => ?_⟩
    have := h1 i hi
    unfold Job.blueQ at this
    simpa using this
  · right
    have hi : J.blueIdx m f l = k := fstIdx_at _ _ _ hk h2 h1
    obtain ⟨e1, e2⟩ := Job.blue_ok (l := l) h (by rw [hi]; omega)
    refine ⟨k, hk, e1, by rw [e2, hi], ?_, fun i hik => ?_⟩
    · unfold Job.blueQ at h1; simpa using h1
    · have := h2 i hik
      unfold Job.blueQ at this
      simpa using this
/-- the heat of a place that is handed over as numbers -/
theorem Job.heat_at {J : Job} (hc : J.check = 0) {p : Nat → Nat} (hp : J.In p) : J.heatErr J.n (fun i => (p i : Nat)) = 0 ∧ J.heatAns J.n (fun i => (p i : Nat)) = J.heat p := by
  have e0 : J.posErr J.n (fun i => (p i : Nat)) = 0 := Job.posErr_ok fun i hi => by have := hp.le i hi; omega
  have e1 : J.heatErr J.n (fun i => (p i : Nat)) = 0 := by unfold Job.heatErr; rw [if_pos hc, e0]
  refine ⟨e1, ?_⟩
  have e2 : J.posP J.n (fun i => (p i : Nat)) = p := by
    obtain ⟨h1, h2, h3⟩ := Job.posP_In e0
    funext i
    rcases Nat.lt_or_ge i J.n with hi | hi
    · have := h3 i hi; omega
    · rw [h2 i hi, hp.out i hi]
  unfold Job.heatAns
  rw [if_pos e1, e2]
/-- the greatest of the first heats as the law keeps it -/
def mostN (h : Nat → Int) : Nat → Int
  | 0 => 0
  | k + 1 => if k = 0 ∨ mostN h k < h k then h k else mostN h k
theorem mostN_max (h : Nat → Int) : ∀ m, 1 ≤ m → mostN h m = maxN h m
  | 0, hm => by omega
  | m + 1, _ => by
    by_cases h0 : m = 0
    · subst h0; simp [mostN, maxN]
    · have ih := mostN_max h m (by omega)
      simp only [mostN, maxN]
      rw [ih]
      split
      · rename_i hc; omega
      · rename_i hc; omega
theorem Job.OrdOk.walkIn {J : Job} {m : Nat} {g : Nat → Nat} (h : J.OrdOk m g) {k : Nat} (hk : k ≤ m) : J.In (walkP g k) :=
  ⟨fun r hr => by rw [← h.all r hr]; exact walkP_mono r m k hk, fun r hr => walkP_out k (fun i hi => h.lt i (by omega)) r hr⟩
end Go.Proofs.Ytjpccfpmhmddjaa

/-
  What is proved: plain words for PassLimits: what a higher limit changes, and where an order within a limit goes through.
-/
namespace Go.Proofs.Ytjpccfpmhmddjaa
open Go.RowKit

theorem Job.togoF_mono {J : Job} {l l' : Int} (h : l ≤ l') : ∀ (d : Nat) (q : Nat → Nat), J.togoF l d q ≤ J.togoF l' d q
  | 0, _ => Nat.le_refl _
  | d + 1, q => by
    simp only [Job.togoF]
    refine sumN_mono J.n fun r hr => ?_
    by_cases hc : q r < J.len r ∧ J.hot q r ≤ l
    · rw [if_pos hc, if_pos ⟨hc.1, by omega⟩]
      exact Job.togoF_mono h d _
    · rw [if_neg hc]; exact Nat.zero_le _
theorem Job.seenB_mono {J : Job} {l l' : Int} (h : l ≤ l') {r k t : Nat} (hs : J.seenB l r k t = true) : J.seenB l' r k t = true := by
  unfold Job.seenB at hs ⊢
  simp only [Bool.and_eq_true, decide_eq_true_eq] at hs ⊢
  obtain ⟨⟨⟨h1, h2⟩, h3⟩, h4⟩ := hs
  have a := Job.waysN_mono (J := J) h _ (J.dig t) rfl
  have b := Job.togoF_mono (J := J) h (J.rem (Job.to (J.dig t) r)) (Job.to (J.dig t) r)
  exact ⟨⟨⟨h1, by omega⟩, by omega⟩, Nat.lt_of_lt_of_le h4 b⟩
theorem Job.filT_mono {J : Job} {l l' : Int} (h : l ≤ l') {r k t : Nat} (hs : t ∈ filT (J.seenB l r k) J.size) : t ∈ filT (J.seenB l' r k) J.size := by
  unfold filT at hs ⊢
  obtain ⟨h1, h2⟩ := List.mem_filter.1 hs
  exact List.mem_filter.2 ⟨h1, Job.seenB_mono h h2⟩
theorem Job.mustB_mono {J : Job} {l l' : Int} (h : l ≤ l') {ra ka rb kb : Int} (hm : J.mustB l' ra ka rb kb = true) : J.mustB l ra ka rb kb = true := by
  unfold Job.mustB at hm ⊢
  simp only [Bool.not_eq_true', List.any_eq_false] at hm ⊢
  exact fun t ht => hm t (Job.filT_mono h ht)
theorem Job.befLo_le {J : Job} {L : List Nat} : ∀ k, k ≤ L.length → ∀ i, i < k → J.befLo L k ≤ J.heat (J.dig (L.getD i 0))
  | 0, _, _, h => absurd h (by omega)
  | k + 1, hk, i, hi => by
    simp only [Job.befLo]
    rcases Nat.lt_or_ge i k with h | h
    · have := J.befLo_le (L := L) k (by omega) i h; omega
    · have : i = k := by omega
      subst this; omega
theorem Job.befHi_ge {J : Job} {L : List Nat} : ∀ k, k ≤ L.length → ∀ i, i < k → J.heat (J.dig (L.getD i 0)) ≤ J.befHi L k
  | 0, _, _, h => absurd h (by omega)
  | k + 1, hk, i, hi => by
    simp only [Job.befHi]
    rcases Nat.lt_or_ge i k with h | h
    · have := J.befHi_ge (L := L) k (by omega) i h; omega
    · have : i = k := by omega
      subst this; omega
theorem Job.le_befLo {J : Job} {L : List Nat} {c : Int} (hc : c ≤ 1099511627776) : ∀ k, (∀ i, i < k → c ≤ J.heat (J.dig (L.getD i 0))) → c ≤ J.befLo L k
  | 0, _ => hc
  | k + 1, h => by
    have h1 := J.le_befLo hc k fun i hi => h i (by omega)
    have h2 := h k (by omega)
    simp only [Job.befLo]; omega
theorem Job.befHi_le {J : Job} {L : List Nat} {c : Int} (hc : -1099511627776 ≤ c) : ∀ k, (∀ i, i < k → J.heat (J.dig (L.getD i 0)) ≤ c) → J.befHi L k ≤ c
  | 0, _ => hc
  | k + 1, h => by
    have h1 := J.befHi_le hc k fun i hi => h i (by omega)
    have h2 := h k (by omega)
    simp only [Job.befHi]; omega
theorem mem_getD {L : List Nat} {t : Nat} (h : t ∈ L) : ∃ i, i < L.length ∧ L.getD i 0 = t := by
  obtain ⟨i, hi, he⟩ := List.getElem_of_mem h
  exact ⟨i, hi, by simp [List.getD_eq_getElem?_getD, hi, he]⟩
theorem getD_mem {L : List Nat} {i : Nat} (h : i < L.length) : L.getD i 0 ∈ L := by
  rw [List.getD_eq_getElem?_getD, List.getElem?_eq_getElem h]
  exact List.getElem_mem h
/-- the range of a list of places: it holds the heat of each -/
theorem Job.bef_in {J : Job} {L : List Nat} {t : Nat} (h : t ∈ L) : J.befLo L L.length ≤ J.heat (J.dig t) ∧ J.heat (J.dig t) ≤ J.befHi L L.length := by
  obtain ⟨i, hi, rfl⟩ := mem_getD h
  exact ⟨J.befLo_le _ (Nat.le_refl _) i hi, J.befHi_ge _ (Nat.le_refl _) i hi⟩
theorem Job.bef_mono {J : Job} {L L' : List Nat} (h : ∀ t, t ∈ L → t ∈ L') (hne : L ≠ []) (hb : ∀ t, t ∈ L' → -1099511627776 ≤ J.heat (J.dig t) ∧ J.heat (J.dig t) ≤ 1099511627776) :
    J.befLo L' L'.length ≤ J.befLo L L.length ∧ J.befHi L L.length ≤ J.befHi L' L'.length ∧ J.befLo L L.length ≤ J.befHi L L.length := by
  obtain ⟨x, hx⟩ := List.exists_mem_of_ne_nil L hne
  have hin := J.bef_in hx
  have hin' := J.bef_in (h x hx)
  have hbx := hb x (h x hx)
  refine ⟨Job.le_befLo (by omega) _ fun i hi => (J.bef_in (h _ (getD_mem hi))).1, Job.befHi_le (by omega) _ fun i hi => (J.bef_in (h _ (getD_mem hi))).2, by omega⟩

/-- an order within a limit goes through places that are on the way -/
theorem Job.OrdOk.ways {J : Job} {m : Nat} {g : Nat → Nat} {l : Int} (h : J.OrdOk m g) (hh : ∀ k, k < m → J.hotAt g k ≤ l) : ∀ k, k ≤ m → 0 < J.waysN l (walkP g k)
  | 0, _ => by rw [J.waysN_zero l (show J.deg (walkP g 0) = 0 from sumN_zero _ fun _ _ => rfl)]; omega
  | k + 1, hk => by
    have h1 := h.ways hh k (by omega)
    have hlt := h.lt k (by omega)
    have hw : walkP g (k + 1) = Job.to (walkP g k) (g k) := rfl
    have hdn : dn (Job.to (walkP g k) (g k)) (g k) = walkP g k := dn_to _ _
    rw [hw]
    have hpos : 0 < Job.to (walkP g k) (g k) (g k) := by simp [Job.to, upd]
    have hd := J.deg_dn hlt hpos
    rw [J.waysN_eq l (by omega)]
    refine Nat.pos_of_ne_zero fun hz => ?_
    have := sumN_eq_zero J.n hz (g k) hlt
    rw [hdn, if_pos ⟨hpos, hh k (by omega)⟩] at this
    omega
theorem Job.OrdOk.togo {J : Job} {m : Nat} {g : Nat → Nat} {l : Int} (h : J.OrdOk m g) (hh : ∀ k, k < m → J.hotAt g k ≤ l) : ∀ d k, k + d = m → 0 < J.togoN l (walkP g k)
  | 0, k, hk => by
    have : k = m := by omega
    subst this
    rw [J.togoN_zero l (sumN_zero _ fun r hr => by rw [h.all r hr]; omega)]; omega
  | d + 1, k, hk => by
    have ih := h.togo hh d (k + 1) (by omega)
    exact Job.togo_to (h.lt k (by omega)) (h.lt_len (by omega)) (hh k (by omega)) ih
theorem Job.OrdOk.seen {J : Job} {m : Nat} {g : Nat → Nat} {l : Int} (h : J.OrdOk m g) (hh : ∀ k, k < m → J.hotAt g k ≤ l) {i : Nat} (hi : i < m) :
    J.num (walkP g i) ∈ filT (J.seenB l (g i) (walkP g i (g i))) J.size := by
  have hin := h.walkIn (k := i) (by omega)
  unfold filT
  refine List.mem_filter.2 ⟨List.mem_range.2 (J.num_lt hin), ?_⟩
  unfold Job.seenB
  simp only [Bool.and_eq_true, decide_eq_true_eq]
  rw [J.dig_num hin]
  exact ⟨⟨⟨rfl, h.ways hh i (by omega)⟩, hh i hi⟩, h.togo hh (m - (i + 1)) (i + 1) (by omega)⟩
theorem walkP_step_at {g : Nat → Nat} {r k : Nat} : ∀ m, k < walkP g m r → ∃ i, i < m ∧ g i = r ∧ walkP g i r = k
  | 0, h => absurd h (by simp [walkP])
  | m + 1, h => by
    by_cases hc : k < walkP g m r
    · obtain ⟨i, h1, h2⟩ := walkP_step_at m hc
      exact ⟨i, by omega, h2⟩
    · simp only [walkP, upd] at h
      split at h
      · rename_i he
        exact ⟨m, by omega, he.symm, by rw [← he] at h; omega⟩
      · exact absurd h hc
/-- with a limit that is high enough there are places at which a pass can be next -/
theorem Job.seen_ne {J : Job} (hJ : J.Ok) {l : Int} {m : Nat} {g : Nat → Nat} (h : J.OrdOk m g) (hh : ∀ k, k < m → J.hotAt g k ≤ l) {r k : Nat} (hr : r < J.n) (hk : k < J.len r) : filT (J.seenB l r k) J.size ≠ [] := by
  obtain ⟨i, hi, h1, h2⟩ := walkP_step_at (g := g) (r := r) (k := k) m (by rw [h.all r hr]; exact hk)
  have := h.seen hh hi
  rw [h1, h2] at this
  exact List.ne_nil_of_mem this
theorem Job.seenErr_valid {J : Job} (hc : J.check = 0) {l : Int} {m : Nat} {R K : Nat → Int} (h : ∀ i, i < m → 0 ≤ R i ∧ R i < J.n ∧ 0 ≤ K i ∧ K i < J.len (R i).toNat) : J.seenErr l m R K = if J.waysN l J.last = 0 then 20 else 0 := by
  unfold Job.seenErr
  rw [if_neg (by omega), if_neg]
  simp only [Bool.not_eq_true, List.any_eq_false, List.mem_range]
  intro i hi
  have := h i hi
  unfold Job.noPass
  simp; omega
/-- all that PassLimits says of two limits, plainly -/
theorem Job.Best.limits {J : Job} (hc : J.check = 0) {hot : Int} (hB : J.Best hot) {m : Nat} {g : Nat → Nat} (ho : J.OrdOk m g) (hh : ∀ k, k < m → J.hotAt g k ≤ hot) {L M : Int} (hLM : L ≤ M)
    {R1 K1 R2 K2 : Nat} (h1 : R1 < J.n) (h2 : K1 < J.len R1) (h3 : R2 < J.n) (h4 : K2 < J.len R2) :
    (¬ hot ≤ L ∧ ¬ hot ≤ M ∧ J.countAns L = 0 ∧ J.countAns M = 0 ∧ J.seenErr L 2 (two R1 R2) (two K1 K2) = 20 ∧ J.seenErr M 2 (two R1 R2) (two K1 K2) = 20 ∧ J.seenErr L 1 (fun _ => R1) (fun _ => K1) = 20 ∧ J.seenErr M 1 (fun _ => R1) (fun _ => K1) = 20 ∧
      J.mustAns L R1 K1 R2 K2 = false ∧ J.mustAns M R1 K1 R2 K2 = false) ∨
    (¬ hot ≤ L ∧ hot ≤ M ∧ J.countAns L = 0 ∧ 0 < J.countAns M ∧ J.seenErr L 2 (two R1 R2) (two K1 K2) = 20 ∧ J.seenErr M 2 (two R1 R2) (two K1 K2) = 0 ∧ J.seenErr L 1 (fun _ => R1) (fun _ => K1) = 20 ∧ J.seenErr M 1 (fun _ => R1) (fun _ => K1) = 0 ∧
      J.mustAns L R1 K1 R2 K2 = false) ∨
    (hot ≤ L ∧ hot ≤ M ∧ 0 < J.countAns L ∧ J.countAns L ≤ J.countAns M ∧ J.seenErr L 2 (two R1 R2) (two K1 K2) = 0 ∧ J.seenErr M 2 (two R1 R2) (two K1 K2) = 0 ∧ J.seenErr L 1 (fun _ => R1) (fun _ => K1) = 0 ∧ J.seenErr M 1 (fun _ => R1) (fun _ => K1) = 0 ∧
      (J.mustAns M R1 K1 R2 K2 = true → J.mustAns L R1 K1 R2 K2 = true) ∧
      J.befLo (J.befL M R1 K1) (J.befL M R1 K1).length ≤ J.befLo (J.befL L R1 K1) (J.befL L R1 K1).length ∧ J.befHi (J.befL L R1 K1) (J.befL L R1 K1).length ≤ J.befHi (J.befL M R1 K1) (J.befL M R1 K1).length ∧
      J.befLo (J.befL L R1 K1) (J.befL L R1 K1).length ≤ J.befHi (J.befL L R1 K1) (J.befL L R1 K1).length) := by
  have hJ := (Job.Ok_iff J).2 hc
  have v1 : ∀ i, i < 1 → 0 ≤ (fun _ : Nat => (R1 : Int)) i ∧ (fun _ : Nat => (R1 : Int)) i < J.n ∧ 0 ≤ (fun _ : Nat => (K1 : Int)) i ∧ (fun _ : Nat => (K1 : Int)) i < J.len ((fun _ : Nat => (R1 : Int)) i).toNat := fun i _ => ⟨by simp, by simpa using h1, by simp, by simpa using h2⟩
  have v2 : ∀ i, i < 2 → 0 ≤ two R1 R2 i ∧ two R1 R2 i < J.n ∧ 0 ≤ two K1 K2 i ∧ two K1 K2 i < J.len (two R1 R2 i).toNat := fun i hi => by
    rcases (by omega : i = 0 ∨ i = 1) with rfl | rfl <;> simp [two] <;> omega
  have S1 := fun l => Job.seenErr_valid hc (l := l) v1
  have S2 := fun l => Job.seenErr_valid hc (l := l) v2
  have hct : ∀ l, J.countAns l = (J.waysN l J.last : Nat) := fun l => by unfold Job.countAns; rw [if_pos hc]
  have w0 : ∀ l, ¬ hot ≤ l → J.waysN l J.last = 0 := fun l hl => hB.2 l (by omega)
  have w1 : ∀ l, hot ≤ l → 0 < J.waysN l J.last := fun l hl => (hB.iff l).2 hl
  by_cases hA : hot ≤ L
  · right; right
    have hM : hot ≤ M := by omega
    have a := w1 L hA; have b := w1 M hM
    have ab := Job.waysN_mono (J := J) hLM _ J.last rfl
    have eL2 : J.seenErr L 2 (two R1 R2) (two K1 K2) = 0 := by rw [S2, if_neg (by omega)]
    have eM2 : J.seenErr M 2 (two R1 R2) (two K1 K2) = 0 := by rw [S2, if_neg (by omega)]
    have hbf := Job.bef_mono (J := J) (L := J.befL L R1 K1) (L' := J.befL M R1 K1) (fun t ht => Job.filT_mono hLM ht)
      (Job.seen_ne hJ ho (fun k hk => by have := hh k hk; omega) h1 h2) (fun t ht => by
        have := hJ.heat_bd (J.dig_in t).le
        omega)
    refine ⟨hA, hM, by rw [hct]; omega, by rw [hct, hct]; omega, eL2, eM2, by rw [S1, if_neg (by omega)], by rw [S1, if_neg (by omega)], ?_, hbf⟩
    unfold Job.mustAns
    rw [if_pos eL2, if_pos eM2]
    exact Job.mustB_mono hLM
  · have a := w0 L hA
    have eL2 : J.seenErr L 2 (two R1 R2) (two K1 K2) = 20 := by rw [S2, if_pos a]
    have mL : J.mustAns L R1 K1 R2 K2 = false := by unfold Job.mustAns; rw [if_neg (by omega)]
    by_cases hM : hot ≤ M
    · right; left
      have b := w1 M hM
      exact ⟨hA, hM, by rw [hct, a]; rfl, by rw [hct]; omega, eL2, by rw [S2, if_neg (by omega)], by rw [S1, if_pos a], by rw [S1, if_neg (by omega)], mL⟩
    · left
      have b := w0 M hM
      have eM2 : J.seenErr M 2 (two R1 R2) (two K1 K2) = 20 := by rw [S2, if_pos b]
      exact ⟨hA, hM, by rw [hct, a]; rfl, by rw [hct, b]; rfl, eL2, eM2, by rw [S1, if_pos a], by rw [S1, if_pos b], mL, by unfold Job.mustAns; rw [if_neg (by omega)]⟩
/-- what an order within a limit does at the two passes -/
theorem Job.OrdOk.limits {J : Job} {m : Nat} {g : Nat → Nat} {L : Int} (h : J.OrdOk m g) (hh : ∀ k, k < m → J.hotAt g k ≤ L) {i : Nat} (hi : i < m) {R1 K1 R2 K2 : Nat} :
    (g i = R1 → walkP g i R1 = K1 → J.befLo (J.befL L R1 K1) (J.befL L R1 K1).length ≤ J.heat (walkP g i) ∧ J.heat (walkP g i) ≤ J.befHi (J.befL L R1 K1) (J.befL L R1 K1).length) ∧
    (g i = R2 → walkP g i R2 = K2 → J.mustAns L R1 K1 R2 K2 = true → ¬ walkP g i R1 ≤ K1) := by
  have hs := h.seen hh hi
  have hin := h.walkIn (k := i) (by omega)
  refine ⟨fun h1 h2 => ?_, fun h1 h2 h3 h4 => ?_⟩
  · rw [h1, h2] at hs
    have := J.bef_in (L := J.befL L R1 K1) hs
    rwa [J.dig_num hin] at this
  · rw [h1, h2] at hs
    unfold Job.mustAns at h3
    split at h3
    · unfold Job.mustB at h3
      simp only [Bool.not_eq_true', List.any_eq_false] at h3
      have := h3 _ hs
      rw [J.dig_num hin] at this
      simp at this
      omega
    · cases h3
end Go.Proofs.Ytjpccfpmhmddjaa

/-
  What is proved: a job in a box whose edges are made one after another.
-/
namespace Go.Proofs.Ytjpccfpmhmddjaa
open Go.RowKit

/-- the box xb holds a job of which i edges are made -/
def MadeX (W1 W : World) (xb : Nat) (st : Int) (T : Job) (i : Nat) (xr : Value) (row : Nat → Value) : Prop :=
  W.heap[xb]? = some (.cells #[.int .i64 st, xr] 24) ∧ W.ownsRow (xb + 1) 62 1 xr i (tableL i 1 (fun t _ => row t)) ∧ (∀ t, t < i → W.ownsRow (xb + 1) 65 2 (row t) (T.len t) (tableL (T.len t) 2 (pas T t))) ∧ W1.grows W
theorem MadeX.grow {W1 W W2 : World} {xb : Nat} {st : Int} {T : Job} {i : Nat} {xr : Value} {row : Nat → Value} (h : MadeX W1 W xb st T i xr row) (g : W.grows W2) : MadeX W1 W2 xb st T i xr row :=
  ⟨g.heap_of h.1, h.2.1.grow g, fun t ht => (h.2.2.1 t ht).grow g, h.2.2.2.trans g⟩
theorem boxX_cells {W : World} {xb : Nat} {a b : Value} (h : W.heap[xb]? = some (.cells #[a, b] 24)) : W.cell? ⟨xb, 0, none⟩ = some a ∧ W.cell? ⟨xb, 1, none⟩ = some b ∧ W.frozen? ⟨xb, 1, none⟩ = false := by
  unfold World.cell? World.frozen?
  simp only [h]
  refine ⟨rfl, rfl, by simp⟩
theorem boxX_store {W : World} {xb : Nat} {a b : Value} (h : W.heap[xb]? = some (.cells #[a, b] 24)) (v : Value) : (W.setCell ⟨xb, 1, none⟩ v).heap[xb]? = some (.cells #[a, v] 24) := by
  unfold World.setCell
  simp only [Array.getElem?_modify, h, if_true, Option.map_some]
  rfl
theorem el62 : Try.prog.knows 62 (.slice none 0 0) 1 24 := Program.knows_of (by kernel_rfl)
theorem tableL_pushV {i : Nat} {row : Nat → Value} {u : Value} : tableL (i + 1) 1 (fun t _ => if t < i then row t else u) = tableL i 1 (fun t _ => row t) ++ tableL 1 1 (fun _ _ => u) := by
  rw [tableL_snoc]
  congr 1
  · unfold tableL
    apply List.map_congr_left
    intro x hx
    have : x < i := by simpa using hx
    simp [this]
  · simp [tableL]
theorem MadeX.push {W1 W W2 : World} {xb : Nat} {st : Int} {T : Job} {i : Nat} {xr u v' : Value} {row : Nat → Value} (h : MadeX W1 W xb st T i xr row) (hb : W1.heap.size ≤ xb)
    (hu : W.ownsRow (xb + 1) 65 2 u (T.len i) (tableL (T.len i) 2 (pas T i))) (h' : W2.ownsRow (xb + 1) 62 1 v' (i + 1) (tableL i 1 (fun t _ => row t) ++ tableL 1 1 (fun _ _ => u))) (g : W.grownBy W2 xr.ownBlock) :
    MadeX W1 (W2.setCell ⟨xb, 1, none⟩ v') xb st T (i + 1) v' (fun t => if t < i then row t else u) := by
  have hne : some xb ≠ xr.ownBlock := fun e => by have := (h.2.1.lt xb e.symm).1; omega
  have hx2 : W2.heap[xb]? = some (.cells #[.int .i64 st, xr] 24) := by
    rw [g.block xb (World.lt_of_block h.1) hne]; exact h.1
  refine ⟨boxX_store hx2 v', ?_, fun t ht => ?_, ?_⟩
  · rw [tableL_pushV]
    exact h'.set (show xb < xb + 1 by omega) _
  · refine World.ownsRow.set ?_ (show xb < xb + 1 by omega) _
    by_cases hlt : t < i
    · simp only [hlt, if_true]
      exact (h.2.2.1 t hlt).other h.2.1 (by decide) g
    · have : t = i := by omega
      subst this
      simp only [Nat.lt_irrefl, if_false]
      exact hu.other h.2.1 (by decide) g
  · exact (World.grownBy.grows g h.2.1 (W0 := W1) h.2.2.2 (by omega)).setCell hb _
theorem MadeX.raw {W1 W : World} {xb : Nat} {st : Int} {T : Job} {xr : Value} {row : Nat → Value} (h : MadeX W1 W xb st T T.n xr row) (hs : T.start = st) : RawAt W (.agg #[.int .i64 st, xr]) T :=
  ⟨xr, row, by rw [hs], h.2.1.sliceAt fun i j hi hj => tableL_get _ hi hj, fun i hi => (h.2.2.1 i hi).sliceAt fun k j hk hj => tableL_get _ hk hj⟩
/-- two numbers beside each other -/
def prC (a b : Int) (_ j : Nat) : Value := if j = 0 then .int .i64 a else .int .i64 b
theorem pair_slice (w : World) (a b : Int) (t blk : Nat) (hb : blk = w.heap.size) : SliceAt (w.alloc (.cells #[.int .i64 a, .int .i64 b] t)) (.slice (some ⟨blk, 0, none⟩) 1 1) 1 2 (prC a b) := by
  subst hb
  refine ⟨_, _, rfl, by omega, by unfold maxLen; omega, fun i j hi hj => ⟨_, _, rfl, ?_⟩⟩
  have hi0 : i = 0 := by omega
  subst hi0
  rcases (by omega : j = 0 ∨ j = 1) with rfl | rfl <;> simp [go_sem, prC]
theorem pair_one (a b : Int) : ∀ u ∈ tableL 1 2 (prC a b), u.oneCell' = true := by
  intro u hu
  simp only [tableL, List.mem_map] at hu
  obtain ⟨k, _, rfl⟩ := hu
  unfold prC
  split <;> rfl
theorem pas_push {w : World} {base : Nat} {e : TypeId} {v : Value} {T : Job} {q d : Nat} {a b : Int} (ho : w.ownsRow base e 2 v (d + 1) (tableL d 2 (pas T q) ++ tableL 1 2 (prC a b))) (ha : a = T.pk q d) (hb : b = T.lv q d) :
    w.ownsRow base e 2 v (d + 1) (tableL (d + 1) 2 (pas T q)) := by
  rw [tableL_snoc]
  subst ha; subst hb
  have e : tableL 1 2 (prC (T.pk q d) (T.lv q d)) = (List.range 2).map (pas T q d) := by simp [tableL, prC, pas, List.range_succ]
  rw [← e]; exact ho
/-- a row of another type stays when a block is written to -/
theorem ownsRow_setElse {W : World} {base : Nat} {e e' : TypeId} {sz : Nat} {v : Value} {n : Nat} {xs : List Value} {ys : Array Value} (h : W.ownsRow base e sz v n xs) {b : Nat} (hb : W.heap[b]? = some (.cells ys e')) (hne : e ≠ e') (i : Nat) (u : Value) :
    (W.setCell ⟨b, i, none⟩ u).ownsRow base e sz v n xs := by
  refine ⟨h.1, ?_⟩
  rcases h.2 with hn | ⟨g, cap, cur, rfl, hg, hgg, rest⟩
  · exact .inl hn
  · refine .inr ⟨g, cap, cur, rfl, hg, ?_, rest⟩
    rw [World.setCell_heap_other]
    · exact hgg
    · rintro rfl
      rw [hb] at hgg
      cases hgg
      exact hne rfl
/-- the box xb holds a job of which i edges are taken from elsewhere -/
def MadeF (W1 W : World) (xb : Nat) (st : Int) (i : Nat) (xr : Value) (V : Nat → Value) : Prop :=
  W.heap[xb]? = some (.cells #[.int .i64 st, xr] 24) ∧ W.ownsRow (xb + 1) 62 1 xr i (tableL i 1 (fun t _ => V t)) ∧ W1.grows W
theorem MadeF.grow {W1 W W2 : World} {xb : Nat} {st : Int} {i : Nat} {xr : Value} {V : Nat → Value} (h : MadeF W1 W xb st i xr V) (g : W.grows W2) : MadeF W1 W2 xb st i xr V :=
  ⟨g.heap_of h.1, h.2.1.grow g, h.2.2.trans g⟩
theorem MadeF.box {W1 W W2 : World} {xb : Nat} {st : Int} {i : Nat} {xr : Value} {V : Nat → Value} (h : MadeF W1 W xb st i xr V) (g : W.grownBy W2 xr.ownBlock) : W2.heap[xb]? = some (.cells #[.int .i64 st, xr] 24) := by
  rw [g.block xb (World.lt_of_block h.1) (fun e => by have := (h.2.1.lt xb e.symm).1; omega)]
  exact h.1
theorem MadeF.push {W1 W W2 : World} {xb : Nat} {st : Int} {i : Nat} {xr v' : Value} {V : Nat → Value} (h : MadeF W1 W xb st i xr V) (hb : W1.heap.size ≤ xb)
    (h' : W2.ownsRow (xb + 1) 62 1 v' (i + 1) (tableL i 1 (fun t _ => V t) ++ tableL 1 1 (fun _ _ => V i))) (g : W.grownBy W2 xr.ownBlock) :
    MadeF W1 (W2.setCell ⟨xb, 1, none⟩ v') xb st (i + 1) v' V := by
  refine ⟨boxX_store (h.box g) v', ?_, ?_⟩
  · rw [tableL_snoc]
    exact h'.set (show xb < xb + 1 by omega) _
  · exact (World.grownBy.grows g h.2.1 (W0 := W1) h.2.2 (by omega)).setCell hb _
/-- what else the call owns stays, too -/
theorem MadeF.also {W1 W W2 : World} {xb : Nat} {st : Int} {i : Nat} {xr v' ov : Value} {V : Nat → Value} {n : Nat} {xs : List Value} (h : MadeF W1 W xb st i xr V) (ho : W.ownsRow (xb + 1) 3 1 ov n xs) (g : W.grownBy W2 xr.ownBlock) :
    (W2.setCell ⟨xb, 1, none⟩ v').ownsRow (xb + 1) 3 1 ov n xs := (ho.other h.2.1 (by decide) g).set (show xb < xb + 1 by omega) _
theorem MadeF.beside {W1 W W2 : World} {xb : Nat} {st : Int} {i : Nat} {xr ov : Value} {V : Nat → Value} {n : Nat} {xs : List Value} (h : MadeF W1 W xb st i xr V) (hb : W1.heap.size ≤ xb) (ho : W.ownsRow (xb + 1) 3 1 ov n xs) (g : W.grownBy W2 ov.ownBlock) : MadeF W1 W2 xb st i xr V := by
  refine ⟨?_, h.2.1.other ho (by decide) g, World.grownBy.grows g ho (W0 := W1) h.2.2 (by omega)⟩
  rw [g.block xb (World.lt_of_block h.1) (fun e => by have := (ho.lt xb e.symm).1; omega)]
  exact h.1
theorem MadeF.written {W1 W : World} {xb : Nat} {st : Int} {i : Nat} {xr : Value} {V : Nat → Value} (h : MadeF W1 W xb st i xr V) (hb : W1.heap.size ≤ xb) {ob : Nat} (hob : xb < ob) {ys : Array Value} (hc : W.heap[ob]? = some (.cells ys 3)) (k : Nat) (u : Value) :
    MadeF W1 (W.setCell ⟨ob, k, none⟩ u) xb st i xr V := by
  refine ⟨?_, ownsRow_setElse h.2.1 hc (by decide) k u, h.2.2.setCell (show W1.heap.size ≤ ob by omega) _⟩
  rw [World.setCell_heap_other (by omega)]
  exact h.1
/-- the block of a row that is there -/
theorem ownsRow_block {W : World} {base : Nat} {e : TypeId} {sz : Nat} {g n cap : Nat} {xs : List Value} (h : W.ownsRow base e sz (.slice (some ⟨g, 0, none⟩) n cap) n xs) (hn : 0 < n) : base ≤ g ∧ ∃ ys, W.heap[g]? = some (.cells ys e) := by
  rcases h.2 with ⟨he, _⟩ | ⟨g', cap', cur, he, hg, hgg, _⟩
  · cases he
  · cases he; exact ⟨hg, _, hgg⟩
end Go.Proofs.Ytjpccfpmhmddjaa

/-
  What is proved: boxes of numbers.
-/
namespace Go.Proofs.Ytjpccfpmhmddjaa
open Go.RowKit
attribute [local irreducible] Go.wpCalm

/-- a box of two numbers -/
def PairAt (W : World) (b : Nat) (x y : Int) : Prop := W.cell? ⟨b, 0, none⟩ = some (.int .i64 x) ∧ W.cell? ⟨b, 1, none⟩ = some (.int .i64 y)
theorem PairAt.mono {W W' : World} {b : Nat} {x y : Int} (h : PairAt W b x y) (g : W.grows W') : PairAt W' b x y := ⟨g.cell_of h.1, g.cell_of h.2⟩
theorem PairAt.new (W : World) (x y : Int) (t : TypeId) : PairAt (W.alloc (.cells #[.int .i64 x, .int .i64 y] t)) W.heap.size x y := ⟨by simp [go_sem], by simp [go_sem]⟩
/-- a box of four small numbers -/
def FourAt (W : World) (b : Nat) (x0 x1 x2 x3 : Nat) : Prop := W.cell? ⟨b, 0, none⟩ = some (.int .u8 x0) ∧ W.cell? ⟨b, 1, none⟩ = some (.int .u8 x1) ∧ W.cell? ⟨b, 2, none⟩ = some (.int .u8 x2) ∧ W.cell? ⟨b, 3, none⟩ = some (.int .u8 x3)
theorem FourAt.mono {W W' : World} {b x0 x1 x2 x3 : Nat} (h : FourAt W b x0 x1 x2 x3) (g : W.grows W') : FourAt W' b x0 x1 x2 x3 := ⟨g.cell_of h.1, g.cell_of h.2.1, g.cell_of h.2.2.1, g.cell_of h.2.2.2⟩
theorem FourAt.new (W : World) (x0 x1 x2 x3 : Nat) (t : TypeId) : FourAt (W.alloc (.cells #[.int .u8 x0, .int .u8 x1, .int .u8 x2, .int .u8 x3] t)) W.heap.size x0 x1 x2 x3 := ⟨by simp [go_sem], by simp [go_sem], by simp [go_sem], by simp [go_sem]⟩

end Go.Proofs.Ytjpccfpmhmddjaa

/-
  What is proved: PassLimits returns true (the walk), a job that is not valid, or too many numbers.
-/
namespace Go.Proofs.Ytjpccfpmhmddjaa
open Go.RowKit
attribute [local irreducible] Go.wpCalm

set_option maxRecDepth 100000 in
set_option maxHeartbeats 16000000 in
theorem limits_0 (w : World) (v : Value) (J : Job) (hv : RawAt w v J) (off : Int) (hoff : -32768 ≤ off ∧ off ≤ 32767) (up : Int) (hup : 0 ≤ up ∧ up ≤ 65535)
    (bv : Value) (mb : Nat) (fb : Nat → Int) (hb : NumsAt .u8 w bv mb fb) (hfb0 : ∀ i, i < mb → 0 ≤ fb i ∧ fb i ≤ 255) (a0 a1 a2 a3 : Nat) (ha0 : a0 ≤ 255) (ha1 : a1 ≤ 255) (ha2 : a2 ≤ 255) (ha3 : a3 ≤ 255) (hq : J.check ≠ 0 ∨ 40 < mb) :
    Calls Try.prog 8 #[v, .int .i16 off, .int .u16 up, bv, .agg #[.int .u8 a0, .int .u8 a1, .int .u8 a2, .int .u8 a3]] w fun e w' => e = .returned (.bool true) ∧ w.grows w' := by
  obtain ⟨rv, row, rfl, hs, hr⟩ := hv
  have Hv := Lib.hid (show RawAt w (.agg #[.int .i64 J.start, rv]) J from ⟨rv, row, rfl, hs, hr⟩)
  have hx0 := BoxAt.start (w := w) (rv := rv) (J := J) ⟨rv, row, rfl, hs, hr⟩
  have HX := Lib.hid (hx0.mono (World.grows.alloc (World.grows.refl _) (.cells #[.int .u8 a0, .int .u8 a1, .int .u8 a2, .int .u8 a3] 60)))
  have HF := Lib.hid (FourAt.new (w.alloc (.cells #[.int .i64 J.start, rv] 24)) a0 a1 a2 a3 60)
  simp only [World.size_alloc] at HF
  have hg0 : w.grows ((w.alloc (.cells #[.int .i64 J.start, rv] 24)).alloc (.cells #[.int .u8 a0, .int .u8 a1, .int .u8 a2, .int .u8 a3] 60)) := by (repeat (first | exact World.grows.refl _ | assumption | refine World.grows.alloc ?_ _ | refine World.grows.plus ?_ _ _ | refine World.grows.drew ?_))
  have HB := Lib.hid (hb.mono hg0)
  have hfb := Lib.hid hfb0
  obtain ⟨ba, bcap, rfl, hb1, hb2, -⟩ := hb
  unfold maxLen at hb2
  clear hs hr hfb0 hg0 hx0
  have c0 := HX.out.2.2.1; have c1 := HX.out.2.2.2
  have f0 := HF.out.1; have f1 := HF.out.2.1; have f2 := HF.out.2.2.1; have f3 := HF.out.2.2.2
  have h38 := fun W h => fine_c W (.agg #[.int .i64 J.start, rv]) J h
  go_enter Try.func8, Try.ntmps8
  by_cases hc : J.check = 0
  · rw [decide_eq_true hc] at h38
    have hmb : 40 < mb := by rcases hq with h | h; exact absurd hc h; exact h
    clear hq
    go_wp2_with (first
      | (go_at_call 38; refine (h38 _ (HX.out.1.mono (by (repeat (first | exact World.grows.refl _ | assumption | refine World.grows.alloc ?_ _ | refine World.grows.plus ?_ _ _ | refine World.grows.drew ?_))))).mono ?_; rintro e W2 ⟨rfl, hg⟩; replace HB := Lib.hid (HB.out.mono (World.grows.trans (by (repeat (first | exact World.grows.refl _ | assumption | refine World.grows.alloc ?_ _ | refine World.grows.plus ?_ _ _ | refine World.grows.drew ?_))) hg)); replace HX := Lib.hid (HX.out.mono (World.grows.trans (by (repeat (first | exact World.grows.refl _ | assumption | refine World.grows.alloc ?_ _ | refine World.grows.plus ?_ _ _ | refine World.grows.drew ?_))) hg)); replace c0 := HX.out.2.2.1; replace c1 := HX.out.2.2.2; replace HF := Lib.hid (HF.out.mono (World.grows.trans (by (repeat (first | exact World.grows.refl _ | assumption | refine World.grows.alloc ?_ _ | refine World.grows.plus ?_ _ _ | refine World.grows.drew ?_))) hg)); replace f0 := HF.out.1; replace f1 := HF.out.2.1; replace f2 := HF.out.2.2.1; replace f3 := HF.out.2.2.2; clear hg)
      | (go_at_call 15; refine (works_c _).mono ?_; rintro e W2 ⟨rfl, hg⟩; replace HX := Lib.hid (HX.out.mono (World.grows.trans (by (repeat (first | exact World.grows.refl _ | assumption | refine World.grows.alloc ?_ _ | refine World.grows.plus ?_ _ _ | refine World.grows.drew ?_))) hg)); clear hg))
    go_ret
    exact ⟨rfl, HX.out.2.1.trans (by (repeat (first | exact World.grows.refl _ | assumption | refine World.grows.alloc ?_ _ | refine World.grows.plus ?_ _ _ | refine World.grows.drew ?_)))⟩
  · rw [decide_eq_false hc] at h38
    clear hq
    go_wp2_with (first
      | (go_at_call 38; refine (h38 _ (HX.out.1.mono (by (repeat (first | exact World.grows.refl _ | assumption | refine World.grows.alloc ?_ _ | refine World.grows.plus ?_ _ _ | refine World.grows.drew ?_))))).mono ?_; rintro e W2 ⟨rfl, hg⟩; replace HB := Lib.hid (HB.out.mono (World.grows.trans (by (repeat (first | exact World.grows.refl _ | assumption | refine World.grows.alloc ?_ _ | refine World.grows.plus ?_ _ _ | refine World.grows.drew ?_))) hg)); replace HX := Lib.hid (HX.out.mono (World.grows.trans (by (repeat (first | exact World.grows.refl _ | assumption | refine World.grows.alloc ?_ _ | refine World.grows.plus ?_ _ _ | refine World.grows.drew ?_))) hg)); replace c0 := HX.out.2.2.1; replace c1 := HX.out.2.2.2; replace HF := Lib.hid (HF.out.mono (World.grows.trans (by (repeat (first | exact World.grows.refl _ | assumption | refine World.grows.alloc ?_ _ | refine World.grows.plus ?_ _ _ | refine World.grows.drew ?_))) hg)); replace f0 := HF.out.1; replace f1 := HF.out.2.1; replace f2 := HF.out.2.2.1; replace f3 := HF.out.2.2.2; clear hg)
      | (go_at_call 15; refine (works_c _).mono ?_; rintro e W2 ⟨rfl, hg⟩; replace HX := Lib.hid (HX.out.mono (World.grows.trans (by (repeat (first | exact World.grows.refl _ | assumption | refine World.grows.alloc ?_ _ | refine World.grows.plus ?_ _ _ | refine World.grows.drew ?_))) hg)); clear hg))
    go_ret
    exact ⟨rfl, HX.out.2.1.trans (by (repeat (first | exact World.grows.refl _ | assumption | refine World.grows.alloc ?_ _ | refine World.grows.plus ?_ _ _ | refine World.grows.drew ?_)))⟩
end Go.Proofs.Ytjpccfpmhmddjaa

/-
  What is proved: PassLimits returns true (the walk), a limit that is too low, and stays so.
-/
namespace Go.Proofs.Ytjpccfpmhmddjaa
open Go.RowKit
attribute [local irreducible] Go.wpCalm

set_option maxRecDepth 100000 in
set_option maxHeartbeats 16000000 in
theorem limits_1 (w : World) (v : Value) (J : Job) (hv : RawAt w v J) (off : Int) (hoff : -32768 ≤ off ∧ off ≤ 32767) (up : Int) (hup : 0 ≤ up ∧ up ≤ 65535)
    (bv : Value) (mb : Nat) (fb : Nat → Int) (hb : NumsAt .u8 w bv mb fb) (hfb0 : ∀ i, i < mb → 0 ≤ fb i ∧ fb i ≤ 255) (a0 a1 a2 a3 : Nat) (ha0 : a0 ≤ 255) (ha1 : a1 ≤ 255) (ha2 : a2 ≤ 255) (ha3 : a3 ≤ 255) (hc : J.check = 0) (hot : Int) (hB0 : J.Best hot) (hmb : ¬ 40 < mb) (h1 : hot + off + up < hot) :
    Calls Try.prog 8 #[v, .int .i16 off, .int .u16 up, bv, .agg #[.int .u8 a0, .int .u8 a1, .int .u8 a2, .int .u8 a3]] w fun e w' => e = .returned (.bool true) ∧ w.grows w' := by
  obtain ⟨rv, row, rfl, hs, hr⟩ := hv
  have Hv := Lib.hid (show RawAt w (.agg #[.int .i64 J.start, rv]) J from ⟨rv, row, rfl, hs, hr⟩)
  have hx0 := BoxAt.start (w := w) (rv := rv) (J := J) ⟨rv, row, rfl, hs, hr⟩
  have HX := Lib.hid (hx0.mono (World.grows.alloc (World.grows.refl _) (.cells #[.int .u8 a0, .int .u8 a1, .int .u8 a2, .int .u8 a3] 60)))
  have HF := Lib.hid (FourAt.new (w.alloc (.cells #[.int .i64 J.start, rv] 24)) a0 a1 a2 a3 60)
  simp only [World.size_alloc] at HF
  have hg0 : w.grows ((w.alloc (.cells #[.int .i64 J.start, rv] 24)).alloc (.cells #[.int .u8 a0, .int .u8 a1, .int .u8 a2, .int .u8 a3] 60)) := by (repeat (first | exact World.grows.refl _ | assumption | refine World.grows.alloc ?_ _ | refine World.grows.plus ?_ _ _ | refine World.grows.drew ?_))
  have HB := Lib.hid (hb.mono hg0)
  have hfb := Lib.hid hfb0
  obtain ⟨ba, bcap, rfl, hb1, hb2, -⟩ := hb
  unfold maxLen at hb2
  clear hs hr hfb0 hg0 hx0
  have c0 := HX.out.2.2.1; have c1 := HX.out.2.2.2
  have f0 := HF.out.1; have f1 := HF.out.2.1; have f2 := HF.out.2.2.1; have f3 := HF.out.2.2.2
  have h38 := fun W h => fine_c W (.agg #[.int .i64 J.start, rv]) J h
  go_enter Try.func8, Try.ntmps8
  · rw [decide_eq_true hc] at h38
    have Hc := Lib.hid hc
    have HB0 := Lib.hid hB0
    clear hB0
    have HJ := Lib.hid ((Job.Ok_iff J).2 hc)
    clear hc
    obtain ⟨jb, jo, jcap, rb, ro, rc, hrv, hjc, hjc2, hR⟩ := Hv.out.job HJ.out
    obtain ⟨rfl⟩ : rv = .slice (some ⟨jb, jo, none⟩) J.n jcap := by simpa using hrv
    have HR := Lib.hid hR
    unfold maxLen at hjc2
    have hn1 := HJ.out.n1
    have hn4 := HJ.out.n4
    have hn9 : J.n ≤ 1000000000 := by omega
    clear hR
    go_wp2_with (first
      | (go_at_call 38; refine (h38 _ (HX.out.1.mono (by (repeat (first | exact World.grows.refl _ | assumption | refine World.grows.alloc ?_ _ | refine World.grows.plus ?_ _ _ | refine World.grows.drew ?_))))).mono ?_; rintro e W2 ⟨rfl, hg⟩; replace HB := Lib.hid (HB.out.mono (World.grows.trans (by (repeat (first | exact World.grows.refl _ | assumption | refine World.grows.alloc ?_ _ | refine World.grows.plus ?_ _ _ | refine World.grows.drew ?_))) hg)); replace HX := Lib.hid (HX.out.mono (World.grows.trans (by (repeat (first | exact World.grows.refl _ | assumption | refine World.grows.alloc ?_ _ | refine World.grows.plus ?_ _ _ | refine World.grows.drew ?_))) hg)); replace c0 := HX.out.2.2.1; replace c1 := HX.out.2.2.2; replace HF := Lib.hid (HF.out.mono (World.grows.trans (by (repeat (first | exact World.grows.refl _ | assumption | refine World.grows.alloc ?_ _ | refine World.grows.plus ?_ _ _ | refine World.grows.drew ?_))) hg)); replace f0 := HF.out.1; replace f1 := HF.out.2.1; replace f2 := HF.out.2.2.1; replace f3 := HF.out.2.2.2; clear hg)
      | (go_at_call 44; fail))
    clear h38
    (refine (best_c _ _ J (HX.out.1.mono (by (repeat (first | exact World.grows.refl _ | assumption | refine World.grows.alloc ?_ _ | refine World.grows.plus ?_ _ _ | refine World.grows.drew ?_))))).mono ?_; rintro e W2 ⟨sv, hot2, rfl, hg, -, hbb⟩; rw [Hc.out]; obtain rfl : hot = hot2 := HB0.out.unique (hbb Hc.out).1; have hB := Lib.hid (hbb Hc.out).1; obtain ⟨o, ho1, ho2⟩ := (hbb Hc.out).2; have HS := Lib.hid ho1.order; replace HB := Lib.hid (HB.out.mono (World.grows.trans (by (repeat (first | exact World.grows.refl _ | assumption | refine World.grows.alloc ?_ _ | refine World.grows.plus ?_ _ _ | refine World.grows.drew ?_))) hg)); replace HX := Lib.hid (HX.out.mono (World.grows.trans (by (repeat (first | exact World.grows.refl _ | assumption | refine World.grows.alloc ?_ _ | refine World.grows.plus ?_ _ _ | refine World.grows.drew ?_))) hg)); replace c0 := HX.out.2.2.1; replace c1 := HX.out.2.2.2; replace HF := Lib.hid (HF.out.mono (World.grows.trans (by (repeat (first | exact World.grows.refl _ | assumption | refine World.grows.alloc ?_ _ | refine World.grows.plus ?_ _ _ | refine World.grows.drew ?_))) hg)); replace f0 := HF.out.1; replace f1 := HF.out.2.1; replace f2 := HF.out.2.2.1; replace f3 := HF.out.2.2.2; clear hg hbb ho1 ho2)
    have hbd := hB.out.bd HJ.out
    have e0 : IntKind.i64.wrap (hot + off) = hot + off := wrapI (by omega)
    have e1 : IntKind.i64.wrap (hot + off + up) = hot + off + up := wrapI (by omega)
    have hnp : (0 : Int) < J.n := by omega
    have hni : ¬ (J.n : Int) = 0 := by omega
    obtain ⟨R1, hR1⟩ : ∃ R1 : Nat, (a0 : Int) % (J.n : Int) = (R1 : Int) := ⟨a0 % J.n, by omega⟩
    have hR1n : R1 < J.n := by have := Int.emod_lt_of_pos (a0 : Int) hnp; omega
    have hR1i : (R1 : Int) < J.n := by omega
    obtain ⟨R2, hR2⟩ : ∃ R2 : Nat, (a2 : Int) % (J.n : Int) = (R2 : Int) := ⟨a2 % J.n, by omega⟩
    have hR2n : R2 < J.n := by have := Int.emod_lt_of_pos (a2 : Int) hnp; omega
    have hR2i : (R2 : Int) < J.n := by omega
    have hl1 := HJ.out.l1 R1 hR1n; have hl2 := HJ.out.l1 R2 hR2n
    have hm1 := HJ.out.l6 R1 hR1n; have hm2 := HJ.out.l6 R2 hR2n
    have hk1 : ¬ (J.len R1 : Int) = 0 := by omega
    have hk2 : ¬ (J.len R2 : Int) = 0 := by omega
    obtain ⟨K1, hK1⟩ : ∃ K1 : Nat, (a1 : Int) % (J.len R1 : Int) = (K1 : Int) := ⟨a1 % J.len R1, by omega⟩
    have hK1n : K1 < J.len R1 := by have := Int.emod_lt_of_pos (a1 : Int) (show (0 : Int) < J.len R1 by omega); omega
    obtain ⟨K2, hK2⟩ : ∃ K2 : Nat, (a3 : Int) % (J.len R2 : Int) = (K2 : Int) := ⟨a3 % J.len R2, by omega⟩
    have hK2n : K2 < J.len R2 := by have := Int.emod_lt_of_pos (a3 : Int) (show (0 : Int) < J.len R2 by omega); omega
    have z1 := HX.out.2.1.cell_of (HR.out.row R1 hR1n)
    have z2 := HX.out.2.1.cell_of (HR.out.row R2 hR2n)
    go_wp2_with (first
      | (go_at_call 40; refine (name_c _ _ _).mono ?_; rintro e WA ⟨rfl, hg⟩; replace z1 := hg.cell_of z1; replace z2 := hg.cell_of z2; replace HB := Lib.hid (HB.out.mono (World.grows.trans (by (repeat (first | exact World.grows.refl _ | assumption | refine World.grows.alloc ?_ _ | refine World.grows.plus ?_ _ _ | refine World.grows.drew ?_))) hg)); replace HX := Lib.hid (HX.out.mono (World.grows.trans (by (repeat (first | exact World.grows.refl _ | assumption | refine World.grows.alloc ?_ _ | refine World.grows.plus ?_ _ _ | refine World.grows.drew ?_))) hg)); replace c0 := HX.out.2.2.1; replace c1 := HX.out.2.2.2; replace HF := Lib.hid (HF.out.mono (World.grows.trans (by (repeat (first | exact World.grows.refl _ | assumption | refine World.grows.alloc ?_ _ | refine World.grows.plus ?_ _ _ | refine World.grows.drew ?_))) hg)); replace f0 := HF.out.1; replace f1 := HF.out.2.1; replace f2 := HF.out.2.2.1; replace f3 := HF.out.2.2.2; clear hg)
      | (go_at_call 44; fail))
    have hK1i : (K1 : Int) < J.len R1 := by omega
    have hK2i : (K2 : Int) < J.len R2 := by omega
    have hrc1 := HR.out.cap R1 hR1n
    have hrc2 := HR.out.cap R2 hR2n
    unfold maxLen at hrc1 hrc2
    have hk1' : ¬ J.len R1 = 0 := by omega
    have hk2' : ¬ J.len R2 = 0 := by omega
    have e2 : IntKind.i64.wrap (K1 : Int) = K1 := wrapI (by omega)
    have e3 : IntKind.i64.wrap (K2 : Int) = K2 := wrapI (by omega)
    (refine wp_region_tail 12 (by kernel_rfl) (by kernel_rfl) (by decide) ?_; simp only [List.take_succ_cons, List.take_zero, List.drop_succ_cons, List.drop_zero, List.take_nil, List.drop_nil, List.append_nil, List.nil_append, List.cons_append, Nat.reduceAdd, Nat.reduceSub]; (repeat (refine wpCalm_step (fun K hK => ?_); go_simp; first | (refine hK _ ?_; clear hK K) | (apply Exists.intro; refine ⟨fun n' x' => ?_, hK _ ?_⟩; (fail); clear hK K))); refine wpCalm_nil ?_; intro nq xq)
    go_wp2_with (go_at_call 44; fail)
    (refine (name_c _ _ _).mono ?_; rintro e W3 ⟨rfl, hg⟩; have HP := Lib.hid ((PairAt.new WA R1 K1 47).mono (World.grows.trans (by (repeat (first | exact World.grows.refl _ | assumption | refine World.grows.alloc ?_ _ | refine World.grows.plus ?_ _ _ | refine World.grows.drew ?_))) hg)); have p0 := HP.out.1; have p1 := HP.out.2; replace z1 := hg.cell_of (World.grows.cell_of (show WA.grows _ from by (repeat (first | exact World.grows.refl _ | assumption | refine World.grows.alloc ?_ _ | refine World.grows.plus ?_ _ _ | refine World.grows.drew ?_))) z1); replace z2 := hg.cell_of (World.grows.cell_of (show WA.grows _ from by (repeat (first | exact World.grows.refl _ | assumption | refine World.grows.alloc ?_ _ | refine World.grows.plus ?_ _ _ | refine World.grows.drew ?_))) z2); replace HB := Lib.hid (HB.out.mono (World.grows.trans (by (repeat (first | exact World.grows.refl _ | assumption | refine World.grows.alloc ?_ _ | refine World.grows.plus ?_ _ _ | refine World.grows.drew ?_))) hg)); replace HX := Lib.hid (HX.out.mono (World.grows.trans (by (repeat (first | exact World.grows.refl _ | assumption | refine World.grows.alloc ?_ _ | refine World.grows.plus ?_ _ _ | refine World.grows.drew ?_))) hg)); replace c0 := HX.out.2.2.1; replace c1 := HX.out.2.2.2; replace HF := Lib.hid (HF.out.mono (World.grows.trans (by (repeat (first | exact World.grows.refl _ | assumption | refine World.grows.alloc ?_ _ | refine World.grows.plus ?_ _ _ | refine World.grows.drew ?_))) hg)); replace f0 := HF.out.1; replace f1 := HF.out.2.1; replace f2 := HF.out.2.2.1; replace f3 := HF.out.2.2.2; clear hg)
    go_wp2_with (go_at_call 44; fail)
    (refine wp_region_tail 12 (by kernel_rfl) (by kernel_rfl) (by decide) ?_; simp only [List.take_succ_cons, List.take_zero, List.drop_succ_cons, List.drop_zero, List.take_nil, List.drop_nil, List.append_nil, List.nil_append, List.cons_append, Nat.reduceAdd, Nat.reduceSub]; (repeat (refine wpCalm_step (fun K hK => ?_); go_simp; first | (refine hK _ ?_; clear hK K) | (apply Exists.intro; refine ⟨fun n' x' => ?_, hK _ ?_⟩; (fail); clear hK K))); refine wpCalm_nil ?_; intro nq xq)
    go_wp2_with (go_at_call 44; fail)
    obtain ⟨L, hL⟩ : ∃ L, hot + off = L := ⟨_, rfl⟩
    obtain ⟨M, hM⟩ : ∃ M, L + up = M := ⟨_, rfl⟩
    simp only [hL, hM]
    have hLM : L ≤ M := by omega
    have hLb : -60000 ≤ L ∧ L ≤ 60000 := by omega
    have HL := Lib.hid (hB.out.limits Hc.out HS.out.1 HS.out.2 hLM hR1n hK1n hR2n hK2n)
    have HW := Lib.hid (fun m g (h : J.OrdOk m g) (hh : ∀ k, k < m → J.hotAt g k ≤ L) i (hi : i < m) => h.limits hh hi (R1 := R1) (K1 := K1) (R2 := R2) (K2 := K2))
    clear HS
    have h26 := Lib.hid (fun l W (hW : RawAt W (.agg #[.int .i64 J.start, .slice (some ⟨jb, jo, none⟩) J.n jcap]) J) => count_c W (.agg #[.int .i64 J.start, .slice (some ⟨jb, jo, none⟩) J.n jcap]) J hW l)
    have h34 := Lib.hid (fun l W (hW : RawAt W (.agg #[.int .i64 J.start, .slice (some ⟨jb, jo, none⟩) J.n jcap]) J) => must_c W (.agg #[.int .i64 J.start, .slice (some ⟨jb, jo, none⟩) J.n jcap]) J hW l R1 K1 R2 K2)
    have h36 := Lib.hid (fun l W (hW : RawAt W (.agg #[.int .i64 J.start, .slice (some ⟨jb, jo, none⟩) J.n jcap]) J) => bef_c W (.agg #[.int .i64 J.start, .slice (some ⟨jb, jo, none⟩) J.n jcap]) J hW l R1 K1)
    simp only [Hc.out] at h26
    generalize hlo : J.befLo (J.befL L R1 K1) (J.befL L R1 K1).length = lo at HL HW
    generalize hhi : J.befHi (J.befL L R1 K1) (J.befL L R1 K1).length = hi at HL HW
    generalize hlo2 : J.befLo (J.befL M R1 K1) (J.befL M R1 K1).length = lo2 at HL
    generalize hhi2 : J.befHi (J.befL M R1 K1) (J.befL M R1 K1).length = hi2 at HL
    have hl4 := Lib.hid (And.intro hlo (And.intro hhi (And.intro hlo2 hhi2)))
    clear hlo hhi hlo2 hhi2
    have Hgen : ∃ (A B E1 E2 D1 D2 : Int) (m1 m2 : Bool), J.countAns L = A ∧ J.countAns M = B ∧ J.seenErr L 2 (two R1 R2) (two K1 K2) = E1 ∧ J.seenErr M 2 (two R1 R2) (two K1 K2) = E2 ∧ J.seenErr L 1 (fun _ => R1) (fun _ => K1) = D1 ∧ J.seenErr M 1 (fun _ => R1) (fun _ => K1) = D2 ∧ J.mustAns L R1 K1 R2 K2 = m1 ∧ J.mustAns M R1 K1 R2 K2 = m2 := ⟨_, _, _, _, _, _, _, _, rfl, rfl, rfl, rfl, rfl, rfl, rfl, rfl⟩
    obtain ⟨A, B, E1, E2, D1, D2, m1, m2, k1, k2, k3, k4, k5, k6, k7, k8⟩ := Hgen
    simp only [k1, k2, k3, k4, k5, k6, k7, k8] at HL HW
    have A26 := Lib.hid (fun W hW => k1 ▸ h26.out L W hW)
    have B26 := Lib.hid (fun W hW => k2 ▸ h26.out M W hW)
    have A34 := Lib.hid (fun W hW => k3 ▸ k7 ▸ h34.out L W hW)
    have B34 := Lib.hid (fun W hW => k4 ▸ k8 ▸ h34.out M W hW)
    have A36 := Lib.hid (fun W hW => k5 ▸ h36.out L W hW)
    have B36 := Lib.hid (fun W hW => k6 ▸ h36.out M W hW)
    clear k1 k2 k3 k4 k5 k6 k7 k8 h26 h34 h36
    have HQ := Lib.hid (PairAt.new W3 R2 K2 47)
    have q0 := HQ.out.1; have q1 := HQ.out.2
    clear z1 z2 f0 f1 f2 f3 HF
    (refine (A26.out _ (HX.out.1.mono (by (repeat (first | exact World.grows.refl _ | assumption | refine World.grows.alloc ?_ _ | refine World.grows.plus ?_ _ _ | refine World.grows.drew ?_))))).mono ?_; rintro e W4 ⟨rfl, hg⟩; replace HB := Lib.hid (HB.out.mono (World.grows.trans (by (repeat (first | exact World.grows.refl _ | assumption | refine World.grows.alloc ?_ _ | refine World.grows.plus ?_ _ _ | refine World.grows.drew ?_))) hg)); replace HX := Lib.hid (HX.out.mono (World.grows.trans (by (repeat (first | exact World.grows.refl _ | assumption | refine World.grows.alloc ?_ _ | refine World.grows.plus ?_ _ _ | refine World.grows.drew ?_))) hg)); replace c0 := HX.out.2.2.1; replace c1 := HX.out.2.2.2; replace HP := Lib.hid (HP.out.mono (World.grows.trans (by (repeat (first | exact World.grows.refl _ | assumption | refine World.grows.alloc ?_ _ | refine World.grows.plus ?_ _ _ | refine World.grows.drew ?_))) hg)); replace p0 := HP.out.1; replace p1 := HP.out.2; replace HQ := Lib.hid (HQ.out.mono ((World.grows_plus _ _ _).trans hg)); replace q0 := HQ.out.1; replace q1 := HQ.out.2; clear hg A26)
    go_wp2_with (go_at_call 44; fail)
    (refine (B26.out _ (HX.out.1.mono (by (repeat (first | exact World.grows.refl _ | assumption | refine World.grows.alloc ?_ _ | refine World.grows.plus ?_ _ _ | refine World.grows.drew ?_))))).mono ?_; rintro e W2 ⟨rfl, hg⟩; replace HB := Lib.hid (HB.out.mono (World.grows.trans (by (repeat (first | exact World.grows.refl _ | assumption | refine World.grows.alloc ?_ _ | refine World.grows.plus ?_ _ _ | refine World.grows.drew ?_))) hg)); replace HX := Lib.hid (HX.out.mono (World.grows.trans (by (repeat (first | exact World.grows.refl _ | assumption | refine World.grows.alloc ?_ _ | refine World.grows.plus ?_ _ _ | refine World.grows.drew ?_))) hg)); replace c0 := HX.out.2.2.1; replace c1 := HX.out.2.2.2; replace HP := Lib.hid (HP.out.mono (World.grows.trans (by (repeat (first | exact World.grows.refl _ | assumption | refine World.grows.alloc ?_ _ | refine World.grows.plus ?_ _ _ | refine World.grows.drew ?_))) hg)); replace p0 := HP.out.1; replace p1 := HP.out.2; replace HQ := Lib.hid (HQ.out.mono (World.grows.trans (by (repeat (first | exact World.grows.refl _ | assumption | refine World.grows.alloc ?_ _ | refine World.grows.plus ?_ _ _ | refine World.grows.drew ?_))) hg)); replace q0 := HQ.out.1; replace q1 := HQ.out.2; clear hg B26)
    go_wp2_with (go_at_call 44; fail)
    (refine (A34.out _ (HX.out.1.mono (by (repeat (first | exact World.grows.refl _ | assumption | refine World.grows.alloc ?_ _ | refine World.grows.plus ?_ _ _ | refine World.grows.drew ?_))))).mono ?_; rintro e W2 ⟨rfl, hg⟩; replace HB := Lib.hid (HB.out.mono (World.grows.trans (by (repeat (first | exact World.grows.refl _ | assumption | refine World.grows.alloc ?_ _ | refine World.grows.plus ?_ _ _ | refine World.grows.drew ?_))) hg)); replace HX := Lib.hid (HX.out.mono (World.grows.trans (by (repeat (first | exact World.grows.refl _ | assumption | refine World.grows.alloc ?_ _ | refine World.grows.plus ?_ _ _ | refine World.grows.drew ?_))) hg)); replace c0 := HX.out.2.2.1; replace c1 := HX.out.2.2.2; replace HP := Lib.hid (HP.out.mono (World.grows.trans (by (repeat (first | exact World.grows.refl _ | assumption | refine World.grows.alloc ?_ _ | refine World.grows.plus ?_ _ _ | refine World.grows.drew ?_))) hg)); replace p0 := HP.out.1; replace p1 := HP.out.2; replace HQ := Lib.hid (HQ.out.mono (World.grows.trans (by (repeat (first | exact World.grows.refl _ | assumption | refine World.grows.alloc ?_ _ | refine World.grows.plus ?_ _ _ | refine World.grows.drew ?_))) hg)); replace q0 := HQ.out.1; replace q1 := HQ.out.2; clear hg A34)
    go_wp2_with (go_at_call 44; fail)
    (refine (B34.out _ (HX.out.1.mono (by (repeat (first | exact World.grows.refl _ | assumption | refine World.grows.alloc ?_ _ | refine World.grows.plus ?_ _ _ | refine World.grows.drew ?_))))).mono ?_; rintro e W2 ⟨rfl, hg⟩; replace HB := Lib.hid (HB.out.mono (World.grows.trans (by (repeat (first | exact World.grows.refl _ | assumption | refine World.grows.alloc ?_ _ | refine World.grows.plus ?_ _ _ | refine World.grows.drew ?_))) hg)); replace HX := Lib.hid (HX.out.mono (World.grows.trans (by (repeat (first | exact World.grows.refl _ | assumption | refine World.grows.alloc ?_ _ | refine World.grows.plus ?_ _ _ | refine World.grows.drew ?_))) hg)); replace c0 := HX.out.2.2.1; replace c1 := HX.out.2.2.2; replace HP := Lib.hid (HP.out.mono (World.grows.trans (by (repeat (first | exact World.grows.refl _ | assumption | refine World.grows.alloc ?_ _ | refine World.grows.plus ?_ _ _ | refine World.grows.drew ?_))) hg)); replace p0 := HP.out.1; replace p1 := HP.out.2; replace HQ := Lib.hid (HQ.out.mono (World.grows.trans (by (repeat (first | exact World.grows.refl _ | assumption | refine World.grows.alloc ?_ _ | refine World.grows.plus ?_ _ _ | refine World.grows.drew ?_))) hg)); replace q0 := HQ.out.1; replace q1 := HQ.out.2; clear hg B34)
    go_wp2_with (go_at_call 44; fail)
    (refine (A36.out _ (HX.out.1.mono (by (repeat (first | exact World.grows.refl _ | assumption | refine World.grows.alloc ?_ _ | refine World.grows.plus ?_ _ _ | refine World.grows.drew ?_))))).mono ?_; rintro e W5 ⟨xl, xh, rfl, hg, hx1, hx2⟩; have HA := Lib.hid (And.intro hx1 hx2); replace HB := Lib.hid (HB.out.mono (World.grows.trans (by (repeat (first | exact World.grows.refl _ | assumption | refine World.grows.alloc ?_ _ | refine World.grows.plus ?_ _ _ | refine World.grows.drew ?_))) hg)); replace HX := Lib.hid (HX.out.mono (World.grows.trans (by (repeat (first | exact World.grows.refl _ | assumption | refine World.grows.alloc ?_ _ | refine World.grows.plus ?_ _ _ | refine World.grows.drew ?_))) hg)); replace c0 := HX.out.2.2.1; replace c1 := HX.out.2.2.2; replace HP := Lib.hid (HP.out.mono (World.grows.trans (by (repeat (first | exact World.grows.refl _ | assumption | refine World.grows.alloc ?_ _ | refine World.grows.plus ?_ _ _ | refine World.grows.drew ?_))) hg)); replace p0 := HP.out.1; replace p1 := HP.out.2; replace HQ := Lib.hid (HQ.out.mono (World.grows.trans (by (repeat (first | exact World.grows.refl _ | assumption | refine World.grows.alloc ?_ _ | refine World.grows.plus ?_ _ _ | refine World.grows.drew ?_))) hg)); replace q0 := HQ.out.1; replace q1 := HQ.out.2; clear hg A36 hx1 hx2)
    have HR3 := Lib.hid (PairAt.new W5 xl xh 51)
    go_wp2_with (go_at_call 44; fail)
    (refine (B36.out _ (HX.out.1.mono (by (repeat (first | exact World.grows.refl _ | assumption | refine World.grows.alloc ?_ _ | refine World.grows.plus ?_ _ _ | refine World.grows.drew ?_))))).mono ?_; rintro e W6 ⟨yl, yh, rfl, hg, hx1, hx2⟩; have HE := Lib.hid (And.intro hx1 hx2); replace HB := Lib.hid (HB.out.mono (World.grows.trans (by (repeat (first | exact World.grows.refl _ | assumption | refine World.grows.alloc ?_ _ | refine World.grows.plus ?_ _ _ | refine World.grows.drew ?_))) hg)); replace HX := Lib.hid (HX.out.mono (World.grows.trans (by (repeat (first | exact World.grows.refl _ | assumption | refine World.grows.alloc ?_ _ | refine World.grows.plus ?_ _ _ | refine World.grows.drew ?_))) hg)); replace c0 := HX.out.2.2.1; replace c1 := HX.out.2.2.2; replace HP := Lib.hid (HP.out.mono (World.grows.trans (by (repeat (first | exact World.grows.refl _ | assumption | refine World.grows.alloc ?_ _ | refine World.grows.plus ?_ _ _ | refine World.grows.drew ?_))) hg)); replace p0 := HP.out.1; replace p1 := HP.out.2; replace HQ := Lib.hid (HQ.out.mono (World.grows.trans (by (repeat (first | exact World.grows.refl _ | assumption | refine World.grows.alloc ?_ _ | refine World.grows.plus ?_ _ _ | refine World.grows.drew ?_))) hg)); replace q0 := HQ.out.1; replace q1 := HQ.out.2; replace HR3 := Lib.hid (HR3.out.mono hg); clear hg B36 hx1 hx2)
    have HR4 := Lib.hid (PairAt.new W6 yl yh 51)
    have r0 := HR3.out.1; have r1 := HR3.out.2
    have HRK := Lib.hid (And.intro hR1n (And.intro hK1n (And.intro hR2n hK2n)))
    clear hR1 hR2 hK1 hK2 hni hnp hk1 hk2 hk1' hk2' e2 e3 hl1 hl2 hm1 hm2 hrc1 hrc2 hK1i hK2i hR1i hR2i e0 e1 hR1n hR2n hK1n hK2n hbd hLb ha0 ha1 ha2 ha3 hoff hup
    rcases HL.out with ⟨n1, n2, rfl, rfl, rfl, rfl, rfl, rfl, rfl, rfl⟩ | ⟨n1, n2, -⟩ | ⟨n1, n2, -⟩
    rotate_left
    · omega
    · omega
    obtain ⟨rfl, rfl⟩ := HA.out.1 (by omega)
    have n1' : ¬ hot ≤ L := by omega
    clear HE HA HL HW hl4 HR4
    go_wp2_with (go_at_call 15; refine (works_c _).mono ?_; rintro e W2 ⟨rfl, hg⟩; replace HX := Lib.hid (HX.out.mono (World.grows.trans (by (repeat (first | exact World.grows.refl _ | assumption | refine World.grows.alloc ?_ _ | refine World.grows.plus ?_ _ _ | refine World.grows.drew ?_))) hg)); clear hg)
    go_ret
    exact ⟨rfl, HX.out.2.1.trans (by (repeat (first | exact World.grows.refl _ | assumption | refine World.grows.alloc ?_ _ | refine World.grows.plus ?_ _ _ | refine World.grows.drew ?_)))⟩
end Go.Proofs.Ytjpccfpmhmddjaa

/-
  What is proved: PassLimits returns true (the walk), a limit that is too low.
-/
namespace Go.Proofs.Ytjpccfpmhmddjaa
open Go.RowKit
attribute [local irreducible] Go.wpCalm

set_option maxRecDepth 100000 in
set_option maxHeartbeats 16000000 in
theorem limits_2 (w : World) (v : Value) (J : Job) (hv : RawAt w v J) (off : Int) (hoff : -32768 ≤ off ∧ off ≤ 32767) (up : Int) (hup : 0 ≤ up ∧ up ≤ 65535)
    (bv : Value) (mb : Nat) (fb : Nat → Int) (hb : NumsAt .u8 w bv mb fb) (hfb0 : ∀ i, i < mb → 0 ≤ fb i ∧ fb i ≤ 255) (a0 a1 a2 a3 : Nat) (ha0 : a0 ≤ 255) (ha1 : a1 ≤ 255) (ha2 : a2 ≤ 255) (ha3 : a3 ≤ 255) (hc : J.check = 0) (hot : Int) (hB0 : J.Best hot) (hmb : ¬ 40 < mb) (h1 : hot + off < hot) (h2 : hot ≤ hot + off + up) :
    Calls Try.prog 8 #[v, .int .i16 off, .int .u16 up, bv, .agg #[.int .u8 a0, .int .u8 a1, .int .u8 a2, .int .u8 a3]] w fun e w' => e = .returned (.bool true) ∧ w.grows w' := by
  obtain ⟨rv, row, rfl, hs, hr⟩ := hv
  have Hv := Lib.hid (show RawAt w (.agg #[.int .i64 J.start, rv]) J from ⟨rv, row, rfl, hs, hr⟩)
  have hx0 := BoxAt.start (w := w) (rv := rv) (J := J) ⟨rv, row, rfl, hs, hr⟩
  have HX := Lib.hid (hx0.mono (World.grows.alloc (World.grows.refl _) (.cells #[.int .u8 a0, .int .u8 a1, .int .u8 a2, .int .u8 a3] 60)))
  have HF := Lib.hid (FourAt.new (w.alloc (.cells #[.int .i64 J.start, rv] 24)) a0 a1 a2 a3 60)
  simp only [World.size_alloc] at HF
  have hg0 : w.grows ((w.alloc (.cells #[.int .i64 J.start, rv] 24)).alloc (.cells #[.int .u8 a0, .int .u8 a1, .int .u8 a2, .int .u8 a3] 60)) := by (repeat (first | exact World.grows.refl _ | assumption | refine World.grows.alloc ?_ _ | refine World.grows.plus ?_ _ _ | refine World.grows.drew ?_))
  have HB := Lib.hid (hb.mono hg0)
  have hfb := Lib.hid hfb0
  obtain ⟨ba, bcap, rfl, hb1, hb2, -⟩ := hb
  unfold maxLen at hb2
  clear hs hr hfb0 hg0 hx0
  have c0 := HX.out.2.2.1; have c1 := HX.out.2.2.2
  have f0 := HF.out.1; have f1 := HF.out.2.1; have f2 := HF.out.2.2.1; have f3 := HF.out.2.2.2
  have h38 := fun W h => fine_c W (.agg #[.int .i64 J.start, rv]) J h
  go_enter Try.func8, Try.ntmps8
  · rw [decide_eq_true hc] at h38
    have Hc := Lib.hid hc
    have HB0 := Lib.hid hB0
    clear hB0
    have HJ := Lib.hid ((Job.Ok_iff J).2 hc)
    clear hc
    obtain ⟨jb, jo, jcap, rb, ro, rc, hrv, hjc, hjc2, hR⟩ := Hv.out.job HJ.out
    obtain ⟨rfl⟩ : rv = .slice (some ⟨jb, jo, none⟩) J.n jcap := by simpa using hrv
    have HR := Lib.hid hR
    unfold maxLen at hjc2
    have hn1 := HJ.out.n1
    have hn4 := HJ.out.n4
    have hn9 : J.n ≤ 1000000000 := by omega
    clear hR
    go_wp2_with (first
      | (go_at_call 38; refine (h38 _ (HX.out.1.mono (by (repeat (first | exact World.grows.refl _ | assumption | refine World.grows.alloc ?_ _ | refine World.grows.plus ?_ _ _ | refine World.grows.drew ?_))))).mono ?_; rintro e W2 ⟨rfl, hg⟩; replace HB := Lib.hid (HB.out.mono (World.grows.trans (by (repeat (first | exact World.grows.refl _ | assumption | refine World.grows.alloc ?_ _ | refine World.grows.plus ?_ _ _ | refine World.grows.drew ?_))) hg)); replace HX := Lib.hid (HX.out.mono (World.grows.trans (by (repeat (first | exact World.grows.refl _ | assumption | refine World.grows.alloc ?_ _ | refine World.grows.plus ?_ _ _ | refine World.grows.drew ?_))) hg)); replace c0 := HX.out.2.2.1; replace c1 := HX.out.2.2.2; replace HF := Lib.hid (HF.out.mono (World.grows.trans (by (repeat (first | exact World.grows.refl _ | assumption | refine World.grows.alloc ?_ _ | refine World.grows.plus ?_ _ _ | refine World.grows.drew ?_))) hg)); replace f0 := HF.out.1; replace f1 := HF.out.2.1; replace f2 := HF.out.2.2.1; replace f3 := HF.out.2.2.2; clear hg)
      | (go_at_call 44; fail))
    clear h38
    (refine (best_c _ _ J (HX.out.1.mono (by (repeat (first | exact World.grows.refl _ | assumption | refine World.grows.alloc ?_ _ | refine World.grows.plus ?_ _ _ | refine World.grows.drew ?_))))).mono ?_; rintro e W2 ⟨sv, hot2, rfl, hg, -, hbb⟩; rw [Hc.out]; obtain rfl : hot = hot2 := HB0.out.unique (hbb Hc.out).1; have hB := Lib.hid (hbb Hc.out).1; obtain ⟨o, ho1, ho2⟩ := (hbb Hc.out).2; have HS := Lib.hid ho1.order; replace HB := Lib.hid (HB.out.mono (World.grows.trans (by (repeat (first | exact World.grows.refl _ | assumption | refine World.grows.alloc ?_ _ | refine World.grows.plus ?_ _ _ | refine World.grows.drew ?_))) hg)); replace HX := Lib.hid (HX.out.mono (World.grows.trans (by (repeat (first | exact World.grows.refl _ | assumption | refine World.grows.alloc ?_ _ | refine World.grows.plus ?_ _ _ | refine World.grows.drew ?_))) hg)); replace c0 := HX.out.2.2.1; replace c1 := HX.out.2.2.2; replace HF := Lib.hid (HF.out.mono (World.grows.trans (by (repeat (first | exact World.grows.refl _ | assumption | refine World.grows.alloc ?_ _ | refine World.grows.plus ?_ _ _ | refine World.grows.drew ?_))) hg)); replace f0 := HF.out.1; replace f1 := HF.out.2.1; replace f2 := HF.out.2.2.1; replace f3 := HF.out.2.2.2; clear hg hbb ho1 ho2)
    have hbd := hB.out.bd HJ.out
    have e0 : IntKind.i64.wrap (hot + off) = hot + off := wrapI (by omega)
    have e1 : IntKind.i64.wrap (hot + off + up) = hot + off + up := wrapI (by omega)
    have hnp : (0 : Int) < J.n := by omega
    have hni : ¬ (J.n : Int) = 0 := by omega
    obtain ⟨R1, hR1⟩ : ∃ R1 : Nat, (a0 : Int) % (J.n : Int) = (R1 : Int) := ⟨a0 % J.n, by omega⟩
    have hR1n : R1 < J.n := by have := Int.emod_lt_of_pos (a0 : Int) hnp; omega
    have hR1i : (R1 : Int) < J.n := by omega
    obtain ⟨R2, hR2⟩ : ∃ R2 : Nat, (a2 : Int) % (J.n : Int) = (R2 : Int) := ⟨a2 % J.n, by omega⟩
    have hR2n : R2 < J.n := by have := Int.emod_lt_of_pos (a2 : Int) hnp; omega
    have hR2i : (R2 : Int) < J.n := by omega
    have hl1 := HJ.out.l1 R1 hR1n; have hl2 := HJ.out.l1 R2 hR2n
    have hm1 := HJ.out.l6 R1 hR1n; have hm2 := HJ.out.l6 R2 hR2n
    have hk1 : ¬ (J.len R1 : Int) = 0 := by omega
    have hk2 : ¬ (J.len R2 : Int) = 0 := by omega
    obtain ⟨K1, hK1⟩ : ∃ K1 : Nat, (a1 : Int) % (J.len R1 : Int) = (K1 : Int) := ⟨a1 % J.len R1, by omega⟩
    have hK1n : K1 < J.len R1 := by have := Int.emod_lt_of_pos (a1 : Int) (show (0 : Int) < J.len R1 by omega); omega
    obtain ⟨K2, hK2⟩ : ∃ K2 : Nat, (a3 : Int) % (J.len R2 : Int) = (K2 : Int) := ⟨a3 % J.len R2, by omega⟩
    have hK2n : K2 < J.len R2 := by have := Int.emod_lt_of_pos (a3 : Int) (show (0 : Int) < J.len R2 by omega); omega
    have z1 := HX.out.2.1.cell_of (HR.out.row R1 hR1n)
    have z2 := HX.out.2.1.cell_of (HR.out.row R2 hR2n)
    go_wp2_with (first
      | (go_at_call 40; refine (name_c _ _ _).mono ?_; rintro e WA ⟨rfl, hg⟩; replace z1 := hg.cell_of z1; replace z2 := hg.cell_of z2; replace HB := Lib.hid (HB.out.mono (World.grows.trans (by (repeat (first | exact World.grows.refl _ | assumption | refine World.grows.alloc ?_ _ | refine World.grows.plus ?_ _ _ | refine World.grows.drew ?_))) hg)); replace HX := Lib.hid (HX.out.mono (World.grows.trans (by (repeat (first | exact World.grows.refl _ | assumption | refine World.grows.alloc ?_ _ | refine World.grows.plus ?_ _ _ | refine World.grows.drew ?_))) hg)); replace c0 := HX.out.2.2.1; replace c1 := HX.out.2.2.2; replace HF := Lib.hid (HF.out.mono (World.grows.trans (by (repeat (first | exact World.grows.refl _ | assumption | refine World.grows.alloc ?_ _ | refine World.grows.plus ?_ _ _ | refine World.grows.drew ?_))) hg)); replace f0 := HF.out.1; replace f1 := HF.out.2.1; replace f2 := HF.out.2.2.1; replace f3 := HF.out.2.2.2; clear hg)
      | (go_at_call 44; fail))
    have hK1i : (K1 : Int) < J.len R1 := by omega
    have hK2i : (K2 : Int) < J.len R2 := by omega
    have hrc1 := HR.out.cap R1 hR1n
    have hrc2 := HR.out.cap R2 hR2n
    unfold maxLen at hrc1 hrc2
    have hk1' : ¬ J.len R1 = 0 := by omega
    have hk2' : ¬ J.len R2 = 0 := by omega
    have e2 : IntKind.i64.wrap (K1 : Int) = K1 := wrapI (by omega)
    have e3 : IntKind.i64.wrap (K2 : Int) = K2 := wrapI (by omega)
    (refine wp_region_tail 12 (by kernel_rfl) (by kernel_rfl) (by decide) ?_; simp only [List.take_succ_cons, List.take_zero, List.drop_succ_cons, List.drop_zero, List.take_nil, List.drop_nil, List.append_nil, List.nil_append, List.cons_append, Nat.reduceAdd, Nat.reduceSub]; (repeat (refine wpCalm_step (fun K hK => ?_); go_simp; first | (refine hK _ ?_; clear hK K) | (apply Exists.intro; refine ⟨fun n' x' => ?_, hK _ ?_⟩; (fail); clear hK K))); refine wpCalm_nil ?_; intro nq xq)
    go_wp2_with (go_at_call 44; fail)
    (refine (name_c _ _ _).mono ?_; rintro e W3 ⟨rfl, hg⟩; have HP := Lib.hid ((PairAt.new WA R1 K1 47).mono (World.grows.trans (by (repeat (first | exact World.grows.refl _ | assumption | refine World.grows.alloc ?_ _ | refine World.grows.plus ?_ _ _ | refine World.grows.drew ?_))) hg)); have p0 := HP.out.1; have p1 := HP.out.2; replace z1 := hg.cell_of (World.grows.cell_of (show WA.grows _ from by (repeat (first | exact World.grows.refl _ | assumption | refine World.grows.alloc ?_ _ | refine World.grows.plus ?_ _ _ | refine World.grows.drew ?_))) z1); replace z2 := hg.cell_of (World.grows.cell_of (show WA.grows _ from by (repeat (first | exact World.grows.refl _ | assumption | refine World.grows.alloc ?_ _ | refine World.grows.plus ?_ _ _ | refine World.grows.drew ?_))) z2); replace HB := Lib.hid (HB.out.mono (World.grows.trans (by (repeat (first | exact World.grows.refl _ | assumption | refine World.grows.alloc ?_ _ | refine World.grows.plus ?_ _ _ | refine World.grows.drew ?_))) hg)); replace HX := Lib.hid (HX.out.mono (World.grows.trans (by (repeat (first | exact World.grows.refl _ | assumption | refine World.grows.alloc ?_ _ | refine World.grows.plus ?_ _ _ | refine World.grows.drew ?_))) hg)); replace c0 := HX.out.2.2.1; replace c1 := HX.out.2.2.2; replace HF := Lib.hid (HF.out.mono (World.grows.trans (by (repeat (first | exact World.grows.refl _ | assumption | refine World.grows.alloc ?_ _ | refine World.grows.plus ?_ _ _ | refine World.grows.drew ?_))) hg)); replace f0 := HF.out.1; replace f1 := HF.out.2.1; replace f2 := HF.out.2.2.1; replace f3 := HF.out.2.2.2; clear hg)
    go_wp2_with (go_at_call 44; fail)
    (refine wp_region_tail 12 (by kernel_rfl) (by kernel_rfl) (by decide) ?_; simp only [List.take_succ_cons, List.take_zero, List.drop_succ_cons, List.drop_zero, List.take_nil, List.drop_nil, List.append_nil, List.nil_append, List.cons_append, Nat.reduceAdd, Nat.reduceSub]; (repeat (refine wpCalm_step (fun K hK => ?_); go_simp; first | (refine hK _ ?_; clear hK K) | (apply Exists.intro; refine ⟨fun n' x' => ?_, hK _ ?_⟩; (fail); clear hK K))); refine wpCalm_nil ?_; intro nq xq)
    go_wp2_with (go_at_call 44; fail)
    obtain ⟨L, hL⟩ : ∃ L, hot + off = L := ⟨_, rfl⟩
    obtain ⟨M, hM⟩ : ∃ M, L + up = M := ⟨_, rfl⟩
    simp only [hL, hM]
    have hLM : L ≤ M := by omega
    have hLb : -60000 ≤ L ∧ L ≤ 60000 := by omega
    have HL := Lib.hid (hB.out.limits Hc.out HS.out.1 HS.out.2 hLM hR1n hK1n hR2n hK2n)
    have HW := Lib.hid (fun m g (h : J.OrdOk m g) (hh : ∀ k, k < m → J.hotAt g k ≤ L) i (hi : i < m) => h.limits hh hi (R1 := R1) (K1 := K1) (R2 := R2) (K2 := K2))
    clear HS
    have h26 := Lib.hid (fun l W (hW : RawAt W (.agg #[.int .i64 J.start, .slice (some ⟨jb, jo, none⟩) J.n jcap]) J) => count_c W (.agg #[.int .i64 J.start, .slice (some ⟨jb, jo, none⟩) J.n jcap]) J hW l)
    have h34 := Lib.hid (fun l W (hW : RawAt W (.agg #[.int .i64 J.start, .slice (some ⟨jb, jo, none⟩) J.n jcap]) J) => must_c W (.agg #[.int .i64 J.start, .slice (some ⟨jb, jo, none⟩) J.n jcap]) J hW l R1 K1 R2 K2)
    have h36 := Lib.hid (fun l W (hW : RawAt W (.agg #[.int .i64 J.start, .slice (some ⟨jb, jo, none⟩) J.n jcap]) J) => bef_c W (.agg #[.int .i64 J.start, .slice (some ⟨jb, jo, none⟩) J.n jcap]) J hW l R1 K1)
    simp only [Hc.out] at h26
    generalize hlo : J.befLo (J.befL L R1 K1) (J.befL L R1 K1).length = lo at HL HW
    generalize hhi : J.befHi (J.befL L R1 K1) (J.befL L R1 K1).length = hi at HL HW
    generalize hlo2 : J.befLo (J.befL M R1 K1) (J.befL M R1 K1).length = lo2 at HL
    generalize hhi2 : J.befHi (J.befL M R1 K1) (J.befL M R1 K1).length = hi2 at HL
    have hl4 := Lib.hid (And.intro hlo (And.intro hhi (And.intro hlo2 hhi2)))
    clear hlo hhi hlo2 hhi2
    have Hgen : ∃ (A B E1 E2 D1 D2 : Int) (m1 m2 : Bool), J.countAns L = A ∧ J.countAns M = B ∧ J.seenErr L 2 (two R1 R2) (two K1 K2) = E1 ∧ J.seenErr M 2 (two R1 R2) (two K1 K2) = E2 ∧ J.seenErr L 1 (fun _ => R1) (fun _ => K1) = D1 ∧ J.seenErr M 1 (fun _ => R1) (fun _ => K1) = D2 ∧ J.mustAns L R1 K1 R2 K2 = m1 ∧ J.mustAns M R1 K1 R2 K2 = m2 := ⟨_, _, _, _, _, _, _, _, rfl, rfl, rfl, rfl, rfl, rfl, rfl, rfl⟩
    obtain ⟨A, B, E1, E2, D1, D2, m1, m2, k1, k2, k3, k4, k5, k6, k7, k8⟩ := Hgen
    simp only [k1, k2, k3, k4, k5, k6, k7, k8] at HL HW
    have A26 := Lib.hid (fun W hW => k1 ▸ h26.out L W hW)
    have B26 := Lib.hid (fun W hW => k2 ▸ h26.out M W hW)
    have A34 := Lib.hid (fun W hW => k3 ▸ k7 ▸ h34.out L W hW)
    have B34 := Lib.hid (fun W hW => k4 ▸ k8 ▸ h34.out M W hW)
    have A36 := Lib.hid (fun W hW => k5 ▸ h36.out L W hW)
    have B36 := Lib.hid (fun W hW => k6 ▸ h36.out M W hW)
    clear k1 k2 k3 k4 k5 k6 k7 k8 h26 h34 h36
    have HQ := Lib.hid (PairAt.new W3 R2 K2 47)
    have q0 := HQ.out.1; have q1 := HQ.out.2
    clear z1 z2 f0 f1 f2 f3 HF
    (refine (A26.out _ (HX.out.1.mono (by (repeat (first | exact World.grows.refl _ | assumption | refine World.grows.alloc ?_ _ | refine World.grows.plus ?_ _ _ | refine World.grows.drew ?_))))).mono ?_; rintro e W4 ⟨rfl, hg⟩; replace HB := Lib.hid (HB.out.mono (World.grows.trans (by (repeat (first | exact World.grows.refl _ | assumption | refine World.grows.alloc ?_ _ | refine World.grows.plus ?_ _ _ | refine World.grows.drew ?_))) hg)); replace HX := Lib.hid (HX.out.mono (World.grows.trans (by (repeat (first | exact World.grows.refl _ | assumption | refine World.grows.alloc ?_ _ | refine World.grows.plus ?_ _ _ | refine World.grows.drew ?_))) hg)); replace c0 := HX.out.2.2.1; replace c1 := HX.out.2.2.2; replace HP := Lib.hid (HP.out.mono (World.grows.trans (by (repeat (first | exact World.grows.refl _ | assumption | refine World.grows.alloc ?_ _ | refine World.grows.plus ?_ _ _ | refine World.grows.drew ?_))) hg)); replace p0 := HP.out.1; replace p1 := HP.out.2; replace HQ := Lib.hid (HQ.out.mono ((World.grows_plus _ _ _).trans hg)); replace q0 := HQ.out.1; replace q1 := HQ.out.2; clear hg A26)
    go_wp2_with (go_at_call 44; fail)
    (refine (B26.out _ (HX.out.1.mono (by (repeat (first | exact World.grows.refl _ | assumption | refine World.grows.alloc ?_ _ | refine World.grows.plus ?_ _ _ | refine World.grows.drew ?_))))).mono ?_; rintro e W2 ⟨rfl, hg⟩; replace HB := Lib.hid (HB.out.mono (World.grows.trans (by (repeat (first | exact World.grows.refl _ | assumption | refine World.grows.alloc ?_ _ | refine World.grows.plus ?_ _ _ | refine World.grows.drew ?_))) hg)); replace HX := Lib.hid (HX.out.mono (World.grows.trans (by (repeat (first | exact World.grows.refl _ | assumption | refine World.grows.alloc ?_ _ | refine World.grows.plus ?_ _ _ | refine World.grows.drew ?_))) hg)); replace c0 := HX.out.2.2.1; replace c1 := HX.out.2.2.2; replace HP := Lib.hid (HP.out.mono (World.grows.trans (by (repeat (first | exact World.grows.refl _ | assumption | refine World.grows.alloc ?_ _ | refine World.grows.plus ?_ _ _ | refine World.grows.drew ?_))) hg)); replace p0 := HP.out.1; replace p1 := HP.out.2; replace HQ := Lib.hid (HQ.out.mono (World.grows.trans (by (repeat (first | exact World.grows.refl _ | assumption | refine World.grows.alloc ?_ _ | refine World.grows.plus ?_ _ _ | refine World.grows.drew ?_))) hg)); replace q0 := HQ.out.1; replace q1 := HQ.out.2; clear hg B26)
    go_wp2_with (go_at_call 44; fail)
    (refine (A34.out _ (HX.out.1.mono (by (repeat (first | exact World.grows.refl _ | assumption | refine World.grows.alloc ?_ _ | refine World.grows.plus ?_ _ _ | refine World.grows.drew ?_))))).mono ?_; rintro e W2 ⟨rfl, hg⟩; replace HB := Lib.hid (HB.out.mono (World.grows.trans (by (repeat (first | exact World.grows.refl _ | assumption | refine World.grows.alloc ?_ _ | refine World.grows.plus ?_ _ _ | refine World.grows.drew ?_))) hg)); replace HX := Lib.hid (HX.out.mono (World.grows.trans (by (repeat (first | exact World.grows.refl _ | assumption | refine World.grows.alloc ?_ _ | refine World.grows.plus ?_ _ _ | refine World.grows.drew ?_))) hg)); replace c0 := HX.out.2.2.1; replace c1 := HX.out.2.2.2; replace HP := Lib.hid (HP.out.mono (World.grows.trans (by (repeat (first | exact World.grows.refl _ | assumption | refine World.grows.alloc ?_ _ | refine World.grows.plus ?_ _ _ | refine World.grows.drew ?_))) hg)); replace p0 := HP.out.1; replace p1 := HP.out.2; replace HQ := Lib.hid (HQ.out.mono (World.grows.trans (by (repeat (first | exact World.grows.refl _ | assumption | refine World.grows.alloc ?_ _ | refine World.grows.plus ?_ _ _ | refine World.grows.drew ?_))) hg)); replace q0 := HQ.out.1; replace q1 := HQ.out.2; clear hg A34)
    go_wp2_with (go_at_call 44; fail)
    (refine (B34.out _ (HX.out.1.mono (by (repeat (first | exact World.grows.refl _ | assumption | refine World.grows.alloc ?_ _ | refine World.grows.plus ?_ _ _ | refine World.grows.drew ?_))))).mono ?_; rintro e W2 ⟨rfl, hg⟩; replace HB := Lib.hid (HB.out.mono (World.grows.trans (by (repeat (first | exact World.grows.refl _ | assumption | refine World.grows.alloc ?_ _ | refine World.grows.plus ?_ _ _ | refine World.grows.drew ?_))) hg)); replace HX := Lib.hid (HX.out.mono (World.grows.trans (by (repeat (first | exact World.grows.refl _ | assumption | refine World.grows.alloc ?_ _ | refine World.grows.plus ?_ _ _ | refine World.grows.drew ?_))) hg)); replace c0 := HX.out.2.2.1; replace c1 := HX.out.2.2.2; replace HP := Lib.hid (HP.out.mono (World.grows.trans (by (repeat (first | exact World.grows.refl _ | assumption | refine World.grows.alloc ?_ _ | refine World.grows.plus ?_ _ _ | refine World.grows.drew ?_))) hg)); replace p0 := HP.out.1; replace p1 := HP.out.2; replace HQ := Lib.hid (HQ.out.mono (World.grows.trans (by (repeat (first | exact World.grows.refl _ | assumption | refine World.grows.alloc ?_ _ | refine World.grows.plus ?_ _ _ | refine World.grows.drew ?_))) hg)); replace q0 := HQ.out.1; replace q1 := HQ.out.2; clear hg B34)
    go_wp2_with (go_at_call 44; fail)
    (refine (A36.out _ (HX.out.1.mono (by (repeat (first | exact World.grows.refl _ | assumption | refine World.grows.alloc ?_ _ | refine World.grows.plus ?_ _ _ | refine World.grows.drew ?_))))).mono ?_; rintro e W5 ⟨xl, xh, rfl, hg, hx1, hx2⟩; have HA := Lib.hid (And.intro hx1 hx2); replace HB := Lib.hid (HB.out.mono (World.grows.trans (by (repeat (first | exact World.grows.refl _ | assumption | refine World.grows.alloc ?_ _ | refine World.grows.plus ?_ _ _ | refine World.grows.drew ?_))) hg)); replace HX := Lib.hid (HX.out.mono (World.grows.trans (by (repeat (first | exact World.grows.refl _ | assumption | refine World.grows.alloc ?_ _ | refine World.grows.plus ?_ _ _ | refine World.grows.drew ?_))) hg)); replace c0 := HX.out.2.2.1; replace c1 := HX.out.2.2.2; replace HP := Lib.hid (HP.out.mono (World.grows.trans (by (repeat (first | exact World.grows.refl _ | assumption | refine World.grows.alloc ?_ _ | refine World.grows.plus ?_ _ _ | refine World.grows.drew ?_))) hg)); replace p0 := HP.out.1; replace p1 := HP.out.2; replace HQ := Lib.hid (HQ.out.mono (World.grows.trans (by (repeat (first | exact World.grows.refl _ | assumption | refine World.grows.alloc ?_ _ | refine World.grows.plus ?_ _ _ | refine World.grows.drew ?_))) hg)); replace q0 := HQ.out.1; replace q1 := HQ.out.2; clear hg A36 hx1 hx2)
    have HR3 := Lib.hid (PairAt.new W5 xl xh 51)
    go_wp2_with (go_at_call 44; fail)
    (refine (B36.out _ (HX.out.1.mono (by (repeat (first | exact World.grows.refl _ | assumption | refine World.grows.alloc ?_ _ | refine World.grows.plus ?_ _ _ | refine World.grows.drew ?_))))).mono ?_; rintro e W6 ⟨yl, yh, rfl, hg, hx1, hx2⟩; have HE := Lib.hid (And.intro hx1 hx2); replace HB := Lib.hid (HB.out.mono (World.grows.trans (by (repeat (first | exact World.grows.refl _ | assumption | refine World.grows.alloc ?_ _ | refine World.grows.plus ?_ _ _ | refine World.grows.drew ?_))) hg)); replace HX := Lib.hid (HX.out.mono (World.grows.trans (by (repeat (first | exact World.grows.refl _ | assumption | refine World.grows.alloc ?_ _ | refine World.grows.plus ?_ _ _ | refine World.grows.drew ?_))) hg)); replace c0 := HX.out.2.2.1; replace c1 := HX.out.2.2.2; replace HP := Lib.hid (HP.out.mono (World.grows.trans (by (repeat (first | exact World.grows.refl _ | assumption | refine World.grows.alloc ?_ _ | refine World.grows.plus ?_ _ _ | refine World.grows.drew ?_))) hg)); replace p0 := HP.out.1; replace p1 := HP.out.2; replace HQ := Lib.hid (HQ.out.mono (World.grows.trans (by (repeat (first | exact World.grows.refl _ | assumption | refine World.grows.alloc ?_ _ | refine World.grows.plus ?_ _ _ | refine World.grows.drew ?_))) hg)); replace q0 := HQ.out.1; replace q1 := HQ.out.2; replace HR3 := Lib.hid (HR3.out.mono hg); clear hg B36 hx1 hx2)
    have HR4 := Lib.hid (PairAt.new W6 yl yh 51)
    have r0 := HR3.out.1; have r1 := HR3.out.2
    have HRK := Lib.hid (And.intro hR1n (And.intro hK1n (And.intro hR2n hK2n)))
    clear hR1 hR2 hK1 hK2 hni hnp hk1 hk2 hk1' hk2' e2 e3 hl1 hl2 hm1 hm2 hrc1 hrc2 hK1i hK2i hR1i hR2i e0 e1 hR1n hR2n hK1n hK2n hbd hLb ha0 ha1 ha2 ha3 hoff hup
    rcases HL.out with ⟨n1, n2, -⟩ | ⟨n1, n2, rfl, n3, rfl, rfl, rfl, rfl, rfl⟩ | ⟨n1, n2, -⟩
    · omega
    rotate_left
    · omega
    obtain ⟨rfl, rfl⟩ := HA.out.1 (by omega)
    have n1' : ¬ hot ≤ L := by omega
    clear HE HA HL HW hl4 HR4
    go_wp2_with (go_at_call 15; refine (works_c _).mono ?_; rintro e W2 ⟨rfl, hg⟩; replace HX := Lib.hid (HX.out.mono (World.grows.trans (by (repeat (first | exact World.grows.refl _ | assumption | refine World.grows.alloc ?_ _ | refine World.grows.plus ?_ _ _ | refine World.grows.drew ?_))) hg)); clear hg)
    go_ret
    exact ⟨rfl, HX.out.2.1.trans (by (repeat (first | exact World.grows.refl _ | assumption | refine World.grows.alloc ?_ _ | refine World.grows.plus ?_ _ _ | refine World.grows.drew ?_)))⟩
end Go.Proofs.Ytjpccfpmhmddjaa

/-
  What is proved: append onto a slice without elements and without room: the new block, outright.
-/
namespace Go
open Go.RowKit
section
variable {P : Program} (w : World)
theorem run_append_fresh (t ty e : TypeId) (z : Value) (size bytes : Nat) (ht : P.underlying t = some (.slice e)) (hi : P.knows e z size bytes) (hzs : z.cells.size = size) (hsz : 0 < size)
    (A : Option Addr) (xv : Value) (m : Nat) (news : List Value) (hsrc : SrcAt w xv m size news) (h0 : 0 < m) (h63 : m ≤ maxLen) (hbytes : m * bytes ≤ 140737488355328) :
    ∃ cap xs, (Builtin.append_ #[t, t] ty #[.slice A 0 0, xv]).run P w = .ok (.slice (some ⟨w.heap.size, 0, none⟩) m cap) (w.drew.alloc (.cells xs e)) ∧ m ≤ cap ∧ cap ≤ maxLen ∧ xs.size = cap * size ∧ xs.toList.take (m * size) = news := by
  obtain ⟨i, hi, hz, rfl, rfl⟩ := hi
  obtain ⟨B, c, rfl, hl, hB⟩ := hsrc
  obtain ⟨ad, rfl, hc⟩ := hB h0
  have hge := grownCap_ge w m 0 e
  have hcm : grownCap w m 0 e ≤ maxLen := grownCap_le_maxLen w m 0 e h63
  refine ⟨grownCap w m 0 e, news.toArray ++ Builtin.zeroCells z.cells (grownCap w m 0 e - m), ?_, hge, hcm, ?_, ?_⟩
  · cases A with
    | none =>
      exact run_append_nil (P := P) w t ty e i z ht hi hz ad m c news hl hc (by omega) (by simp only [maxLen] at h63; omega) (by omega)
    | some b =>
      have hr := run_append_grow (P := P) w t ty e i z ht hi hz b 0 0 [] (by simp) (by simp) ad m c news hl hc (by omega) (by simp only [maxLen] at h63; omega) (growslice_fits (by omega) (by simpa using hbytes))
      simpa using hr
  · simp only [Array.size_append, List.size_toArray, size_zeroCells, hzs, hl, ← Nat.add_mul]
    congr 1
    omega
  · simp only [Array.toList_append]
    rw [← hl]
    exact List.take_left
theorem wpList_append_fresh {ops : Array Oper} {rest : List Oper} {o : Oper} {a : Act} {Q : Exit → Act → World → Prop} (hgd : o.guard = none) (s x : Operand) (t : TypeId)
    (ho : o.op = .call { callee := .builtin .append, args := #[s, x], argTypes := #[t, t] })
    (e : TypeId) (z : Value) (size bytes : Nat) (ht : P.underlying t = some (.slice e)) (hi : P.knows e z size bytes) (hzs : z.cells.size = size) (hsz : 0 < size)
    (A : Option Addr) (hs : a.eval s = .slice A 0 0) (xv : Value) (hx : a.eval x = xv) (m : Nat) (news : List Value) (hsrc : SrcAt w xv m size news) (h0 : 0 < m) (h63 : m ≤ maxLen) (hbytes : m * bytes ≤ 140737488355328)
    (h : ∀ cap xs, m ≤ cap → cap ≤ maxLen → xs.size = cap * size → xs.toList.take (m * size) = news → wpList P ops Q rest (a.put o.dst (.slice (some ⟨w.heap.size, 0, none⟩) m cap)) (w.drew.alloc (.cells xs e))) :
    wpList P ops Q (o :: rest) a w := by
  refine wpList_plain hgd fun K hK => ?_
  obtain ⟨cap, xs, hr, h2, h3, h4, h5⟩ := run_append_fresh (P := P) w t o.type e z size bytes ht hi hzs hsz A xv m news hsrc h0 h63 hbytes
  unfold Oper.wp execOp
  simp only [ho, resolve, invoke, builtin, Sem.run_bind, Sem.run_pure, Result.andThen_ok, List.map_toArray, List.map_cons, List.map_nil, hs, hx, hr]
  exact hK _ _ (h cap xs h2 h3 h4 h5)
/-- the same, as a step of a region that draws its order (go_region_law) -/
theorem step_append_fresh {ops : Array Oper} {o : Oper} {a : Act} {K : Act → World → Prop} {Q : Exit → Act → World → Prop} {E : Prop} (hgd : o.guard = none) (s x : Operand) (t : TypeId)
    (ho : o.op = .call { callee := .builtin .append, args := #[s, x], argTypes := #[t, t] })
    (e : TypeId) (z : Value) (size bytes : Nat) (ht : P.underlying t = some (.slice e)) (hi : P.knows e z size bytes) (hzs : z.cells.size = size) (hsz : 0 < size)
    (A : Option Addr) (hs : a.eval s = .slice A 0 0) (xv : Value) (hx : a.eval x = xv) (m : Nat) (news : List Value) (hsrc : SrcAt w xv m size news) (h0 : 0 < m) (h63 : m ≤ maxLen) (hbytes : m * bytes ≤ 140737488355328)
    (hK : ∀ cap xs, m ≤ cap → cap ≤ maxLen → xs.size = cap * size → xs.toList.take (m * size) = news → K (a.put o.dst (.slice (some ⟨w.heap.size, 0, none⟩) m cap)) (w.drew.alloc (.cells xs e))) :
    if Region.wanted o (yielded ops a.tmps) = true then Oper.wp P o a w K Q else E := by
  have hw : Region.wanted o (yielded ops a.tmps) = true := by simp [Region.wanted, hgd]
  rw [if_pos hw]
  obtain ⟨cap, xs, hr, h2, h3, h4, h5⟩ := run_append_fresh (P := P) w t o.type e z size bytes ht hi hzs hsz A xv m news hsrc h0 h63 hbytes
  unfold Oper.wp execOp
  simp only [ho, resolve, invoke, builtin, Sem.run_bind, Sem.run_pure, Result.andThen_ok, List.map_toArray, List.map_cons, List.map_nil, hs, hx, hr]
  exact hK cap xs h2 h3 h4 h5
end
/-- such a block is a row of the call's own -/
theorem ownsRow_of {w : World} {b cap n base : Nat} {e : TypeId} {size : Nat} {xs : Array Value} {l : List Value} (h : w.heap[b]? = some (.cells xs e)) (hb : base ≤ b) (h1 : n ≤ cap) (h2 : cap ≤ maxLen) (h3 : xs.size = cap * size) (h4 : xs.toList.take (n * size) = l) (hl : l.length = n * size) :
    w.ownsRow base e size (.slice (some ⟨b, 0, none⟩) n cap) n l :=
  ⟨hl, .inr ⟨b, cap, xs, rfl, hb, h, h1, h2, h3, h4⟩⟩
end Go

/-
  What is proved: the heat of a place one step on.
-/
namespace Go.Proofs.Ytjpccfpmhmddjaa
open Go.RowKit

theorem sumTo_upd {f g : Nat → Int} {r : Nat} {x : Int} : ∀ n, r < n → (∀ i, i < n → i ≠ r → g i = f i) → g r = f r + x → sumTo g n = sumTo f n + x
  | 0, h, _, _ => absurd h (by omega)
  | n + 1, hr, h, hx => by
    simp only [sumTo]
    rcases Nat.lt_or_ge r n with h1 | h1
    · rw [sumTo_upd n h1 (fun i hi hne => h i (by omega) hne) hx, h n (by omega) (by omega)]
      omega
    · have : r = n := by omega
      subst this
      rw [sumTo_congr g f r (fun i hi => h i (by omega) (by omega)), hx]
      omega
theorem Job.heat_to (J : Job) (p : Nat → Nat) {r : Nat} (hr : r < J.n) : J.heat (Job.to p r) = J.heat p + J.lv r (p r) := by
  unfold Job.heat
  rw [sumTo_upd (f := J.row p) (g := J.row (Job.to p r)) (r := r) (x := J.lv r (p r)) J.n hr (fun i hi hne => by simp [Job.row, Job.to, upd, hne]) (by simp [Job.row, Job.to, upd, sumTo])]
  omega
theorem walkP_to (g : Nat → Nat) (k : Nat) : walkP g (k + 1) = Job.to (walkP g k) (g k) := rfl
end Go.Proofs.Ytjpccfpmhmddjaa

/-
  What is proved: plain words for PassShifted: a job that is hotter at first.
-/
namespace Go.Proofs.Ytjpccfpmhmddjaa
open Go.RowKit

def Job.up (J : Job) (u : Int) : Job := { J with start := J.start + u }
theorem Job.heat_up (J : Job) (u : Int) (p : Nat → Nat) : (J.up u).heat p = J.heat p + u := by
  show J.start + u + sumTo (J.row p) J.n = J.start + sumTo (J.row p) J.n + u
  omega
theorem Job.hot_up (J : Job) (u : Int) (p : Nat → Nat) (r : Nat) : (J.up u).hot p r = J.hot p r + u := by
  show (J.up u).heat p + J.pk r (p r) = J.heat p + J.pk r (p r) + u
  rw [J.heat_up]; omega
theorem Job.waysF_up (J : Job) (u l : Int) : ∀ (d : Nat) (p : Nat → Nat), (J.up u).waysF (l + u) d p = J.waysF l d p
  | 0, _ => rfl
  | d + 1, p => by
    show sumN (fun r => if 0 < p r ∧ (J.up u).hot (dn p r) r ≤ l + u then (J.up u).waysF (l + u) d (dn p r) else 0) J.n = sumN (fun r => if 0 < p r ∧ J.hot (dn p r) r ≤ l then J.waysF l d (dn p r) else 0) J.n
    refine sumN_congr J.n fun r _ => ?_
    rw [J.hot_up, J.waysF_up u l d]
    have : (0 < p r ∧ J.hot (dn p r) r + u ≤ l + u) ↔ (0 < p r ∧ J.hot (dn p r) r ≤ l) := by omega
    simp only [this]
theorem Job.waysN_up (J : Job) (u l : Int) (p : Nat → Nat) : (J.up u).waysN (l + u) p = J.waysN l p := J.waysF_up u l (J.deg p) p
theorem Job.hotAt_up (J : Job) (u : Int) (g : Nat → Nat) (k : Nat) : (J.up u).hotAt g k = J.hotAt g k + u := J.hot_up u _ _
theorem Job.Best.up {J : Job} {hot : Int} (h : J.Best hot) (u : Int) : (J.up u).Best (hot + u) := by
  refine ⟨?_, fun l hl => ?_⟩
  · show 0 < (J.up u).waysN (hot + u) J.last
    rw [J.waysN_up]; exact h.1
  · show (J.up u).waysN l J.last = 0
    have := J.waysN_up u (l - u) J.last
    rw [show l - u + u = l by omega] at this
    rw [this]
    exact h.2 _ (by omega)
theorem maxN_up (h : Nat → Int) (u : Int) : ∀ m, maxN (fun k => h k + u) m = maxN h m + u
  | 0 => rfl
  | m + 1 => by
    simp only [maxN]
    rw [maxN_up h u m]
    omega
theorem Job.ordErr_up (J : Job) (u : Int) (m : Nat) (f : Nat → Int) : (J.up u).ordErr m f = J.ordErr m f := rfl
end Go.Proofs.Ytjpccfpmhmddjaa

/-
  What is proved: plain words for PassShifted: with an edge more, whose Leaves are not below 0, a best order does not become less hot.
-/
namespace Go.Proofs.Ytjpccfpmhmddjaa
open Go.RowKit

/-- the job with an edge more -/
def Job.more (J : Job) (len : Nat) (pk lv : Nat → Int) : Job := ⟨J.start, J.n + 1, fun i => if i < J.n then J.len i else len, fun i => if i < J.n then J.pk i else pk, fun i => if i < J.n then J.lv i else lv⟩
theorem sumTo_nonneg {f : Nat → Int} : ∀ k, (∀ i, 0 ≤ f i) → 0 ≤ sumTo f k
  | 0, _ => Int.le_refl 0
  | k + 1, h => by
    have := sumTo_nonneg k h
    have := h k
    simp only [sumTo]; omega
theorem Job.more_row (J : Job) (len : Nat) (pk lv : Nat → Int) {q p : Nat → Nat} (h : ∀ i, i < J.n → q i = p i) : sumTo ((J.more len pk lv).row q) J.n = sumTo (J.row p) J.n :=
  sumTo_congr _ _ J.n fun i hi => by
    show sumTo (if i < J.n then J.lv i else lv) (q i) = sumTo (J.lv i) (p i)
    rw [if_pos hi, h i hi]
theorem Job.more_heat (J : Job) (len : Nat) (pk lv : Nat → Int) (hl : ∀ i, 0 ≤ lv i) {q p : Nat → Nat} (h : ∀ i, i < J.n → q i = p i) : J.heat p ≤ (J.more len pk lv).heat q := by
  show J.start + sumTo (J.row p) J.n ≤ J.start + (sumTo ((J.more len pk lv).row q) J.n + (J.more len pk lv).row q J.n)
  rw [J.more_row len pk lv h]
  have : 0 ≤ (J.more len pk lv).row q J.n := by
    show 0 ≤ sumTo (if J.n < J.n then J.lv J.n else lv) (q J.n)
    rw [if_neg (Nat.lt_irrefl _)]
    exact sumTo_nonneg _ hl
  omega
theorem Job.more_hot (J : Job) (len : Nat) (pk lv : Nat → Int) (hl : ∀ i, 0 ≤ lv i) {q p : Nat → Nat} (h : ∀ i, i < J.n → q i = p i) {r : Nat} (hr : r < J.n) : J.hot p r ≤ (J.more len pk lv).hot q r := by
  show J.heat p + J.pk r (p r) ≤ (J.more len pk lv).heat q + (if r < J.n then J.pk r else pk) (q r)
  have := J.more_heat len pk lv hl h
  rw [if_pos hr, h r hr]
  omega
theorem Job.more_ways (J : Job) (len : Nat) (pk lv : Nat → Int) (hl : ∀ i, 0 ≤ lv i) (l : Int) : ∀ (d : Nat) {q p : Nat → Nat}, (∀ i, i < J.n → q i = p i) → d = J.deg p + q J.n → 0 < (J.more len pk lv).waysF l d q → 0 < J.waysF l (J.deg p) p
  | 0, q, p, h, hd, _ => by
    rw [show J.deg p = 0 by omega]; exact Nat.one_pos
  | d + 1, q, p, h, hd, hw => by
    obtain ⟨r, hr, hc⟩ := (sumN_gt (J.n + 1)).mp hw
    split at hc
    · rename_i hc1
      by_cases hrn : r < J.n
      · have hq : ∀ i, i < J.n → dn q r i = dn p r i := fun i hi => by
          simp only [Go.Proofs.Ytjpccfpmhmddjaa.dn, upd, h i hi, h r hrn]
        have h0 : 0 < p r := by have := h r hrn; omega
        have hdd := J.deg_dn hrn h0
        have hqn : dn q r J.n = q J.n := by simp only [Go.Proofs.Ytjpccfpmhmddjaa.dn, upd]; rw [if_neg (by omega)]
        have ih := J.more_ways len pk lv hl l d hq (by omega) hc
        rw [← hdd]
        refine (sumN_gt J.n).mpr ⟨r, hrn, ?_⟩
        have hh := J.more_hot len pk lv hl hq hrn
        rw [if_pos ⟨h0, by omega⟩]
        exact ih
      · have hre : r = J.n := by omega
        subst hre
        have hq : ∀ i, i < J.n → dn q J.n i = p i := fun i hi => by
          simp only [Go.Proofs.Ytjpccfpmhmddjaa.dn, upd]; rw [if_neg (by omega), h i hi]
        have hqn : dn q J.n J.n = q J.n - 1 := by simp [Go.Proofs.Ytjpccfpmhmddjaa.dn, upd]
        exact J.more_ways len pk lv hl l d hq (by omega) hc
    · omega
theorem Job.Best.more {J : Job} {hot hot' : Int} (hb : J.Best hot) {len : Nat} {pk lv : Nat → Int} (hl : ∀ i, 0 ≤ lv i) (hm : (J.more len pk lv).Best hot') : hot ≤ hot' := by
  refine Decidable.byContradiction fun hlt => ?_
  have h0 := hb.2 hot' (by omega)
  have h1 := hm.1
  have hq : ∀ i, i < J.n → (J.more len pk lv).last i = J.last i := fun i hi => by
    show (if i < J.n + 1 then (if i < J.n then J.len i else len) else 0) = if i < J.n then J.len i else 0
    simp only [if_pos hi, if_pos (show i < J.n + 1 by omega)]
  have hd : (J.more len pk lv).deg (J.more len pk lv).last = J.deg J.last + (J.more len pk lv).last J.n := by
    show sumN (J.more len pk lv).last J.n + (J.more len pk lv).last J.n = sumN J.last J.n + (J.more len pk lv).last J.n
    rw [sumN_congr J.n hq]
  have h2 := J.more_ways len pk lv hl hot' _ hq hd h1
  unfold Job.waysN at h0
  omega
end Go.Proofs.Ytjpccfpmhmddjaa

/-
  What is proved: plain words for PassShifted: the edges turned round.
-/
namespace Go.Proofs.Ytjpccfpmhmddjaa
open Go.RowKit

def rot (n t i : Nat) : Nat := (i + t) % n
theorem rot_lt {n t i : Nat} (hn : 0 < n) : rot n t i < n := Nat.mod_lt _ hn
theorem rot_inj {n t i j : Nat} (hi : i < n) (hj : j < n) (h : rot n t i = rot n t j) : i = j := by
  unfold rot at h
  have h1 : (i + t) % n = (i + t % n) % n := by rw [Nat.add_mod_mod]
  have h2 : (j + t) % n = (j + t % n) % n := by rw [Nat.add_mod_mod]
  have ht : t % n < n := Nat.mod_lt _ (by omega)
  rw [h1, h2] at h
  generalize t % n = s at h ht
  rcases Nat.lt_or_ge (i + s) n with a | a <;> rcases Nat.lt_or_ge (j + s) n with b | b
  · rw [Nat.mod_eq_of_lt a, Nat.mod_eq_of_lt b] at h; omega
  · rw [Nat.mod_eq_of_lt a, Nat.mod_eq_sub_mod b, Nat.mod_eq_of_lt (by omega)] at h; omega
  · rw [Nat.mod_eq_of_lt b, Nat.mod_eq_sub_mod a, Nat.mod_eq_of_lt (by omega)] at h; omega
  · rw [Nat.mod_eq_sub_mod a, Nat.mod_eq_sub_mod b, Nat.mod_eq_of_lt (by omega), Nat.mod_eq_of_lt (by omega)] at h; omega
theorem sumN_one (f : Nat → Nat) : ∀ m, sumN (fun i => f (i + 1)) m + f 0 = sumN f (m + 1)
  | 0 => by simp [sumN]
  | m + 1 => by
    have := sumN_one f m
    simp only [sumN] at this ⊢
    omega
theorem sumN_rot1 (f : Nat → Nat) (n : Nat) : sumN (fun i => f ((i + 1) % n)) n = sumN f n := by
  cases n with
  | zero => rfl
  | succ m =>
    rw [← sumN_one f m]
    simp only [sumN]
    rw [sumN_congr (g := fun i => f (i + 1)) m (fun i hi => by show f ((i + 1) % (m + 1)) = f (i + 1); rw [Nat.mod_eq_of_lt (by omega)]), Nat.mod_self]
theorem sumN_rot (f : Nat → Nat) (n : Nat) : ∀ t, sumN (fun i => f (rot n t i)) n = sumN f n
  | 0 => sumN_congr n fun i hi => by unfold rot; rw [Nat.add_zero, Nat.mod_eq_of_lt hi]
  | t + 1 => by
    have h := sumN_rot (fun i => f ((i + 1) % n)) n t
    rw [sumN_rot1] at h
    rw [← h]
    refine sumN_congr n fun i hi => ?_
    unfold rot
    rw [Nat.mod_add_mod]
    congr 2
theorem sumTo_one (f : Nat → Int) : ∀ m, sumTo (fun i => f (i + 1)) m + f 0 = sumTo f (m + 1)
  | 0 => by simp [sumTo]
  | m + 1 => by
    have := sumTo_one f m
    simp only [sumTo] at this ⊢
    omega
theorem sumTo_rot1 (f : Nat → Int) (n : Nat) : sumTo (fun i => f ((i + 1) % n)) n = sumTo f n := by
  cases n with
  | zero => rfl
  | succ m =>
    rw [← sumTo_one f m]
    simp only [sumTo]
    rw [sumTo_congr (fun i => f ((i + 1) % (m + 1))) (fun i => f (i + 1)) m (fun i hi => by show f ((i + 1) % (m + 1)) = f (i + 1); rw [Nat.mod_eq_of_lt (by omega)]), Nat.mod_self]
theorem sumTo_rot (f : Nat → Int) (n : Nat) : ∀ t, sumTo (fun i => f (rot n t i)) n = sumTo f n
  | 0 => sumTo_congr _ _ n fun i hi => by unfold rot; rw [Nat.add_zero, Nat.mod_eq_of_lt hi]
  | t + 1 => by
    have h := sumTo_rot (fun i => f ((i + 1) % n)) n t
    rw [sumTo_rot1] at h
    rw [← h]
    refine sumTo_congr _ _ n fun i hi => ?_
    unfold rot
    rw [Nat.mod_add_mod]
    congr 2

/-- the job with its edges turned round -/
def Job.rot (J : Job) (t : Nat) : Job := ⟨J.start, J.n, fun i => J.len (Go.Proofs.Ytjpccfpmhmddjaa.rot J.n t i), fun i => J.pk (Go.Proofs.Ytjpccfpmhmddjaa.rot J.n t i), fun i => J.lv (Go.Proofs.Ytjpccfpmhmddjaa.rot J.n t i)⟩
def Job.rotR (J : Job) (t : Nat) (q p : Nat → Nat) : Prop := ∀ i, i < J.n → q i = p (Go.Proofs.Ytjpccfpmhmddjaa.rot J.n t i)
theorem Job.rotR.heat {J : Job} {t : Nat} {q p : Nat → Nat} (h : J.rotR t q p) : (J.rot t).heat q = J.heat p := by
  show J.start + sumTo ((J.rot t).row q) J.n = J.start + sumTo (J.row p) J.n
  rw [← sumTo_rot (J.row p) J.n t]
  congr 1
  refine sumTo_congr _ _ J.n fun i hi => ?_
  show sumTo (J.lv (Go.Proofs.Ytjpccfpmhmddjaa.rot J.n t i)) (q i) = sumTo (J.lv (Go.Proofs.Ytjpccfpmhmddjaa.rot J.n t i)) (p (Go.Proofs.Ytjpccfpmhmddjaa.rot J.n t i))
  rw [h i hi]
theorem Job.rotR.dn {J : Job} {t : Nat} {q p : Nat → Nat} (h : J.rotR t q p) {r : Nat} (hr : r < J.n) : J.rotR t (dn q r) (dn p (Go.Proofs.Ytjpccfpmhmddjaa.rot J.n t r)) := fun i hi => by
  simp only [Go.Proofs.Ytjpccfpmhmddjaa.dn, upd]
  by_cases hir : i = r
  · subst hir; simp [h i hi]
  · rw [if_neg hir, if_neg (fun e => hir (rot_inj hi hr e)), h i hi]
theorem Job.rotR.hot {J : Job} {t : Nat} {q p : Nat → Nat} (h : J.rotR t q p) {r : Nat} (hr : r < J.n) : (J.rot t).hot q r = J.hot p (Go.Proofs.Ytjpccfpmhmddjaa.rot J.n t r) := by
  show (J.rot t).heat q + J.pk (Go.Proofs.Ytjpccfpmhmddjaa.rot J.n t r) (q r) = J.heat p + J.pk (Go.Proofs.Ytjpccfpmhmddjaa.rot J.n t r) (p (Go.Proofs.Ytjpccfpmhmddjaa.rot J.n t r))
  rw [h.heat, h r hr]
theorem Job.rotR.ways {J : Job} {t : Nat} (l : Int) : ∀ (d : Nat) {q p : Nat → Nat}, J.rotR t q p → (J.rot t).waysF l d q = J.waysF l d p
  | 0, _, _, _ => rfl
  | d + 1, q, p, h => by
    show sumN (fun r => if 0 < q r ∧ (J.rot t).hot (Go.Proofs.Ytjpccfpmhmddjaa.dn q r) r ≤ l then (J.rot t).waysF l d (Go.Proofs.Ytjpccfpmhmddjaa.dn q r) else 0) J.n = sumN (fun r => if 0 < p r ∧ J.hot (Go.Proofs.Ytjpccfpmhmddjaa.dn p r) r ≤ l then J.waysF l d (Go.Proofs.Ytjpccfpmhmddjaa.dn p r) else 0) J.n
    rw [← sumN_rot (fun r => if 0 < p r ∧ J.hot (Go.Proofs.Ytjpccfpmhmddjaa.dn p r) r ≤ l then J.waysF l d (Go.Proofs.Ytjpccfpmhmddjaa.dn p r) else 0) J.n t]
    refine sumN_congr J.n fun r hr => ?_
    rw [(h.dn hr).hot hr, Job.rotR.ways l d (h.dn hr), h r hr]
theorem Job.rot_ways (J : Job) (t : Nat) (l : Int) : (J.rot t).waysN l (J.rot t).last = J.waysN l J.last := by
  have h : J.rotR t (J.rot t).last J.last := fun i hi => by
    have hlt := rot_lt (t := t) (i := i) (show 0 < J.n by omega)
    show (if i < J.n then J.len (Go.Proofs.Ytjpccfpmhmddjaa.rot J.n t i) else 0) = (if Go.Proofs.Ytjpccfpmhmddjaa.rot J.n t i < J.n then J.len (Go.Proofs.Ytjpccfpmhmddjaa.rot J.n t i) else 0)
    rw [if_pos hi, if_pos hlt]
  have hd : (J.rot t).deg (J.rot t).last = J.deg J.last := by
    show sumN (J.rot t).last J.n = sumN J.last J.n
    rw [← sumN_rot J.last J.n t]
    exact sumN_congr J.n fun i hi => h i hi
  unfold Job.waysN
  rw [hd]
  exact Job.rotR.ways l _ h
theorem Job.Best.rot {J : Job} {hot : Int} (h : J.Best hot) (t : Nat) : (J.rot t).Best hot :=
  ⟨by rw [J.rot_ways]; exact h.1, fun l hl => by rw [J.rot_ways]; exact h.2 l hl⟩
end Go.Proofs.Ytjpccfpmhmddjaa

/-
  What is proved: two jobs in boxes, of whose edges one is made while the other one stays.
-/
namespace Go.Proofs.Ytjpccfpmhmddjaa
open Go.RowKit

/-- the box xb holds a job of which i edges are taken from elsewhere, in a block from B on -/
def MadeB (W1 W : World) (xb B : Nat) (st : Int) (i : Nat) (xr : Value) (V : Nat → Value) : Prop :=
  W.heap[xb]? = some (.cells #[.int .i64 st, xr] 24) ∧ W.ownsRow B 62 1 xr i (tableL i 1 (fun t _ => V t)) ∧ W1.grows W
theorem MadeB.grow {W1 W W2 : World} {xb B : Nat} {st : Int} {i : Nat} {xr : Value} {V : Nat → Value} (h : MadeB W1 W xb B st i xr V) (g : W.grows W2) : MadeB W1 W2 xb B st i xr V :=
  ⟨g.heap_of h.1, h.2.1.grow g, h.2.2.trans g⟩
theorem MadeB.keep {W1 W W2 : World} {xb B : Nat} {st : Int} {i : Nat} {xr : Value} {V : Nat → Value} (h : MadeB W1 W xb B st i xr V) (g : W.grownBy W2 xr.ownBlock) {b : Nat} {o : Obj} (hb : b < B) (ho : W.heap[b]? = some o) : W2.heap[b]? = some o := by
  rw [g.block b (World.lt_of_block ho) (fun e => by have := (h.2.1.lt b e.symm).1; omega)]
  exact ho
theorem MadeB.push {W1 W W2 : World} {xb B : Nat} {st : Int} {i : Nat} {xr v' : Value} {V : Nat → Value} (h : MadeB W1 W xb B st i xr V) (hb : W1.heap.size ≤ xb) (hB : xb < B)
    (h' : W2.ownsRow B 62 1 v' (i + 1) (tableL i 1 (fun t _ => V t) ++ tableL 1 1 (fun _ _ => V i))) (g : W.grownBy W2 xr.ownBlock) :
    MadeB W1 (W2.setCell ⟨xb, 1, none⟩ v') xb B st (i + 1) v' V := by
  refine ⟨boxX_store (h.keep g hB h.1) v', ?_, ?_⟩
  · rw [tableL_snoc]
    exact h'.set hB _
  · exact (World.grownBy.grows g h.2.1 (W0 := W1) h.2.2 (by omega)).setCell hb _
/-- a job whose edges lie in a block -/
theorem raw_block {W1 W : World} {g n cap : Nat} {xs : Array Value} {T : Job} {V : Nat → Value} (hg : W1.grows W) (hc : W.heap[g]? = some (.cells xs 62)) (h1 : n ≤ cap) (h2 : cap ≤ maxLen) (h3 : xs.toList.take n = tableL n 1 (fun t _ => V t)) (hn : T.n = n)
    (hV : ∀ t, t < n → SliceAt W1 (V t) (T.len t) 2 (pas T t)) : RawAt W (.agg #[.int .i64 T.start, .slice (some ⟨g, 0, none⟩) n cap]) T := by
  subst hn
  refine ⟨_, V, rfl, ⟨_, _, rfl, h1, h2, fun i j hi hj => ⟨_, _, rfl, ?_⟩⟩, fun i hi => (hV i hi).mono hg⟩
  have hj0 : j = 0 := by omega
  subst hj0
  have h4 := tableL_get (m := T.n) (sz := 1) (fun t (_ : Nat) => V t) hi (show (0 : Nat) < 1 by omega)
  rw [← h3, Nat.mul_one, Nat.add_zero, List.getElem?_take_of_lt hi] at h4
  unfold World.cell?
  simp only [hc]
  simpa using h4
theorem pas_more {J : Job} {mm : Nat} {pm lm : Nat → Int} {t : Nat} (ht : t < J.n) : (J.more mm pm lm).len t = J.len t ∧ pas (J.more mm pm lm) t = pas J t := by
  constructor
  · show (if t < J.n then J.len t else mm) = _
    rw [if_pos ht]
  · funext k j
    show (if j = 0 then Value.int .i64 ((if t < J.n then J.pk t else pm) k) else .int .i64 ((if t < J.n then J.lv t else lm) k)) = _
    rw [if_pos ht, if_pos ht]; rfl
theorem pas_last {J : Job} {mm : Nat} {pm lm : Nat → Int} : (J.more mm pm lm).len J.n = mm ∧ pas (J.more mm pm lm) J.n = fun k j => if j = 0 then .int .i64 (pm k) else .int .i64 (lm k) := by
  constructor
  · simp [Job.more]
  · funext k j
    simp [pas, Job.more]
theorem Job.OrdOk.max_bd {J : Job} (hJ : J.Ok) {m : Nat} {g : Nat → Nat} (h : J.OrdOk m g) (hm : 1 ≤ m) (hin : ∀ k, k < m → J.In (walkP g k)) : -25000 ≤ maxN (J.hotAt g) m ∧ maxN (J.hotAt g) m ≤ 26000 := by
  have key : ∀ k, k < m → -25000 ≤ J.hotAt g k ∧ J.hotAt g k ≤ 26000 := fun k hk => Job.hot_bd hJ (hin k hk) (h.lt k hk) (h.lt_len hk)
  have h0 := (maxN_le_iff (h := J.hotAt g) m hm).1 (Int.le_refl _) 0 (by omega)
  exact ⟨by have := key 0 (by omega); omega, (maxN_le_iff m hm).2 fun k hk => (key k hk).2⟩
theorem four_made (w : World) (a b c d : Obj) : ((((w.alloc a).alloc b).alloc c).alloc d).drew.drew.heap[w.heap.size]? = some a ∧ ((((w.alloc a).alloc b).alloc c).alloc d).drew.drew.heap[w.heap.size + 1]? = some b ∧
    ((((w.alloc a).alloc b).alloc c).alloc d).drew.drew.heap[w.heap.size + 1 + 1]? = some c ∧ ((((w.alloc a).alloc b).alloc c).alloc d).drew.drew.heap[w.heap.size + 1 + 1 + 1]? = some d := by
  show ((((w.heap.push a).push b).push c).push d)[w.heap.size]? = some a ∧ ((((w.heap.push a).push b).push c).push d)[w.heap.size + 1]? = some b ∧ ((((w.heap.push a).push b).push c).push d)[w.heap.size + 1 + 1]? = some c ∧ ((((w.heap.push a).push b).push c).push d)[w.heap.size + 1 + 1 + 1]? = some d
  simp only [Array.getElem?_push, Array.size_push]
  refine ⟨?_, ?_, ?_, ?_⟩
  · rw [if_neg (by omega), if_neg (by omega), if_neg (by omega), if_pos trivial]
  · rw [if_neg (by omega), if_neg (by omega), if_pos trivial]
  · rw [if_neg (by omega), if_pos trivial]
  · rw [if_pos trivial]
theorem Job.Ok.rot {J : Job} (h : J.Ok) (t : Nat) : (J.rot t).Ok :=
  ⟨h.n1, h.n4, fun i hi => h.l1 _ (rot_lt (by have := h.n1; omega)), fun i hi => h.l6 _ (rot_lt (by have := h.n1; omega)), h.st, fun i k hi hk => h.pk _ k (rot_lt (by have := h.n1; omega)) hk, fun i k hi hk => h.lv _ k (rot_lt (by have := h.n1; omega)) hk⟩
/-- a block of another type stays when a row grows -/
theorem boxKept {W0 W W2 : World} {base : Nat} {e e' : TypeId} {v : Value} {n : Nat} {xs : List Value} {ys : Array Value} {b : Nat} (h : W.ownsRow base e 1 v n xs) (hb : W0.heap[b]? = some (.cells ys e')) (g : W.grownBy W2 v.ownBlock) (hne : e ≠ e') (g0 : W0.grows W) : W2.heap[b]? = some (.cells ys e') := by
  have hb1 := g0.heap_of hb
  rw [g.block b (World.lt_of_block hb1) ?_]
  · exact hb1
  · rcases h.2 with ⟨rfl, _⟩ | ⟨k, cap, cur, rfl, hg, hgg, rest⟩
    · simp [Value.ownBlock]
    · simp only [Value.ownBlock, ne_eq, Option.some.injEq]
      rintro rfl
      rw [hb1] at hgg
      cases hgg
      exact hne rfl
theorem rowBlock {W : World} {base : Nat} {e : TypeId} {sz g n cap : Nat} {l : List Value} (h : W.ownsRow base e sz (.slice (some ⟨g, 0, none⟩) n cap) n l) (hn : 0 < n) : ∃ ys : Array Value, W.heap[g]? = some (.cells ys e) ∧ n ≤ cap ∧ cap ≤ maxLen ∧ ys.toList.take (n * sz) = l := by
  rcases h.2 with ⟨he, _⟩ | ⟨g', cap', cur, he, hg, hgg, h1, h2, h3, h4⟩
  · cases he
  · cases he
    exact ⟨cur, hgg, h1, h2, h4⟩
theorem rowsAt_slice {W : World} {J : Job} {b o : Nat} {rb ro rc : Nat → Nat} (h : RowsAt W J b o rb ro rc) {i : Nat} (hi : i < J.n) : SliceAt W (.slice (some ⟨rb i, ro i, none⟩) (J.len i) (rc i)) (J.len i) 2 (pas J i) :=
  ⟨_, _, rfl, (h.cap i hi).1, (h.cap i hi).2, fun k j hk hj => ⟨_, _, rfl, by
    rcases (by omega : j = 0 ∨ j = 1) with rfl | rfl
    · simpa [pas] using h.pk i k hi hk
    · simpa [pas] using h.lv i k hi hk⟩⟩
theorem sliceCell {W : World} {A : Option Addr} {n cap m sz : Nat} {c : Nat → Nat → Value} (h : SliceAt W (.slice A n cap) m sz c) {i j : Nat} (hi : i < m) (hj : j < sz) : ∃ b o, A = some ⟨b, o, none⟩ ∧ W.cell? ⟨b, o + i * sz + j, none⟩ = some (c i j) := by
  obtain ⟨a, cap', he, -, -, h4⟩ := h
  cases he
  exact h4 i j hi hj
/-- two boxes with jobs: one with all edges, in a block of its own, one without -/
def YZ (WZ : World) (J : Job) (rb ro rc : Nat → Nat) (s t : Value) (W : World) : Prop := ∃ (yb zb g cap : Nat) (xs : Array Value), s = .pointer (some ⟨yb, 0, none⟩) ∧ t = .pointer (some ⟨zb, 0, none⟩) ∧ Hid (yb ≠ zb ∧ WZ.heap.size ≤ yb ∧ WZ.heap.size ≤ zb ∧ WZ.heap.size ≤ g ∧ W.heap[yb]? = some (.cells #[.int .i64 J.start, .slice (some ⟨g, 0, none⟩) J.n cap] 24) ∧ W.heap[zb]? = some (.cells #[.int .i64 J.start, .slice none 0 0] 24) ∧ W.heap[g]? = some (.cells xs 62) ∧ J.n ≤ cap ∧ cap ≤ maxLen ∧ xs.size = cap * 1 ∧ xs.toList.take (J.n * 1) = tableL J.n 1 (fun t _ => .slice (some ⟨rb t, ro t, none⟩) (J.len t) (rc t)) ∧ WZ.grows W)
theorem YZ.of {WZ W : World} {J : Job} {rb ro rc : Nat → Nat} {yb zb g cap : Nat} {xs : Array Value} (a5 : W.heap[yb]? = some (.cells #[.int .i64 J.start, .slice (some ⟨g, 0, none⟩) J.n cap] 24)) (a6 : W.heap[zb]? = some (.cells #[.int .i64 J.start, .slice none 0 0] 24)) (a7 : W.heap[g]? = some (.cells xs 62))
    (a11 : xs.toList.take (J.n * 1) = tableL J.n 1 (fun t _ => .slice (some ⟨rb t, ro t, none⟩) (J.len t) (rc t))) (a10 : xs.size = cap * 1) (a8 : J.n ≤ cap) (a9 : cap ≤ maxLen) (a1 : yb ≠ zb) (a2 : WZ.heap.size ≤ yb) (a3 : WZ.heap.size ≤ zb) (a4 : WZ.heap.size ≤ g) (a12 : WZ.grows W) :
    YZ WZ J rb ro rc (.pointer (some ⟨yb, 0, none⟩)) (.pointer (some ⟨zb, 0, none⟩)) W := ⟨yb, zb, g, cap, xs, rfl, rfl, Lib.hid ⟨a1, a2, a3, a4, a5, a6, a7, a8, a9, a10, a11, a12⟩⟩
end Go.Proofs.Ytjpccfpmhmddjaa

/-
  What is proved: region 16 of PassShifted: two jobs in boxes, whatever the order.
-/
namespace Go.Proofs.Ytjpccfpmhmddjaa
open Go.RowKit

def theRegion (n : Nat) : Code → Option Code
  | .region k ops d => if k = n then some (.region k ops d) else none
  | .loop c => theRegion n c
  | .seq a b => match theRegion n a with
    | some c => some c
    | none => theRegion n b
  | .block _ c => theRegion n c
  | .scope c => theRegion n c
  | .cond _ a b => match theRegion n a with
    | some c => some c
    | none => theRegion n b
  | _ => none
noncomputable def r16 : Code := (Try.f12.body.bind (theRegion 16)).getD .skip

set_option maxRecDepth 1000000 in
set_option maxHeartbeats 16000000 in
theorem shifted_r16 (WZ : World) (J : Job) (hn1 : 1 ≤ J.n) (hn4 : J.n ≤ 4) (jb jo jcap b6 : Nat) (rb ro rc : Nat → Nat) (c0 : WZ.cell? ⟨b6, 0, none⟩ = some (.int .i64 J.start)) (c1 : WZ.cell? ⟨b6, 1, none⟩ = some (.slice (some ⟨jb, jo, none⟩) J.n jcap))
    (hs : ∀ W, WZ.grows W → SrcAt W (.slice (some ⟨jb, jo, none⟩) J.n jcap) J.n 1 (tableL J.n 1 (fun t _ => .slice (some ⟨rb t, ro t, none⟩) (J.len t) (rc t))))
    (Q : Exit → Act → World → Prop) (z0 z1 z2 z3 z4 z5 z7 z8 z9 z10 z11 z12 z13 z14 z15 z16 z17 z18 z19 z20 z21 z22 z23 z24 z25 z26 z27 z28 z29 z30 z31 z32 z33 z34 z35 z36 z37 z38 z39 z40 z41 z42 z43 z44 z45 z46 z47 z48 z49 z50 z51 z52 z53 z54 z55 z56 z57 z58 z59 z60 z61 z62 z63 z64 z65 z66 z67 z68 z69 z70 z71 z72 z73 z74 z75 z76 z77 z78 z79 z80 z81 z82 z83 z84 z85 z86 z87 z88 z89 z90 z91 z92 z93 z94 z95 z96 z97 z98 z99 z100 z101 z102 z103 z104 z105 z106 z107 z108 z109 z110 z111 z112 z113 z114 z115 z116 z117 z118 z119 z120 z121 z122 z123 z124 z125 z126 z127 z128 z129 z130 z131 z132 z133 z134 z135 z136 z137 z138 z139 z140 z141 z142 z143 z144 z145 z146 z147 z148 z149 z150 z151 z152 z153 z154 z155 z156 z157 z158 z159 z160 z161 z162 z163 z164 z165 z166 z167 z168 z169 z170 z171 z172 z173 z174 z175 z176 z177 z178 z179 z180 z181 z182 z183 z184 z185 z186 z187 z188 z189 z190 z191 z192 z193 z194 z195 z196 z197 z198 z199 z200 z201 z202 z203 z204 z205 z206 z207 z208 z209 z210 z211 z212 z213 z214 z215 z216 z217 z218 z219 z220 z221 z222 z223 z224 z225 z226 z227 z228 z229 z230 z231 z232 z233 z234 z235 z236 z237 z238 z239 z240 z241 z242 z243 z244 z245 z246 z247 z248 z249 z250 : Value)
    (hexit : ∀ (x29 x30 x149 x150 x151 x152 x153 x154 x155 x156 x157 x158 : Value) (W : World), YZ WZ J rb ro rc x29 x30 W → Q .normal ⟨List.toArray (z0 :: z1 :: z2 :: z3 :: z4 :: z5 :: .pointer (some ⟨b6, 0, none⟩) :: z7 :: z8 :: z9 :: z10 :: z11 :: z12 :: z13 :: z14 :: z15 :: z16 :: z17 :: z18 :: z19 :: z20 :: z21 :: z22 :: z23 :: z24 :: z25 :: z26 :: z27 :: z28 :: x29 :: x30 :: z31 :: z32 :: z33 :: z34 :: z35 :: z36 :: z37 :: z38 :: z39 :: z40 :: z41 :: z42 :: z43 :: z44 :: z45 :: z46 :: z47 :: z48 :: z49 :: z50 :: z51 :: z52 :: z53 :: z54 :: z55 :: z56 :: z57 :: z58 :: z59 :: z60 :: z61 :: z62 :: z63 :: z64 :: z65 :: z66 :: z67 :: z68 :: z69 :: z70 :: z71 :: z72 :: z73 :: z74 :: z75 :: z76 :: z77 :: z78 :: z79 :: z80 :: z81 :: z82 :: z83 :: z84 :: z85 :: z86 :: z87 :: z88 :: z89 :: z90 :: z91 :: z92 :: z93 :: z94 :: z95 :: z96 :: z97 :: z98 :: z99 :: z100 :: z101 :: z102 :: z103 :: z104 :: z105 :: z106 :: z107 :: z108 :: z109 :: z110 :: z111 :: z112 :: z113 :: z114 :: z115 :: z116 :: z117 :: z118 :: z119 :: z120 :: z121 :: z122 :: z123 :: z124 :: z125 :: z126 :: z127 :: z128 :: z129 :: z130 :: z131 :: z132 :: z133 :: z134 :: z135 :: z136 :: z137 :: z138 :: z139 :: z140 :: z141 :: z142 :: z143 :: z144 :: z145 :: z146 :: z147 :: z148 :: x149 :: x150 :: x151 :: x152 :: x153 :: x154 :: x155 :: x156 :: x157 :: x158 :: z159 :: z160 :: z161 :: z162 :: z163 :: z164 :: z165 :: z166 :: z167 :: z168 :: z169 :: z170 :: z171 :: z172 :: z173 :: z174 :: z175 :: z176 :: z177 :: z178 :: z179 :: z180 :: z181 :: z182 :: z183 :: z184 :: z185 :: z186 :: z187 :: z188 :: z189 :: z190 :: z191 :: z192 :: z193 :: z194 :: z195 :: z196 :: z197 :: z198 :: z199 :: z200 :: z201 :: z202 :: z203 :: z204 :: z205 :: z206 :: z207 :: z208 :: z209 :: z210 :: z211 :: z212 :: z213 :: z214 :: z215 :: z216 :: z217 :: z218 :: z219 :: z220 :: z221 :: z222 :: z223 :: z224 :: z225 :: z226 :: z227 :: z228 :: z229 :: z230 :: z231 :: z232 :: z233 :: z234 :: z235 :: z236 :: z237 :: z238 :: z239 :: z240 :: z241 :: z242 :: z243 :: z244 :: z245 :: z246 :: z247 :: z248 :: z249 :: z250 :: []), []⟩ W) :
    Code.wp Try.prog r16 Q ⟨List.toArray (z0 :: z1 :: z2 :: z3 :: z4 :: z5 :: .pointer (some ⟨b6, 0, none⟩) :: z7 :: z8 :: z9 :: z10 :: z11 :: z12 :: z13 :: z14 :: z15 :: z16 :: z17 :: z18 :: z19 :: z20 :: z21 :: z22 :: z23 :: z24 :: z25 :: z26 :: z27 :: z28 :: z29 :: z30 :: z31 :: z32 :: z33 :: z34 :: z35 :: z36 :: z37 :: z38 :: z39 :: z40 :: z41 :: z42 :: z43 :: z44 :: z45 :: z46 :: z47 :: z48 :: z49 :: z50 :: z51 :: z52 :: z53 :: z54 :: z55 :: z56 :: z57 :: z58 :: z59 :: z60 :: z61 :: z62 :: z63 :: z64 :: z65 :: z66 :: z67 :: z68 :: z69 :: z70 :: z71 :: z72 :: z73 :: z74 :: z75 :: z76 :: z77 :: z78 :: z79 :: z80 :: z81 :: z82 :: z83 :: z84 :: z85 :: z86 :: z87 :: z88 :: z89 :: z90 :: z91 :: z92 :: z93 :: z94 :: z95 :: z96 :: z97 :: z98 :: z99 :: z100 :: z101 :: z102 :: z103 :: z104 :: z105 :: z106 :: z107 :: z108 :: z109 :: z110 :: z111 :: z112 :: z113 :: z114 :: z115 :: z116 :: z117 :: z118 :: z119 :: z120 :: z121 :: z122 :: z123 :: z124 :: z125 :: z126 :: z127 :: z128 :: z129 :: z130 :: z131 :: z132 :: z133 :: z134 :: z135 :: z136 :: z137 :: z138 :: z139 :: z140 :: z141 :: z142 :: z143 :: z144 :: z145 :: z146 :: z147 :: z148 :: z149 :: z150 :: z151 :: z152 :: z153 :: z154 :: z155 :: z156 :: z157 :: z158 :: z159 :: z160 :: z161 :: z162 :: z163 :: z164 :: z165 :: z166 :: z167 :: z168 :: z169 :: z170 :: z171 :: z172 :: z173 :: z174 :: z175 :: z176 :: z177 :: z178 :: z179 :: z180 :: z181 :: z182 :: z183 :: z184 :: z185 :: z186 :: z187 :: z188 :: z189 :: z190 :: z191 :: z192 :: z193 :: z194 :: z195 :: z196 :: z197 :: z198 :: z199 :: z200 :: z201 :: z202 :: z203 :: z204 :: z205 :: z206 :: z207 :: z208 :: z209 :: z210 :: z211 :: z212 :: z213 :: z214 :: z215 :: z216 :: z217 :: z218 :: z219 :: z220 :: z221 :: z222 :: z223 :: z224 :: z225 :: z226 :: z227 :: z228 :: z229 :: z230 :: z231 :: z232 :: z233 :: z234 :: z235 :: z236 :: z237 :: z238 :: z239 :: z240 :: z241 :: z242 :: z243 :: z244 :: z245 :: z246 :: z247 :: z248 :: z249 :: z250 :: []), []⟩ WZ := by
  refine Code.wp_mono (Q := cutE fun a W => Q .normal a W) (fun e a W h => by cases e <;> simp only [cutE] at h; exact h) ?_
  have Hexit := Lib.hid hexit
  have HS := Lib.hid hs
  have hltZ : b6 < WZ.heap.size := World.block_lt_of_cell (show (WZ.cell? ⟨b6, 0, none⟩).isSome = true by rw [c0]; rfl)
  clear hexit hs
  conv => arg 2; whnf
  go_region_held_law (fun w' => w'.cell? ⟨b6, 0, none⟩ = some (.int .i64 J.start) ∧ w'.cell? ⟨b6, 1, none⟩ = some (.slice (some ⟨jb, jo, none⟩) J.n jcap) ∧ WZ.grows w')
    ((refine ⟨by simp [go_sem, *], by simp [go_sem, *], ?_⟩; (repeat (first | exact World.grows.refl _ | assumption | refine World.grows.alloc ?_ _ | refine World.grows.plus ?_ _ _ | refine World.grows.drew ?_ | refine World.grows.setCell ?_ (by simp <;> omega) _))))
    ((refine step_append_fresh _ rfl (.tmp 151) (.tmp 153) 22 rfl 62 (.slice none 0 0) 1 24 Try.underlying22 el62 rfl (by omega) _ (by simp [Act.eval, Act.put]; rfl) (.slice (some ⟨jb, jo, none⟩) J.n jcap) (by simp [Act.eval, Act.put]) J.n _ (HS.out _ (by (repeat (first | exact World.grows.refl _ | assumption | refine World.grows.alloc ?_ _ | refine World.grows.plus ?_ _ _ | refine World.grows.drew ?_ | refine World.grows.setCell ?_ (by simp <;> omega) _)))) (by omega) (by unfold maxLen; omega) (by omega) ?_; intro cap xs h1 h2 h3 h4))
  all_goals
    exact Hexit.out _ _ _ _ _ _ _ _ _ _ _ _ _ (YZ.of (by (first | exact (four_made _ _ _ _ _).1 | exact (four_made _ _ _ _ _).2.1 | exact (four_made _ _ _ _ _).2.2.1 | exact (four_made _ _ _ _ _).2.2.2)) (by (first | exact (four_made _ _ _ _ _).1 | exact (four_made _ _ _ _ _).2.1 | exact (four_made _ _ _ _ _).2.2.1 | exact (four_made _ _ _ _ _).2.2.2)) (by (first | exact (four_made _ _ _ _ _).1 | exact (four_made _ _ _ _ _).2.1 | exact (four_made _ _ _ _ _).2.2.1 | exact (four_made _ _ _ _ _).2.2.2)) (by assumption) (by assumption) (by assumption) (by assumption) (by omega) (by omega) (by omega) (by omega) (by (repeat (first | exact World.grows.refl _ | assumption | refine World.grows.alloc ?_ _ | refine World.grows.plus ?_ _ _ | refine World.grows.drew ?_ | refine World.grows.setCell ?_ (by simp <;> omega) _))))
end Go.Proofs.Ytjpccfpmhmddjaa

