/-
  What is proved: names that are made the same where things suit each other become those of the groups (plain).
-/
import Derived.Test.YteingahlmlndkaaM13
import Derived.Test.YteingahlmlndkaaM6
import Derived.Test.YteingahlmlndkaaM11
import Derived.Test.YteingahlmlndkaaM12
set_option linter.all false
namespace Go.Proofs.Yteingahlmlndkaa
open Go
/-- names in the round r, at the thing i, and the thing k beside it -/
structure NmS (A : Nat → Nat → Bool) (S : Nat → Bool) (n : Nat) (F : Nat → Int) (r i k : Nat) : Prop where
  nam : ∀ j, S j = true → ∃ u : Nat, F j = (u : Nat) ∧ Pth A (fun x => S x = true) j u
  out : ∀ j, S j = false → F j < 0
  all : ∀ v j, S v = true → ball A S n v r j = true → F j ≤ (v : Nat)
  done : ∀ v j, j < i → S v = true → ball A S n v (r + 1) j = true → F j ≤ (v : Nat)
  part : ∀ v t, t < k → S v = true → ball A S n v r t = true → A t i = true → S i = true → F i ≤ (v : Nat)
section
variable {A : Nat → Nat → Bool} {S : Nat → Bool} {n : Nat} {F : Nat → Int} {r i k : Nat}
theorem NmS.start (F : Nat → Int) (h1 : ∀ j, S j = true → F j = (j : Nat)) (h2 : ∀ j, S j = false → F j < 0) : NmS A S n F 0 0 0 :=
  ⟨fun j hj => ⟨j, h1 j hj, .refl hj⟩, h2, fun v j hv hb => by
    have : j = v := by simpa [ball] using hb
    subst this
    rw [h1 j hv]
    exact Int.le_refl _, fun v j hj => by omega, fun v t ht => by omega⟩
theorem ball_in {v : Nat} (hv : S v = true) : ∀ (r j : Nat), ball A S n v r j = true → S j = true := fun r j h => (ball_pth hv r j h).right
theorem NmS.skip (hA : ∀ a b, A a b = A b a) (h : NmS A S n F r i k) (hc : ¬ (S i = true ∧ S k = true ∧ A i k = true)) : NmS A S n F r i (k + 1) :=
  ⟨h.nam, h.out, h.all, h.done, fun v t ht hv hb ha hi => by
    by_cases e : t = k
    · subst e
      exact absurd ⟨hi, ball_in hv _ _ hb, by rw [hA]; exact ha⟩ hc
    · exact h.part v t (by omega) hv hb ha hi⟩
theorem NmS.join (hA : ∀ a b, A a b = A b a) (h : NmS A S n F r i k) (hi : S i = true) (hk : S k = true) (ha : A i k = true) : NmS A S n (updI F i (min (F i) (F k))) r i (k + 1) := by
  have hle : ∀ j, updI F i (min (F i) (F k)) j ≤ F j := fun j => by
    unfold updI
    split
    · rename_i e; subst e; omega
    · exact Int.le_refl _
  refine ⟨fun j hj => ?_, fun j hj => ?_, fun v j hv hb => Int.le_trans (hle j) (h.all v j hv hb), fun v j hj hv hb => Int.le_trans (hle j) (h.done v j hj hv hb), fun v t ht hv hb hat hi' => ?_⟩
  · unfold updI
    by_cases e : j = i
    · subst e
      rw [if_pos rfl]
      obtain ⟨u, h1, h2⟩ := h.nam j hj
      obtain ⟨u', h3, h4⟩ := h.nam k hk
      by_cases hlt : F k < F j
      · exact ⟨u', by omega, ((Pth.refl hj).step ha hk).trans h4⟩
      · exact ⟨u, by omega, h2⟩
    · rw [if_neg e]
      exact h.nam j hj
  · exact Int.lt_of_le_of_lt (hle j) (h.out j hj)
  · by_cases e : t = k
    · subst e
      have := h.all v t hv hb
      unfold updI
      rw [if_pos rfl]
      omega
    · exact Int.le_trans (hle i) (h.part v t (by omega) hv hb hat hi')
theorem NmS.next (h : NmS A S n F r i n) : NmS A S n F r (i + 1) 0 :=
  ⟨h.nam, h.out, h.all, fun v j hj hv hb => by
    by_cases e : j = i
    · subst e
      have hSj := ball_in hv _ _ hb
      have hb' : (ball A S n v r j || (S j && (List.range n).any fun t => ball A S n v r t && A t j)) = true := hb
      rw [Bool.or_eq_true, Bool.and_eq_true, List.any_eq_true] at hb'
      rcases hb' with h1 | ⟨-, t, ht, h2⟩
      · exact h.all v j hv h1
      · rw [Bool.and_eq_true] at h2
        exact h.part v t (List.mem_range.1 ht) hv h2.1 h2.2 hSj
    · exact h.done v j (by omega) hv hb, fun v t ht => by omega⟩
theorem NmS.round (hS : ∀ t, S t = true → t < n) (h : NmS A S n F r n 0) : NmS A S n F (r + 1) 0 0 :=
  ⟨h.nam, h.out, fun v j hv hb => h.done v j (hS j (ball_in hv _ _ hb)) hv hb, fun v j hj => by omega, fun v t ht => by omega⟩
theorem NmS.end_ (hA : ∀ a b, A a b = A b a) (hS : ∀ t, S t = true → t < n) (h : NmS A S n F n 0 0) (hi : S i = true) : F i = (nm A S n i : Nat) := by
  obtain ⟨u, h1, h2⟩ := h.nam i hi
  obtain ⟨a1, a2⟩ := nm_spec (A := A) hS hi
  have h3 := a2 u h2
  have h4 := h.all _ i (nm_in hS hi) ((rch_iff hS (nm_in hS hi) i).2 (a1.symm hA))
  omega
end
/-- the rows of the first g names that have one -/
def rowsD (F : Nat → Int) (n g : Nat) : List (List Nat) := ((List.range g).filter fun g => decide (filtL (fun i => decide (F i = (g : Nat))) n ≠ [])).map fun (g : Nat) => filtL (fun i => decide (F i = (g : Nat))) n
theorem rowsD_succ (F : Nat → Int) (n g : Nat) : rowsD F n (g + 1) = if filtL (fun i => decide (F i = (g : Nat))) n = [] then rowsD F n g else rowsD F n g ++ [filtL (fun i => decide (F i = (g : Nat))) n] := by
  unfold rowsD
  rw [List.range_succ, List.filter_append, List.map_append]
  by_cases e : filtL (fun i => decide (F i = (g : Nat))) n = []
  · rw [if_pos e]; simp [e]
  · rw [if_neg e]; simp [e]
theorem rowsD_all {A : Nat → Nat → Bool} {S : Nat → Bool} {n : Nat} {F : Nat → Int} (hA : ∀ a b, A a b = A b a) (hS : ∀ t, S t = true → t < n) (h : NmS A S n F n 0 0) : rowsD F n n = grpL A S n := by
  have e1 : ∀ g : Nat, filtL (fun i => decide (F i = (g : Nat))) n = (List.range n).filter fun i => S i && decide (nm A S n i = g) := fun g => by
    unfold filtL
    refine List.filter_congr fun i _ => ?_
    cases hi : S i with
    | true =>
      rw [h.end_ hA hS hi, Bool.true_and]
      exact decide_eq_decide.2 (by omega)
    | false =>
      have := h.out i hi
      rw [Bool.false_and]
      exact decide_eq_false (by omega)
  unfold rowsD grpL
  have e2 : ((List.range n).filter fun g => decide (filtL (fun i => decide (F i = (g : Nat))) n ≠ [])) = (List.range n).filter fun g => S g && decide (nm A S n g = g) := List.filter_congr fun g hg => by
    rw [e1]
    cases hc : (S g && decide (nm A S n g = g)) with
    | true =>
      refine decide_eq_true fun e => ?_
      have : g ∈ (List.range n).filter fun i => S i && decide (nm A S n i = g) := List.mem_filter.2 ⟨hg, hc⟩
      rw [e] at this
      cases this
    | false =>
      refine decide_eq_false fun hne => ?_
      obtain ⟨i, hi⟩ := List.exists_mem_of_ne_nil _ hne
      obtain ⟨-, hi⟩ := List.mem_filter.1 hi
      rw [Bool.and_eq_true, decide_eq_true_eq] at hi
      have h1 := nm_in (A := A) hS hi.1
      have h2 := nm_nm hA hS hi.1
      rw [hi.2] at h1 h2
      rw [h1, decide_eq_true h2] at hc
      cases hc
  rw [e2]
  exact List.map_congr_left fun g _ => e1 g
theorem filtL_cut {q : Nat → Bool} {n : Nat} (hq : ∀ v, q v = true → v < n) : ∀ d, filtL q (n + d) = filtL q n
  | 0 => rfl
  | d + 1 => by
    rw [show n + (d + 1) = (n + d) + 1 by omega, filtL_succ, if_neg (fun h => by have := hq _ h; omega), filtL_cut hq d]
theorem grpL_n {A : Nat → Nat → Bool} {S : Nat → Bool} {n : Nat} (hA : ∀ a b, A a b = A b a) (hS : ∀ t, S t = true → t < n) (hn : n ≤ 16) : grpL A S n = grpL A S 16 := by
  have hS16 : ∀ t, S t = true → t < 16 := fun t h => by have := hS t h; omega
  have hnm : ∀ i, S i = true → nm A S n i = nm A S 16 i := fun i hi => nm_unique hA hS16 (nm A S n) (fun i hi => ⟨nm_le hS hi, (nm_spec hS hi).1⟩) (fun i k hi hk ha => (nm_iff hA hS hi hk).2 ((Pth.refl hi).step ha hk)) hi
  have cut : ∀ q : Nat → Bool, (∀ v, q v = true → S v = true) → (List.range 16).filter q = (List.range n).filter q := fun q hq => by
    have := filtL_cut (q := q) (n := n) (fun v hv => hS v (hq v hv)) (16 - n)
    rw [show n + (16 - n) = 16 by omega] at this
    exact this
  have e1 : ∀ g : Nat, (fun i => S i && decide (nm A S n i = g)) = fun i => S i && decide (nm A S 16 i = g) := fun g => funext fun i => by
    cases hi : S i with
    | false => rfl
    | true => rw [hnm i hi]
  have e2 : (fun g => S g && decide (nm A S n g = g)) = fun g => S g && decide (nm A S 16 g = g) := funext fun i => by
    cases hi : S i with
    | false => rfl
    | true => rw [hnm i hi]
  unfold grpL
  rw [e2, cut _ (fun v hv => by rw [Bool.and_eq_true] at hv; exact hv.1)]
  refine List.map_congr_left fun g _ => ?_
  rw [e1, cut _ (fun v hv => by rw [Bool.and_eq_true] at hv; exact hv.1)]
end Go.Proofs.Yteingahlmlndkaa

/-
  What is proved: whether numbers are things, increasing (43 of the definition).
-/
namespace Go.Proofs.Yteingahlmlndkaa
open Go.RowKit
attribute [local irreducible] Go.wpCalm
def incB (s : Stk) (f : Nat → Int) (i : Nat) : Bool := s.isT (f i) && (decide (i = 0) || decide (f (i - 1) < f i))
set_option maxHeartbeats 2000000 in
theorem rlist_c (w : World) (v : Value) (s : Stk) (ht : StkAt w v s) (lv : Value) (n : Nat) (f : Nat → Int) (hl : IntsAt w lv n f) :
    Calls Try.prog 43 #[v, lv] w fun e w' => e = .returned (.bool ((List.range n).all (incB s f))) ∧ w.grows w' := by
  have Ht := Lib.hid ht
  obtain ⟨tv, mv, rfl, ⟨sa, sc, rfl, s1, s2, -⟩, ⟨va, vc, rfl, -⟩⟩ := ht
  obtain ⟨aa, ac, rfl, a1, a2, ha⟩ := hl
  unfold maxLen at a2
  go_enter Try.func43, Try.ntmps43
  have hbx : ∀ W, (w.alloc (.cells #[.slice sa s.nt sc, .slice va s.nm vc, .int .i64 s.wide] 25)).grows W → W.heap[w.heap.size]? = some (.cells #[.slice sa s.nt sc, .slice va s.nm vc, .int .i64 s.wide] 25) := fun W g => g.heap_of (World.heap_at w _ _ rfl)
  have Hbx := Lib.hid hbx
  clear hbx
  go_wp2
  go_loopw [5] (fun i wr => ∃ k : Nat, k ≤ n ∧ i = .int .i64 k ∧ Hid (∀ j, j < k → incB s f j = true) ∧ (w.alloc (.cells #[.slice sa s.nt sc, .slice va s.nm vc, .int .i64 s.wide] 25)).grows wr) (fun i _ => n - (intOf i).toNat)
  case atStart => exact ⟨0, by omega, rfl, Lib.hid fun j hj => by omega, by (repeat (first | exact World.grows.refl _ | assumption | refine World.grows.alloc ?_ _ | refine World.grows.plus ?_ _ _ | refine World.grows.drew ?_))⟩
  case round =>
    obtain ⟨k, hk, rfl, hlo, hg⟩ := hrel
    have hgw : w.grows wr := World.grows.trans (by (repeat (first | exact World.grows.refl _ | assumption | refine World.grows.alloc ?_ _ | refine World.grows.plus ?_ _ _ | refine World.grows.drew ?_))) hg
    by_cases hlt : k < n
    · obtain ⟨b, o, rfl, h0⟩ := ha k 0 hlt (by omega)
      have hp := ha (k - 1) 0 (by omega) (by omega)
      simp only [Nat.mul_one, Nat.add_zero] at h0 hp
      obtain ⟨b', o', heq, hp⟩ := hp
      cases heq
      replace h0 := hgw.cell_of h0
      replace hp := hgw.cell_of hp
      have hB := Hbx.out wr hg
      have c0 := cell_of_heap (i := 0) hB rfl
      have c1 := cell_of_heap (i := 1) hB rfl
      have c2 := cell_of_heap (i := 2) hB rfl
      have h36 : ∀ W, wr.grows W → Calls Try.prog 36 #[.agg #[.slice sa s.nt sc, .slice va s.nm vc, .int .i64 s.wide], .int .i64 (f k)] W fun e w' => e = .returned (.bool (s.isT (f k))) ∧ W.grows w' := fun W gW => is36_c W _ s (Ht.out.mono (hgw.trans gW)) (f k)
      have HI : Hid (incB s f k = (s.isT (f k) && (decide (k = 0) || decide (f (k - 1) < f k)))) := Lib.hid rfl
      have HBAD : Hid (incB s f k = false → (List.range n).all (incB s f) = false) := Lib.hid fun he => by
        rw [← Bool.not_eq_true, List.all_eq_true]
        intro h
        have := h k (List.mem_range.2 hlt)
        rw [he] at this; cases this
      clear hB
      obtain ⟨pp, hpp⟩ : ∃ q, k - 1 = q := ⟨_, rfl⟩
      rw [hpp] at hp HI
      cases hT : s.isT (f k) with
      | false =>
        rw [hT] at h36 HI
        have HX := Lib.hid (HBAD.out (by rw [HI.out]; rfl))
        clear hT hpp hlo HI HBAD
        (
          go_wp2
          (refine wp_region_calm (by kernel_rfl) (by kernel_rfl) ?_; (repeat (refine wpCalm_step (fun K hK => ?_); go_simp; first | (refine hK _ ?_; clear hK K) | (apply Exists.intro; refine ⟨fun n' x' => ?_, hK _ ?_⟩; (with_reducible exact h36 _ (by (repeat (first | exact World.grows.refl _ | assumption | refine World.grows.alloc ?_ _ | refine World.grows.plus ?_ _ _ | refine World.grows.drew ?_)))); clear hK K))); refine wpCalm_nil ?_; intro nq xq)
          have g2 : w.grows (wr.plus nq xq) := hgw.trans (by (repeat (first | exact World.grows.refl _ | assumption | refine World.grows.alloc ?_ _ | refine World.grows.plus ?_ _ _ | refine World.grows.drew ?_)))
          generalize wr.plus nq xq = W2 at g2 ⊢
          clear c0 c1 c2 h0 hp h36
          go_wp2
          (refine bodyPost_ret (v := .bool false) (by simp [results, Try.results43, go_sem]) rfl ?_)
          exact ⟨by rw [HX.out], g2⟩)
      | true =>
        rw [hT] at h36 HI
        clear hT
        by_cases hk0 : k = 0
        · have HX := Lib.hid (upto_succ hlo.out (show incB s f k = true by rw [HI.out, decide_eq_true hk0]; rfl))
          have hkI : ¬ (0 : Int) < (k : Nat) := by omega
          have hkd : decide (0 < k) = false := decide_eq_false (by omega)
          have hkN : ¬ 0 < k := by omega
          clear hpp hk0 HI HBAD hp
          have hp : 1 = 1 := rfl
          go_wp2
          (refine wp_region_calm (by kernel_rfl) (by kernel_rfl) ?_; (repeat (refine wpCalm_step (fun K hK => ?_); go_simp; first | (refine hK _ ?_; clear hK K) | (apply Exists.intro; refine ⟨fun n' x' => ?_, hK _ ?_⟩; (with_reducible exact h36 _ (by (repeat (first | exact World.grows.refl _ | assumption | refine World.grows.alloc ?_ _ | refine World.grows.plus ?_ _ _ | refine World.grows.drew ?_)))); clear hK K))); refine wpCalm_nil ?_; intro nq xq)
          have g2 := World.grows.trans hg (show wr.grows (wr.plus nq xq) by (repeat (first | exact World.grows.refl _ | assumption | refine World.grows.alloc ?_ _ | refine World.grows.plus ?_ _ _ | refine World.grows.drew ?_)))
          generalize wr.plus nq xq = W2 at g2 ⊢
          clear c0 c1 c2 h0 hp h36
          go_wp2
          case roundEnd => exact ⟨⟨k + 1, by omega, by go_num, HX, g2⟩, by simp [intOf]; omega⟩
        · have hkI : (0 : Int) < (k : Nat) := by omega
          have hkN : 0 < k := by omega
          have hkd : decide (0 < k) = true := decide_eq_true hkN
          have hk1 : ((k : Nat) : Int) - 1 = ((pp : Nat) : Int) := by omega
          have hwr : IntKind.i64.wrap ((pp : Nat) : Int) = ((pp : Nat) : Int) := by rw [IntKind.wrap_i64]; omega
          have hpn : ((pp : Nat) : Int) < (n : Nat) := by omega
          by_cases hf : f pp < f k
          · have hfI : ¬ f k ≤ f pp := by omega
            have HX := Lib.hid (upto_succ hlo.out (show incB s f k = true by rw [HI.out, decide_eq_true hf]; simp))
            clear hpp hk0 HI HBAD hf
            go_wp2
            (refine wp_region_calm (by kernel_rfl) (by kernel_rfl) ?_; (repeat (refine wpCalm_step (fun K hK => ?_); go_simp; first | (refine hK _ ?_; clear hK K) | (apply Exists.intro; refine ⟨fun n' x' => ?_, hK _ ?_⟩; (with_reducible exact h36 _ (by (repeat (first | exact World.grows.refl _ | assumption | refine World.grows.alloc ?_ _ | refine World.grows.plus ?_ _ _ | refine World.grows.drew ?_)))); clear hK K))); refine wpCalm_nil ?_; intro nq xq)
            have g2 := World.grows.trans hg (show wr.grows (wr.plus nq xq) by (repeat (first | exact World.grows.refl _ | assumption | refine World.grows.alloc ?_ _ | refine World.grows.plus ?_ _ _ | refine World.grows.drew ?_)))
            generalize wr.plus nq xq = W2 at g2 ⊢
            clear c0 c1 c2 h0 hp h36
            go_wp2
            case roundEnd => exact ⟨⟨k + 1, by omega, by go_num, HX, g2⟩, by simp [intOf]; omega⟩
          · have hfI : f k ≤ f pp := by omega
            have HX := Lib.hid (HBAD.out (by rw [HI.out, decide_eq_false hf, decide_eq_false hk0]; rfl))
            clear hpp hk0 HI HBAD hf hlo
            go_wp2
            (refine wp_region_calm (by kernel_rfl) (by kernel_rfl) ?_; (repeat (refine wpCalm_step (fun K hK => ?_); go_simp; first | (refine hK _ ?_; clear hK K) | (apply Exists.intro; refine ⟨fun n' x' => ?_, hK _ ?_⟩; (with_reducible exact h36 _ (by (repeat (first | exact World.grows.refl _ | assumption | refine World.grows.alloc ?_ _ | refine World.grows.plus ?_ _ _ | refine World.grows.drew ?_)))); clear hK K))); refine wpCalm_nil ?_; intro nq xq)
            have g2 : w.grows (wr.plus nq xq) := hgw.trans (by (repeat (first | exact World.grows.refl _ | assumption | refine World.grows.alloc ?_ _ | refine World.grows.plus ?_ _ _ | refine World.grows.drew ?_)))
            generalize wr.plus nq xq = W2 at g2 ⊢
            clear c0 c1 c2 h0 hp h36
            go_wp2
            (refine bodyPost_ret (v := .bool false) (by simp [results, Try.results43, go_sem]) rfl ?_)
            exact ⟨by rw [HX.out], g2⟩
    · have hke : k = n := by omega
      subst hke
      have hx : Hid ((List.range k).all (incB s f) = true) := Lib.hid (List.all_eq_true.2 fun j hj => hlo.out j (List.mem_range.1 hj))
      go_wp2
      (refine bodyPost_ret (v := .bool true) (by simp [results, Try.results43, go_sem]) rfl ?_)
      exact ⟨by rw [hx.out], hgw.trans (by (repeat (first | exact World.grows.refl _ | assumption | refine World.grows.alloc ?_ _ | refine World.grows.plus ?_ _ _ | refine World.grows.drew ?_)))⟩
end Go.Proofs.Yteingahlmlndkaa

/-
  What is proved: nothing: this text names those that are built before the library's sort is imported.
-/
namespace Go.Proofs.Yteingahlmlndkaa
end Go.Proofs.Yteingahlmlndkaa

