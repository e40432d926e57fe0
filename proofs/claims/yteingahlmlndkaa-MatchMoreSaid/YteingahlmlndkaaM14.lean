/-
  What is proved: whether numbers are things, increasing (43 of the definition).
-/
import Derived.Test.YteingahlmlndkaaM13
import Derived.Test.YteingahlmlndkaaM11
import Derived.Test.YteingahlmlndkaaM12
set_option linter.all false
namespace Go.Proofs.Yteingahlmlndkaa
open Go.RowKit
attribute [local irreducible] Go.wpCalm
def incB (s : Stk) (f : Nat → Int) (i : Nat) : Bool := s.isT (f i) && (decide (i = 0) || decide (f (i - 1) < f i))
set_option maxHeartbeats 2000000 in
theorem rlist_c (w : World) (v : Value) (s : Stk) (ht : StkAt w v s) (lv : Value) (n : Nat) (f : Nat → Int) (hl : IntsAt w lv n f) :
    Calls Try.prog 43 #[v, lv] w fun e w' => e = .returned (.bool ((List.range n).all (incB s f))) ∧ w.grows w' := by
  have Ht := Lib.hid ht
  obtain ⟨tv, mv, rfl, ⟨sa, sc, rfl, s1, s2, -⟩, ⟨va, vc, rfl, -⟩⟩ := ht
  obtain ⟨aa, ac, rfl, a1, a2, ha⟩ := hl
  unfold maxLen at a2
  go_enter Try.func43, Try.ntmps43
  have hbx : ∀ W, (w.alloc (.cells #[.slice sa s.nt sc, .slice va s.nm vc, .int .i64 s.wide] 25)).grows W → W.heap[w.heap.size]? = some (.cells #[.slice sa s.nt sc, .slice va s.nm vc, .int .i64 s.wide] 25) := fun W g => g.heap_of (World.heap_at w _ _ rfl)
  have Hbx := Lib.hid hbx
  clear hbx
  go_wp2
  go_loopw [5] (fun i wr => ∃ k : Nat, k ≤ n ∧ i = .int .i64 k ∧ Hid (∀ j, j < k → incB s f j = true) ∧ (w.alloc (.cells #[.slice sa s.nt sc, .slice va s.nm vc, .int .i64 s.wide] 25)).grows wr) (fun i _ => n - (intOf i).toNat)
  case atStart => exact ⟨0, by omega, rfl, Lib.hid fun j hj => by omega, by (repeat (first | exact World.grows.refl _ | assumption | refine World.grows.alloc ?_ _ | refine World.grows.plus ?_ _ _ | refine World.grows.drew ?_))⟩
  case round =>
    obtain ⟨k, hk, rfl, hlo, hg⟩ := hrel
    have hgw : w.grows wr := World.grows.trans (by (repeat (first | exact World.grows.refl _ | assumption | refine World.grows.alloc ?_ _ | refine World.grows.plus ?_ _ _ | refine World.grows.drew ?_))) hg
    by_cases hlt : k < n
    · obtain ⟨b, o, rfl, h0⟩ := ha k 0 hlt (by omega)
      have hp := ha (k - 1) 0 (by omega) (by omega)
      simp only [Nat.mul_one, Nat.add_zero] at h0 hp
      obtain ⟨b', o', heq, hp⟩ := hp
      cases heq
      replace h0 := hgw.cell_of h0
      replace hp := hgw.cell_of hp
      have hB := Hbx.out wr hg
      have c0 := cell_of_heap (i := 0) hB rfl
      have c1 := cell_of_heap (i := 1) hB rfl
      have c2 := cell_of_heap (i := 2) hB rfl
      have h36 : ∀ W, wr.grows W → Calls Try.prog 36 #[.agg #[.slice sa s.nt sc, .slice va s.nm vc, .int .i64 s.wide], .int .i64 (f k)] W fun e w' => e = .returned (.bool (s.isT (f k))) ∧ W.grows w' := fun W gW => is36_c W _ s (Ht.out.mono (hgw.trans gW)) (f k)
      have HI : Hid (incB s f k = (s.isT (f k) && (decide (k = 0) || decide (f (k - 1) < f k)))) := Lib.hid rfl
      have HBAD : Hid (incB s f k = false → (List.range n).all (incB s f) = false) := Lib.hid fun he => by
        rw [← Bool.not_eq_true, List.all_eq_true]
        intro h
        have := h k (List.mem_range.2 hlt)
        rw [he] at this; cases this
      clear hB
      obtain ⟨pp, hpp⟩ : ∃ q, k - 1 = q := ⟨_, rfl⟩
      rw [hpp] at hp HI
      cases hT : s.isT (f k) with
      | false =>
        rw [hT] at h36 HI
        have HX := Lib.hid (HBAD.out (by rw [HI.out]; rfl))
        clear hT hpp hlo HI HBAD
        (
          go_wp2
          (refine wp_region_calm (by kernel_rfl) (by kernel_rfl) ?_; (repeat (refine wpCalm_step (fun K hK => ?_); go_simp; first | (refine hK _ ?_; clear hK K) | (apply Exists.intro; refine ⟨fun n' x' => ?_, hK _ ?_⟩; (with_reducible exact h36 _ (by (repeat (first | exact World.grows.refl _ | assumption | refine World.grows.alloc ?_ _ | refine World.grows.plus ?_ _ _ | refine World.grows.drew ?_)))); clear hK K))); refine wpCalm_nil ?_; intro nq xq)
          have g2 : w.grows (wr.plus nq xq) := hgw.trans (by (repeat (first | exact World.grows.refl _ | assumption | refine World.grows.alloc ?_ _ | refine World.grows.plus ?_ _ _ | refine World.grows.drew ?_)))
          generalize wr.plus nq xq = W2 at g2 ⊢
          clear c0 c1 c2 h0 hp h36
          go_wp2
          (refine bodyPost_ret (v := .bool false) (by simp [results, Try.results43, go_sem]) rfl ?_)
          exact ⟨by rw [HX.out], g2⟩)
      | true =>
        rw [hT] at h36 HI
        clear hT
        by_cases hk0 : k = 0
        · have HX := Lib.hid (upto_succ hlo.out (show incB s f k = true by rw [HI.out, decide_eq_true hk0]; rfl))
          have hkI : ¬ (0 : Int) < (k : Nat) := by omega
          have hkd : decide (0 < k) = false := decide_eq_false (by omega)
          have hkN : ¬ 0 < k := by omega
          clear hpp hk0 HI HBAD hp
          have hp : 1 = 1 := rfl
          go_wp2
          (refine wp_region_calm (by kernel_rfl) (by kernel_rfl) ?_; (repeat (refine wpCalm_step (fun K hK => ?_); go_simp; first | (refine hK _ ?_; clear hK K) | (apply Exists.intro; refine ⟨fun n' x' => ?_, hK _ ?_⟩; (with_reducible exact h36 _ (by (repeat (first | exact World.grows.refl _ | assumption | refine World.grows.alloc ?_ _ | refine World.grows.plus ?_ _ _ | refine World.grows.drew ?_)))); clear hK K))); refine wpCalm_nil ?_; intro nq xq)
          have g2 := World.grows.trans hg (show wr.grows (wr.plus nq xq) by (repeat (first | exact World.grows.refl _ | assumption | refine World.grows.alloc ?_ _ | refine World.grows.plus ?_ _ _ | refine World.grows.drew ?_)))
          generalize wr.plus nq xq = W2 at g2 ⊢
          clear c0 c1 c2 h0 hp h36
          go_wp2
          case roundEnd => exact ⟨⟨k + 1, by omega, by go_num, HX, g2⟩, by simp [intOf]; omega⟩
        · have hkI : (0 : Int) < (k : Nat) := by omega
          have hkN : 0 < k := by omega
          have hkd : decide (0 < k) = true := decide_eq_true hkN
          have hk1 : ((k : Nat) : Int) - 1 = ((pp : Nat) : Int) := by omega
          have hwr : IntKind.i64.wrap ((pp : Nat) : Int) = ((pp : Nat) : Int) := by rw [IntKind.wrap_i64]; omega
          have hpn : ((pp : Nat) : Int) < (n : Nat) := by omega
          by_cases hf : f pp < f k
          · have hfI : ¬ f k ≤ f pp := by omega
            have HX := Lib.hid (upto_succ hlo.out (show incB s f k = true by rw [HI.out, decide_eq_true hf]; simp))
            clear hpp hk0 HI HBAD hf
            go_wp2
            (refine wp_region_calm (by kernel_rfl) (by kernel_rfl) ?_; (repeat (refine wpCalm_step (fun K hK => ?_); go_simp; first | (refine hK _ ?_; clear hK K) | (apply Exists.intro; refine ⟨fun n' x' => ?_, hK _ ?_⟩; (with_reducible exact h36 _ (by (repeat (first | exact World.grows.refl _ | assumption | refine World.grows.alloc ?_ _ | refine World.grows.plus ?_ _ _ | refine World.grows.drew ?_)))); clear hK K))); refine wpCalm_nil ?_; intro nq xq)
            have g2 := World.grows.trans hg (show wr.grows (wr.plus nq xq) by (repeat (first | exact World.grows.refl _ | assumption | refine World.grows.alloc ?_ _ | refine World.grows.plus ?_ _ _ | refine World.grows.drew ?_)))
            generalize wr.plus nq xq = W2 at g2 ⊢
            clear c0 c1 c2 h0 hp h36
            go_wp2
            case roundEnd => exact ⟨⟨k + 1, by omega, by go_num, HX, g2⟩, by simp [intOf]; omega⟩
          · have hfI : f k ≤ f pp := by omega
            have HX := Lib.hid (HBAD.out (by rw [HI.out, decide_eq_false hf, decide_eq_false hk0]; rfl))
            clear hpp hk0 HI HBAD hf hlo
            go_wp2
            (refine wp_region_calm (by kernel_rfl) (by kernel_rfl) ?_; (repeat (refine wpCalm_step (fun K hK => ?_); go_simp; first | (refine hK _ ?_; clear hK K) | (apply Exists.intro; refine ⟨fun n' x' => ?_, hK _ ?_⟩; (with_reducible exact h36 _ (by (repeat (first | exact World.grows.refl _ | assumption | refine World.grows.alloc ?_ _ | refine World.grows.plus ?_ _ _ | refine World.grows.drew ?_)))); clear hK K))); refine wpCalm_nil ?_; intro nq xq)
            have g2 : w.grows (wr.plus nq xq) := hgw.trans (by (repeat (first | exact World.grows.refl _ | assumption | refine World.grows.alloc ?_ _ | refine World.grows.plus ?_ _ _ | refine World.grows.drew ?_)))
            generalize wr.plus nq xq = W2 at g2 ⊢
            clear c0 c1 c2 h0 hp h36
            go_wp2
            (refine bodyPost_ret (v := .bool false) (by simp [results, Try.results43, go_sem]) rfl ?_)
            exact ⟨by rw [HX.out], g2⟩
    · have hke : k = n := by omega
      subst hke
      have hx : Hid ((List.range k).all (incB s f) = true) := Lib.hid (List.all_eq_true.2 fun j hj => hlo.out j (List.mem_range.1 hj))
      go_wp2
      (refine bodyPost_ret (v := .bool true) (by simp [results, Try.results43, go_sem]) rfl ?_)
      exact ⟨by rw [hx.out], hgw.trans (by (repeat (first | exact World.grows.refl _ | assumption | refine World.grows.alloc ?_ _ | refine World.grows.plus ?_ _ _ | refine World.grows.drew ?_)))⟩
end Go.Proofs.Yteingahlmlndkaa

/-
  What is proved: nothing: this text names those that are built before the library's sort is imported.
-/
namespace Go.Proofs.Yteingahlmlndkaa
end Go.Proofs.Yteingahlmlndkaa

