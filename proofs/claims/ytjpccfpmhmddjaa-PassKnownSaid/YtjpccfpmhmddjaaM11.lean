/-
  What is proved: what the functions answer at the job of the examples (for PassKnown).
-/
import Derived.Test.YtjpccfpmhmddjaaM9
import Derived.Test.YtjpccfpmhmddjaaM10
set_option linter.all false
namespace Go.Proofs.Ytjpccfpmhmddjaa
open Go.RowKit

theorem exHeat22 (w : World) (v : Value) (hv : RawAt w v exJ) (pv : Value) (hp : IntsAt w pv 2 (lst [2, 2])) :
    Calls Try.prog 16 #[v, pv] w fun e w' => e = .returned (.tuple #[.int .i64 20, .int .i64 0]) ∧ w.grows w' := by
  have e1 : exJ.heatAns 2 (lst [2, 2]) = 20 := by decide +kernel
  have e2 : exJ.heatErr 2 (lst [2, 2]) = 0 := by decide +kernel
  have := Heat_c w v exJ hv pv 2 _ hp
  rwa [e1, e2] at this
theorem exBlue65 (w : World) (v : Value) (hv : RawAt w v exJ) (pv : Value) (hp : IntsAt w pv 4 (lst [1, 0, 0, 1])) :
    Calls Try.prog 20 #[v, pv, .int .i64 65] w fun e w' => e = .returned (.tuple #[.int .i64 0, .int .i64 5]) ∧ w.grows w' := by
  have e1 : exJ.blueAns 4 (lst [1, 0, 0, 1]) 65 = 0 := by decide +kernel
  have e2 : exJ.blueErr 4 (lst [1, 0, 0, 1]) 65 = 5 := by decide +kernel
  have := blue_c w v exJ hv pv 4 _ hp 65
  rwa [e1, e2] at this
theorem exBlue59 (w : World) (v : Value) (hv : RawAt w v exJ) (pv : Value) (hp : IntsAt w pv 4 (lst [1, 0, 0, 1])) :
    Calls Try.prog 20 #[v, pv, .int .i64 59] w fun e w' => e = .returned (.tuple #[.int .i64 0, .int .i64 0]) ∧ w.grows w' := by
  have e1 : exJ.blueAns 4 (lst [1, 0, 0, 1]) 59 = 0 := by decide +kernel
  have e2 : exJ.blueErr 4 (lst [1, 0, 0, 1]) 59 = 0 := by decide +kernel
  have := blue_c w v exJ hv pv 4 _ hp 59
  rwa [e1, e2] at this
theorem exCounts (w : World) (v : Value) (hv : RawAt w v exJ) (k : Nat) (hk : k < 5) :
    Calls Try.prog 26 #[v, .int .i64 (lst [49, 50, 60, 65, 70] k)] w fun e w' => e = .returned (.tuple #[.int .i64 (lst [0, 1, 2, 4, 6] k), .int .i64 0]) ∧ w.grows w' := by
  have e1 : exJ.countAns (lst [49, 50, 60, 65, 70] k) = lst [0, 1, 2, 4, 6] k := by
    rcases (by omega : k = 0 ∨ k = 1 ∨ k = 2 ∨ k = 3 ∨ k = 4) with rfl | rfl | rfl | rfl | rfl <;> decide +kernel
  have := count_c w v exJ hv (lst [49, 50, 60, 65, 70] k)
  rwa [e1, exJ_check] at this
theorem exMust60 (w : World) (v : Value) (hv : RawAt w v exJ) :
    Calls Try.prog 34 #[v, .int .i64 60, .agg #[.int .i64 0, .int .i64 1], .agg #[.int .i64 1, .int .i64 0]] w fun e w' => e = .returned (.tuple #[.bool false, .int .i64 0]) ∧ w.grows w' := by
  have e1 : exJ.mustAns 60 0 1 1 0 = false := by decide +kernel
  have e2 : exJ.seenErr 60 2 (two 0 1) (two 1 0) = 0 := by decide +kernel
  have := must_c w v exJ hv 60 0 1 1 0
  rwa [e1, e2] at this
theorem exBef70 (w : World) (v : Value) (hv : RawAt w v exJ) :
    Calls Try.prog 36 #[v, .int .i64 70, .agg #[.int .i64 1, .int .i64 0]] w fun e w' => e = .returned (.tuple #[.agg #[.int .i64 10, .int .i64 30], .int .i64 0]) ∧ w.grows w' := by
  have e1 : exJ.seenErr 70 1 (fun _ => 1) (fun _ => 0) = 0 := by decide +kernel
  have e2 : exJ.befLo (exJ.befL 70 1 0) (exJ.befL 70 1 0).length = 10 := by decide +kernel
  have e3 : exJ.befHi (exJ.befL 70 1 0) (exJ.befL 70 1 0).length = 30 := by decide +kernel
  refine (bef_c w v exJ hv 70 1 0).mono ?_
  rintro e w' ⟨lo, hi, rfl, hg, -, h⟩
  obtain ⟨h1, h2⟩ := h e1
  rw [e2] at h1
  rw [e3] at h2
  subst h1; subst h2
  exact ⟨by rw [e1], hg⟩
theorem exBef50 (w : World) (v : Value) (hv : RawAt w v exJ) :
    Calls Try.prog 36 #[v, .int .i64 50, .agg #[.int .i64 1, .int .i64 0]] w fun e w' => e = .returned (.tuple #[.agg #[.int .i64 10, .int .i64 10], .int .i64 0]) ∧ w.grows w' := by
  have e1 : exJ.seenErr 50 1 (fun _ => 1) (fun _ => 0) = 0 := by decide +kernel
  have e2 : exJ.befLo (exJ.befL 50 1 0) (exJ.befL 50 1 0).length = 10 := by decide +kernel
  have e3 : exJ.befHi (exJ.befL 50 1 0) (exJ.befL 50 1 0).length = 10 := by decide +kernel
  refine (bef_c w v exJ hv 50 1 0).mono ?_
  rintro e w' ⟨lo, hi, rfl, hg, -, h⟩
  obtain ⟨h1, h2⟩ := h e1
  rw [e2] at h1
  rw [e3] at h2
  subst h1; subst h2
  exact ⟨by rw [e1], hg⟩
theorem lit5 (w : World) (a b c d f : Int) (t blk : Nat) (hb : blk = w.heap.size) : IntsAt (w.alloc (.cells #[.int .i64 a, .int .i64 b, .int .i64 c, .int .i64 d, .int .i64 f] t)) (.slice (some ⟨blk, 0, none⟩) 5 5) 5 (lst [a, b, c, d, f]) := by
  subst hb
  refine ⟨_, _, rfl, by omega, by unfold maxLen; omega, fun i j hi hj => ⟨_, _, rfl, ?_⟩⟩
  rcases (by omega : j = 0)
  rcases (by omega : i = 0 ∨ i = 1 ∨ i = 2 ∨ i = 3 ∨ i = 4) with rfl | rfl | rfl | rfl | rfl <;> simp [go_sem, lst]
end Go.Proofs.Ytjpccfpmhmddjaa

/-
  What is proved: PassKnown returns true (the walk).
-/
namespace Go.Proofs.Ytjpccfpmhmddjaa
open Go.RowKit
attribute [local irreducible] Go.wpCalm

set_option maxRecDepth 100000 in
set_option maxHeartbeats 8000000 in
theorem known_w (w : World) : Calls Try.prog 13 #[] w fun e w' => e = .returned (.bool true) ∧ w.grows w' := by
  go_enter Try.func13, Try.ntmps13
  go_wp2_with (go_at_call 43; refine (jobv_c _).mono ?_; rintro e w1 ⟨b, o, cap, rfl, hg, hv⟩; have HX := Lib.hid (ExAt.start hg hv); have c0 := HX.out.2.2.1; have c1 := HX.out.2.2.2; clear hv hg)
  (refine (exHeat22 _ _ ((HX.out.mono (by (repeat (first | exact World.grows.refl _ | assumption | refine World.grows.alloc ?_ _ | refine World.grows.plus ?_ _ _ | refine World.grows.drew ?_)))).1) _ (lit2 _ 2 2 _ _ (by simp))).mono ?_; rintro e W2 ⟨rfl, hg⟩; replace HX := Lib.hid (HX.out.mono (World.grows.trans (by (repeat (first | exact World.grows.refl _ | assumption | refine World.grows.alloc ?_ _ | refine World.grows.plus ?_ _ _ | refine World.grows.drew ?_))) hg)); replace c0 := HX.out.2.2.1; replace c1 := HX.out.2.2.2; clear hg)
  go_wp2_with (go_at_call 44; fail)
  (refine (exBlue65 _ _ ((HX.out.mono (by (repeat (first | exact World.grows.refl _ | assumption | refine World.grows.alloc ?_ _ | refine World.grows.plus ?_ _ _ | refine World.grows.drew ?_)))).1) _ (lit4 _ 1 0 0 1 _ _ (by simp))).mono ?_; rintro e W2 ⟨rfl, hg⟩; replace HX := Lib.hid (HX.out.mono (World.grows.trans (by (repeat (first | exact World.grows.refl _ | assumption | refine World.grows.alloc ?_ _ | refine World.grows.plus ?_ _ _ | refine World.grows.drew ?_))) hg)); replace c0 := HX.out.2.2.1; replace c1 := HX.out.2.2.2; clear hg)
  go_wp2_with (go_at_call 44; fail)
  (refine (exBlue59 _ _ ((HX.out.mono (by (repeat (first | exact World.grows.refl _ | assumption | refine World.grows.alloc ?_ _ | refine World.grows.plus ?_ _ _ | refine World.grows.drew ?_)))).1) _ (lit4 _ 1 0 0 1 _ _ (by simp))).mono ?_; rintro e W2 ⟨rfl, hg⟩; replace HX := Lib.hid (HX.out.mono (World.grows.trans (by (repeat (first | exact World.grows.refl _ | assumption | refine World.grows.alloc ?_ _ | refine World.grows.plus ?_ _ _ | refine World.grows.drew ?_))) hg)); replace c0 := HX.out.2.2.1; replace c1 := HX.out.2.2.2; clear hg)
  go_wp2_with (go_at_call 44; fail)
  have HL : Hid (∀ k : Nat, k < 5 → ∀ W, ((W2.alloc (.cells #[.int .i64 49, .int .i64 50, .int .i64 60, .int .i64 65, .int .i64 70] 2)).alloc (.cells #[.int .i64 0, .int .i64 1, .int .i64 2, .int .i64 4, .int .i64 6] 2)).grows W →
      W.cell? ⟨W2.heap.size, k, none⟩ = some (.int .i64 (lst [49, 50, 60, 65, 70] k)) ∧ W.cell? ⟨W2.heap.size + 1, k, none⟩ = some (.int .i64 (lst [0, 1, 2, 4, 6] k))) := Lib.hid fun k hk W hg => by
    constructor
    · refine World.grows.cell_of hg ?_
      rcases (by omega : k = 0 ∨ k = 1 ∨ k = 2 ∨ k = 3 ∨ k = 4) with rfl | rfl | rfl | rfl | rfl <;> simp [go_sem, lst]
    · refine World.grows.cell_of hg ?_
      rcases (by omega : k = 0 ∨ k = 1 ∨ k = 2 ∨ k = 3 ∨ k = 4) with rfl | rfl | rfl | rfl | rfl <;> simp [go_sem, lst]
  replace HX := Lib.hid (HX.out.mono (((World.grows.refl W2).alloc (.cells #[.int .i64 49, .int .i64 50, .int .i64 60, .int .i64 65, .int .i64 70] 2)).alloc (.cells #[.int .i64 0, .int .i64 1, .int .i64 2, .int .i64 4, .int .i64 6] 2)))
  clear c0 c1
  generalize (W2.alloc (.cells #[.int .i64 49, .int .i64 50, .int .i64 60, .int .i64 65, .int .i64 70] 2)).alloc (.cells #[.int .i64 0, .int .i64 1, .int .i64 2, .int .i64 4, .int .i64 6] 2) = W3 at HL HX ⊢
  go_loopw [10] (fun i wr => ∃ k : Nat, k ≤ 5 ∧ i = .int .i64 k ∧ W3.grows wr) (fun i _ => 5 - (intOf i).toNat)
  case atStart => exact ⟨0, by omega, rfl, World.grows.refl _⟩
  case round =>
    obtain ⟨k, hk, rfl, hg⟩ := hrel
    have Hg := Lib.hid hg
    replace HX := Lib.hid (HX.out.mono hg); have c0 := HX.out.2.2.1; have c1 := HX.out.2.2.2
    by_cases hlt : k < 5
    · have hkk := HL.out k hlt _ hg
      obtain ⟨k0, k1⟩ := hkk
      clear hg
      go_wp2
      (refine wp_region_calm (by kernel_rfl) (by kernel_rfl) ?_; (repeat (refine wpCalm_step (fun K hK => ?_); go_simp; first | (refine hK _ ?_; clear hK K) | (apply Exists.intro; refine ⟨fun n' x' => ?_, hK _ ?_⟩; (exact exCounts _ _ ((HX.out.mono (by (repeat (first | exact World.grows.refl _ | assumption | refine World.grows.alloc ?_ _ | refine World.grows.plus ?_ _ _ | refine World.grows.drew ?_)))).1) k hlt); clear hK K))); refine wpCalm_nil ?_; intro nq xq)
      go_wp2
      go_roundw
      case rel => exact ⟨k + 1, by omega, by go_num, Hg.out.trans (by (repeat (first | exact World.grows.refl _ | assumption | refine World.grows.alloc ?_ _ | refine World.grows.plus ?_ _ _ | refine World.grows.drew ?_)))⟩
      case measure => simp [intOf]; omega
    · have hke : k = 5 := by omega
      subst hke
      clear hg
      go_wp2
      (refine wp_region_calm (by kernel_rfl) (by kernel_rfl) ?_; (repeat (refine wpCalm_step (fun K hK => ?_); go_simp; first | (refine hK _ ?_; clear hK K) | (apply Exists.intro; refine ⟨fun n' x' => ?_, hK _ ?_⟩; (first | exact name_c _ 0 1 | exact name_c _ 1 0 | exact exMust60 _ _ ((HX.out.mono (by (repeat (first | exact World.grows.refl _ | assumption | refine World.grows.alloc ?_ _ | refine World.grows.plus ?_ _ _ | refine World.grows.drew ?_)))).1)); clear hK K))); refine wpCalm_nil ?_; intro nq xq)
      go_wp2
      have hg : wr.grows (wr.plus nq xq) := by (repeat (first | exact World.grows.refl _ | assumption | refine World.grows.alloc ?_ _ | refine World.grows.plus ?_ _ _ | refine World.grows.drew ?_))
      generalize wr.plus nq xq = W4 at hg ⊢
      replace HX := Lib.hid (HX.out.mono hg); clear hg
      clear c0 c1; have c0 := HX.out.2.2.1; have c1 := HX.out.2.2.2
      (refine wp_region_chain 9 [6, 7, 8] (by kernel_rfl) (by kernel_rfl) (by decide) ?_; simp only [without, only, withNo, List.take_succ_cons, List.take_zero, List.drop_succ_cons, List.drop_zero, List.take_nil, List.drop_nil, Nat.reduceAdd, Nat.reduceSub, List.filter, List.contains_cons, List.contains_nil, Nat.reduceBEq, Bool.or_false, Bool.false_or, Bool.true_or, Bool.or_true, Bool.or_self, Bool.not_true, Bool.not_false, List.map_cons, List.map_nil]; (repeat (refine wpCalm_step (fun K hK => ?_); go_simp; first | (refine hK _ ?_; clear hK K) | (apply Exists.intro; refine ⟨fun n' x' => ?_, hK _ ?_⟩; (first | exact name_c _ 1 0 | exact exBef70 _ _ ((HX.out.mono (by (repeat (first | exact World.grows.refl _ | assumption | refine World.grows.alloc ?_ _ | refine World.grows.plus ?_ _ _ | refine World.grows.drew ?_)))).1)); clear hK K))); refine wpCalm_nil ?_)
      (refine wpChain_step (fun K hK nc xc => ?_); go_simp)
      refine ⟨by (repeat (first | exact World.grows.refl _ | assumption | refine World.grows.alloc ?_ _ | refine World.grows.plus ?_ _ _ | refine World.grows.drew ?_)), hK _ _ ?_⟩
      clear hK K
      obtain ⟨n4, rfl⟩ : ∃ n4, n4 = nc := ⟨_, rfl⟩
      obtain ⟨x4, rfl⟩ : ∃ x4, x4 = xc := ⟨_, rfl⟩
      (refine wpChain_stepO (fun K hK nc xc hgc => ?_); go_simp)
      refine ⟨by (repeat (first | exact World.grows.refl _ | assumption | refine World.grows.alloc ?_ _ | refine World.grows.plus ?_ _ _ | refine World.grows.drew ?_)), hK _ _ ?_⟩
      clear hK K hgc
      (refine wpChain_step (fun K hK nc xc => ?_); go_simp)
      refine ⟨by (repeat (first | exact World.grows.refl _ | assumption | refine World.grows.alloc ?_ _ | refine World.grows.plus ?_ _ _ | refine World.grows.drew ?_)), hK _ _ ?_⟩
      clear hK K
      (refine wpChain_nil (fun nc xc => ?_))
      generalize hWW5 : World.plus _ _ _ = W5
      have hg : W4.grows W5 := by rw [← hWW5]; (repeat (first | exact World.grows.refl _ | assumption | refine World.grows.alloc ?_ _ | refine World.grows.plus ?_ _ _ | refine World.grows.drew ?_))
      have d4 : Hid (W5.cell? ⟨W4.heap.size + n4, 0, none⟩ = some (.int .i64 10) ∧ W5.cell? ⟨W4.heap.size + n4, 1, none⟩ = some (.int .i64 30)) := Lib.hid (by rw [← hWW5]; constructor <;> simp [go_sem])
      clear hWW5
      replace HX := Lib.hid (HX.out.mono hg)
      clear hg
      clear c0 c1; have c0 := HX.out.2.2.1; have c1 := HX.out.2.2.2
      go_wp2
      (refine wp_region_chain 9 [6, 7, 8] (by kernel_rfl) (by kernel_rfl) (by decide) ?_; simp only [without, only, withNo, List.take_succ_cons, List.take_zero, List.drop_succ_cons, List.drop_zero, List.take_nil, List.drop_nil, Nat.reduceAdd, Nat.reduceSub, List.filter, List.contains_cons, List.contains_nil, Nat.reduceBEq, Bool.or_false, Bool.false_or, Bool.true_or, Bool.or_true, Bool.or_self, Bool.not_true, Bool.not_false, List.map_cons, List.map_nil]; (repeat (refine wpCalm_step (fun K hK => ?_); go_simp; first | (refine hK _ ?_; clear hK K) | (apply Exists.intro; refine ⟨fun n' x' => ?_, hK _ ?_⟩; (first | exact name_c _ 1 0 | exact exBef50 _ _ ((HX.out.mono (by (repeat (first | exact World.grows.refl _ | assumption | refine World.grows.alloc ?_ _ | refine World.grows.plus ?_ _ _ | refine World.grows.drew ?_)))).1)); clear hK K))); refine wpCalm_nil ?_)
      (refine wpChain_step (fun K hK nc xc => ?_); go_simp)
      refine ⟨by (repeat (first | exact World.grows.refl _ | assumption | refine World.grows.alloc ?_ _ | refine World.grows.plus ?_ _ _ | refine World.grows.drew ?_)), hK _ _ ?_⟩
      clear hK K
      obtain ⟨n5, rfl⟩ : ∃ n5, n5 = nc := ⟨_, rfl⟩
      obtain ⟨x5, rfl⟩ : ∃ x5, x5 = xc := ⟨_, rfl⟩
      (refine wpChain_stepO (fun K hK nc xc hgc => ?_); go_simp)
      refine ⟨by (repeat (first | exact World.grows.refl _ | assumption | refine World.grows.alloc ?_ _ | refine World.grows.plus ?_ _ _ | refine World.grows.drew ?_)), hK _ _ ?_⟩
      clear hK K hgc
      (refine wpChain_step (fun K hK nc xc => ?_); go_simp)
      refine ⟨by (repeat (first | exact World.grows.refl _ | assumption | refine World.grows.alloc ?_ _ | refine World.grows.plus ?_ _ _ | refine World.grows.drew ?_)), hK _ _ ?_⟩
      clear hK K
      (refine wpChain_nil (fun nc xc => ?_))
      generalize hWW6 : World.plus _ _ _ = W6
      have hg : W5.grows W6 := by rw [← hWW6]; (repeat (first | exact World.grows.refl _ | assumption | refine World.grows.alloc ?_ _ | refine World.grows.plus ?_ _ _ | refine World.grows.drew ?_))
      have d5 : Hid (W6.cell? ⟨W5.heap.size + n5, 0, none⟩ = some (.int .i64 10) ∧ W6.cell? ⟨W5.heap.size + n5, 1, none⟩ = some (.int .i64 10)) := Lib.hid (by rw [← hWW6]; constructor <;> simp [go_sem])
      clear hWW6
      replace HX := Lib.hid (HX.out.mono hg)
      replace d4 := Lib.hid (And.intro (World.grows.cell_of hg d4.out.1) (World.grows.cell_of hg d4.out.2))
      clear hg
      clear c0 c1; have c0 := HX.out.2.2.1; have c1 := HX.out.2.2.2
      have d40 := d4.out.1; have d41 := d4.out.2; have d50 := d5.out.1; have d51 := d5.out.2
      clear d4 d5
      go_wp2_with (go_at_call 15; refine (works_c _).mono ?_; rintro e W7 ⟨rfl, hg⟩; replace HX := Lib.hid (HX.out.mono (World.grows.trans (by (repeat (first | exact World.grows.refl _ | assumption | refine World.grows.alloc ?_ _ | refine World.grows.plus ?_ _ _ | refine World.grows.drew ?_))) hg)); clear hg d40 d41 d50 d51 c0 c1)
      go_ret
      exact ⟨rfl, HX.out.2.1.trans (by (repeat (first | exact World.grows.refl _ | assumption | refine World.grows.alloc ?_ _ | refine World.grows.plus ?_ _ _ | refine World.grows.drew ?_)))⟩

end Go.Proofs.Ytjpccfpmhmddjaa

/-
  What is proved: the statement PassKnown, at every input.
-/
namespace Go.Proofs.Ytjpccfpmhmddjaa
open Go.ChangeShapes Go.WideShapes Go.ChangeAt Go.RowKit

set_option maxRecDepth 100000 in
theorem passKnown_lifted (os : Os) (started : os.Started) (H : Type) (enc : TypeId × Value → H) :
    ReturnsInHanded {} Try.checked os 13 .any (Rows.passKnownSpec.pre6 enc Try.prog Try.f13 Rows.passKnownRow.domain false) (Rows.passKnownSpec.post enc Try.prog Try.f13 false true false false) := by
  refine law_lifted (C := Try.checked) (tb := 4) started own_c laid_c (by kernel_rfl) Try.func13 (of_decide_eq_true (by kernel_rfl))
    (ChangeSpec.witness6 (enc := enc) (C := Try.checked) false ⟨#[], #[], []⟩ 8 (by kernel_rfl) (by kernel_rfl) (by kernel_rfl) (by kernel_rfl))
    rfl Try.underlying4 rfl (fun ds hl => ?_) (fun W base args ds ps hval hA => ?_)
  · match ds, hl with
    | [], _ => exact ⟨rfl, rfl, rfl⟩
  · have hA' : DataW.TrodAll enc Try.prog W 0 (fun _ => true) true Try.f13.params.toList args.toList ds ps := hA
    have hval' : ∀ (j : Nat) t v, Try.f13.params[j]? = some t → args[j]? = some v → Value.okWide Try.prog W .any base t v := hval
    rw [Try.params13] at hA' hval'
    obtain ⟨rfl, rfl, rfl⟩ := trodAll_none hA'
    exact known_w W 

theorem passKnown_holds : Rows.PassKnownSaid :=
  OpenClaim.holds_of_wide 13 Try.f13 rfl rfl rfl rfl rfl rfl rfl ⟨rfl, rfl, rfl, rfl, rfl⟩ rfl rfl rfl rfl rfl (by kernel_rfl) Try.func13 (by kernel_rfl)
    (of_decide_eq_true (by kernel_rfl)) (by unfold Func.isWrapper; first | (rw [if_pos (by decide +kernel)]; kernel_rfl) | (rw [if_neg (by decide +kernel)]; exact ⟨rfl, rfl⟩))
    (fun os started H enc _ => passKnown_lifted os started H enc)
end Go.Proofs.Ytjpccfpmhmddjaa

