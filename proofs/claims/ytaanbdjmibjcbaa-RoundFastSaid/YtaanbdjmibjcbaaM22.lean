/-
  What is proved: RoundFast (10) answers true.
-/
import Derived.Test.YtaanbdjmibjcbaaM21
import Derived.Deep.CutRange
import Derived.Test.YtaanbdjmibjcbaaM15
set_option linter.all false
namespace Go.Proofs.Ytaanbdjmibjcbaa
open Go.RowKit
attribute [local irreducible] Go.wpCalm rowI
set_option maxRecDepth 100000 in
set_option maxHeartbeats 8000000 in
theorem fast_w (w : World) (tv : Value) (t : Town) (ht : TownAt w tv t) (pv : Value) (P : List (List Int)) (hp : PlanAt w pv P) (x0 x1 : Nat) (hx : x0 ≤ 255 ∧ x1 ≤ 255) : Calls Try.prog 10 #[tv, pv, .agg #[.int .u8 (x0 : Nat), .int .u8 (x1 : Nat)]] w fun e w' => e = .returned (.bool true) ∧ w.grows w' := by
  have HT := Lib.hid ht
  obtain ⟨sv, vv, rfl, ⟨sa, sc, rfl, -⟩, ⟨va, vc, rfl, -⟩⟩ := ht
  obtain ⟨P0, hP⟩ : ∃ P, t.pl = P := ⟨_, rfl⟩
  obtain ⟨N1, hN1⟩ : ∃ N, t.ns = N := ⟨_, rfl⟩
  obtain ⟨N2, hN2⟩ : ∃ N, t.nv = N := ⟨_, rfl⟩
  have HP0 := Lib.hid hP
  have HN1 := Lib.hid hN1
  have HN2 := Lib.hid hN2
  rw [hP, hN1, hN2] at HT ⊢
  clear hP hN1 hN2
  have HPl := Lib.hid hp
  obtain ⟨pa, pc, rfl⟩ := plan_form hp
  obtain ⟨PL, hPL⟩ : ∃ x, P.length = x := ⟨_, rfl⟩
  have HPL := Lib.hid hPL
  rw [hPL] at HPl ⊢
  clear hp hPL
  go_enter Try.func10, Try.ntmps10
  have HB : Hid (((w.alloc (.cells #[.int .i64 P0, .slice sa N1 sc, .slice va N2 vc] 25)).alloc (.cells #[.int .u8 (x0 : Nat), .int .u8 (x1 : Nat)] 54)).heap[w.heap.size]? = some (.cells #[.int .i64 P0, .slice sa N1 sc, .slice va N2 vc] 25)) := Lib.hid (World.grows.heap_of (by (repeat (first | exact World.grows.refl _ | assumption | refine World.grows.alloc ?_ _ | refine World.grows.plus ?_ _ _ | refine World.grows.drew ?_))) (World.heap_at w _ _ rfl))
  have HB1 : Hid (((w.alloc (.cells #[.int .i64 P0, .slice sa N1 sc, .slice va N2 vc] 25)).alloc (.cells #[.int .u8 (x0 : Nat), .int .u8 (x1 : Nat)] 54)).heap[w.heap.size + 1]? = some (.cells #[.int .u8 (x0 : Nat), .int .u8 (x1 : Nat)] 54)) := Lib.hid (World.heap_at _ _ _ (by simp))
  have HW : Hid (w.grows ((w.alloc (.cells #[.int .i64 P0, .slice sa N1 sc, .slice va N2 vc] 25)).alloc (.cells #[.int .u8 (x0 : Nat), .int .u8 (x1 : Nat)] 54))) := Lib.hid (by (repeat (first | exact World.grows.refl _ | assumption | refine World.grows.alloc ?_ _ | refine World.grows.plus ?_ _ _ | refine World.grows.drew ?_)))
  have q0 := cell_of_heap (i := 0) HB.out rfl
  have q1 := cell_of_heap (i := 1) HB.out rfl
  have q2 := cell_of_heap (i := 2) HB.out rfl
  go_wp2_with (go_at_call 99; fail)
  refine (fine_c _ _ t (HT.out.mono (HW.out.trans (by (repeat (first | exact World.grows.refl _ | assumption | refine World.grows.alloc ?_ _ | refine World.grows.plus ?_ _ _ | refine World.grows.drew ?_)))))).mono ?_
  rintro e U ⟨rfl, g⟩
  replace HW := Lib.hid (HW.out.trans (World.grows.trans (by (repeat (first | exact World.grows.refl _ | assumption | refine World.grows.alloc ?_ _ | refine World.grows.plus ?_ _ _ | refine World.grows.drew ?_))) g)); replace HB := Lib.hid (g.heap_of (World.grows.heap_of (by (repeat (first | exact World.grows.refl _ | assumption | refine World.grows.alloc ?_ _ | refine World.grows.plus ?_ _ _ | refine World.grows.drew ?_))) HB.out)); replace q0 := cell_of_heap (i := 0) HB.out rfl; replace q1 := cell_of_heap (i := 1) HB.out rfl; replace q2 := cell_of_heap (i := 2) HB.out rfl; replace HB1 := Lib.hid (g.heap_of (World.grows.heap_of (by (repeat (first | exact World.grows.refl _ | assumption | refine World.grows.alloc ?_ _ | refine World.grows.plus ?_ _ _ | refine World.grows.drew ?_))) HB1.out)); clear g
  by_cases hfine : t.check = 0
  case neg =>
    rw [decide_eq_false hfine]
    go_wp2_with (go_at_call 99; fail); refine (works_c _).mono ?_; rintro e U9 ⟨rfl, g⟩; replace HW := Lib.hid (HW.out.trans (World.grows.trans (by (repeat (first | exact World.grows.refl _ | assumption | refine World.grows.alloc ?_ _ | refine World.grows.plus ?_ _ _ | refine World.grows.drew ?_))) g)); replace HB := Lib.hid (g.heap_of (World.grows.heap_of (by (repeat (first | exact World.grows.refl _ | assumption | refine World.grows.alloc ?_ _ | refine World.grows.plus ?_ _ _ | refine World.grows.drew ?_))) HB.out)); replace q0 := cell_of_heap (i := 0) HB.out rfl; replace q1 := cell_of_heap (i := 1) HB.out rfl; replace q2 := cell_of_heap (i := 2) HB.out rfl; replace HB1 := Lib.hid (g.heap_of (World.grows.heap_of (by (repeat (first | exact World.grows.refl _ | assumption | refine World.grows.alloc ?_ _ | refine World.grows.plus ?_ _ _ | refine World.grows.drew ?_))) HB1.out)); clear g; go_wp2; (refine bodyPost_ret (v := .bool true) (by simp [results, Try.results10, go_sem]) rfl ?_); exact ⟨rfl, HW.out.trans (by (repeat (first | exact World.grows.refl _ | assumption | refine World.grows.alloc ?_ _ | refine World.grows.plus ?_ _ _ | refine World.grows.drew ?_)))⟩
  rw [decide_eq_true hfine]
  go_wp2_with (go_at_call 99; fail)
  refine (long_c _ _ P (HPl.out.mono (HW.out.trans (by (repeat (first | exact World.grows.refl _ | assumption | refine World.grows.alloc ?_ _ | refine World.grows.plus ?_ _ _ | refine World.grows.drew ?_)))))).mono ?_
  rintro e U2 ⟨rfl, g⟩
  replace HW := Lib.hid (HW.out.trans (World.grows.trans (by (repeat (first | exact World.grows.refl _ | assumption | refine World.grows.alloc ?_ _ | refine World.grows.plus ?_ _ _ | refine World.grows.drew ?_))) g)); replace HB := Lib.hid (g.heap_of (World.grows.heap_of (by (repeat (first | exact World.grows.refl _ | assumption | refine World.grows.alloc ?_ _ | refine World.grows.plus ?_ _ _ | refine World.grows.drew ?_))) HB.out)); replace q0 := cell_of_heap (i := 0) HB.out rfl; replace q1 := cell_of_heap (i := 1) HB.out rfl; replace q2 := cell_of_heap (i := 2) HB.out rfl; replace HB1 := Lib.hid (g.heap_of (World.grows.heap_of (by (repeat (first | exact World.grows.refl _ | assumption | refine World.grows.alloc ?_ _ | refine World.grows.plus ?_ _ _ | refine World.grows.drew ?_))) HB1.out)); clear g
  cases hlg : longP P with
  | true =>
    go_wp2_with (go_at_call 99; fail); refine (works_c _).mono ?_; rintro e U9 ⟨rfl, g⟩; replace HW := Lib.hid (HW.out.trans (World.grows.trans (by (repeat (first | exact World.grows.refl _ | assumption | refine World.grows.alloc ?_ _ | refine World.grows.plus ?_ _ _ | refine World.grows.drew ?_))) g)); replace HB := Lib.hid (g.heap_of (World.grows.heap_of (by (repeat (first | exact World.grows.refl _ | assumption | refine World.grows.alloc ?_ _ | refine World.grows.plus ?_ _ _ | refine World.grows.drew ?_))) HB.out)); replace q0 := cell_of_heap (i := 0) HB.out rfl; replace q1 := cell_of_heap (i := 1) HB.out rfl; replace q2 := cell_of_heap (i := 2) HB.out rfl; replace HB1 := Lib.hid (g.heap_of (World.grows.heap_of (by (repeat (first | exact World.grows.refl _ | assumption | refine World.grows.alloc ?_ _ | refine World.grows.plus ?_ _ _ | refine World.grows.drew ?_))) HB1.out)); clear g; go_wp2; (refine bodyPost_ret (v := .bool true) (by simp [results, Try.results10, go_sem]) rfl ?_); exact ⟨rfl, HW.out.trans (by (repeat (first | exact World.grows.refl _ | assumption | refine World.grows.alloc ?_ _ | refine World.grows.plus ?_ _ _ | refine World.grows.drew ?_)))⟩
  | false =>
  by_cases hn1 : N2 < 1
  · have hn1I : (N2 : Int) < 1 := by omega
    go_wp2_with (go_at_call 99; fail); refine (works_c _).mono ?_; rintro e U9 ⟨rfl, g⟩; replace HW := Lib.hid (HW.out.trans (World.grows.trans (by (repeat (first | exact World.grows.refl _ | assumption | refine World.grows.alloc ?_ _ | refine World.grows.plus ?_ _ _ | refine World.grows.drew ?_))) g)); replace HB := Lib.hid (g.heap_of (World.grows.heap_of (by (repeat (first | exact World.grows.refl _ | assumption | refine World.grows.alloc ?_ _ | refine World.grows.plus ?_ _ _ | refine World.grows.drew ?_))) HB.out)); replace q0 := cell_of_heap (i := 0) HB.out rfl; replace q1 := cell_of_heap (i := 1) HB.out rfl; replace q2 := cell_of_heap (i := 2) HB.out rfl; replace HB1 := Lib.hid (g.heap_of (World.grows.heap_of (by (repeat (first | exact World.grows.refl _ | assumption | refine World.grows.alloc ?_ _ | refine World.grows.plus ?_ _ _ | refine World.grows.drew ?_))) HB1.out)); clear g; go_wp2; (refine bodyPost_ret (v := .bool true) (by simp [results, Try.results10, go_sem]) rfl ?_); exact ⟨rfl, HW.out.trans (by (repeat (first | exact World.grows.refl _ | assumption | refine World.grows.alloc ?_ _ | refine World.grows.plus ?_ _ _ | refine World.grows.drew ?_)))⟩
  have hn1I : ¬ (N2 : Int) < 1 := by omega
  obtain ⟨hl1, hl2⟩ := long_no hlg
  have HFine := Lib.hid hfine
  have hok := t.ok_iff.1 hfine
  have h16 : N2 ≤ 16 := by rw [← HN2.out]; exact hok.v16
  obtain ⟨a, ha⟩ : ∃ x : Nat, x0 % N2 = x := ⟨_, rfl⟩
  obtain ⟨b, hb⟩ : ∃ x : Nat, x1 % N2 = x := ⟨_, rfl⟩
  have han : a < N2 := by rw [← ha]; exact Nat.mod_lt _ (by omega)
  have hbn : b < N2 := by rw [← hb]; exact Nat.mod_lt _ (by omega)
  have e1 := tmod_at ha
  have e2 := tmod_at hb
  have w1 : IntKind.i64.wrap (x0 : Int) = x0 := wrapI rfl (by omega)
  have w2 : IntKind.i64.wrap (x1 : Int) = x1 := wrapI rfl (by omega)
  have k1 : ¬ (N2 : Int) = 0 := by omega
  have k3 : ¬ N2 = 0 := by omega
  have r0 := cell_of_heap (i := 0) HB1.out rfl
  have r1 := cell_of_heap (i := 1) HB1.out rfl
  have hA : ∀ slow W, TownAt W (.agg #[.int .i64 P0, .slice sa N1 sc, .slice va N2 vc]) t → Calls Try.prog 21 #[(.agg #[.int .i64 P0, .slice sa N1 sc, .slice va N2 vc]), .int .i64 (a : Nat), .int .i64 (b : Nat), .bool slow] W fun e w' => e = .returned (.tuple #[.bool (aft t slow a b), .int .i64 0]) ∧ W.grows w' := fun slow W ht => by
    have h1 := after_c W (.agg #[.int .i64 P0, .slice sa N1 sc, .slice va N2 vc]) t slow ht (a : Nat) (b : Nat)
    obtain ⟨z1, z2⟩ := aft_nat hfine slow (show a < t.nv by rw [HN2.out]; exact han) (show b < t.nv by rw [HN2.out]; exact hbn)
    rw [z1, z2] at h1
    exact h1
  have h28 := fun slow W ht hp => checkPlan_c W (.agg #[.int .i64 P0, .slice sa N1 sc, .slice va N2 vc]) (.slice pa PL pc) t slow ht P hp (by omega) (by omega)
  have h42 := fun slow W ht => carts_c W (.agg #[.int .i64 P0, .slice sa N1 sc, .slice va N2 vc]) t slow ht
  have h23 := fun slow W ht => late_form 23 lateX_c W (.agg #[.int .i64 P0, .slice sa N1 sc, .slice va N2 vc]) t slow ht
  simp only [hfine] at h23
  have a1 := hA true
  have a2 := hA false
  have b1 := h28 true
  have b2 := h28 false
  have c1 := h42 true
  have c2 := h42 false
  have l1 := h23 true
  have l2 := h23 false
  have t1 : aft t true a b = true → aft t false a b = true := fun h => aft_fast hok h
  have t2 : planX t true P = 0 → planX t false P = 0 ∧ planN t true P = planN t false P := fun h => planX_fast h
  have t3 := carts_fast hfine
  have t4 := lateL_len t true hfine
  have t5 := lateL_len t false hfine
  have t6 := (cartsN_le t true hok).1
  have hll : (lateL t false).length ≤ N2 := by unfold lateL; rw [if_pos hfine, ← HN2.out]; exact filtL_len _ _
  have HLI : Hid (∀ i, i < (lateL t false).length → ((List.range (lateL t true).length).any fun k => decide ((((lateL t true).getD k 0 : Nat) : Int) = (((lateL t false).getD i 0 : Nat) : Int))) = true) := Lib.hid fun i hi => late_in hfine hi
  obtain ⟨va1, hva1⟩ : ∃ x, aft t true a b = x := ⟨_, rfl⟩
  obtain ⟨va2, hva2⟩ : ∃ x, aft t false a b = x := ⟨_, rfl⟩
  obtain ⟨px1, hpx1⟩ : ∃ x, planX t true P = x := ⟨_, rfl⟩
  obtain ⟨px2, hpx2⟩ : ∃ x, planX t false P = x := ⟨_, rfl⟩
  obtain ⟨pn1, hpn1⟩ : ∃ x, planN t true P = x := ⟨_, rfl⟩
  obtain ⟨pn2, hpn2⟩ : ∃ x, planN t false P = x := ⟨_, rfl⟩
  obtain ⟨m1, hm1⟩ : ∃ x, cartsN t true = x := ⟨_, rfl⟩
  obtain ⟨m2, hm2⟩ : ∃ x, cartsN t false = x := ⟨_, rfl⟩
  obtain ⟨L1, hL1⟩ : ∃ x, lateL t true = x := ⟨_, rfl⟩
  obtain ⟨L2, hL2⟩ : ∃ x, lateL t false = x := ⟨_, rfl⟩
  rw [hva1] at a1 t1
  rw [hva2] at a2 t1
  rw [hpx1, hpn1] at b1 t2
  rw [hpx2, hpn2] at b2 t2
  rw [hm1] at c1 t3 t4 t6
  rw [hm2] at c2 t3 t5
  rw [hL1] at l1 t4
  rw [hL2] at l2 t5 hll
  have HLI2 : Hid (∀ i, i < L2.length → ((List.range L1.length).any fun k => decide (((L1.getD k 0 : Nat) : Int) = ((L2.getD i 0 : Nat) : Int))) = true) := Lib.hid (by rw [← hL1, ← hL2]; exact HLI.out)
  have HT4 := Lib.hid t4
  have HT5 := Lib.hid t5
  have T1 := Lib.hid t1
  have T2 := Lib.hid t2
  have T3 := Lib.hid t3
  clear ha hb hfine hA h28 h42 h23 t1 t2 t3 t4 t5 t6 hva1 hva2 hpx1 hpx2 hpn1 hpn2 hm1 hm2 hL1 hL2 hlg hl1 hl2 HLI hok
  go_upto_region 3 with fail
  (refine wp_region_calm (by kernel_rfl) (by kernel_rfl) ?_; (repeat (refine wpCalm_step (fun K hK => ?_); go_simp; first | (refine hK _ ?_; clear hK K) | (apply Exists.intro; refine ⟨fun n' x' => ?_, hK _ ?_⟩; (fail); clear hK K))); refine wpCalm_nil ?_; intro nq xq)
  have g := World.grows_plus U2 nq xq
  replace HW := Lib.hid (HW.out.trans g)
  replace HB := Lib.hid (g.heap_of HB.out)
  clear g q0 q1 q2 r0 r1 e1 e2 w1 w2 k1 k3 hn1I HB1
  generalize U2.plus nq xq = U1 at HW HB ⊢
  have q0 := cell_of_heap (i := 0) HB.out rfl
  have q1 := cell_of_heap (i := 1) HB.out rfl
  have q2 := cell_of_heap (i := 2) HB.out rfl
  go_wp2_with (go_at_call 99; fail)
  refine (a1 _ (HT.out.mono (HW.out.trans (by (repeat (first | exact World.grows.refl _ | assumption | refine World.grows.alloc ?_ _ | refine World.grows.plus ?_ _ _ | refine World.grows.drew ?_)))))).mono ?_
  rintro e V1 ⟨rfl, g⟩
  replace HW := Lib.hid (HW.out.trans (World.grows.trans (by (repeat (first | exact World.grows.refl _ | assumption | refine World.grows.alloc ?_ _ | refine World.grows.plus ?_ _ _ | refine World.grows.drew ?_))) g)); replace HB := Lib.hid (g.heap_of (World.grows.heap_of (by (repeat (first | exact World.grows.refl _ | assumption | refine World.grows.alloc ?_ _ | refine World.grows.plus ?_ _ _ | refine World.grows.drew ?_))) HB.out)); replace q0 := cell_of_heap (i := 0) HB.out rfl; replace q1 := cell_of_heap (i := 1) HB.out rfl; replace q2 := cell_of_heap (i := 2) HB.out rfl; clear g
  go_wp2_with (go_at_call 99; fail)
  refine (a2 _ (HT.out.mono (HW.out.trans (by (repeat (first | exact World.grows.refl _ | assumption | refine World.grows.alloc ?_ _ | refine World.grows.plus ?_ _ _ | refine World.grows.drew ?_)))))).mono ?_
  rintro e V2 ⟨rfl, g⟩
  replace HW := Lib.hid (HW.out.trans (World.grows.trans (by (repeat (first | exact World.grows.refl _ | assumption | refine World.grows.alloc ?_ _ | refine World.grows.plus ?_ _ _ | refine World.grows.drew ?_))) g)); replace HB := Lib.hid (g.heap_of (World.grows.heap_of (by (repeat (first | exact World.grows.refl _ | assumption | refine World.grows.alloc ?_ _ | refine World.grows.plus ?_ _ _ | refine World.grows.drew ?_))) HB.out)); replace q0 := cell_of_heap (i := 0) HB.out rfl; replace q1 := cell_of_heap (i := 1) HB.out rfl; replace q2 := cell_of_heap (i := 2) HB.out rfl; clear g
  go_wp2_with (go_at_call 99; fail)
  refine (b1 _ (HT.out.mono (HW.out.trans (by (repeat (first | exact World.grows.refl _ | assumption | refine World.grows.alloc ?_ _ | refine World.grows.plus ?_ _ _ | refine World.grows.drew ?_))))) (HPl.out.mono (HW.out.trans (by (repeat (first | exact World.grows.refl _ | assumption | refine World.grows.alloc ?_ _ | refine World.grows.plus ?_ _ _ | refine World.grows.drew ?_)))))).mono ?_
  rintro e V3 ⟨rfl, g⟩
  replace HW := Lib.hid (HW.out.trans (World.grows.trans (by (repeat (first | exact World.grows.refl _ | assumption | refine World.grows.alloc ?_ _ | refine World.grows.plus ?_ _ _ | refine World.grows.drew ?_))) g)); replace HB := Lib.hid (g.heap_of (World.grows.heap_of (by (repeat (first | exact World.grows.refl _ | assumption | refine World.grows.alloc ?_ _ | refine World.grows.plus ?_ _ _ | refine World.grows.drew ?_))) HB.out)); replace q0 := cell_of_heap (i := 0) HB.out rfl; replace q1 := cell_of_heap (i := 1) HB.out rfl; replace q2 := cell_of_heap (i := 2) HB.out rfl; clear g
  go_wp2_with (go_at_call 99; fail)
  refine (b2 _ (HT.out.mono (HW.out.trans (by (repeat (first | exact World.grows.refl _ | assumption | refine World.grows.alloc ?_ _ | refine World.grows.plus ?_ _ _ | refine World.grows.drew ?_))))) (HPl.out.mono (HW.out.trans (by (repeat (first | exact World.grows.refl _ | assumption | refine World.grows.alloc ?_ _ | refine World.grows.plus ?_ _ _ | refine World.grows.drew ?_)))))).mono ?_
  rintro e V4 ⟨rfl, g⟩
  replace HW := Lib.hid (HW.out.trans (World.grows.trans (by (repeat (first | exact World.grows.refl _ | assumption | refine World.grows.alloc ?_ _ | refine World.grows.plus ?_ _ _ | refine World.grows.drew ?_))) g)); replace HB := Lib.hid (g.heap_of (World.grows.heap_of (by (repeat (first | exact World.grows.refl _ | assumption | refine World.grows.alloc ?_ _ | refine World.grows.plus ?_ _ _ | refine World.grows.drew ?_))) HB.out)); replace q0 := cell_of_heap (i := 0) HB.out rfl; replace q1 := cell_of_heap (i := 1) HB.out rfl; replace q2 := cell_of_heap (i := 2) HB.out rfl; clear g
  go_wp2_with (go_at_call 99; fail)
  refine (c1 _ (HT.out.mono (HW.out.trans (by (repeat (first | exact World.grows.refl _ | assumption | refine World.grows.alloc ?_ _ | refine World.grows.plus ?_ _ _ | refine World.grows.drew ?_)))))).mono ?_
  rintro e V5 ⟨rfl, g⟩
  replace HW := Lib.hid (HW.out.trans (World.grows.trans (by (repeat (first | exact World.grows.refl _ | assumption | refine World.grows.alloc ?_ _ | refine World.grows.plus ?_ _ _ | refine World.grows.drew ?_))) g)); replace HB := Lib.hid (g.heap_of (World.grows.heap_of (by (repeat (first | exact World.grows.refl _ | assumption | refine World.grows.alloc ?_ _ | refine World.grows.plus ?_ _ _ | refine World.grows.drew ?_))) HB.out)); replace q0 := cell_of_heap (i := 0) HB.out rfl; replace q1 := cell_of_heap (i := 1) HB.out rfl; replace q2 := cell_of_heap (i := 2) HB.out rfl; clear g
  go_wp2_with (go_at_call 99; fail)
  refine (c2 _ (HT.out.mono (HW.out.trans (by (repeat (first | exact World.grows.refl _ | assumption | refine World.grows.alloc ?_ _ | refine World.grows.plus ?_ _ _ | refine World.grows.drew ?_)))))).mono ?_
  rintro e V6 ⟨rfl, g⟩
  replace HW := Lib.hid (HW.out.trans (World.grows.trans (by (repeat (first | exact World.grows.refl _ | assumption | refine World.grows.alloc ?_ _ | refine World.grows.plus ?_ _ _ | refine World.grows.drew ?_))) g)); replace HB := Lib.hid (g.heap_of (World.grows.heap_of (by (repeat (first | exact World.grows.refl _ | assumption | refine World.grows.alloc ?_ _ | refine World.grows.plus ?_ _ _ | refine World.grows.drew ?_))) HB.out)); replace q0 := cell_of_heap (i := 0) HB.out rfl; replace q1 := cell_of_heap (i := 1) HB.out rfl; replace q2 := cell_of_heap (i := 2) HB.out rfl; clear g
  clear a1 a2 b1 b2 c1 c2 HPl
  go_upto_region 10 with fail
  go_cut [128] from 90 to 175 (fun s w' => s = .bool false ∧ Hid (V6.grows w'))
  case first =>
    have k3 := T3.out
    have k3I : ¬ (m1 : Int) < (m2 : Int) := by omega
    clear T3
    cases va1 with
    | false =>
      clear T1
      by_cases h3 : px1 = 0
      · obtain ⟨h4, h5⟩ := T2.out h3
        subst h3 h4 h5
        clear T2
        as_aux_lemma =>
          go_wp2
          go_meet
          exact ⟨rfl, Lib.hid (by (repeat (first | exact World.grows.refl _ | assumption | refine World.grows.alloc ?_ _ | refine World.grows.plus ?_ _ _ | refine World.grows.drew ?_)))⟩
      · have h3I : ¬ (px1 : Int) = 0 := by omega
        clear T2
        as_aux_lemma =>
          go_wp2
          go_meet
          exact ⟨rfl, Lib.hid (by (repeat (first | exact World.grows.refl _ | assumption | refine World.grows.alloc ?_ _ | refine World.grows.plus ?_ _ _ | refine World.grows.drew ?_)))⟩
    | true =>
      obtain rfl := T1.out rfl
      clear T1
      by_cases h3 : px1 = 0
      · obtain ⟨h4, h5⟩ := T2.out h3
        subst h3 h4 h5
        clear T2
        as_aux_lemma =>
          go_wp2
          go_meet
          exact ⟨rfl, Lib.hid (by (repeat (first | exact World.grows.refl _ | assumption | refine World.grows.alloc ?_ _ | refine World.grows.plus ?_ _ _ | refine World.grows.drew ?_)))⟩
      · have h3I : ¬ (px1 : Int) = 0 := by omega
        clear T2
        as_aux_lemma =>
          go_wp2
          go_meet
          exact ⟨rfl, Lib.hid (by (repeat (first | exact World.grows.refl _ | assumption | refine World.grows.alloc ?_ _ | refine World.grows.plus ?_ _ _ | refine World.grows.drew ?_)))⟩
  case rest =>
    obtain ⟨rfl, hv⟩ := hcut
    have g := hv.out
    replace HW := Lib.hid (HW.out.trans g)
    replace HB := Lib.hid (g.heap_of HB.out)
    clear g q0 q1 q2 hv T1 T2 T3
    have q0 := cell_of_heap (i := 0) HB.out rfl
    have q1 := cell_of_heap (i := 1) HB.out rfl
    have q2 := cell_of_heap (i := 2) HB.out rfl
    go_wp2_with (go_at_call 99; fail)
    refine (l1 _ (HT.out.mono (HW.out.trans (by (repeat (first | exact World.grows.refl _ | assumption | refine World.grows.alloc ?_ _ | refine World.grows.plus ?_ _ _ | refine World.grows.drew ?_)))))).mono ?_
    rintro e V7 ⟨aa1, cc1, rfl, g, hl1⟩
    have HA1 := Lib.hid hl1
    replace HW := Lib.hid (HW.out.trans (World.grows.trans (by (repeat (first | exact World.grows.refl _ | assumption | refine World.grows.alloc ?_ _ | refine World.grows.plus ?_ _ _ | refine World.grows.drew ?_))) g)); replace HB := Lib.hid (g.heap_of (World.grows.heap_of (by (repeat (first | exact World.grows.refl _ | assumption | refine World.grows.alloc ?_ _ | refine World.grows.plus ?_ _ _ | refine World.grows.drew ?_))) HB.out)); replace q0 := cell_of_heap (i := 0) HB.out rfl; replace q1 := cell_of_heap (i := 1) HB.out rfl; replace q2 := cell_of_heap (i := 2) HB.out rfl; clear g
    clear hl1
    go_wp2_with (go_at_call 99; fail)
    refine (l2 _ (HT.out.mono (HW.out.trans (by (repeat (first | exact World.grows.refl _ | assumption | refine World.grows.alloc ?_ _ | refine World.grows.plus ?_ _ _ | refine World.grows.drew ?_)))))).mono ?_
    rintro e V8 ⟨aa2, cc2, rfl, g, hl2⟩
    replace HA1 := Lib.hid (HA1.out.mono (World.grows.trans (by (repeat (first | exact World.grows.refl _ | assumption | refine World.grows.alloc ?_ _ | refine World.grows.plus ?_ _ _ | refine World.grows.drew ?_))) g))
    have HA2 := Lib.hid hl2
    replace HW := Lib.hid (HW.out.trans (World.grows.trans (by (repeat (first | exact World.grows.refl _ | assumption | refine World.grows.alloc ?_ _ | refine World.grows.plus ?_ _ _ | refine World.grows.drew ?_))) g)); replace HB := Lib.hid (g.heap_of (World.grows.heap_of (by (repeat (first | exact World.grows.refl _ | assumption | refine World.grows.alloc ?_ _ | refine World.grows.plus ?_ _ _ | refine World.grows.drew ?_))) HB.out)); replace q0 := cell_of_heap (i := 0) HB.out rfl; replace q1 := cell_of_heap (i := 1) HB.out rfl; replace q2 := cell_of_heap (i := 2) HB.out rfl; clear g
    clear hl2 l1 l2
    obtain ⟨K1, hK1⟩ : ∃ x, L1.length = x := ⟨_, rfl⟩
    obtain ⟨K2, hK2⟩ : ∃ x, L2.length = x := ⟨_, rfl⟩
    have HA1' : Hid (IntsAt V8 (.slice aa1 K1 cc1) K1 (fun k => ((L1.getD k 0 : Nat) : Int))) := Lib.hid (by have h := HA1.out; unfold ListAt at h; rw [hK1] at h; exact h)
    have HA2' : Hid (IntsAt V8 (.slice aa2 K2 cc2) K2 (fun k => ((L2.getD k 0 : Nat) : Int))) := Lib.hid (by have h := HA2.out; unfold ListAt at h; rw [hK2] at h; exact h)
    have HT4' : Hid (K1 = 0 ↔ m1 < 1000) := Lib.hid (by rw [← hK1]; exact HT4.out)
    have HT5' : Hid (K2 = 0 ↔ m2 < 1000) := Lib.hid (by rw [← hK2]; exact HT5.out)
    have HLI3 : Hid (∀ i, i < K2 → ((List.range K1).any fun k => decide (((L1.getD k 0 : Nat) : Int) = ((L2.getD i 0 : Nat) : Int))) = true) := Lib.hid (by rw [← hK1, ← hK2]; exact HLI2.out)
    rw [hK1, hK2]
    rw [hK2] at hll
    clear HA1 HA2 HT4 HT5 HLI2 hK1 hK2 HPL
    go_wp2
    go_loopw [25] (fun i wr => ∃ k : Nat, k ≤ K2 ∧ i = .int .i64 k ∧ Hid (V8.grows wr)) (fun i _ => K2 - (intOf i).toNat)
    case atStart => exact ⟨0, by omega, rfl, Lib.hid (World.grows.refl _)⟩
    case round =>
      obtain ⟨k, hk, rfl, hg⟩ := hrel
      by_cases hlt : k < K2
      · have hkI : (k : Int) < K2 := by omega
        obtain ⟨a4, c4, e4, h41, h42, h4⟩ := IntsAt.mono HA2'.out hg.out
        obtain ⟨b4, o4, ea, hc4⟩ := h4 k 0 hlt (by omega)
        have ea2 := (Value.slice.inj e4).1
        subst ea2
        subst ea
        simp only [Nat.mul_one, Nat.add_zero] at hc4
        have hin := in_c wr (.slice aa1 K1 cc1) K1 _ (IntsAt.mono HA1'.out hg.out) ((L2.getD k 0 : Nat) : Int)
        rw [HLI3.out k hlt] at hin
        obtain ⟨z, hz⟩ : ∃ z : Int, ((L2.getD k 0 : Nat) : Int) = z := ⟨_, rfl⟩
        rw [hz] at hin hc4
        clear hz e4 h41 h42 h4
        go_wp2_with (go_at_call 99; fail)
        refine hin.mono ?_
        rintro e V9 ⟨rfl, g⟩
        have hg9 := Lib.hid (hg.out.trans (World.grows.trans (by (repeat (first | exact World.grows.refl _ | assumption | refine World.grows.alloc ?_ _ | refine World.grows.plus ?_ _ _ | refine World.grows.drew ?_))) g))
        clear hin g hg hc4
        go_wp2
        exact ⟨⟨k + 1, by omega, by go_num, hg9⟩, by simp [intOf]; omega⟩
      · have hke : k = K2 := by omega
        replace HW := Lib.hid (HW.out.trans hg.out)
        replace HB := Lib.hid (hg.out.heap_of HB.out)
        have q0 := cell_of_heap (i := 0) HB.out rfl
        have q1 := cell_of_heap (i := 1) HB.out rfl
        have q2 := cell_of_heap (i := 2) HB.out rfl
        subst hke
        clear hg HA1' HA2' HLI3 hlt hk
        have k5 := HT5'.out
        have k4 := HT4'.out
        clear HT4' HT5'
        by_cases h5 : k = 0
        · have g5 : (m2 : Int) < 1000 := by have := k5.1 h5; omega
          subst h5
          try simp only [show ((0 : Nat) : Int) = (0 : Int) from rfl]
          by_cases h4 : K1 = 0
          · have g4 : (m1 : Int) < 1000 := by have := k4.1 h4; omega
            subst h4
            try simp only [show ((0 : Nat) : Int) = (0 : Int) from rfl]
            clear k4 k5
            as_aux_lemma =>
              go_wp2_with (go_at_call 99; fail)
              refine (works_c _).mono ?_; rintro e U9 ⟨rfl, g⟩; replace HW := Lib.hid (HW.out.trans (World.grows.trans (by (repeat (first | exact World.grows.refl _ | assumption | refine World.grows.alloc ?_ _ | refine World.grows.plus ?_ _ _ | refine World.grows.drew ?_))) g)); replace HB := Lib.hid (g.heap_of (World.grows.heap_of (by (repeat (first | exact World.grows.refl _ | assumption | refine World.grows.alloc ?_ _ | refine World.grows.plus ?_ _ _ | refine World.grows.drew ?_))) HB.out)); replace q0 := cell_of_heap (i := 0) HB.out rfl; replace q1 := cell_of_heap (i := 1) HB.out rfl; replace q2 := cell_of_heap (i := 2) HB.out rfl; clear g; go_wp2; (refine bodyPost_ret (v := .bool true) (by simp [results, Try.results10, go_sem]) rfl ?_); exact ⟨rfl, HW.out.trans (by (repeat (first | exact World.grows.refl _ | assumption | refine World.grows.alloc ?_ _ | refine World.grows.plus ?_ _ _ | refine World.grows.drew ?_)))⟩
          · have g4 : ¬ (m1 : Int) < 1000 := by have := mt k4.2 h4; omega
            have g6 : ((K1 : Int) == 0) = false := beq_eq_false_iff_ne.2 (by omega)
            have g7 : ¬ (K1 : Int) = 0 := by omega
            clear k4 k5
            as_aux_lemma =>
              go_wp2_with (go_at_call 99; fail)
              refine (works_c _).mono ?_; rintro e U9 ⟨rfl, g⟩; replace HW := Lib.hid (HW.out.trans (World.grows.trans (by (repeat (first | exact World.grows.refl _ | assumption | refine World.grows.alloc ?_ _ | refine World.grows.plus ?_ _ _ | refine World.grows.drew ?_))) g)); replace HB := Lib.hid (g.heap_of (World.grows.heap_of (by (repeat (first | exact World.grows.refl _ | assumption | refine World.grows.alloc ?_ _ | refine World.grows.plus ?_ _ _ | refine World.grows.drew ?_))) HB.out)); replace q0 := cell_of_heap (i := 0) HB.out rfl; replace q1 := cell_of_heap (i := 1) HB.out rfl; replace q2 := cell_of_heap (i := 2) HB.out rfl; clear g; go_wp2; (refine bodyPost_ret (v := .bool true) (by simp [results, Try.results10, go_sem]) rfl ?_); exact ⟨rfl, HW.out.trans (by (repeat (first | exact World.grows.refl _ | assumption | refine World.grows.alloc ?_ _ | refine World.grows.plus ?_ _ _ | refine World.grows.drew ?_)))⟩
        · have g5 : ¬ (m2 : Int) < 1000 := by have := mt k5.2 h5; omega
          have g8 : ((k : Int) == 0) = false := beq_eq_false_iff_ne.2 (by omega)
          have g9 : ¬ (k : Int) = 0 := by omega
          by_cases h4 : K1 = 0
          · have g4 : (m1 : Int) < 1000 := by have := k4.1 h4; omega
            subst h4
            try simp only [show ((0 : Nat) : Int) = (0 : Int) from rfl]
            clear k4 k5
            as_aux_lemma =>
              go_wp2_with (go_at_call 99; fail)
              refine (works_c _).mono ?_; rintro e U9 ⟨rfl, g⟩; replace HW := Lib.hid (HW.out.trans (World.grows.trans (by (repeat (first | exact World.grows.refl _ | assumption | refine World.grows.alloc ?_ _ | refine World.grows.plus ?_ _ _ | refine World.grows.drew ?_))) g)); replace HB := Lib.hid (g.heap_of (World.grows.heap_of (by (repeat (first | exact World.grows.refl _ | assumption | refine World.grows.alloc ?_ _ | refine World.grows.plus ?_ _ _ | refine World.grows.drew ?_))) HB.out)); replace q0 := cell_of_heap (i := 0) HB.out rfl; replace q1 := cell_of_heap (i := 1) HB.out rfl; replace q2 := cell_of_heap (i := 2) HB.out rfl; clear g; go_wp2; (refine bodyPost_ret (v := .bool true) (by simp [results, Try.results10, go_sem]) rfl ?_); exact ⟨rfl, HW.out.trans (by (repeat (first | exact World.grows.refl _ | assumption | refine World.grows.alloc ?_ _ | refine World.grows.plus ?_ _ _ | refine World.grows.drew ?_)))⟩
          · have g4 : ¬ (m1 : Int) < 1000 := by have := mt k4.2 h4; omega
            have g6 : ((K1 : Int) == 0) = false := beq_eq_false_iff_ne.2 (by omega)
            have g7 : ¬ (K1 : Int) = 0 := by omega
            clear k4 k5
            as_aux_lemma =>
              go_wp2_with (go_at_call 99; fail)
              refine (works_c _).mono ?_; rintro e U9 ⟨rfl, g⟩; replace HW := Lib.hid (HW.out.trans (World.grows.trans (by (repeat (first | exact World.grows.refl _ | assumption | refine World.grows.alloc ?_ _ | refine World.grows.plus ?_ _ _ | refine World.grows.drew ?_))) g)); replace HB := Lib.hid (g.heap_of (World.grows.heap_of (by (repeat (first | exact World.grows.refl _ | assumption | refine World.grows.alloc ?_ _ | refine World.grows.plus ?_ _ _ | refine World.grows.drew ?_))) HB.out)); replace q0 := cell_of_heap (i := 0) HB.out rfl; replace q1 := cell_of_heap (i := 1) HB.out rfl; replace q2 := cell_of_heap (i := 2) HB.out rfl; clear g; go_wp2; (refine bodyPost_ret (v := .bool true) (by simp [results, Try.results10, go_sem]) rfl ?_); exact ⟨rfl, HW.out.trans (by (repeat (first | exact World.grows.refl _ | assumption | refine World.grows.alloc ?_ _ | refine World.grows.plus ?_ _ _ | refine World.grows.drew ?_)))⟩
end Go.Proofs.Ytaanbdjmibjcbaa

/-
  What is proved: the statement RoundFast, at every input.
-/
namespace Go.Proofs.Ytaanbdjmibjcbaa
open Go.ChangeShapes Go.WideShapes Go.ChangeAt Go.RowKit

set_option maxRecDepth 100000 in
theorem roundFast_lifted (os : Os) (started : os.Started) (H : Type) (enc : TypeId × Value → H) :
    ReturnsInHanded {} Try.checked os 10 .any (Rows.roundFastSpec.pre6 enc Try.prog Try.f10 Rows.roundFastRow.domain false) (Rows.roundFastSpec.post enc Try.prog Try.f10 false true false false) := by
  refine law_lifted (C := Try.checked) (tb := 4) started own_c laid_c (by kernel_rfl) Try.func10 (of_decide_eq_true (by kernel_rfl))
    (ChangeSpec.witness6 (enc := enc) (C := Try.checked) false ⟨#[], #[.agg #[.int .i64 0, .slice none 0 0, .slice none 0 0], .slice none 0 0, .agg #[.int .u8 0, .int .u8 0]], []⟩ 8 (by kernel_rfl) (by kernel_rfl) (by kernel_rfl) (by kernel_rfl))
    rfl Try.underlying4 rfl (fun ds hl => ?_) (fun W base args ds ps hval hA => ?_)
  · match ds, hl with
    | [d1, d2, d3], _ => exact ⟨rfl, rfl, rfl⟩
  · have hA' : DataW.TrodAll enc Try.prog W 0 (fun _ => true) true Try.f10.params.toList args.toList ds ps := hA
    have hval' : ∀ (j : Nat) t v, Try.f10.params[j]? = some t → args[j]? = some v → Value.okWide Try.prog W .any base t v := hval
    rw [Try.params10] at hA' hval'
    obtain ⟨v1, v2, v3, d1, d2, d3, p1, p2, p3, rfl, rfl, rfl, h1, h2, h3⟩ := trodAll_three hA'
    obtain ⟨t1, ht1⟩ := town_of (hval' 0 25 v1 rfl rfl) h1
    obtain ⟨P2, hP2⟩ := plan_of (hval' 1 39 v2 rfl rfl) h2
    obtain ⟨a3, b3, rfl, k3⟩ := two_of (hval' 2 54 v3 rfl rfl) h3
    exact fast_w W v1 t1 ht1 v2 P2 hP2 a3 b3 k3

theorem roundFast_holds : Rows.RoundFastSaid :=
  OpenClaim.holds_of_wide 10 Try.f10 rfl rfl rfl rfl rfl rfl rfl ⟨rfl, rfl, rfl, rfl, rfl⟩ rfl rfl rfl rfl rfl (by kernel_rfl) Try.func10 (by kernel_rfl)
    (of_decide_eq_true (by kernel_rfl)) (by unfold Func.isWrapper; first | (rw [if_pos (by decide +kernel)]; kernel_rfl) | (rw [if_neg (by decide +kernel)]; exact ⟨rfl, rfl⟩))
    (fun os started H enc _ => roundFast_lifted os started H enc)
end Go.Proofs.Ytaanbdjmibjcbaa

