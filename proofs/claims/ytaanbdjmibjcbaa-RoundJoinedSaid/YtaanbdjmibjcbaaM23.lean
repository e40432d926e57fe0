/-
  What is proved: RoundJoined (12) answers true.
-/
import Derived.Test.YtaanbdjmibjcbaaM22
import Derived.Deep.CutRange
import Derived.Test.YtaanbdjmibjcbaaM15
set_option linter.all false
namespace Go.Proofs.Ytaanbdjmibjcbaa
open Go.RowKit
attribute [local irreducible] Go.wpCalm rowI
set_option maxRecDepth 100000 in
set_option maxHeartbeats 8000000 in
theorem joined_w (w : World) (tv : Value) (t : Town) (ht : TownAt w tv t) (x0 x1 : Nat) (hx : x0 ≤ 255 ∧ x1 ≤ 255) (pv : Value) (P : List (List Int)) (hp : PlanAt w pv P) (lv : Value) (n : Nat) (f : Nat → Int) (hl : IntsAt w lv n f) (slow : Bool) : Calls Try.prog 12 #[tv, .agg #[.int .u8 (x0 : Nat), .int .u8 (x1 : Nat)], pv, lv, .bool slow] w fun e w' => e = .returned (.bool true) ∧ w.grows w' := by
  have HT := Lib.hid ht
  obtain ⟨sv, vv, rfl, ⟨sa, sc, rfl, -⟩, ⟨va, vc, rfl, -⟩⟩ := ht
  obtain ⟨P0, hP⟩ : ∃ P, t.pl = P := ⟨_, rfl⟩
  obtain ⟨N1, hN1⟩ : ∃ N, t.ns = N := ⟨_, rfl⟩
  obtain ⟨N2, hN2⟩ : ∃ N, t.nv = N := ⟨_, rfl⟩
  have HP0 := Lib.hid hP
  have HN1 := Lib.hid hN1
  have HN2 := Lib.hid hN2
  rw [hP, hN1, hN2] at HT ⊢
  clear hP hN1 hN2
  have HPl := Lib.hid hp
  obtain ⟨pa, pc, rfl⟩ := plan_form hp
  obtain ⟨PL, hPL⟩ : ∃ x, P.length = x := ⟨_, rfl⟩
  have HPL := Lib.hid hPL
  rw [hPL] at HPl ⊢
  have HL := Lib.hid hl
  obtain ⟨la, lc, rfl, -⟩ := hl
  clear hp hPL
  go_enter Try.func12, Try.ntmps12
  have HB : Hid (((w.alloc (.cells #[.int .i64 P0, .slice sa N1 sc, .slice va N2 vc] 25)).alloc (.cells #[.int .u8 (x0 : Nat), .int .u8 (x1 : Nat)] 54)).heap[w.heap.size]? = some (.cells #[.int .i64 P0, .slice sa N1 sc, .slice va N2 vc] 25)) := Lib.hid (World.grows.heap_of (by (repeat (first | exact World.grows.refl _ | assumption | refine World.grows.alloc ?_ _ | refine World.grows.plus ?_ _ _ | refine World.grows.drew ?_))) (World.heap_at w _ _ rfl))
  have HB1 : Hid (((w.alloc (.cells #[.int .i64 P0, .slice sa N1 sc, .slice va N2 vc] 25)).alloc (.cells #[.int .u8 (x0 : Nat), .int .u8 (x1 : Nat)] 54)).heap[w.heap.size + 1]? = some (.cells #[.int .u8 (x0 : Nat), .int .u8 (x1 : Nat)] 54)) := Lib.hid (World.heap_at _ _ _ (by simp))
  have HW : Hid (w.grows ((w.alloc (.cells #[.int .i64 P0, .slice sa N1 sc, .slice va N2 vc] 25)).alloc (.cells #[.int .u8 (x0 : Nat), .int .u8 (x1 : Nat)] 54))) := Lib.hid (by (repeat (first | exact World.grows.refl _ | assumption | refine World.grows.alloc ?_ _ | refine World.grows.plus ?_ _ _ | refine World.grows.drew ?_)))
  have q0 := cell_of_heap (i := 0) HB.out rfl
  have q1 := cell_of_heap (i := 1) HB.out rfl
  have q2 := cell_of_heap (i := 2) HB.out rfl
  go_wp2_with (go_at_call 99; fail)
  refine (fine_c _ _ t (HT.out.mono (HW.out.trans (by (repeat (first | exact World.grows.refl _ | assumption | refine World.grows.alloc ?_ _ | refine World.grows.plus ?_ _ _ | refine World.grows.drew ?_)))))).mono ?_
  rintro e U ⟨rfl, g⟩
  replace HW := Lib.hid (HW.out.trans (World.grows.trans (by (repeat (first | exact World.grows.refl _ | assumption | refine World.grows.alloc ?_ _ | refine World.grows.plus ?_ _ _ | refine World.grows.drew ?_))) g)); replace HB := Lib.hid (g.heap_of (World.grows.heap_of (by (repeat (first | exact World.grows.refl _ | assumption | refine World.grows.alloc ?_ _ | refine World.grows.plus ?_ _ _ | refine World.grows.drew ?_))) HB.out)); replace q0 := cell_of_heap (i := 0) HB.out rfl; replace q1 := cell_of_heap (i := 1) HB.out rfl; replace q2 := cell_of_heap (i := 2) HB.out rfl; replace HB1 := Lib.hid (g.heap_of (World.grows.heap_of (by (repeat (first | exact World.grows.refl _ | assumption | refine World.grows.alloc ?_ _ | refine World.grows.plus ?_ _ _ | refine World.grows.drew ?_))) HB1.out)); clear g
  by_cases hfine : t.check = 0
  case neg =>
    rw [decide_eq_false hfine]
    go_wp2_with (go_at_call 99; fail); refine (works_c _).mono ?_; rintro e U9 ⟨rfl, g⟩; replace HW := Lib.hid (HW.out.trans (World.grows.trans (by (repeat (first | exact World.grows.refl _ | assumption | refine World.grows.alloc ?_ _ | refine World.grows.plus ?_ _ _ | refine World.grows.drew ?_))) g)); replace HB := Lib.hid (g.heap_of (World.grows.heap_of (by (repeat (first | exact World.grows.refl _ | assumption | refine World.grows.alloc ?_ _ | refine World.grows.plus ?_ _ _ | refine World.grows.drew ?_))) HB.out)); replace q0 := cell_of_heap (i := 0) HB.out rfl; replace q1 := cell_of_heap (i := 1) HB.out rfl; replace q2 := cell_of_heap (i := 2) HB.out rfl; replace HB1 := Lib.hid (g.heap_of (World.grows.heap_of (by (repeat (first | exact World.grows.refl _ | assumption | refine World.grows.alloc ?_ _ | refine World.grows.plus ?_ _ _ | refine World.grows.drew ?_))) HB1.out)); clear g; go_wp2; (refine bodyPost_ret (v := .bool true) (by simp [results, Try.results12, go_sem]) rfl ?_); exact ⟨rfl, HW.out.trans (by (repeat (first | exact World.grows.refl _ | assumption | refine World.grows.alloc ?_ _ | refine World.grows.plus ?_ _ _ | refine World.grows.drew ?_)))⟩
  rw [decide_eq_true hfine]
  by_cases hn1 : N2 < 2
  · have hn1I : (N2 : Int) < 2 := by omega
    go_wp2_with (go_at_call 99; fail); refine (works_c _).mono ?_; rintro e U9 ⟨rfl, g⟩; replace HW := Lib.hid (HW.out.trans (World.grows.trans (by (repeat (first | exact World.grows.refl _ | assumption | refine World.grows.alloc ?_ _ | refine World.grows.plus ?_ _ _ | refine World.grows.drew ?_))) g)); replace HB := Lib.hid (g.heap_of (World.grows.heap_of (by (repeat (first | exact World.grows.refl _ | assumption | refine World.grows.alloc ?_ _ | refine World.grows.plus ?_ _ _ | refine World.grows.drew ?_))) HB.out)); replace q0 := cell_of_heap (i := 0) HB.out rfl; replace q1 := cell_of_heap (i := 1) HB.out rfl; replace q2 := cell_of_heap (i := 2) HB.out rfl; replace HB1 := Lib.hid (g.heap_of (World.grows.heap_of (by (repeat (first | exact World.grows.refl _ | assumption | refine World.grows.alloc ?_ _ | refine World.grows.plus ?_ _ _ | refine World.grows.drew ?_))) HB1.out)); clear g; go_wp2; (refine bodyPost_ret (v := .bool true) (by simp [results, Try.results12, go_sem]) rfl ?_); exact ⟨rfl, HW.out.trans (by (repeat (first | exact World.grows.refl _ | assumption | refine World.grows.alloc ?_ _ | refine World.grows.plus ?_ _ _ | refine World.grows.drew ?_)))⟩
  have hn1I : ¬ (N2 : Int) < 2 := by omega
  go_wp2_with (go_at_call 99; fail)
  refine (long_c _ _ P (HPl.out.mono (HW.out.trans (by (repeat (first | exact World.grows.refl _ | assumption | refine World.grows.alloc ?_ _ | refine World.grows.plus ?_ _ _ | refine World.grows.drew ?_)))))).mono ?_
  rintro e U2 ⟨rfl, g⟩
  replace HW := Lib.hid (HW.out.trans (World.grows.trans (by (repeat (first | exact World.grows.refl _ | assumption | refine World.grows.alloc ?_ _ | refine World.grows.plus ?_ _ _ | refine World.grows.drew ?_))) g)); replace HB := Lib.hid (g.heap_of (World.grows.heap_of (by (repeat (first | exact World.grows.refl _ | assumption | refine World.grows.alloc ?_ _ | refine World.grows.plus ?_ _ _ | refine World.grows.drew ?_))) HB.out)); replace q0 := cell_of_heap (i := 0) HB.out rfl; replace q1 := cell_of_heap (i := 1) HB.out rfl; replace q2 := cell_of_heap (i := 2) HB.out rfl; replace HB1 := Lib.hid (g.heap_of (World.grows.heap_of (by (repeat (first | exact World.grows.refl _ | assumption | refine World.grows.alloc ?_ _ | refine World.grows.plus ?_ _ _ | refine World.grows.drew ?_))) HB1.out)); clear g
  cases hlg : longP P with
  | true =>
    go_wp2_with (go_at_call 99; fail); refine (works_c _).mono ?_; rintro e U9 ⟨rfl, g⟩; replace HW := Lib.hid (HW.out.trans (World.grows.trans (by (repeat (first | exact World.grows.refl _ | assumption | refine World.grows.alloc ?_ _ | refine World.grows.plus ?_ _ _ | refine World.grows.drew ?_))) g)); replace HB := Lib.hid (g.heap_of (World.grows.heap_of (by (repeat (first | exact World.grows.refl _ | assumption | refine World.grows.alloc ?_ _ | refine World.grows.plus ?_ _ _ | refine World.grows.drew ?_))) HB.out)); replace q0 := cell_of_heap (i := 0) HB.out rfl; replace q1 := cell_of_heap (i := 1) HB.out rfl; replace q2 := cell_of_heap (i := 2) HB.out rfl; replace HB1 := Lib.hid (g.heap_of (World.grows.heap_of (by (repeat (first | exact World.grows.refl _ | assumption | refine World.grows.alloc ?_ _ | refine World.grows.plus ?_ _ _ | refine World.grows.drew ?_))) HB1.out)); clear g; go_wp2; (refine bodyPost_ret (v := .bool true) (by simp [results, Try.results12, go_sem]) rfl ?_); exact ⟨rfl, HW.out.trans (by (repeat (first | exact World.grows.refl _ | assumption | refine World.grows.alloc ?_ _ | refine World.grows.plus ?_ _ _ | refine World.grows.drew ?_)))⟩
  | false =>
  by_cases hn : 30 < n
  · have hnI : (30 : Int) < (n : Int) := by omega
    go_wp2_with (go_at_call 99; fail); refine (works_c _).mono ?_; rintro e U9 ⟨rfl, g⟩; replace HW := Lib.hid (HW.out.trans (World.grows.trans (by (repeat (first | exact World.grows.refl _ | assumption | refine World.grows.alloc ?_ _ | refine World.grows.plus ?_ _ _ | refine World.grows.drew ?_))) g)); replace HB := Lib.hid (g.heap_of (World.grows.heap_of (by (repeat (first | exact World.grows.refl _ | assumption | refine World.grows.alloc ?_ _ | refine World.grows.plus ?_ _ _ | refine World.grows.drew ?_))) HB.out)); replace q0 := cell_of_heap (i := 0) HB.out rfl; replace q1 := cell_of_heap (i := 1) HB.out rfl; replace q2 := cell_of_heap (i := 2) HB.out rfl; replace HB1 := Lib.hid (g.heap_of (World.grows.heap_of (by (repeat (first | exact World.grows.refl _ | assumption | refine World.grows.alloc ?_ _ | refine World.grows.plus ?_ _ _ | refine World.grows.drew ?_))) HB1.out)); clear g; go_wp2; (refine bodyPost_ret (v := .bool true) (by simp [results, Try.results12, go_sem]) rfl ?_); exact ⟨rfl, HW.out.trans (by (repeat (first | exact World.grows.refl _ | assumption | refine World.grows.alloc ?_ _ | refine World.grows.plus ?_ _ _ | refine World.grows.drew ?_)))⟩
  have hnI : ¬ (30 : Int) < (n : Int) := by omega
  obtain ⟨hl1, hl2⟩ := long_no hlg
  go_wp2_with (go_at_call 99; fail)
  refine (needs_c _ (.agg #[.int .i64 P0, .slice sa N1 sc, .slice va N2 vc]) t slow (HT.out.mono (HW.out.trans (by (repeat (first | exact World.grows.refl _ | assumption | refine World.grows.alloc ?_ _ | refine World.grows.plus ?_ _ _ | refine World.grows.drew ?_)))))).mono ?_
  rintro e U3 ⟨rfl, g⟩
  replace HW := Lib.hid (HW.out.trans (World.grows.trans (by (repeat (first | exact World.grows.refl _ | assumption | refine World.grows.alloc ?_ _ | refine World.grows.plus ?_ _ _ | refine World.grows.drew ?_))) g)); replace HB := Lib.hid (g.heap_of (World.grows.heap_of (by (repeat (first | exact World.grows.refl _ | assumption | refine World.grows.alloc ?_ _ | refine World.grows.plus ?_ _ _ | refine World.grows.drew ?_))) HB.out)); replace q0 := cell_of_heap (i := 0) HB.out rfl; replace q1 := cell_of_heap (i := 1) HB.out rfl; replace q2 := cell_of_heap (i := 2) HB.out rfl; replace HB1 := Lib.hid (g.heap_of (World.grows.heap_of (by (repeat (first | exact World.grows.refl _ | assumption | refine World.grows.alloc ?_ _ | refine World.grows.plus ?_ _ _ | refine World.grows.drew ?_))) HB1.out)); clear g
  by_cases hC0 : needE t slow = 0
  case neg =>
    obtain ⟨C, hC⟩ : ∃ x, needE t slow = x := ⟨_, rfl⟩
    rw [hC] at hC0 ⊢
    have hCI : ¬ (C : Int) = 0 := by omega
    have hCb : ((C : Int) == 0) = false := beq_eq_false_iff_ne.2 hCI
    have hCb2 : ((C : Int) != 0) = true := by rw [bne, hCb]; rfl
    clear hC
    go_wp2_with (go_at_call 99; fail); refine (works_c _).mono ?_; rintro e U9 ⟨rfl, g⟩; replace HW := Lib.hid (HW.out.trans (World.grows.trans (by (repeat (first | exact World.grows.refl _ | assumption | refine World.grows.alloc ?_ _ | refine World.grows.plus ?_ _ _ | refine World.grows.drew ?_))) g)); replace HB := Lib.hid (g.heap_of (World.grows.heap_of (by (repeat (first | exact World.grows.refl _ | assumption | refine World.grows.alloc ?_ _ | refine World.grows.plus ?_ _ _ | refine World.grows.drew ?_))) HB.out)); replace q0 := cell_of_heap (i := 0) HB.out rfl; replace q1 := cell_of_heap (i := 1) HB.out rfl; replace q2 := cell_of_heap (i := 2) HB.out rfl; replace HB1 := Lib.hid (g.heap_of (World.grows.heap_of (by (repeat (first | exact World.grows.refl _ | assumption | refine World.grows.alloc ?_ _ | refine World.grows.plus ?_ _ _ | refine World.grows.drew ?_))) HB1.out)); clear g; go_wp2; (refine bodyPost_ret (v := .bool true) (by simp [results, Try.results12, go_sem]) rfl ?_); exact ⟨rfl, HW.out.trans (by (repeat (first | exact World.grows.refl _ | assumption | refine World.grows.alloc ?_ _ | refine World.grows.plus ?_ _ _ | refine World.grows.drew ?_)))⟩
  rw [hC0]
  have HC := Lib.hid hC0
  have HFine := Lib.hid hfine
  have hok := t.ok_iff.1 hfine
  have h16 : N2 ≤ 16 := by rw [← HN2.out]; exact hok.v16
  obtain ⟨a, ha⟩ : ∃ x : Nat, x0 % N2 = x := ⟨_, rfl⟩
  have han : a < N2 := by rw [← ha]; exact Nat.mod_lt _ (by omega)
  obtain ⟨M, hM⟩ : ∃ x : Nat, N2 - 1 = x := ⟨_, rfl⟩
  obtain ⟨q, hq⟩ : ∃ x : Nat, x1 % M = x := ⟨_, rfl⟩
  have hqn : q < M := by rw [← hq]; exact Nat.mod_lt _ (by omega)
  obtain ⟨A1, hA1⟩ : ∃ x : Nat, a + 1 = x := ⟨_, rfl⟩
  obtain ⟨A2, hA2⟩ : ∃ x : Nat, A1 + q = x := ⟨_, rfl⟩
  obtain ⟨b, hb⟩ : ∃ x : Nat, A2 % N2 = x := ⟨_, rfl⟩
  have hbn : b < N2 := by rw [← hb]; exact Nat.mod_lt _ (by omega)
  have hab : a ≠ b := fun e => by
    rw [← hb] at e
    rcases Nat.lt_or_ge A2 N2 with h | h
    · rw [Nat.mod_eq_of_lt h] at e; omega
    · rw [Nat.mod_eq_sub_mod h, Nat.mod_eq_of_lt (by omega)] at e; omega
  have e1 := tmod_at ha
  have e2 := tmod_at hq
  have e3 := tmod_at hb
  have w1 : IntKind.i64.wrap (x0 : Int) = x0 := wrapI rfl (by omega)
  have w2 : IntKind.i64.wrap (x1 : Int) = x1 := wrapI rfl (by omega)
  have w5 : IntKind.i64.wrap ((a : Int) + 1) = (A1 : Int) := wrapI (by omega) (by omega)
  have w6 : IntKind.i64.wrap ((N2 : Int) - 1) = (M : Int) := wrapI (by omega) (by omega)
  have w7 : IntKind.i64.wrap ((A1 : Int) + q) = (A2 : Int) := wrapI (by omega) (by omega)
  have k1 : ¬ (N2 : Int) = 0 := by omega
  have k3 : ¬ N2 = 0 := by omega
  have k4 : ¬ (M : Int) = 0 := by omega
  have k5 : ¬ M = 0 := by omega
  have r0 := cell_of_heap (i := 0) HB1.out rfl
  have r1 := cell_of_heap (i := 1) HB1.out rfl
  have HAB := Lib.hid (And.intro hab (And.intro han hbn))
  clear ha hq hb hA1 hA2 hM hqn hfine hok hC0 hlg han hbn hab
  go_upto_region 4 with fail
  (refine wp_region_calm (by kernel_rfl) (by kernel_rfl) ?_; (repeat (refine wpCalm_step (fun K hK => ?_); go_simp; first | (refine hK _ ?_; clear hK K) | (apply Exists.intro; refine ⟨fun n' x' => ?_, hK _ ?_⟩; (fail); clear hK K))); refine wpCalm_nil ?_; intro nq xq)
  have g := World.grows_plus U3 nq xq
  replace HW := Lib.hid (HW.out.trans g)
  replace HB := Lib.hid (g.heap_of HB.out)
  clear g q0 q1 q2 r0 r1 e1 e2 e3 w1 w2 w5 w6 w7 k1 k3 k4 k5 hn1I hnI HB1
  generalize U3.plus nq xq = U1 at HW HB ⊢
  have q0 := cell_of_heap (i := 0) HB.out rfl
  have q1 := cell_of_heap (i := 1) HB.out rfl
  have q2 := cell_of_heap (i := 2) HB.out rfl
  obtain ⟨kz1, kz2⟩ := kindX_nat HC.out (show a < t.nv by rw [HN2.out]; exact HAB.out.2.1) (show b < t.nv by rw [HN2.out]; exact HAB.out.2.2) HAB.out.1
  have kz3 := kindA_le (aft t slow) t.nv a b
  obtain ⟨K, hK⟩ : ∃ x, kindA (aft t slow) t.nv a b = x := ⟨_, rfl⟩
  have HK := Lib.hid hK
  have h30 := fun W ht => bestL_c W (.agg #[.int .i64 P0, .slice sa N1 sc, .slice va N2 vc]) t slow ht
  have h37 := fun W ht => kind_c W (.agg #[.int .i64 P0, .slice sa N1 sc, .slice va N2 vc]) t slow ht a b
  have h39 := fun W ht => costsL_c W (.agg #[.int .i64 P0, .slice sa N1 sc, .slice va N2 vc]) t slow ht
  have h34 := fun W ht => apartL_c W (.agg #[.int .i64 P0, .slice sa N1 sc, .slice va N2 vc]) t slow ht
  rw [kz1, kz2, hK] at h37
  rw [HC.out] at h30 h34 h39
  rw [hK] at kz3
  clear kz1 kz2 hK
  go_wp2_with (go_at_call 99; fail)
  refine (h30 _ (HT.out.mono (HW.out.trans (by (repeat (first | exact World.grows.refl _ | assumption | refine World.grows.alloc ?_ _ | refine World.grows.plus ?_ _ _ | refine World.grows.drew ?_)))))).mono ?_
  rintro e V1 ⟨a1, c1, Q, rfl, g, hQ⟩
  have HQ := Lib.hid hQ
  replace HW := Lib.hid (HW.out.trans (World.grows.trans (by (repeat (first | exact World.grows.refl _ | assumption | refine World.grows.alloc ?_ _ | refine World.grows.plus ?_ _ _ | refine World.grows.drew ?_))) g)); replace HB := Lib.hid (g.heap_of (World.grows.heap_of (by (repeat (first | exact World.grows.refl _ | assumption | refine World.grows.alloc ?_ _ | refine World.grows.plus ?_ _ _ | refine World.grows.drew ?_))) HB.out)); replace q0 := cell_of_heap (i := 0) HB.out rfl; replace q1 := cell_of_heap (i := 1) HB.out rfl; replace q2 := cell_of_heap (i := 2) HB.out rfl; clear g
  clear hQ h30
  go_wp2_with (go_at_call 99; fail)
  refine (h37 _ (HT.out.mono (HW.out.trans (by (repeat (first | exact World.grows.refl _ | assumption | refine World.grows.alloc ?_ _ | refine World.grows.plus ?_ _ _ | refine World.grows.drew ?_)))))).mono ?_
  rintro e V2 ⟨rfl, g⟩
  replace HQ := Lib.hid (HQ.out.mono (World.grows.trans (by (repeat (first | exact World.grows.refl _ | assumption | refine World.grows.alloc ?_ _ | refine World.grows.plus ?_ _ _ | refine World.grows.drew ?_))) g))
  replace HW := Lib.hid (HW.out.trans (World.grows.trans (by (repeat (first | exact World.grows.refl _ | assumption | refine World.grows.alloc ?_ _ | refine World.grows.plus ?_ _ _ | refine World.grows.drew ?_))) g)); replace HB := Lib.hid (g.heap_of (World.grows.heap_of (by (repeat (first | exact World.grows.refl _ | assumption | refine World.grows.alloc ?_ _ | refine World.grows.plus ?_ _ _ | refine World.grows.drew ?_))) HB.out)); replace q0 := cell_of_heap (i := 0) HB.out rfl; replace q1 := cell_of_heap (i := 1) HB.out rfl; replace q2 := cell_of_heap (i := 2) HB.out rfl; clear g
  clear h37
  go_wp2_with (go_at_call 99; fail)
  refine (h39 _ (HT.out.mono (HW.out.trans (by (repeat (first | exact World.grows.refl _ | assumption | refine World.grows.alloc ?_ _ | refine World.grows.plus ?_ _ _ | refine World.grows.drew ?_)))))).mono ?_
  rintro e V3 ⟨ya, yc, rfl, g, hCo⟩
  have HCo := Lib.hid hCo
  replace HQ := Lib.hid (HQ.out.mono (World.grows.trans (by (repeat (first | exact World.grows.refl _ | assumption | refine World.grows.alloc ?_ _ | refine World.grows.plus ?_ _ _ | refine World.grows.drew ?_))) g))
  replace HW := Lib.hid (HW.out.trans (World.grows.trans (by (repeat (first | exact World.grows.refl _ | assumption | refine World.grows.alloc ?_ _ | refine World.grows.plus ?_ _ _ | refine World.grows.drew ?_))) g)); replace HB := Lib.hid (g.heap_of (World.grows.heap_of (by (repeat (first | exact World.grows.refl _ | assumption | refine World.grows.alloc ?_ _ | refine World.grows.plus ?_ _ _ | refine World.grows.drew ?_))) HB.out)); replace q0 := cell_of_heap (i := 0) HB.out rfl; replace q1 := cell_of_heap (i := 1) HB.out rfl; replace q2 := cell_of_heap (i := 2) HB.out rfl; clear g
  clear hCo h39
  go_wp2_with (go_at_call 99; fail)
  refine (h34 _ (HT.out.mono (HW.out.trans (by (repeat (first | exact World.grows.refl _ | assumption | refine World.grows.alloc ?_ _ | refine World.grows.plus ?_ _ _ | refine World.grows.drew ?_)))))).mono ?_
  rintro e V4 ⟨a2, c2, L, rfl, g, hL⟩
  have HA := Lib.hid hL
  replace HQ := Lib.hid (HQ.out.mono (World.grows.trans (by (repeat (first | exact World.grows.refl _ | assumption | refine World.grows.alloc ?_ _ | refine World.grows.plus ?_ _ _ | refine World.grows.drew ?_))) g))
  replace HCo := Lib.hid (HCo.out.mono (World.grows.trans (by (repeat (first | exact World.grows.refl _ | assumption | refine World.grows.alloc ?_ _ | refine World.grows.plus ?_ _ _ | refine World.grows.drew ?_))) g))
  replace HW := Lib.hid (HW.out.trans (World.grows.trans (by (repeat (first | exact World.grows.refl _ | assumption | refine World.grows.alloc ?_ _ | refine World.grows.plus ?_ _ _ | refine World.grows.drew ?_))) g)); replace HB := Lib.hid (g.heap_of (World.grows.heap_of (by (repeat (first | exact World.grows.refl _ | assumption | refine World.grows.alloc ?_ _ | refine World.grows.plus ?_ _ _ | refine World.grows.drew ?_))) HB.out)); replace q0 := cell_of_heap (i := 0) HB.out rfl; replace q1 := cell_of_heap (i := 1) HB.out rfl; replace q2 := cell_of_heap (i := 2) HB.out rfl; clear g
  clear hL h34
  have HBp := Lib.hid (HQ.out.best HC.out)
  have HAp := Lib.hid (HA.out.best HC.out)
  have hQF := HBp.out.size
  have hLF := HAp.out.size
  have hfe : few t slow ≤ 16 := by have h1 := few_nv t slow; have := (need_ok HC.out).v16; omega
  obtain ⟨F, hF⟩ : ∃ x, few t slow = x := ⟨_, rfl⟩
  have HF := Lib.hid hF
  obtain ⟨CL, hCL⟩ : ∃ x, (costL t slow).length = x := ⟨_, rfl⟩
  have hCL16 : CL ≤ 16 := by rw [← hCL]; unfold costL; rw [if_pos HC.out]; exact Nat.le_trans (filtL_len _ _) (need_ok HC.out).v16
  obtain ⟨CLs, hCLs⟩ : ∃ x, costL t slow = x := ⟨_, rfl⟩
  have HCA : Hid (IntsAt V4 (.slice ya CL yc) CL (fun m => ((CLs.getD m 0 : Nat) : Int))) := Lib.hid (by have h := HCo.out; unfold ListAt at h; rw [hCL, hCLs] at h; exact h)
  have HLA : Hid (IntsAt V4 (.slice a2 F c2) F (fun m => ((L.getD m 0 : Nat) : Int))) := Lib.hid (by have h := HA.out.at_; unfold ListAt at h; rw [hLF, hF] at h; exact h)
  have HQA : Hid (PlanAt V4 (.slice a1 F c1) (pI Q)) := Lib.hid (by have h := HQ.out.at_; rw [hQF, hF] at h; exact h)
  have HIN0 : Hid (∀ m, m < CL → ((List.range F).any fun i => decide (((L.getD i 0 : Nat) : Int) = ((CLs.getD m 0 : Nat) : Int))) = true) := Lib.hid fun m hm => by
    have h := costs_list (apE_zero HAp.out.chk) hLF HC.out (m := m) (by rw [hCL]; exact hm)
    rw [hCLs, hLF, hF] at h
    exact h
  have HIN1 : Hid (apE t slow n f = 0 → n = F → ∀ m, m < CL → ((List.range n).any fun i => decide (f i = ((CLs.getD m 0 : Nat) : Int))) = true) := Lib.hid fun h1 h2 m hm => by
    have h := costs_list (apE_zero h1) (by rw [hF]; exact h2) HC.out (m := m) (by rw [hCL]; exact hm)
    rw [hCLs] at h
    exact h
  have HJ0 := Lib.hid (joins_kind HBp.out.right hQF a b)
  have HJ1 : Hid (planX t slow P = 0 → planN t slow P = F → (K = 2 → joinsB P a b = true) ∧ (K = 0 → joinsB P a b = false)) := Lib.hid fun h1 h2 => by
    rw [planN_zero h1] at h2
    have := joins_plan h1 (by rw [hF]; exact h2) a b
    rw [HK.out] at this
    exact this
  rw [HK.out] at HJ0
  have h29 := fun W ht hp => rplan_c W (.agg #[.int .i64 P0, .slice sa N1 sc, .slice va N2 vc]) (.slice a1 F c1) t slow ht (pI Q) hp (Nat.le_trans HBp.out.right.len (by have := (need_ok HC.out).v16; omega)) (by rw [pI_len, HBp.out.size]; omega)
  rw [HBp.out.planX HC.out, HBp.out.planN HC.out, hF] at h29
  have h29p := fun W ht hp => rplan_c W (.agg #[.int .i64 P0, .slice sa N1 sc, .slice va N2 vc]) (.slice pa PL pc) t slow ht P hp (by omega) (by omega)
  have h45q := fun W hp => joins_c W (.slice a1 F c1) (pI Q) a b hp HBp.out.ne
  have h45p : planX t slow P = 0 → ∀ W, PlanAt W (.slice pa PL pc) P → _ := fun h1 W hp => joins_c W (.slice pa PL pc) P a b hp (fun i hi => by
    have h2 := (planX_zero h1).2.2.ne ((P.getD i []).map Int.toNat) (List.mem_map_of_mem (getD_mem hi))
    exact List.length_pos_iff.2 fun e => h2 (by rw [e]; rfl))
  have h36 : ∀ W, TownAt W (.agg #[.int .i64 P0, .slice sa N1 sc, .slice va N2 vc]) t → IntsAt W (.slice a2 F c2) F (fun m => ((L.getD m 0 : Nat) : Int)) → Calls Try.prog 36 #[(.agg #[.int .i64 P0, .slice sa N1 sc, .slice va N2 vc]), .slice a2 F c2, .bool slow] W fun e w' => e = .returned (.int .i64 0) ∧ W.grows w' := fun W ht hl => by
    have := rapart_c W _ _ t slow ht F _ hl (by omega)
    have h9 := HAp.out.chk
    rw [hLF, hF] at h9
    rw [h9] at this
    exact this
  have h36l := fun W ht hl => rapart_c W (.agg #[.int .i64 P0, .slice sa N1 sc, .slice va N2 vc]) (.slice la n lc) t slow ht n f hl (by omega)
  have H29 := Lib.hid h29
  have H29p := Lib.hid h29p
  have H45q := Lib.hid h45q
  have H45p := Lib.hid h45p
  have H36 := Lib.hid h36
  have H36l := Lib.hid h36l
  obtain ⟨pn, hpn⟩ : ∃ x, planN t slow P = x := ⟨_, rfl⟩
  obtain ⟨px, hpx⟩ : ∃ x, planX t slow P = x := ⟨_, rfl⟩
  obtain ⟨pe, hpe⟩ : ∃ x, apE t slow n f = x := ⟨_, rfl⟩
  rw [hpn, hpx] at H29p HJ1
  rw [hpx] at H45p
  rw [hpe] at H36l HIN1
  rw [hQF, hLF, hF, hCL]
  have kz4 : ¬ (K : Int) < 0 := by omega
  have kz5 : ¬ (2 : Int) < (K : Int) := by omega
  clear h29 h29p h45q h45p h36 h36l hpn hpx hpe hQF hLF hF hCL hCLs HCo HQ HA HBp HAp hl1 hl2 hn hfe HPL
  go_upto_region 11 with fail
  clear kz4 kz5
  go_wp2
  obtain ⟨pb, hpb⟩ : ∃ pb, V4.heap.size = pb := ⟨_, rfl⟩
  have HPB : Hid ((V4.alloc (.cells #[.slice a1 F c1, .slice pa PL pc] 39)).heap[pb]? = some (.cells #[.slice a1 F c1, .slice pa PL pc] 39)) := Lib.hid (World.heap_at _ _ _ hpb.symm)
  have gP : V4.grows (V4.alloc (.cells #[.slice a1 F c1, .slice pa PL pc] 39)) := by (repeat (first | exact World.grows.refl _ | assumption | refine World.grows.alloc ?_ _ | refine World.grows.plus ?_ _ _ | refine World.grows.drew ?_))
  rw [hpb]
  generalize V4.alloc (.cells #[.slice a1 F c1, .slice pa PL pc] 39) = V5 at HPB gP ⊢
  replace HW := Lib.hid (HW.out.trans gP)
  replace HB := Lib.hid (gP.heap_of HB.out)
  replace HCA := Lib.hid (IntsAt.mono HCA.out gP)
  replace HLA := Lib.hid (IntsAt.mono HLA.out gP)
  replace HQA := Lib.hid (HQA.out.mono gP)
  clear gP hpb q0 q1 q2
  go_loopw [22] (fun i wr => ∃ k : Nat, k ≤ 2 ∧ i = .int .i64 k ∧ Hid (V5.grows wr)) (fun i _ => 2 - (intOf i).toNat)
  case atStart => exact ⟨0, by omega, rfl, Lib.hid (World.grows.refl _)⟩
  case round =>
    obtain ⟨k, hk, rfl, hg⟩ := hrel
    have q0 := hg.out.cell_of (cell_of_heap (i := 0) HB.out rfl)
    have q1 := hg.out.cell_of (cell_of_heap (i := 1) HB.out rfl)
    have q2 := hg.out.cell_of (cell_of_heap (i := 2) HB.out rfl)
    rcases (show k = 0 ∨ k = 1 ∨ k = 2 by omega) with rfl | rfl | rfl
    · simp only [show ((0 : Nat) : Int) = (0 : Int) from rfl]
      have r1 : wr.cell? ⟨pb, 0, none⟩ = some (.slice a1 F c1) := hg.out.cell_of (cell_of_heap HPB.out rfl)
      have h29 := fun n x => H29.out (wr.plus n x) (HT.out.mono (HW.out.trans (hg.out.trans (World.grows_plus _ _ _)))) (HQA.out.mono (hg.out.trans (World.grows_plus _ _ _)))
      go_upto_region 15 with fail
      (refine wp_region_calm (by kernel_rfl) (by kernel_rfl) ?_; (repeat (refine wpCalm_step (fun K hK => ?_); go_simp; first | (refine hK _ ?_; clear hK K) | (apply Exists.intro; refine ⟨fun n' x' => ?_, hK _ ?_⟩; (exact h29 _ _); clear hK K))); refine wpCalm_nil ?_; intro nq xq)
      replace hg := Lib.hid (hg.out.trans (World.grows_plus wr nq xq))
      replace r1 := (World.grows_plus wr nq xq).cell_of r1
      clear h29 q0 q1 q2
      generalize wr.plus nq xq = V6 at hg r1 ⊢
      have h45 := fun W (g : V6.grows W) => H45q.out W (HQA.out.mono (hg.out.trans g))
      by_cases hk2 : K = 2
      · have hj := HJ0.out.1 hk2
        rw [hj] at h45
        have hkd : decide ((K : Int) = 2) = true := decide_eq_true (by omega)
        have hkb : ((K : Int) == 2) = true := by rw [hk2]; rfl
        have hkd0 : decide ((K : Int) = 0) = false := decide_eq_false (by omega)
        have hkb0 : ((K : Int) == 0) = false := by rw [hk2]; rfl
        clear hj hk2
        go_wp2_with (go_at_call 99; fail)
        refine (h45 _ (World.grows.refl _)).mono ?_
        rintro e V9 ⟨rfl, g⟩
        have hg9 := Lib.hid (hg.out.trans g)
        clear h45 g
        as_aux_lemma =>
          go_wp2
          exact ⟨⟨0 + 1, by omega, by go_num, hg9⟩, by simp [intOf]⟩
      · by_cases hk0 : K = 0
        · have hj := HJ0.out.2 hk0
          rw [hj] at h45
          have hkd : decide ((K : Int) = 2) = false := decide_eq_false (by omega)
          have hkb : ((K : Int) == 2) = false := by rw [hk0]; rfl
          have hkd0 : decide ((K : Int) = 0) = true := decide_eq_true (by omega)
          have hkb0 : ((K : Int) == 0) = true := by rw [hk0]; rfl
          clear hj hk0 hk2
          go_wp2_with (go_at_call 99; fail)
          refine (h45 _ (World.grows.refl _)).mono ?_
          rintro e V9 ⟨rfl, g⟩
          have hg9 := Lib.hid (hg.out.trans g)
          clear h45 g
          as_aux_lemma =>
            go_wp2
            exact ⟨⟨0 + 1, by omega, by go_num, hg9⟩, by simp [intOf]⟩
        · have hk2I : ¬ (K : Int) = 2 := by omega
          have hk0I : ¬ (K : Int) = 0 := by omega
          clear h45
          as_aux_lemma =>
            go_wp2
            exact ⟨⟨0 + 1, by omega, by go_num, hg⟩, by simp [intOf]⟩
    · simp only [show ((1 : Nat) : Int) = (1 : Int) from rfl]
      have r1 : wr.cell? ⟨pb, 1, none⟩ = some (.slice pa PL pc) := hg.out.cell_of (cell_of_heap HPB.out rfl)
      have h29 := fun n x => H29p.out (wr.plus n x) (HT.out.mono (HW.out.trans (hg.out.trans (World.grows_plus _ _ _)))) (HPl.out.mono (HW.out.trans (hg.out.trans (World.grows_plus _ _ _))))
      go_upto_region 15 with fail
      (refine wp_region_calm (by kernel_rfl) (by kernel_rfl) ?_; (repeat (refine wpCalm_step (fun K hK => ?_); go_simp; first | (refine hK _ ?_; clear hK K) | (apply Exists.intro; refine ⟨fun n' x' => ?_, hK _ ?_⟩; (exact h29 _ _); clear hK K))); refine wpCalm_nil ?_; intro nq xq)
      replace hg := Lib.hid (hg.out.trans (World.grows_plus wr nq xq))
      replace r1 := (World.grows_plus wr nq xq).cell_of r1
      clear h29 q0 q1 q2
      generalize wr.plus nq xq = V6 at hg r1 ⊢
      by_cases hpx0 : px = 0
      case neg =>
        have hpI : ¬ (px : Int) = 0 := by omega
        have hpb1 : ((px : Int) == 0) = false := beq_eq_false_iff_ne.2 hpI
        have hpb2 : ((px : Int) != 0) = true := by rw [bne, hpb1]; rfl
        go_wp2
        exact ⟨⟨2, by omega, by go_num, hg⟩, by simp [intOf]⟩
      by_cases hpnF : pn = F
      case neg =>
        have hpI : ¬ (pn : Int) = F := by omega
        have hpb1 : ((pn : Int) == (F : Int)) = false := beq_eq_false_iff_ne.2 hpI
        have hpb2 : ((pn : Int) != (F : Int)) = true := by rw [bne, hpb1]; rfl
        subst hpx0
        go_wp2
        exact ⟨⟨2, by omega, by go_num, hg⟩, by simp [intOf]⟩
      have h45 := fun W (g : V6.grows W) => H45p.out hpx0 W (HPl.out.mono (HW.out.trans (hg.out.trans g)))
      have HJ := Lib.hid (HJ1.out hpx0 hpnF)
      subst hpx0 hpnF
      by_cases hk2 : K = 2
      · have hj := HJ.out.1 hk2
        rw [hj] at h45
        have hkd : decide ((K : Int) = 2) = true := decide_eq_true (by omega)
        have hkb : ((K : Int) == 2) = true := by rw [hk2]; rfl
        have hkd0 : decide ((K : Int) = 0) = false := decide_eq_false (by omega)
        have hkb0 : ((K : Int) == 0) = false := by rw [hk2]; rfl
        clear hj hk2
        go_wp2_with (go_at_call 99; fail)
        refine (h45 _ (World.grows.refl _)).mono ?_
        rintro e V9 ⟨rfl, g⟩
        have hg9 := Lib.hid (hg.out.trans g)
        clear h45 g
        as_aux_lemma =>
          go_wp2
          exact ⟨⟨1 + 1, by omega, by go_num, hg9⟩, by simp [intOf]⟩
      · by_cases hk0 : K = 0
        · have hj := HJ.out.2 hk0
          rw [hj] at h45
          have hkd : decide ((K : Int) = 2) = false := decide_eq_false (by omega)
          have hkb : ((K : Int) == 2) = false := by rw [hk0]; rfl
          have hkd0 : decide ((K : Int) = 0) = true := decide_eq_true (by omega)
          have hkb0 : ((K : Int) == 0) = true := by rw [hk0]; rfl
          clear hj hk0 hk2
          go_wp2_with (go_at_call 99; fail)
          refine (h45 _ (World.grows.refl _)).mono ?_
          rintro e V9 ⟨rfl, g⟩
          have hg9 := Lib.hid (hg.out.trans g)
          clear h45 g
          as_aux_lemma =>
            go_wp2
            exact ⟨⟨1 + 1, by omega, by go_num, hg9⟩, by simp [intOf]⟩
        · have hk2I : ¬ (K : Int) = 2 := by omega
          have hk0I : ¬ (K : Int) = 0 := by omega
          clear h45
          as_aux_lemma =>
            go_wp2
            exact ⟨⟨1 + 1, by omega, by go_num, hg⟩, by simp [intOf]⟩
    · simp only [show ((2 : Nat) : Int) = (2 : Int) from rfl]
      replace HW := Lib.hid (HW.out.trans hg.out)
      replace HB := Lib.hid (hg.out.heap_of HB.out)
      replace HCA := Lib.hid (IntsAt.mono HCA.out hg.out)
      replace HLA := Lib.hid (IntsAt.mono HLA.out hg.out)
      obtain ⟨Vz, rfl⟩ : ∃ Vz, Vz = wr := ⟨_, rfl⟩
      clear hg q0 q1 q2 HQA HJ0 HJ1 H29 H29p H45q H45p HPB HPl
      go_wp2
      obtain ⟨lb, hlb⟩ : ∃ lb, Vz.heap.size = lb := ⟨_, rfl⟩
      have HLB : Hid ((Vz.alloc (.cells #[.slice a2 F c2, .slice la n lc] 35)).heap[lb]? = some (.cells #[.slice a2 F c2, .slice la n lc] 35)) := Lib.hid (World.heap_at _ _ _ hlb.symm)
      have gP : Vz.grows (Vz.alloc (.cells #[.slice a2 F c2, .slice la n lc] 35)) := by (repeat (first | exact World.grows.refl _ | assumption | refine World.grows.alloc ?_ _ | refine World.grows.plus ?_ _ _ | refine World.grows.drew ?_))
      rw [hlb]
      generalize Vz.alloc (.cells #[.slice a2 F c2, .slice la n lc] 35) = V7 at HLB gP ⊢
      replace HW := Lib.hid (HW.out.trans gP)
      replace HB := Lib.hid (gP.heap_of HB.out)
      replace HCA := Lib.hid (IntsAt.mono HCA.out gP)
      replace HLA := Lib.hid (IntsAt.mono HLA.out gP)
      clear gP hlb
      go_loopw [26] (fun i wr => ∃ k : Nat, k ≤ 2 ∧ i = .int .i64 k ∧ Hid (V7.grows wr)) (fun i _ => 2 - (intOf i).toNat)
      case atStart => exact ⟨0, by omega, rfl, Lib.hid (World.grows.refl _)⟩
      case round =>
        obtain ⟨k, hk, rfl, hg⟩ := hrel
        have q0 := hg.out.cell_of (cell_of_heap (i := 0) HB.out rfl)
        have q1 := hg.out.cell_of (cell_of_heap (i := 1) HB.out rfl)
        have q2 := hg.out.cell_of (cell_of_heap (i := 2) HB.out rfl)
        rcases (show k = 0 ∨ k = 1 ∨ k = 2 by omega) with rfl | rfl | rfl
        · simp only [show ((0 : Nat) : Int) = (0 : Int) from rfl]
          have r1 : wr.cell? ⟨lb, 0, none⟩ = some (.slice a2 F c2) := hg.out.cell_of (cell_of_heap HLB.out rfl)
          have h36 := fun n x => H36.out (wr.plus n x) (HT.out.mono (HW.out.trans (hg.out.trans (World.grows_plus _ _ _)))) (IntsAt.mono HLA.out (hg.out.trans (World.grows_plus _ _ _)))
          go_upto_region 25 with fail
          (refine wp_region_calm (by kernel_rfl) (by kernel_rfl) ?_; (repeat (refine wpCalm_step (fun K hK => ?_); go_simp; first | (refine hK _ ?_; clear hK K) | (apply Exists.intro; refine ⟨fun n' x' => ?_, hK _ ?_⟩; (exact h36 _ _); clear hK K))); refine wpCalm_nil ?_; intro nq xq)
          replace hg := Lib.hid (hg.out.trans (World.grows_plus wr nq xq))
          clear h36 q0 q1 q2 r1
          obtain ⟨wo, rfl⟩ : ∃ wo, wo = wr := ⟨_, rfl⟩
          generalize wo.plus nq xq = wr at hg ⊢
          go_wp2
          obtain ⟨Wi, rfl⟩ : ∃ Wi, Wi = wr := ⟨_, rfl⟩
          go_loopw [27] (fun i wr => ∃ m : Nat, m ≤ CL ∧ i = .int .i64 m ∧ Hid (Wi.grows wr)) (fun i _ => CL - (intOf i).toNat)
          case atStart => exact ⟨0, by omega, rfl, Lib.hid (World.grows.refl _)⟩
          case round =>
            obtain ⟨m, hm, rfl, hgi⟩ := hrel
            have gi := hg.out.trans hgi.out
            have r1 := gi.cell_of (cell_of_heap (i := 0) HLB.out rfl)
            have r1b : wr.cell? ⟨lb, 0, none⟩ = some (.slice a2 F c2) := r1
            clear r1
            by_cases hml : m < CL
            · have hmI : (m : Int) < CL := by omega
              obtain ⟨a4, c4, e4, h41, h42, h4⟩ := IntsAt.mono HCA.out gi
              obtain ⟨b4, o4, ea, hc4⟩ := h4 m 0 hml (by omega)
              have ea2 := (Value.slice.inj e4).1
              subst ea2
              subst ea
              simp only [Nat.mul_one, Nat.add_zero] at hc4
              obtain ⟨z, hz⟩ : ∃ z : Int, ((CLs.getD m 0 : Nat) : Int) = z := ⟨_, rfl⟩
              have hin := fun n' x' => in_c (wr.plus n' x') (.slice a2 F c2) F _ (IntsAt.mono (HLA.out) (gi.trans (World.grows_plus _ _ _))) z
              rw [← hz] at hin
              rw [HIN0.out m hml] at hin
              rw [hz] at hin hc4
              clear hz e4 h41 h42 h4
              go_upto_region 31 with fail
              (refine wp_region_calm (by kernel_rfl) (by kernel_rfl) ?_; (repeat (refine wpCalm_step (fun K hK => ?_); go_simp; first | (refine hK _ ?_; clear hK K) | (apply Exists.intro; refine ⟨fun n' x' => ?_, hK _ ?_⟩; (exact hin _ _); clear hK K))); refine wpCalm_nil ?_; intro nq xq)
              have hgi2 := Lib.hid (hgi.out.trans (World.grows_plus wr nq xq))
              clear hin hc4 r1b hgi gi
              go_wp2
              exact ⟨⟨m + 1, by omega, by go_num, hgi2⟩, by simp [intOf]; omega⟩
            · have hme : m = CL := by omega
              have hmI : ¬ (m : Int) < CL := by omega
              have hg2 := Lib.hid (hg.out.trans hgi.out)
              clear r1b
              go_wp2
              exact ⟨⟨0 + 1, by omega, by go_num, hg2⟩, by simp [intOf]⟩
        · simp only [show ((1 : Nat) : Int) = (1 : Int) from rfl]
          have r1 : wr.cell? ⟨lb, 1, none⟩ = some (.slice la n lc) := hg.out.cell_of (cell_of_heap HLB.out rfl)
          have h36 := fun n x => H36l.out (wr.plus n x) (HT.out.mono (HW.out.trans (hg.out.trans (World.grows_plus _ _ _)))) (IntsAt.mono HL.out (HW.out.trans (hg.out.trans (World.grows_plus _ _ _))))
          go_upto_region 25 with fail
          (refine wp_region_calm (by kernel_rfl) (by kernel_rfl) ?_; (repeat (refine wpCalm_step (fun K hK => ?_); go_simp; first | (refine hK _ ?_; clear hK K) | (apply Exists.intro; refine ⟨fun n' x' => ?_, hK _ ?_⟩; (exact h36 _ _); clear hK K))); refine wpCalm_nil ?_; intro nq xq)
          replace hg := Lib.hid (hg.out.trans (World.grows_plus wr nq xq))
          clear h36 q0 q1 q2 r1
          obtain ⟨wo, rfl⟩ : ∃ wo, wo = wr := ⟨_, rfl⟩
          generalize wo.plus nq xq = wr at hg ⊢
          by_cases hpe0 : pe = 0
          case neg =>
            have hpI : ¬ (pe : Int) = 0 := by omega
            have hpb1 : ((pe : Int) == 0) = false := beq_eq_false_iff_ne.2 hpI
            have hpb2 : ((pe : Int) != 0) = true := by rw [bne, hpb1]; rfl
            go_wp2
            exact ⟨⟨2, by omega, by go_num, hg⟩, by simp [intOf]⟩
          have HINp := HIN1
          by_cases hnF : n = F
          case neg =>
            have hnI : ¬ (n : Int) = F := by omega
            have hpb1 : ((n : Int) == (F : Int)) = false := beq_eq_false_iff_ne.2 hnI
            subst hpe0
            go_wp2
            obtain ⟨Wi, rfl⟩ : ∃ Wi, Wi = wr := ⟨_, rfl⟩
            go_loopw [27] (fun i wr => i = .int .i64 0 ∧ Hid (Wi.grows wr)) (fun i _ => 0)
            case atStart => exact ⟨rfl, Lib.hid (World.grows.refl _)⟩
            case round =>
              obtain ⟨rfl, hgi⟩ := hrel
              have gi := hg.out.trans hgi.out
              have r1 : wr.cell? ⟨lb, 1, none⟩ = some (.slice la n lc) := gi.cell_of (cell_of_heap HLB.out rfl)
              have hg2 := Lib.hid gi
              by_cases hml : 0 < CL
              · have hmI : (0 : Int) < CL := by omega
                clear gi
                go_wp2
                exact ⟨⟨2, by omega, by go_num, hg2⟩, by simp [intOf]⟩
              · have hmI : ¬ (0 : Int) < CL := by omega
                clear gi
                go_wp2
                exact ⟨⟨2, by omega, by go_num, hg2⟩, by simp [intOf]⟩
          replace HIN1 := Lib.hid (HIN1.out hpe0 hnF)
          subst hpe0
          subst hnF
          go_wp2
          obtain ⟨Wi, rfl⟩ : ∃ Wi, Wi = wr := ⟨_, rfl⟩
          go_loopw [27] (fun i wr => ∃ m : Nat, m ≤ CL ∧ i = .int .i64 m ∧ Hid (Wi.grows wr)) (fun i _ => CL - (intOf i).toNat)
          case atStart => exact ⟨0, by omega, rfl, Lib.hid (World.grows.refl _)⟩
          case round =>
            obtain ⟨m, hm, rfl, hgi⟩ := hrel
            have gi := hg.out.trans hgi.out
            have r1 := gi.cell_of (cell_of_heap (i := 1) HLB.out rfl)
            have r1b : wr.cell? ⟨lb, 1, none⟩ = some (.slice la n lc) := r1
            clear r1
            by_cases hml : m < CL
            · have hmI : (m : Int) < CL := by omega
              obtain ⟨a4, c4, e4, h41, h42, h4⟩ := IntsAt.mono HCA.out gi
              obtain ⟨b4, o4, ea, hc4⟩ := h4 m 0 hml (by omega)
              have ea2 := (Value.slice.inj e4).1
              subst ea2
              subst ea
              simp only [Nat.mul_one, Nat.add_zero] at hc4
              obtain ⟨z, hz⟩ : ∃ z : Int, ((CLs.getD m 0 : Nat) : Int) = z := ⟨_, rfl⟩
              have hin := fun n' x' => in_c (wr.plus n' x') (.slice la n lc) n _ (IntsAt.mono (IntsAt.mono HL.out HW.out) (gi.trans (World.grows_plus _ _ _))) z
              rw [← hz] at hin
              rw [HIN1.out m hml] at hin
              rw [hz] at hin hc4
              clear hz e4 h41 h42 h4
              go_upto_region 31 with fail
              (refine wp_region_calm (by kernel_rfl) (by kernel_rfl) ?_; (repeat (refine wpCalm_step (fun K hK => ?_); go_simp; first | (refine hK _ ?_; clear hK K) | (apply Exists.intro; refine ⟨fun n' x' => ?_, hK _ ?_⟩; (exact hin _ _); clear hK K))); refine wpCalm_nil ?_; intro nq xq)
              have hgi2 := Lib.hid (hgi.out.trans (World.grows_plus wr nq xq))
              clear hin hc4 r1b hgi gi
              go_wp2
              exact ⟨⟨m + 1, by omega, by go_num, hgi2⟩, by simp [intOf]; omega⟩
            · have hme : m = CL := by omega
              have hmI : ¬ (m : Int) < CL := by omega
              have hg2 := Lib.hid (hg.out.trans hgi.out)
              clear r1b
              go_wp2
              exact ⟨⟨1 + 1, by omega, by go_num, hg2⟩, by simp [intOf]⟩
        · simp only [show ((2 : Nat) : Int) = (2 : Int) from rfl]
          replace HW := Lib.hid (HW.out.trans hg.out)
          replace HB := Lib.hid (hg.out.heap_of HB.out)
          clear hg HCA HLA HIN0 HIN1 H36 H36l HLB
          go_wp2_with (go_at_call 99; fail)
          refine (works_c _).mono ?_; rintro e U9 ⟨rfl, g⟩; replace HW := Lib.hid (HW.out.trans (World.grows.trans (by (repeat (first | exact World.grows.refl _ | assumption | refine World.grows.alloc ?_ _ | refine World.grows.plus ?_ _ _ | refine World.grows.drew ?_))) g)); clear g; go_wp2; (refine bodyPost_ret (v := .bool true) (by simp [results, Try.results12, go_sem]) rfl ?_); exact ⟨rfl, HW.out.trans (by (repeat (first | exact World.grows.refl _ | assumption | refine World.grows.alloc ?_ _ | refine World.grows.plus ?_ _ _ | refine World.grows.drew ?_)))⟩
end Go.Proofs.Ytaanbdjmibjcbaa

/-
  What is proved: the statement RoundJoined, at every input.
-/
namespace Go.Proofs.Ytaanbdjmibjcbaa
open Go.ChangeShapes Go.WideShapes Go.ChangeAt Go.RowKit

set_option maxRecDepth 100000 in
theorem roundJoined_lifted (os : Os) (started : os.Started) (H : Type) (enc : TypeId × Value → H) :
    ReturnsInHanded {} Try.checked os 12 .any (Rows.roundJoinedSpec.pre6 enc Try.prog Try.f12 Rows.roundJoinedRow.domain false) (Rows.roundJoinedSpec.post enc Try.prog Try.f12 false true false false) := by
  refine law_lifted (C := Try.checked) (tb := 4) started own_c laid_c (by kernel_rfl) Try.func12 (of_decide_eq_true (by kernel_rfl))
    (ChangeSpec.witness6 (enc := enc) (C := Try.checked) false ⟨#[], #[.agg #[.int .i64 0, .slice none 0 0, .slice none 0 0], .agg #[.int .u8 0, .int .u8 0], .slice none 0 0, .slice none 0 0, .bool false], []⟩ 8 (by kernel_rfl) (by kernel_rfl) (by kernel_rfl) (by kernel_rfl))
    rfl Try.underlying4 rfl (fun ds hl => ?_) (fun W base args ds ps hval hA => ?_)
  · match ds, hl with
    | [d1, d2, d3, d4, d5], _ => exact ⟨rfl, rfl, rfl⟩
  · have hA' : DataW.TrodAll enc Try.prog W 0 (fun _ => true) true Try.f12.params.toList args.toList ds ps := hA
    have hval' : ∀ (j : Nat) t v, Try.f12.params[j]? = some t → args[j]? = some v → Value.okWide Try.prog W .any base t v := hval
    rw [Try.params12] at hA' hval'
    obtain ⟨v1, v2, v3, v4, v5, d1, d2, d3, d4, d5, p1, p2, p3, p4, p5, rfl, rfl, rfl, h1, h2, h3, h4, h5⟩ := trodAll_5 hA'
    obtain ⟨t1, ht1⟩ := town_of (hval' 0 25 v1 rfl rfl) h1
    obtain ⟨a2, b2, rfl, k2⟩ := two_of (hval' 1 54 v2 rfl rfl) h2
    obtain ⟨P3, hP3⟩ := plan_of (hval' 2 39 v3 rfl rfl) h3
    obtain ⟨m4, f4, hf4, hb4⟩ := ints_of (hval' 3 35 v4 rfl rfl) h4
    obtain ⟨z5, rfl, -⟩ := open_bool Try.underlying4 (hval' 4 4 v5 rfl rfl) h5
    exact joined_w W v1 t1 ht1 a2 b2 k2 v3 P3 hP3 v4 m4 f4 hf4 z5

theorem roundJoined_holds : Rows.RoundJoinedSaid :=
  OpenClaim.holds_of_wide 12 Try.f12 rfl rfl rfl rfl rfl rfl rfl ⟨rfl, rfl, rfl, rfl, rfl⟩ rfl rfl rfl rfl rfl (by kernel_rfl) Try.func12 (by kernel_rfl)
    (of_decide_eq_true (by kernel_rfl)) (by unfold Func.isWrapper; first | (rw [if_pos (by decide +kernel)]; kernel_rfl) | (rw [if_neg (by decide +kernel)]; exact ⟨rfl, rfl⟩))
    (fun os started H enc _ => roundJoined_lifted os started H enc)
end Go.Proofs.Ytaanbdjmibjcbaa

