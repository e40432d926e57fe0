/-
  What is proved: RoundPlans (5) answers true.
-/
import Derived.Test.YtaanbdjmibjcbaaM17
import Derived.Test.YtaanbdjmibjcbaaM15
set_option linter.all false
namespace Go.Proofs.Ytaanbdjmibjcbaa
open Go.RowKit
attribute [local irreducible] Go.wpCalm rowI
set_option maxRecDepth 100000 in
set_option maxHeartbeats 8000000 in
theorem plans_w (w : World) (tv : Value) (t : Town) (ht : TownAt w tv t) (pv : Value) (P : List (List Int)) (hp : PlanAt w pv P) (slow : Bool) : Calls Try.prog 5 #[tv, pv, .bool slow] w fun e w' => e = .returned (.bool true) ∧ w.grows w' := by
  have HT := Lib.hid ht
  obtain ⟨sv, vv, rfl, ⟨sa, sc, rfl, -⟩, ⟨va, vc, rfl, -⟩⟩ := ht
  obtain ⟨P0, hP⟩ : ∃ P, t.pl = P := ⟨_, rfl⟩
  obtain ⟨N1, hN1⟩ : ∃ N, t.ns = N := ⟨_, rfl⟩
  obtain ⟨N2, hN2⟩ : ∃ N, t.nv = N := ⟨_, rfl⟩
  have HP0 := Lib.hid hP
  have HN1 := Lib.hid hN1
  have HN2 := Lib.hid hN2
  rw [hP, hN1, hN2] at HT ⊢
  clear hP hN1 hN2
  have HPl := Lib.hid hp
  obtain ⟨pa, pc, rfl⟩ := plan_form hp
  obtain ⟨PL, hPL⟩ : ∃ x, P.length = x := ⟨_, rfl⟩
  rw [hPL] at HPl ⊢
  clear hp hPL
  go_enter Try.func5, Try.ntmps5
  have HB : Hid ((w.alloc (.cells #[.int .i64 P0, .slice sa N1 sc, .slice va N2 vc] 25)).heap[w.heap.size]? = some (.cells #[.int .i64 P0, .slice sa N1 sc, .slice va N2 vc] 25)) := Lib.hid (World.heap_at _ _ _ rfl)
  have HW : Hid (w.grows (w.alloc (.cells #[.int .i64 P0, .slice sa N1 sc, .slice va N2 vc] 25))) := Lib.hid (by (repeat (first | exact World.grows.refl _ | assumption | refine World.grows.alloc ?_ _ | refine World.grows.plus ?_ _ _ | refine World.grows.drew ?_)))
  have q0 := cell_of_heap (i := 0) HB.out rfl
  have q1 := cell_of_heap (i := 1) HB.out rfl
  have q2 := cell_of_heap (i := 2) HB.out rfl
  go_wp2_with (go_at_call 99; fail)
  refine (great_c _ _ t (HT.out.mono (HW.out.trans (by (repeat (first | exact World.grows.refl _ | assumption | refine World.grows.alloc ?_ _ | refine World.grows.plus ?_ _ _ | refine World.grows.drew ?_)))))).mono ?_
  rintro e U ⟨rfl, g⟩
  replace HW := Lib.hid (HW.out.trans (World.grows.trans (by (repeat (first | exact World.grows.refl _ | assumption | refine World.grows.alloc ?_ _ | refine World.grows.plus ?_ _ _ | refine World.grows.drew ?_))) g)); replace HB := Lib.hid (g.heap_of (World.grows.heap_of (by (repeat (first | exact World.grows.refl _ | assumption | refine World.grows.alloc ?_ _ | refine World.grows.plus ?_ _ _ | refine World.grows.drew ?_))) HB.out)); replace q0 := cell_of_heap (i := 0) HB.out rfl; replace q1 := cell_of_heap (i := 1) HB.out rfl; replace q2 := cell_of_heap (i := 2) HB.out rfl; clear g
  cases hg : t.great with
  | true =>
    go_wp2_with (go_at_call 99; fail); refine (works_c _).mono ?_; rintro e U9 ⟨rfl, g⟩; replace HW := Lib.hid (HW.out.trans (World.grows.trans (by (repeat (first | exact World.grows.refl _ | assumption | refine World.grows.alloc ?_ _ | refine World.grows.plus ?_ _ _ | refine World.grows.drew ?_))) g)); replace HB := Lib.hid (g.heap_of (World.grows.heap_of (by (repeat (first | exact World.grows.refl _ | assumption | refine World.grows.alloc ?_ _ | refine World.grows.plus ?_ _ _ | refine World.grows.drew ?_))) HB.out)); replace q0 := cell_of_heap (i := 0) HB.out rfl; replace q1 := cell_of_heap (i := 1) HB.out rfl; replace q2 := cell_of_heap (i := 2) HB.out rfl; clear g; go_wp2; (refine bodyPost_ret (v := .bool true) (by simp [results, Try.results5, go_sem]) rfl ?_); exact ⟨rfl, HW.out.trans (by (repeat (first | exact World.grows.refl _ | assumption | refine World.grows.alloc ?_ _ | refine World.grows.plus ?_ _ _ | refine World.grows.drew ?_)))⟩
  | false =>
  clear hg
  go_wp2_with (go_at_call 99; fail)
  refine (full_c _ _ t (HT.out.mono (HW.out.trans (by (repeat (first | exact World.grows.refl _ | assumption | refine World.grows.alloc ?_ _ | refine World.grows.plus ?_ _ _ | refine World.grows.drew ?_)))))).mono ?_
  rintro e U1 ⟨rfl, g⟩
  replace HW := Lib.hid (HW.out.trans (World.grows.trans (by (repeat (first | exact World.grows.refl _ | assumption | refine World.grows.alloc ?_ _ | refine World.grows.plus ?_ _ _ | refine World.grows.drew ?_))) g)); replace HB := Lib.hid (g.heap_of (World.grows.heap_of (by (repeat (first | exact World.grows.refl _ | assumption | refine World.grows.alloc ?_ _ | refine World.grows.plus ?_ _ _ | refine World.grows.drew ?_))) HB.out)); replace q0 := cell_of_heap (i := 0) HB.out rfl; replace q1 := cell_of_heap (i := 1) HB.out rfl; replace q2 := cell_of_heap (i := 2) HB.out rfl; clear g
  cases hf : t.full with
  | true =>
    go_wp2_with (go_at_call 99; fail); refine (works_c _).mono ?_; rintro e U9 ⟨rfl, g⟩; replace HW := Lib.hid (HW.out.trans (World.grows.trans (by (repeat (first | exact World.grows.refl _ | assumption | refine World.grows.alloc ?_ _ | refine World.grows.plus ?_ _ _ | refine World.grows.drew ?_))) g)); replace HB := Lib.hid (g.heap_of (World.grows.heap_of (by (repeat (first | exact World.grows.refl _ | assumption | refine World.grows.alloc ?_ _ | refine World.grows.plus ?_ _ _ | refine World.grows.drew ?_))) HB.out)); replace q0 := cell_of_heap (i := 0) HB.out rfl; replace q1 := cell_of_heap (i := 1) HB.out rfl; replace q2 := cell_of_heap (i := 2) HB.out rfl; clear g; go_wp2; (refine bodyPost_ret (v := .bool true) (by simp [results, Try.results5, go_sem]) rfl ?_); exact ⟨rfl, HW.out.trans (by (repeat (first | exact World.grows.refl _ | assumption | refine World.grows.alloc ?_ _ | refine World.grows.plus ?_ _ _ | refine World.grows.drew ?_)))⟩
  | false =>
  clear hf
  go_wp2_with (go_at_call 99; fail)
  refine (long_c _ _ P (HPl.out.mono (HW.out.trans (by (repeat (first | exact World.grows.refl _ | assumption | refine World.grows.alloc ?_ _ | refine World.grows.plus ?_ _ _ | refine World.grows.drew ?_)))))).mono ?_
  rintro e U2 ⟨rfl, g⟩
  replace HW := Lib.hid (HW.out.trans (World.grows.trans (by (repeat (first | exact World.grows.refl _ | assumption | refine World.grows.alloc ?_ _ | refine World.grows.plus ?_ _ _ | refine World.grows.drew ?_))) g)); replace HB := Lib.hid (g.heap_of (World.grows.heap_of (by (repeat (first | exact World.grows.refl _ | assumption | refine World.grows.alloc ?_ _ | refine World.grows.plus ?_ _ _ | refine World.grows.drew ?_))) HB.out)); replace q0 := cell_of_heap (i := 0) HB.out rfl; replace q1 := cell_of_heap (i := 1) HB.out rfl; replace q2 := cell_of_heap (i := 2) HB.out rfl; clear g
  cases hlg : longP P with
  | true =>
    go_wp2_with (go_at_call 99; fail); refine (works_c _).mono ?_; rintro e U9 ⟨rfl, g⟩; replace HW := Lib.hid (HW.out.trans (World.grows.trans (by (repeat (first | exact World.grows.refl _ | assumption | refine World.grows.alloc ?_ _ | refine World.grows.plus ?_ _ _ | refine World.grows.drew ?_))) g)); replace HB := Lib.hid (g.heap_of (World.grows.heap_of (by (repeat (first | exact World.grows.refl _ | assumption | refine World.grows.alloc ?_ _ | refine World.grows.plus ?_ _ _ | refine World.grows.drew ?_))) HB.out)); replace q0 := cell_of_heap (i := 0) HB.out rfl; replace q1 := cell_of_heap (i := 1) HB.out rfl; replace q2 := cell_of_heap (i := 2) HB.out rfl; clear g; go_wp2; (refine bodyPost_ret (v := .bool true) (by simp [results, Try.results5, go_sem]) rfl ?_); exact ⟨rfl, HW.out.trans (by (repeat (first | exact World.grows.refl _ | assumption | refine World.grows.alloc ?_ _ | refine World.grows.plus ?_ _ _ | refine World.grows.drew ?_)))⟩
  | false =>
  obtain ⟨hl1, hl2⟩ := long_no hlg
  obtain ⟨pn, hpn⟩ : ∃ x, planN t slow P = x := ⟨_, rfl⟩
  obtain ⟨px, hpx⟩ : ∃ x, planX t slow P = x := ⟨_, rfl⟩
  have h28 := fun W ht hp => checkPlan_c W (.agg #[.int .i64 P0, .slice sa N1 sc, .slice va N2 vc]) (.slice pa PL pc) t slow ht P hp (by omega) (by omega)
  have h29 := fun W ht hp => rplan_c W (.agg #[.int .i64 P0, .slice sa N1 sc, .slice va N2 vc]) (.slice pa PL pc) t slow ht P hp (by omega) (by omega)
  rw [hpn, hpx] at h28 h29
  clear hpn hpx hlg hl1 hl2
  go_wp2_with (go_at_call 99; fail)
  refine (h28 _ (HT.out.mono (HW.out.trans (by (repeat (first | exact World.grows.refl _ | assumption | refine World.grows.alloc ?_ _ | refine World.grows.plus ?_ _ _ | refine World.grows.drew ?_))))) (HPl.out.mono (HW.out.trans (by (repeat (first | exact World.grows.refl _ | assumption | refine World.grows.alloc ?_ _ | refine World.grows.plus ?_ _ _ | refine World.grows.drew ?_)))))).mono ?_
  rintro e U3 ⟨rfl, g⟩
  replace HW := Lib.hid (HW.out.trans (World.grows.trans (by (repeat (first | exact World.grows.refl _ | assumption | refine World.grows.alloc ?_ _ | refine World.grows.plus ?_ _ _ | refine World.grows.drew ?_))) g)); replace HB := Lib.hid (g.heap_of (World.grows.heap_of (by (repeat (first | exact World.grows.refl _ | assumption | refine World.grows.alloc ?_ _ | refine World.grows.plus ?_ _ _ | refine World.grows.drew ?_))) HB.out)); replace q0 := cell_of_heap (i := 0) HB.out rfl; replace q1 := cell_of_heap (i := 1) HB.out rfl; replace q2 := cell_of_heap (i := 2) HB.out rfl; clear g
  go_wp2_with (go_at_call 99; fail)
  refine (h29 _ (HT.out.mono (HW.out.trans (by (repeat (first | exact World.grows.refl _ | assumption | refine World.grows.alloc ?_ _ | refine World.grows.plus ?_ _ _ | refine World.grows.drew ?_))))) (HPl.out.mono (HW.out.trans (by (repeat (first | exact World.grows.refl _ | assumption | refine World.grows.alloc ?_ _ | refine World.grows.plus ?_ _ _ | refine World.grows.drew ?_)))))).mono ?_
  rintro e U4 ⟨rfl, g⟩
  replace HW := Lib.hid (HW.out.trans (World.grows.trans (by (repeat (first | exact World.grows.refl _ | assumption | refine World.grows.alloc ?_ _ | refine World.grows.plus ?_ _ _ | refine World.grows.drew ?_))) g)); replace HB := Lib.hid (g.heap_of (World.grows.heap_of (by (repeat (first | exact World.grows.refl _ | assumption | refine World.grows.alloc ?_ _ | refine World.grows.plus ?_ _ _ | refine World.grows.drew ?_))) HB.out)); replace q0 := cell_of_heap (i := 0) HB.out rfl; replace q1 := cell_of_heap (i := 1) HB.out rfl; replace q2 := cell_of_heap (i := 2) HB.out rfl; clear g
  clear h28 h29
  obtain ⟨C, hC⟩ : ∃ x, needE t slow = x := ⟨_, rfl⟩
  have HC := Lib.hid hC
  have h30 := fun W ht => bestL_c W (.agg #[.int .i64 P0, .slice sa N1 sc, .slice va N2 vc]) t slow ht
  have h31 := fun W ht => needs_c W (.agg #[.int .i64 P0, .slice sa N1 sc, .slice va N2 vc]) t slow ht
  rw [hC] at h30 h31
  clear hC
  go_wp2_with (go_at_call 99; fail)
  refine (h30 _ (HT.out.mono (HW.out.trans (by (repeat (first | exact World.grows.refl _ | assumption | refine World.grows.alloc ?_ _ | refine World.grows.plus ?_ _ _ | refine World.grows.drew ?_)))))).mono ?_
  rintro e U5 ⟨a1, c1, Q, rfl, g, hQ⟩
  have HQ := Lib.hid hQ
  replace HW := Lib.hid (HW.out.trans (World.grows.trans (by (repeat (first | exact World.grows.refl _ | assumption | refine World.grows.alloc ?_ _ | refine World.grows.plus ?_ _ _ | refine World.grows.drew ?_))) g)); replace HB := Lib.hid (g.heap_of (World.grows.heap_of (by (repeat (first | exact World.grows.refl _ | assumption | refine World.grows.alloc ?_ _ | refine World.grows.plus ?_ _ _ | refine World.grows.drew ?_))) HB.out)); replace q0 := cell_of_heap (i := 0) HB.out rfl; replace q1 := cell_of_heap (i := 1) HB.out rfl; replace q2 := cell_of_heap (i := 2) HB.out rfl; clear g
  clear hQ h30
  go_wp2_with (go_at_call 99; fail)
  refine (h31 _ (HT.out.mono (HW.out.trans (by (repeat (first | exact World.grows.refl _ | assumption | refine World.grows.alloc ?_ _ | refine World.grows.plus ?_ _ _ | refine World.grows.drew ?_)))))).mono ?_
  rintro e U6 ⟨rfl, g⟩
  replace HQ := Lib.hid (HQ.out.mono (World.grows.trans (by (repeat (first | exact World.grows.refl _ | assumption | refine World.grows.alloc ?_ _ | refine World.grows.plus ?_ _ _ | refine World.grows.drew ?_))) g))
  replace HW := Lib.hid (HW.out.trans (World.grows.trans (by (repeat (first | exact World.grows.refl _ | assumption | refine World.grows.alloc ?_ _ | refine World.grows.plus ?_ _ _ | refine World.grows.drew ?_))) g)); replace HB := Lib.hid (g.heap_of (World.grows.heap_of (by (repeat (first | exact World.grows.refl _ | assumption | refine World.grows.alloc ?_ _ | refine World.grows.plus ?_ _ _ | refine World.grows.drew ?_))) HB.out)); replace q0 := cell_of_heap (i := 0) HB.out rfl; replace q1 := cell_of_heap (i := 1) HB.out rfl; replace q2 := cell_of_heap (i := 2) HB.out rfl; clear g
  clear h31
  by_cases hC0 : C = 0
  case neg =>
    have hC0I : ¬ (C : Int) = 0 := by omega
    have hq : Q = [] := HQ.out.none (by rw [HC.out]; exact hC0)
    subst hq
    go_wp2_with (go_at_call 99; fail); refine (works_c _).mono ?_; rintro e U9 ⟨rfl, g⟩; replace HW := Lib.hid (HW.out.trans (World.grows.trans (by (repeat (first | exact World.grows.refl _ | assumption | refine World.grows.alloc ?_ _ | refine World.grows.plus ?_ _ _ | refine World.grows.drew ?_))) g)); replace HB := Lib.hid (g.heap_of (World.grows.heap_of (by (repeat (first | exact World.grows.refl _ | assumption | refine World.grows.alloc ?_ _ | refine World.grows.plus ?_ _ _ | refine World.grows.drew ?_))) HB.out)); replace q0 := cell_of_heap (i := 0) HB.out rfl; replace q1 := cell_of_heap (i := 1) HB.out rfl; replace q2 := cell_of_heap (i := 2) HB.out rfl; clear g; go_wp2; (refine bodyPost_ret (v := .bool true) (by simp [results, Try.results5, go_sem]) rfl ?_); exact ⟨rfl, HW.out.trans (by (repeat (first | exact World.grows.refl _ | assumption | refine World.grows.alloc ?_ _ | refine World.grows.plus ?_ _ _ | refine World.grows.drew ?_)))⟩
  subst hC0
  have HBp := Lib.hid (HQ.out.best HC.out)
  have h29 := fun W ht hp => rplan_c W (.agg #[.int .i64 P0, .slice sa N1 sc, .slice va N2 vc]) (.slice a1 Q.length c1) t slow ht (pI Q) hp (Nat.le_trans HBp.out.right.len (by have := (need_ok HC.out).v16; omega)) (by rw [pI_len, HBp.out.size]; have h1 := few_nv t slow; have := (need_ok HC.out).v16; omega)
  rw [HBp.out.planX HC.out, HBp.out.planN HC.out] at h29
  have h32 := fun W ht => fewestT_c W (.agg #[.int .i64 P0, .slice sa N1 sc, .slice va N2 vc]) t slow ht (need_ok HC.out)
  have h33 := fun W hp => rord_c W (.slice a1 Q.length c1) (pI Q) hp HBp.out.ne
  rw [HBp.out.ord] at h33
  obtain ⟨F, hF⟩ : ∃ x, few t slow = x := ⟨_, rfl⟩
  rw [hF] at h29 h32
  clear hF
  go_wp2_with (go_at_call 99; fail)
  refine (h29 _ (HT.out.mono (HW.out.trans (by (repeat (first | exact World.grows.refl _ | assumption | refine World.grows.alloc ?_ _ | refine World.grows.plus ?_ _ _ | refine World.grows.drew ?_))))) (HQ.out.at_.mono (by (repeat (first | exact World.grows.refl _ | assumption | refine World.grows.alloc ?_ _ | refine World.grows.plus ?_ _ _ | refine World.grows.drew ?_))))).mono ?_
  rintro e U7 ⟨rfl, g⟩
  replace HQ := Lib.hid (HQ.out.mono (World.grows.trans (by (repeat (first | exact World.grows.refl _ | assumption | refine World.grows.alloc ?_ _ | refine World.grows.plus ?_ _ _ | refine World.grows.drew ?_))) g))
  replace HW := Lib.hid (HW.out.trans (World.grows.trans (by (repeat (first | exact World.grows.refl _ | assumption | refine World.grows.alloc ?_ _ | refine World.grows.plus ?_ _ _ | refine World.grows.drew ?_))) g)); replace HB := Lib.hid (g.heap_of (World.grows.heap_of (by (repeat (first | exact World.grows.refl _ | assumption | refine World.grows.alloc ?_ _ | refine World.grows.plus ?_ _ _ | refine World.grows.drew ?_))) HB.out)); replace q0 := cell_of_heap (i := 0) HB.out rfl; replace q1 := cell_of_heap (i := 1) HB.out rfl; replace q2 := cell_of_heap (i := 2) HB.out rfl; clear g
  clear h29
  go_wp2_with (go_at_call 99; fail)
  refine (h32 _ (HT.out.mono (HW.out.trans (by (repeat (first | exact World.grows.refl _ | assumption | refine World.grows.alloc ?_ _ | refine World.grows.plus ?_ _ _ | refine World.grows.drew ?_)))))).mono ?_
  rintro e U8 ⟨rfl, g⟩
  replace HQ := Lib.hid (HQ.out.mono (World.grows.trans (by (repeat (first | exact World.grows.refl _ | assumption | refine World.grows.alloc ?_ _ | refine World.grows.plus ?_ _ _ | refine World.grows.drew ?_))) g))
  replace HW := Lib.hid (HW.out.trans (World.grows.trans (by (repeat (first | exact World.grows.refl _ | assumption | refine World.grows.alloc ?_ _ | refine World.grows.plus ?_ _ _ | refine World.grows.drew ?_))) g)); replace HB := Lib.hid (g.heap_of (World.grows.heap_of (by (repeat (first | exact World.grows.refl _ | assumption | refine World.grows.alloc ?_ _ | refine World.grows.plus ?_ _ _ | refine World.grows.drew ?_))) HB.out)); replace q0 := cell_of_heap (i := 0) HB.out rfl; replace q1 := cell_of_heap (i := 1) HB.out rfl; replace q2 := cell_of_heap (i := 2) HB.out rfl; clear g
  clear h32
  go_wp2_with (go_at_call 99; fail)
  refine (h33 _ (HQ.out.at_.mono (by (repeat (first | exact World.grows.refl _ | assumption | refine World.grows.alloc ?_ _ | refine World.grows.plus ?_ _ _ | refine World.grows.drew ?_))))).mono ?_
  rintro e U10 ⟨rfl, g⟩
  replace HW := Lib.hid (HW.out.trans (World.grows.trans (by (repeat (first | exact World.grows.refl _ | assumption | refine World.grows.alloc ?_ _ | refine World.grows.plus ?_ _ _ | refine World.grows.drew ?_))) g)); replace HB := Lib.hid (g.heap_of (World.grows.heap_of (by (repeat (first | exact World.grows.refl _ | assumption | refine World.grows.alloc ?_ _ | refine World.grows.plus ?_ _ _ | refine World.grows.drew ?_))) HB.out)); replace q0 := cell_of_heap (i := 0) HB.out rfl; replace q1 := cell_of_heap (i := 1) HB.out rfl; replace q2 := cell_of_heap (i := 2) HB.out rfl; clear g
  clear h33 HQ HBp
  go_wp2_with (go_at_call 99; fail); refine (works_c _).mono ?_; rintro e U9 ⟨rfl, g⟩; replace HW := Lib.hid (HW.out.trans (World.grows.trans (by (repeat (first | exact World.grows.refl _ | assumption | refine World.grows.alloc ?_ _ | refine World.grows.plus ?_ _ _ | refine World.grows.drew ?_))) g)); replace HB := Lib.hid (g.heap_of (World.grows.heap_of (by (repeat (first | exact World.grows.refl _ | assumption | refine World.grows.alloc ?_ _ | refine World.grows.plus ?_ _ _ | refine World.grows.drew ?_))) HB.out)); replace q0 := cell_of_heap (i := 0) HB.out rfl; replace q1 := cell_of_heap (i := 1) HB.out rfl; replace q2 := cell_of_heap (i := 2) HB.out rfl; clear g; go_wp2; (refine bodyPost_ret (v := .bool true) (by simp [results, Try.results5, go_sem]) rfl ?_); exact ⟨rfl, HW.out.trans (by (repeat (first | exact World.grows.refl _ | assumption | refine World.grows.alloc ?_ _ | refine World.grows.plus ?_ _ _ | refine World.grows.drew ?_)))⟩
end Go.Proofs.Ytaanbdjmibjcbaa

/-
  What is proved: the statement RoundPlans, at every input.
-/
namespace Go.Proofs.Ytaanbdjmibjcbaa
open Go.ChangeShapes Go.WideShapes Go.ChangeAt Go.RowKit

set_option maxRecDepth 100000 in
theorem roundPlans_lifted (os : Os) (started : os.Started) (H : Type) (enc : TypeId × Value → H) :
    ReturnsInHanded {} Try.checked os 5 .any (Rows.roundPlansSpec.pre6 enc Try.prog Try.f5 Rows.roundPlansRow.domain false) (Rows.roundPlansSpec.post enc Try.prog Try.f5 false true false false) := by
  refine law_lifted (C := Try.checked) (tb := 4) started own_c laid_c (by kernel_rfl) Try.func5 (of_decide_eq_true (by kernel_rfl))
    (ChangeSpec.witness6 (enc := enc) (C := Try.checked) false ⟨#[], #[.agg #[.int .i64 0, .slice none 0 0, .slice none 0 0], .slice none 0 0, .bool false], []⟩ 8 (by kernel_rfl) (by kernel_rfl) (by kernel_rfl) (by kernel_rfl))
    rfl Try.underlying4 rfl (fun ds hl => ?_) (fun W base args ds ps hval hA => ?_)
  · match ds, hl with
    | [d1, d2, d3], _ => exact ⟨rfl, rfl, rfl⟩
  · have hA' : DataW.TrodAll enc Try.prog W 0 (fun _ => true) true Try.f5.params.toList args.toList ds ps := hA
    have hval' : ∀ (j : Nat) t v, Try.f5.params[j]? = some t → args[j]? = some v → Value.okWide Try.prog W .any base t v := hval
    rw [Try.params5] at hA' hval'
    obtain ⟨v1, v2, v3, d1, d2, d3, p1, p2, p3, rfl, rfl, rfl, h1, h2, h3⟩ := trodAll_three hA'
    obtain ⟨t1, ht1⟩ := town_of (hval' 0 25 v1 rfl rfl) h1
    obtain ⟨P2, hP2⟩ := plan_of (hval' 1 39 v2 rfl rfl) h2
    obtain ⟨z3, rfl, -⟩ := open_bool Try.underlying4 (hval' 2 4 v3 rfl rfl) h3
    exact plans_w W v1 t1 ht1 v2 P2 hP2 z3

theorem roundPlans_holds : Rows.RoundPlansSaid :=
  OpenClaim.holds_of_wide 5 Try.f5 rfl rfl rfl rfl rfl rfl rfl ⟨rfl, rfl, rfl, rfl, rfl⟩ rfl rfl rfl rfl rfl (by kernel_rfl) Try.func5 (by kernel_rfl)
    (of_decide_eq_true (by kernel_rfl)) (by unfold Func.isWrapper; first | (rw [if_pos (by decide +kernel)]; kernel_rfl) | (rw [if_neg (by decide +kernel)]; exact ⟨rfl, rfl⟩))
    (fun os started H enc _ => roundPlans_lifted os started H enc)
end Go.Proofs.Ytaanbdjmibjcbaa

