/-
  What is proved: RoundVisits (4) answers true.
-/
import Derived.Test.YtaanbdjmibjcbaaM17
import Derived.Test.YtaanbdjmibjcbaaM15
set_option linter.all false
namespace Go.Proofs.Ytaanbdjmibjcbaa
open Go.RowKit
attribute [local irreducible] Go.wpCalm rowI
set_option maxRecDepth 100000 in
set_option maxHeartbeats 8000000 in
theorem visits_w (w : World) (tv : Value) (t : Town) (ht : TownAt w tv t) (a b : Int) (slow : Bool) : Calls Try.prog 4 #[tv, .int .i64 a, .int .i64 b, .bool slow] w fun e w' => e = .returned (.bool true) ∧ w.grows w' := by
  have HT := Lib.hid ht
  obtain ⟨sv, vv, rfl, ⟨sa, sc, rfl, -⟩, ⟨va, vc, rfl, -⟩⟩ := ht
  obtain ⟨P0, hP⟩ : ∃ P, t.pl = P := ⟨_, rfl⟩
  obtain ⟨N1, hN1⟩ : ∃ N, t.ns = N := ⟨_, rfl⟩
  obtain ⟨N2, hN2⟩ : ∃ N, t.nv = N := ⟨_, rfl⟩
  have HP0 := Lib.hid hP
  have HN1 := Lib.hid hN1
  have HN2 := Lib.hid hN2
  rw [hP, hN1, hN2] at HT ⊢
  clear hP hN1 hN2
  go_enter Try.func4, Try.ntmps4
  have HB : Hid ((w.alloc (.cells #[.int .i64 P0, .slice sa N1 sc, .slice va N2 vc] 25)).heap[w.heap.size]? = some (.cells #[.int .i64 P0, .slice sa N1 sc, .slice va N2 vc] 25)) := Lib.hid (World.heap_at _ _ _ rfl)
  have HW : Hid (w.grows (w.alloc (.cells #[.int .i64 P0, .slice sa N1 sc, .slice va N2 vc] 25))) := Lib.hid (by (repeat (first | exact World.grows.refl _ | assumption | refine World.grows.alloc ?_ _ | refine World.grows.plus ?_ _ _ | refine World.grows.drew ?_)))
  have q0 := cell_of_heap (i := 0) HB.out rfl
  have q1 := cell_of_heap (i := 1) HB.out rfl
  have q2 := cell_of_heap (i := 2) HB.out rfl
  go_wp2_with (go_at_call 99; fail)
  refine (great_c _ _ t (HT.out.mono (HW.out.trans (by (repeat (first | exact World.grows.refl _ | assumption | refine World.grows.alloc ?_ _ | refine World.grows.plus ?_ _ _ | refine World.grows.drew ?_)))))).mono ?_
  rintro e U ⟨rfl, g⟩
  replace HW := Lib.hid (HW.out.trans (World.grows.trans (by (repeat (first | exact World.grows.refl _ | assumption | refine World.grows.alloc ?_ _ | refine World.grows.plus ?_ _ _ | refine World.grows.drew ?_))) g)); replace HB := Lib.hid (g.heap_of (World.grows.heap_of (by (repeat (first | exact World.grows.refl _ | assumption | refine World.grows.alloc ?_ _ | refine World.grows.plus ?_ _ _ | refine World.grows.drew ?_))) HB.out)); replace q0 := cell_of_heap (i := 0) HB.out rfl; replace q1 := cell_of_heap (i := 1) HB.out rfl; replace q2 := cell_of_heap (i := 2) HB.out rfl; clear g
  cases hg : t.great with
  | true =>
    go_wp2_with (go_at_call 99; fail); refine (works_c _).mono ?_; rintro e U9 ⟨rfl, g⟩; replace HW := Lib.hid (HW.out.trans (World.grows.trans (by (repeat (first | exact World.grows.refl _ | assumption | refine World.grows.alloc ?_ _ | refine World.grows.plus ?_ _ _ | refine World.grows.drew ?_))) g)); replace HB := Lib.hid (g.heap_of (World.grows.heap_of (by (repeat (first | exact World.grows.refl _ | assumption | refine World.grows.alloc ?_ _ | refine World.grows.plus ?_ _ _ | refine World.grows.drew ?_))) HB.out)); replace q0 := cell_of_heap (i := 0) HB.out rfl; replace q1 := cell_of_heap (i := 1) HB.out rfl; replace q2 := cell_of_heap (i := 2) HB.out rfl; clear g; go_wp2; (refine bodyPost_ret (v := .bool true) (by simp [results, Try.results4, go_sem]) rfl ?_); exact ⟨rfl, HW.out.trans (by (repeat (first | exact World.grows.refl _ | assumption | refine World.grows.alloc ?_ _ | refine World.grows.plus ?_ _ _ | refine World.grows.drew ?_)))⟩
  | false =>
  clear hg
  obtain ⟨ax, hax⟩ : ∃ x, aftX t slow a b = x := ⟨_, rfl⟩
  obtain ⟨ae, hae⟩ : ∃ x, twoE t a b = x := ⟨_, rfl⟩
  have h21 := fun W ht => after_c W (.agg #[.int .i64 P0, .slice sa N1 sc, .slice va N2 vc]) t slow ht a b
  have h22 := fun W ht => rafter_c W (.agg #[.int .i64 P0, .slice sa N1 sc, .slice va N2 vc]) t slow ht a b
  rw [hax, hae] at h21 h22
  clear hax hae
  go_wp2_with (go_at_call 99; fail)
  refine (h21 _ (HT.out.mono (HW.out.trans (by (repeat (first | exact World.grows.refl _ | assumption | refine World.grows.alloc ?_ _ | refine World.grows.plus ?_ _ _ | refine World.grows.drew ?_)))))).mono ?_
  rintro e U2 ⟨rfl, g⟩
  replace HW := Lib.hid (HW.out.trans (World.grows.trans (by (repeat (first | exact World.grows.refl _ | assumption | refine World.grows.alloc ?_ _ | refine World.grows.plus ?_ _ _ | refine World.grows.drew ?_))) g)); replace HB := Lib.hid (g.heap_of (World.grows.heap_of (by (repeat (first | exact World.grows.refl _ | assumption | refine World.grows.alloc ?_ _ | refine World.grows.plus ?_ _ _ | refine World.grows.drew ?_))) HB.out)); replace q0 := cell_of_heap (i := 0) HB.out rfl; replace q1 := cell_of_heap (i := 1) HB.out rfl; replace q2 := cell_of_heap (i := 2) HB.out rfl; clear g
  go_wp2_with (go_at_call 99; fail)
  refine (h22 _ (HT.out.mono (HW.out.trans (by (repeat (first | exact World.grows.refl _ | assumption | refine World.grows.alloc ?_ _ | refine World.grows.plus ?_ _ _ | refine World.grows.drew ?_)))))).mono ?_
  rintro e U3 ⟨rfl, g⟩
  replace HW := Lib.hid (HW.out.trans (World.grows.trans (by (repeat (first | exact World.grows.refl _ | assumption | refine World.grows.alloc ?_ _ | refine World.grows.plus ?_ _ _ | refine World.grows.drew ?_))) g)); replace HB := Lib.hid (g.heap_of (World.grows.heap_of (by (repeat (first | exact World.grows.refl _ | assumption | refine World.grows.alloc ?_ _ | refine World.grows.plus ?_ _ _ | refine World.grows.drew ?_))) HB.out)); replace q0 := cell_of_heap (i := 0) HB.out rfl; replace q1 := cell_of_heap (i := 1) HB.out rfl; replace q2 := cell_of_heap (i := 2) HB.out rfl; clear g
  clear h21 h22
  obtain ⟨C, hC⟩ : ∃ x, t.check = x := ⟨_, rfl⟩
  obtain ⟨L, hL⟩ : ∃ x, lateL t slow = x := ⟨_, rfl⟩
  have h23 := fun W ht => late_form 23 lateX_c W (.agg #[.int .i64 P0, .slice sa N1 sc, .slice va N2 vc]) t slow ht
  have h24 := fun W ht => late_form 24 rlateX_c W (.agg #[.int .i64 P0, .slice sa N1 sc, .slice va N2 vc]) t slow ht
  rw [hC, hL] at h23 h24
  clear hC hL
  go_wp2_with (go_at_call 99; fail)
  refine (h23 _ (HT.out.mono (HW.out.trans (by (repeat (first | exact World.grows.refl _ | assumption | refine World.grows.alloc ?_ _ | refine World.grows.plus ?_ _ _ | refine World.grows.drew ?_)))))).mono ?_
  rintro e U4 ⟨a1, c1, rfl, g, hl1⟩
  have HL1 := Lib.hid hl1
  replace HW := Lib.hid (HW.out.trans (World.grows.trans (by (repeat (first | exact World.grows.refl _ | assumption | refine World.grows.alloc ?_ _ | refine World.grows.plus ?_ _ _ | refine World.grows.drew ?_))) g)); replace HB := Lib.hid (g.heap_of (World.grows.heap_of (by (repeat (first | exact World.grows.refl _ | assumption | refine World.grows.alloc ?_ _ | refine World.grows.plus ?_ _ _ | refine World.grows.drew ?_))) HB.out)); replace q0 := cell_of_heap (i := 0) HB.out rfl; replace q1 := cell_of_heap (i := 1) HB.out rfl; replace q2 := cell_of_heap (i := 2) HB.out rfl; clear g
  clear hl1
  go_wp2_with (go_at_call 99; fail)
  refine (h24 _ (HT.out.mono (HW.out.trans (by (repeat (first | exact World.grows.refl _ | assumption | refine World.grows.alloc ?_ _ | refine World.grows.plus ?_ _ _ | refine World.grows.drew ?_)))))).mono ?_
  rintro e U5 ⟨a2, c2, rfl, g, hl2⟩
  have HL2 := Lib.hid hl2
  replace HL1 := Lib.hid (HL1.out.mono (World.grows.trans (by (repeat (first | exact World.grows.refl _ | assumption | refine World.grows.alloc ?_ _ | refine World.grows.plus ?_ _ _ | refine World.grows.drew ?_))) g))
  replace HW := Lib.hid (HW.out.trans (World.grows.trans (by (repeat (first | exact World.grows.refl _ | assumption | refine World.grows.alloc ?_ _ | refine World.grows.plus ?_ _ _ | refine World.grows.drew ?_))) g)); replace HB := Lib.hid (g.heap_of (World.grows.heap_of (by (repeat (first | exact World.grows.refl _ | assumption | refine World.grows.alloc ?_ _ | refine World.grows.plus ?_ _ _ | refine World.grows.drew ?_))) HB.out)); replace q0 := cell_of_heap (i := 0) HB.out rfl; replace q1 := cell_of_heap (i := 1) HB.out rfl; replace q2 := cell_of_heap (i := 2) HB.out rfl; clear g
  clear hl2 h23 h24
  go_wp2_with (go_at_call 99; fail)
  refine (w_ints (HL1.out.mono (by (repeat (first | exact World.grows.refl _ | assumption | refine World.grows.alloc ?_ _ | refine World.grows.plus ?_ _ _ | refine World.grows.drew ?_)))) (HL2.out.mono (by (repeat (first | exact World.grows.refl _ | assumption | refine World.grows.alloc ?_ _ | refine World.grows.plus ?_ _ _ | refine World.grows.drew ?_))))).mono ?_
  rintro e U6 ⟨rfl, g⟩
  replace HW := Lib.hid (HW.out.trans (World.grows.trans (by (repeat (first | exact World.grows.refl _ | assumption | refine World.grows.alloc ?_ _ | refine World.grows.plus ?_ _ _ | refine World.grows.drew ?_))) g)); replace HB := Lib.hid (g.heap_of (World.grows.heap_of (by (repeat (first | exact World.grows.refl _ | assumption | refine World.grows.alloc ?_ _ | refine World.grows.plus ?_ _ _ | refine World.grows.drew ?_))) HB.out)); replace q0 := cell_of_heap (i := 0) HB.out rfl; replace q1 := cell_of_heap (i := 1) HB.out rfl; replace q2 := cell_of_heap (i := 2) HB.out rfl; clear g
  clear HL1 HL2
  go_wp2_with (go_at_call 99; fail); refine (works_c _).mono ?_; rintro e U9 ⟨rfl, g⟩; replace HW := Lib.hid (HW.out.trans (World.grows.trans (by (repeat (first | exact World.grows.refl _ | assumption | refine World.grows.alloc ?_ _ | refine World.grows.plus ?_ _ _ | refine World.grows.drew ?_))) g)); replace HB := Lib.hid (g.heap_of (World.grows.heap_of (by (repeat (first | exact World.grows.refl _ | assumption | refine World.grows.alloc ?_ _ | refine World.grows.plus ?_ _ _ | refine World.grows.drew ?_))) HB.out)); replace q0 := cell_of_heap (i := 0) HB.out rfl; replace q1 := cell_of_heap (i := 1) HB.out rfl; replace q2 := cell_of_heap (i := 2) HB.out rfl; clear g; go_wp2; (refine bodyPost_ret (v := .bool true) (by simp [results, Try.results4, go_sem]) rfl ?_); exact ⟨rfl, HW.out.trans (by (repeat (first | exact World.grows.refl _ | assumption | refine World.grows.alloc ?_ _ | refine World.grows.plus ?_ _ _ | refine World.grows.drew ?_)))⟩
end Go.Proofs.Ytaanbdjmibjcbaa

/-
  What is proved: the statement RoundVisits, at every input.
-/
namespace Go.Proofs.Ytaanbdjmibjcbaa
open Go.ChangeShapes Go.WideShapes Go.ChangeAt Go.RowKit

set_option maxRecDepth 100000 in
theorem roundVisits_lifted (os : Os) (started : os.Started) (H : Type) (enc : TypeId × Value → H) :
    ReturnsInHanded {} Try.checked os 4 .any (Rows.roundVisitsSpec.pre6 enc Try.prog Try.f4 Rows.roundVisitsRow.domain false) (Rows.roundVisitsSpec.post enc Try.prog Try.f4 false true false false) := by
  refine law_lifted (C := Try.checked) (tb := 4) started own_c laid_c (by kernel_rfl) Try.func4 (of_decide_eq_true (by kernel_rfl))
    (ChangeSpec.witness6 (enc := enc) (C := Try.checked) false ⟨#[], #[.agg #[.int .i64 0, .slice none 0 0, .slice none 0 0], .int .i64 0, .int .i64 0, .bool false], []⟩ 8 (by kernel_rfl) (by kernel_rfl) (by kernel_rfl) (by kernel_rfl))
    rfl Try.underlying4 rfl (fun ds hl => ?_) (fun W base args ds ps hval hA => ?_)
  · match ds, hl with
    | [d1, d2, d3, d4], _ => exact ⟨rfl, rfl, rfl⟩
  · have hA' : DataW.TrodAll enc Try.prog W 0 (fun _ => true) true Try.f4.params.toList args.toList ds ps := hA
    have hval' : ∀ (j : Nat) t v, Try.f4.params[j]? = some t → args[j]? = some v → Value.okWide Try.prog W .any base t v := hval
    rw [Try.params4] at hA' hval'
    obtain ⟨v1, v2, v3, v4, d1, d2, d3, d4, p1, p2, p3, p4, rfl, rfl, rfl, h1, h2, h3, h4⟩ := trodAll_four hA'
    obtain ⟨t1, ht1⟩ := town_of (hval' 0 25 v1 rfl rfl) h1
    obtain ⟨z2, rfl, -, -, hw2⟩ := open_int Try.underlying3 (hval' 1 3 v2 rfl rfl) h2; have hz2 := lit_i64 hw2
    obtain ⟨z3, rfl, -, -, hw3⟩ := open_int Try.underlying3 (hval' 2 3 v3 rfl rfl) h3; have hz3 := lit_i64 hw3
    obtain ⟨z4, rfl, -⟩ := open_bool Try.underlying4 (hval' 3 4 v4 rfl rfl) h4
    exact visits_w W v1 t1 ht1 z2 z3 z4

theorem roundVisits_holds : Rows.RoundVisitsSaid :=
  OpenClaim.holds_of_wide 4 Try.f4 rfl rfl rfl rfl rfl rfl rfl ⟨rfl, rfl, rfl, rfl, rfl⟩ rfl rfl rfl rfl rfl (by kernel_rfl) Try.func4 (by kernel_rfl)
    (of_decide_eq_true (by kernel_rfl)) (by unfold Func.isWrapper; first | (rw [if_pos (by decide +kernel)]; kernel_rfl) | (rw [if_neg (by decide +kernel)]; exact ⟨rfl, rfl⟩))
    (fun os started H enc _ => roundVisits_lifted os started H enc)
end Go.Proofs.Ytaanbdjmibjcbaa

