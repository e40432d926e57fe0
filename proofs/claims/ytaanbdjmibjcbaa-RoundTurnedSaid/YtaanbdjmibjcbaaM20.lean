/-
  What is proved: how many carts a best plan has, for the laws (42).
-/
import Derived.Test.YtaanbdjmibjcbaaM18
set_option linter.all false
namespace Go.Proofs.Ytaanbdjmibjcbaa
open Go.RowKit
attribute [local irreducible] Go.wpCalm rowI
def cartsN (t : Town) (slow : Bool) : Nat := if needE t slow = 0 then few t slow else 1000
set_option maxRecDepth 100000 in
set_option maxHeartbeats 4000000 in
theorem carts_c (w : World) (tv : Value) (t : Town) (slow : Bool) (ht : TownAt w tv t) : Calls Try.prog 42 #[tv, .bool slow] w fun e w' => e = .returned (.tuple #[.int .i64 (cartsN t slow : Nat), .bool true]) ∧ w.grows w' := by
  have HT := Lib.hid ht
  obtain ⟨sv, vv, rfl, ⟨sa, sc, rfl, -⟩, ⟨va, vc, rfl, -⟩⟩ := ht
  obtain ⟨P0, hP⟩ : ∃ P, t.pl = P := ⟨_, rfl⟩
  obtain ⟨N1, hN1⟩ : ∃ N, t.ns = N := ⟨_, rfl⟩
  obtain ⟨N2, hN2⟩ : ∃ N, t.nv = N := ⟨_, rfl⟩
  rw [hP, hN1, hN2] at HT ⊢
  clear hP hN1 hN2
  obtain ⟨K, hK⟩ : ∃ x, cartsN t slow = x := ⟨_, rfl⟩
  have HK := Lib.hid hK
  rw [hK]
  clear hK
  go_enter Try.func42, Try.ntmps42
  have HB : Hid ((w.alloc (.cells #[.int .i64 P0, .slice sa N1 sc, .slice va N2 vc] 25)).heap[w.heap.size]? = some (.cells #[.int .i64 P0, .slice sa N1 sc, .slice va N2 vc] 25)) := Lib.hid (World.heap_at _ _ _ rfl)
  have HW : Hid (w.grows (w.alloc (.cells #[.int .i64 P0, .slice sa N1 sc, .slice va N2 vc] 25))) := Lib.hid (by (repeat (first | exact World.grows.refl _ | assumption | refine World.grows.alloc ?_ _ | refine World.grows.plus ?_ _ _ | refine World.grows.drew ?_)))
  have q0 := cell_of_heap (i := 0) HB.out rfl
  have q1 := cell_of_heap (i := 1) HB.out rfl
  have q2 := cell_of_heap (i := 2) HB.out rfl
  obtain ⟨C, hC⟩ : ∃ x, needE t slow = x := ⟨_, rfl⟩
  have HC := Lib.hid hC
  have h30 := fun W ht => bestL_c W (.agg #[.int .i64 P0, .slice sa N1 sc, .slice va N2 vc]) t slow ht
  have h31 := fun W ht => needs_c W (.agg #[.int .i64 P0, .slice sa N1 sc, .slice va N2 vc]) t slow ht
  rw [hC] at h30 h31
  clear hC
  go_wp2_with (go_at_call 99; fail)
  refine (h30 _ (HT.out.mono (HW.out.trans (by (repeat (first | exact World.grows.refl _ | assumption | refine World.grows.alloc ?_ _ | refine World.grows.plus ?_ _ _ | refine World.grows.drew ?_)))))).mono ?_
  rintro e U5 ⟨a1, c1, Q, rfl, g, hQ⟩
  have HQ := Lib.hid hQ
  replace HW := Lib.hid (HW.out.trans (World.grows.trans (by (repeat (first | exact World.grows.refl _ | assumption | refine World.grows.alloc ?_ _ | refine World.grows.plus ?_ _ _ | refine World.grows.drew ?_))) g)); replace HB := Lib.hid (g.heap_of (World.grows.heap_of (by (repeat (first | exact World.grows.refl _ | assumption | refine World.grows.alloc ?_ _ | refine World.grows.plus ?_ _ _ | refine World.grows.drew ?_))) HB.out)); replace q0 := cell_of_heap (i := 0) HB.out rfl; replace q1 := cell_of_heap (i := 1) HB.out rfl; replace q2 := cell_of_heap (i := 2) HB.out rfl; clear g
  clear hQ h30
  by_cases hC0 : C = 0
  case neg =>
    have hC0I : ¬ (C : Int) = 0 := by omega
    have hq : Q = [] := HQ.out.none (by rw [HC.out]; exact hC0)
    subst hq
    have HZ : Hid (K = 1000) := Lib.hid (by rw [← HK.out]; unfold cartsN; rw [if_neg (by rw [HC.out]; exact hC0)])
    go_wp2_with (go_at_call 99; fail)
    refine (h31 _ (HT.out.mono (HW.out.trans (by (repeat (first | exact World.grows.refl _ | assumption | refine World.grows.alloc ?_ _ | refine World.grows.plus ?_ _ _ | refine World.grows.drew ?_)))))).mono ?_
    rintro e U6 ⟨rfl, g⟩
    replace HW := Lib.hid (HW.out.trans (World.grows.trans (by (repeat (first | exact World.grows.refl _ | assumption | refine World.grows.alloc ?_ _ | refine World.grows.plus ?_ _ _ | refine World.grows.drew ?_))) g)); replace HB := Lib.hid (g.heap_of (World.grows.heap_of (by (repeat (first | exact World.grows.refl _ | assumption | refine World.grows.alloc ?_ _ | refine World.grows.plus ?_ _ _ | refine World.grows.drew ?_))) HB.out)); replace q0 := cell_of_heap (i := 0) HB.out rfl; replace q1 := cell_of_heap (i := 1) HB.out rfl; replace q2 := cell_of_heap (i := 2) HB.out rfl; clear g
    clear h31 HQ
    go_wp2
    (refine bodyPost_ret (v := .tuple #[.int .i64 1000, .bool true]) (by simp [results, Try.results42, go_sem]) rfl ?_)
    exact ⟨by rw [HZ.out]; rfl, HW.out.trans (by (repeat (first | exact World.grows.refl _ | assumption | refine World.grows.alloc ?_ _ | refine World.grows.plus ?_ _ _ | refine World.grows.drew ?_)))⟩
  subst hC0
  clear h31
  have HBp := Lib.hid (HQ.out.best HC.out)
  have h29 := fun W ht hp => rplan_c W (.agg #[.int .i64 P0, .slice sa N1 sc, .slice va N2 vc]) (.slice a1 Q.length c1) t slow ht (pI Q) hp (Nat.le_trans HBp.out.right.len (by have := (need_ok HC.out).v16; omega)) (by rw [pI_len, HBp.out.size]; have h1 := few_nv t slow; have := (need_ok HC.out).v16; omega)
  have HZ : Hid (K = few t slow) := Lib.hid (by rw [← HK.out]; unfold cartsN; rw [if_pos HC.out])
  rw [HBp.out.planX HC.out, HBp.out.planN HC.out] at h29
  obtain ⟨F, hF⟩ : ∃ x, few t slow = x := ⟨_, rfl⟩
  rw [hF] at h29 HZ
  clear hF
  go_wp2_with (go_at_call 99; fail)
  refine (h29 _ (HT.out.mono (HW.out.trans (by (repeat (first | exact World.grows.refl _ | assumption | refine World.grows.alloc ?_ _ | refine World.grows.plus ?_ _ _ | refine World.grows.drew ?_))))) (HQ.out.at_.mono (by (repeat (first | exact World.grows.refl _ | assumption | refine World.grows.alloc ?_ _ | refine World.grows.plus ?_ _ _ | refine World.grows.drew ?_))))).mono ?_
  rintro e U7 ⟨rfl, g⟩
  replace HW := Lib.hid (HW.out.trans (World.grows.trans (by (repeat (first | exact World.grows.refl _ | assumption | refine World.grows.alloc ?_ _ | refine World.grows.plus ?_ _ _ | refine World.grows.drew ?_))) g)); replace HB := Lib.hid (g.heap_of (World.grows.heap_of (by (repeat (first | exact World.grows.refl _ | assumption | refine World.grows.alloc ?_ _ | refine World.grows.plus ?_ _ _ | refine World.grows.drew ?_))) HB.out)); replace q0 := cell_of_heap (i := 0) HB.out rfl; replace q1 := cell_of_heap (i := 1) HB.out rfl; replace q2 := cell_of_heap (i := 2) HB.out rfl; clear g
  clear h29 HQ HBp
  go_wp2
  (refine bodyPost_ret (v := .tuple #[.int .i64 (F : Nat), .bool true]) (by simp [results, Try.results42, go_sem]) rfl ?_)
  exact ⟨by rw [HZ.out], HW.out.trans (by (repeat (first | exact World.grows.refl _ | assumption | refine World.grows.alloc ?_ _ | refine World.grows.plus ?_ _ _ | refine World.grows.drew ?_)))⟩
end Go.Proofs.Ytaanbdjmibjcbaa

