/-
  What is proved: RoundOrdered (9) answers true.
-/
import Derived.Test.YtaanbdjmibjcbaaM19
import Derived.Deep.CutRange
import Derived.Test.YtaanbdjmibjcbaaM15
set_option linter.all false
namespace Go.Proofs.Ytaanbdjmibjcbaa
open Go.RowKit
attribute [local irreducible] Go.wpCalm rowI
set_option maxRecDepth 100000 in
set_option maxHeartbeats 8000000 in
theorem ordered_w (w : World) (tv : Value) (t : Town) (ht : TownAt w tv t) (x0 x1 x2 y0 y1 y2 : Nat) (hx : x0 ≤ 255 ∧ x1 ≤ 255 ∧ x2 ≤ 255) (hy : y0 ≤ 255 ∧ y1 ≤ 255 ∧ y2 ≤ 255) (slow : Bool) : Calls Try.prog 9 #[tv, .agg #[.int .u8 (x0 : Nat), .int .u8 (x1 : Nat), .int .u8 (x2 : Nat)], .agg #[.int .u8 (y0 : Nat), .int .u8 (y1 : Nat), .int .u8 (y2 : Nat)], .bool slow] w fun e w' => e = .returned (.bool true) ∧ w.grows w' := by
  have HT := Lib.hid ht
  obtain ⟨sv, vv, rfl, ⟨sa, sc, rfl, -⟩, ⟨va, vc, rfl, -⟩⟩ := ht
  obtain ⟨P0, hP⟩ : ∃ P, t.pl = P := ⟨_, rfl⟩
  obtain ⟨N1, hN1⟩ : ∃ N, t.ns = N := ⟨_, rfl⟩
  obtain ⟨N2, hN2⟩ : ∃ N, t.nv = N := ⟨_, rfl⟩
  have HP0 := Lib.hid hP
  have HN1 := Lib.hid hN1
  have HN2 := Lib.hid hN2
  rw [hP, hN1, hN2] at HT ⊢
  clear hP hN1 hN2
  go_enter Try.func9, Try.ntmps9
  have HB : Hid ((((w.alloc (.cells #[.int .i64 P0, .slice sa N1 sc, .slice va N2 vc] 25)).alloc (.cells #[.int .u8 (x0 : Nat), .int .u8 (x1 : Nat), .int .u8 (x2 : Nat)] 52)).alloc (.cells #[.int .u8 (y0 : Nat), .int .u8 (y1 : Nat), .int .u8 (y2 : Nat)] 52)).heap[w.heap.size]? = some (.cells #[.int .i64 P0, .slice sa N1 sc, .slice va N2 vc] 25)) := Lib.hid (World.grows.heap_of (by (repeat (first | exact World.grows.refl _ | assumption | refine World.grows.alloc ?_ _ | refine World.grows.plus ?_ _ _ | refine World.grows.drew ?_))) (World.heap_at w _ _ rfl))
  have HB1 : Hid ((((w.alloc (.cells #[.int .i64 P0, .slice sa N1 sc, .slice va N2 vc] 25)).alloc (.cells #[.int .u8 (x0 : Nat), .int .u8 (x1 : Nat), .int .u8 (x2 : Nat)] 52)).alloc (.cells #[.int .u8 (y0 : Nat), .int .u8 (y1 : Nat), .int .u8 (y2 : Nat)] 52)).heap[w.heap.size + 1]? = some (.cells #[.int .u8 (x0 : Nat), .int .u8 (x1 : Nat), .int .u8 (x2 : Nat)] 52)) := Lib.hid (World.grows.heap_of (by (repeat (first | exact World.grows.refl _ | assumption | refine World.grows.alloc ?_ _ | refine World.grows.plus ?_ _ _ | refine World.grows.drew ?_))) (World.heap_at (w.alloc (.cells #[.int .i64 P0, .slice sa N1 sc, .slice va N2 vc] 25)) _ _ (by simp)))
  have HB2 : Hid ((((w.alloc (.cells #[.int .i64 P0, .slice sa N1 sc, .slice va N2 vc] 25)).alloc (.cells #[.int .u8 (x0 : Nat), .int .u8 (x1 : Nat), .int .u8 (x2 : Nat)] 52)).alloc (.cells #[.int .u8 (y0 : Nat), .int .u8 (y1 : Nat), .int .u8 (y2 : Nat)] 52)).heap[w.heap.size + 2]? = some (.cells #[.int .u8 (y0 : Nat), .int .u8 (y1 : Nat), .int .u8 (y2 : Nat)] 52)) := Lib.hid (World.heap_at _ _ _ (by simp))
  have HW : Hid (w.grows (((w.alloc (.cells #[.int .i64 P0, .slice sa N1 sc, .slice va N2 vc] 25)).alloc (.cells #[.int .u8 (x0 : Nat), .int .u8 (x1 : Nat), .int .u8 (x2 : Nat)] 52)).alloc (.cells #[.int .u8 (y0 : Nat), .int .u8 (y1 : Nat), .int .u8 (y2 : Nat)] 52))) := Lib.hid (by (repeat (first | exact World.grows.refl _ | assumption | refine World.grows.alloc ?_ _ | refine World.grows.plus ?_ _ _ | refine World.grows.drew ?_)))
  have q0 := cell_of_heap (i := 0) HB.out rfl
  have q1 := cell_of_heap (i := 1) HB.out rfl
  have q2 := cell_of_heap (i := 2) HB.out rfl
  go_wp2_with (go_at_call 99; fail)
  refine (fine_c _ _ t (HT.out.mono (HW.out.trans (by (repeat (first | exact World.grows.refl _ | assumption | refine World.grows.alloc ?_ _ | refine World.grows.plus ?_ _ _ | refine World.grows.drew ?_)))))).mono ?_
  rintro e U ⟨rfl, g⟩
  replace HW := Lib.hid (HW.out.trans (World.grows.trans (by (repeat (first | exact World.grows.refl _ | assumption | refine World.grows.alloc ?_ _ | refine World.grows.plus ?_ _ _ | refine World.grows.drew ?_))) g)); replace HB := Lib.hid (g.heap_of (World.grows.heap_of (by (repeat (first | exact World.grows.refl _ | assumption | refine World.grows.alloc ?_ _ | refine World.grows.plus ?_ _ _ | refine World.grows.drew ?_))) HB.out)); replace q0 := cell_of_heap (i := 0) HB.out rfl; replace q1 := cell_of_heap (i := 1) HB.out rfl; replace q2 := cell_of_heap (i := 2) HB.out rfl; replace HB1 := Lib.hid (g.heap_of (World.grows.heap_of (by (repeat (first | exact World.grows.refl _ | assumption | refine World.grows.alloc ?_ _ | refine World.grows.plus ?_ _ _ | refine World.grows.drew ?_))) HB1.out)); replace HB2 := Lib.hid (g.heap_of (World.grows.heap_of (by (repeat (first | exact World.grows.refl _ | assumption | refine World.grows.alloc ?_ _ | refine World.grows.plus ?_ _ _ | refine World.grows.drew ?_))) HB2.out)); clear g
  by_cases hfine : t.check = 0
  case neg =>
    rw [decide_eq_false hfine]
    go_wp2_with (go_at_call 99; fail); refine (works_c _).mono ?_; rintro e U9 ⟨rfl, g⟩; replace HW := Lib.hid (HW.out.trans (World.grows.trans (by (repeat (first | exact World.grows.refl _ | assumption | refine World.grows.alloc ?_ _ | refine World.grows.plus ?_ _ _ | refine World.grows.drew ?_))) g)); replace HB := Lib.hid (g.heap_of (World.grows.heap_of (by (repeat (first | exact World.grows.refl _ | assumption | refine World.grows.alloc ?_ _ | refine World.grows.plus ?_ _ _ | refine World.grows.drew ?_))) HB.out)); replace q0 := cell_of_heap (i := 0) HB.out rfl; replace q1 := cell_of_heap (i := 1) HB.out rfl; replace q2 := cell_of_heap (i := 2) HB.out rfl; replace HB1 := Lib.hid (g.heap_of (World.grows.heap_of (by (repeat (first | exact World.grows.refl _ | assumption | refine World.grows.alloc ?_ _ | refine World.grows.plus ?_ _ _ | refine World.grows.drew ?_))) HB1.out)); replace HB2 := Lib.hid (g.heap_of (World.grows.heap_of (by (repeat (first | exact World.grows.refl _ | assumption | refine World.grows.alloc ?_ _ | refine World.grows.plus ?_ _ _ | refine World.grows.drew ?_))) HB2.out)); clear g; go_wp2; (refine bodyPost_ret (v := .bool true) (by simp [results, Try.results9, go_sem]) rfl ?_); exact ⟨rfl, HW.out.trans (by (repeat (first | exact World.grows.refl _ | assumption | refine World.grows.alloc ?_ _ | refine World.grows.plus ?_ _ _ | refine World.grows.drew ?_)))⟩
  rw [decide_eq_true hfine]
  by_cases hn3 : N2 < 3
  · have hn3I : (N2 : Int) < 3 := by omega
    go_wp2_with (go_at_call 99; fail); refine (works_c _).mono ?_; rintro e U9 ⟨rfl, g⟩; replace HW := Lib.hid (HW.out.trans (World.grows.trans (by (repeat (first | exact World.grows.refl _ | assumption | refine World.grows.alloc ?_ _ | refine World.grows.plus ?_ _ _ | refine World.grows.drew ?_))) g)); replace HB := Lib.hid (g.heap_of (World.grows.heap_of (by (repeat (first | exact World.grows.refl _ | assumption | refine World.grows.alloc ?_ _ | refine World.grows.plus ?_ _ _ | refine World.grows.drew ?_))) HB.out)); replace q0 := cell_of_heap (i := 0) HB.out rfl; replace q1 := cell_of_heap (i := 1) HB.out rfl; replace q2 := cell_of_heap (i := 2) HB.out rfl; replace HB1 := Lib.hid (g.heap_of (World.grows.heap_of (by (repeat (first | exact World.grows.refl _ | assumption | refine World.grows.alloc ?_ _ | refine World.grows.plus ?_ _ _ | refine World.grows.drew ?_))) HB1.out)); replace HB2 := Lib.hid (g.heap_of (World.grows.heap_of (by (repeat (first | exact World.grows.refl _ | assumption | refine World.grows.alloc ?_ _ | refine World.grows.plus ?_ _ _ | refine World.grows.drew ?_))) HB2.out)); clear g; go_wp2; (refine bodyPost_ret (v := .bool true) (by simp [results, Try.results9, go_sem]) rfl ?_); exact ⟨rfl, HW.out.trans (by (repeat (first | exact World.grows.refl _ | assumption | refine World.grows.alloc ?_ _ | refine World.grows.plus ?_ _ _ | refine World.grows.drew ?_)))⟩
  have hn3I : ¬ (N2 : Int) < 3 := by omega
  have HFine := Lib.hid hfine
  have hok := t.ok_iff.1 hfine
  have h16 : N2 ≤ 16 := by rw [← HN2.out]; exact hok.v16
  obtain ⟨a, ha⟩ : ∃ x : Nat, x0 % N2 = x := ⟨_, rfl⟩
  obtain ⟨b, hb⟩ : ∃ x : Nat, x1 % N2 = x := ⟨_, rfl⟩
  obtain ⟨c, hc⟩ : ∃ x : Nat, x2 % N2 = x := ⟨_, rfl⟩
  have han : a < N2 := by rw [← ha]; exact Nat.mod_lt _ (by omega)
  have hbn : b < N2 := by rw [← hb]; exact Nat.mod_lt _ (by omega)
  have hcn : c < N2 := by rw [← hc]; exact Nat.mod_lt _ (by omega)
  have e1 := tmod_at ha
  have e2 := tmod_at hb
  have e3 := tmod_at hc
  have w1 : IntKind.i64.wrap (x0 : Int) = x0 := wrapI rfl (by omega)
  have w2 : IntKind.i64.wrap (x1 : Int) = x1 := wrapI rfl (by omega)
  have w3 : IntKind.i64.wrap (x2 : Int) = x2 := wrapI rfl (by omega)
  have k1 : ¬ (N2 : Int) = 0 := by omega
  have k3 : ¬ N2 = 0 := by omega
  have r0 := cell_of_heap (i := 0) HB1.out rfl
  have r1 := cell_of_heap (i := 1) HB1.out rfl
  have r2 := cell_of_heap (i := 2) HB1.out rfl
  clear ha hb hc hfine
  go_upto_region 3 with fail
  (refine wp_region_calm (by kernel_rfl) (by kernel_rfl) ?_; (repeat (refine wpCalm_step (fun K hK => ?_); go_simp; first | (refine hK _ ?_; clear hK K) | (apply Exists.intro; refine ⟨fun n' x' => ?_, hK _ ?_⟩; (fail); clear hK K))); refine wpCalm_nil ?_; intro nq xq)
  have g := World.grows_plus U nq xq
  replace HW := Lib.hid (HW.out.trans g)
  replace HB := Lib.hid (g.heap_of HB.out)
  replace HB2 := Lib.hid (g.heap_of HB2.out)
  clear g q0 q1 q2 r0 r1 r2 e1 e2 e3 w1 w2 w3 k1 k3 hn3I HB1
  generalize U.plus nq xq = U1 at HW HB HB2 ⊢
  have q0 := cell_of_heap (i := 0) HB.out rfl
  have q1 := cell_of_heap (i := 1) HB.out rfl
  have q2 := cell_of_heap (i := 2) HB.out rfl
  have hA : ∀ i k, i < N2 → k < N2 → ∀ W, TownAt W (.agg #[.int .i64 P0, .slice sa N1 sc, .slice va N2 vc]) t → Calls Try.prog 21 #[(.agg #[.int .i64 P0, .slice sa N1 sc, .slice va N2 vc]), .int .i64 (i : Nat), .int .i64 (k : Nat), .bool slow] W fun e w' => e = .returned (.tuple #[.bool (aft t slow i k), .int .i64 0]) ∧ W.grows w' := fun i k hi hk W ht => by
    have h1 := after_c W (.agg #[.int .i64 P0, .slice sa N1 sc, .slice va N2 vc]) t slow ht (i : Nat) (k : Nat)
    obtain ⟨z1, z2⟩ := aft_nat HFine.out slow (show i < t.nv by rw [HN2.out]; exact hi) (show k < t.nv by rw [HN2.out]; exact hk)
    rw [z1, z2] at h1
    exact h1
  have hab := hA a b han hbn
  have hbc := hA b c hbn hcn
  have hac := hA a c han hcn
  have hba := hA b a hbn han
  have hR := aft_rises hok slow
  rw [HN2.out] at hR
  have t1 : aft t slow a b = true → aft t slow b c = true → aft t slow a c = true := fun h1 h2 => hR.trans a b c han hbn hcn h1 h2
  have t2 : aft t slow a b = true → aft t slow b a = false := fun h1 => by
    cases h2 : aft t slow b a with
    | false => rfl
    | true =>
      have u1 := hR.up a b han hbn h1
      have u2 := hR.up b a hbn han h2
      omega
  obtain ⟨va1, hva1⟩ : ∃ x, aft t slow a b = x := ⟨_, rfl⟩
  obtain ⟨va2, hva2⟩ : ∃ x, aft t slow b c = x := ⟨_, rfl⟩
  obtain ⟨va3, hva3⟩ : ∃ x, aft t slow a c = x := ⟨_, rfl⟩
  obtain ⟨va4, hva4⟩ : ∃ x, aft t slow b a = x := ⟨_, rfl⟩
  rw [hva1] at hab t1 t2
  rw [hva2] at hbc t1
  rw [hva3] at hac t1
  rw [hva4] at hba t2
  have T1 := Lib.hid t1
  have T2 := Lib.hid t2
  clear hA hR t1 t2 hva1 hva2 hva3 hva4 hok
  go_wp2_with (go_at_call 99; fail)
  refine (hab _ (HT.out.mono (HW.out.trans (by (repeat (first | exact World.grows.refl _ | assumption | refine World.grows.alloc ?_ _ | refine World.grows.plus ?_ _ _ | refine World.grows.drew ?_)))))).mono ?_
  rintro e U2 ⟨rfl, g⟩
  replace HW := Lib.hid (HW.out.trans (World.grows.trans (by (repeat (first | exact World.grows.refl _ | assumption | refine World.grows.alloc ?_ _ | refine World.grows.plus ?_ _ _ | refine World.grows.drew ?_))) g)); replace HB := Lib.hid (g.heap_of (World.grows.heap_of (by (repeat (first | exact World.grows.refl _ | assumption | refine World.grows.alloc ?_ _ | refine World.grows.plus ?_ _ _ | refine World.grows.drew ?_))) HB.out)); replace HB2 := Lib.hid (g.heap_of (World.grows.heap_of (by (repeat (first | exact World.grows.refl _ | assumption | refine World.grows.alloc ?_ _ | refine World.grows.plus ?_ _ _ | refine World.grows.drew ?_))) HB2.out)); replace q0 := cell_of_heap (i := 0) HB.out rfl; replace q1 := cell_of_heap (i := 1) HB.out rfl; replace q2 := cell_of_heap (i := 2) HB.out rfl; clear g
  go_wp2_with (go_at_call 99; fail)
  refine (hbc _ (HT.out.mono (HW.out.trans (by (repeat (first | exact World.grows.refl _ | assumption | refine World.grows.alloc ?_ _ | refine World.grows.plus ?_ _ _ | refine World.grows.drew ?_)))))).mono ?_
  rintro e U3 ⟨rfl, g⟩
  replace HW := Lib.hid (HW.out.trans (World.grows.trans (by (repeat (first | exact World.grows.refl _ | assumption | refine World.grows.alloc ?_ _ | refine World.grows.plus ?_ _ _ | refine World.grows.drew ?_))) g)); replace HB := Lib.hid (g.heap_of (World.grows.heap_of (by (repeat (first | exact World.grows.refl _ | assumption | refine World.grows.alloc ?_ _ | refine World.grows.plus ?_ _ _ | refine World.grows.drew ?_))) HB.out)); replace HB2 := Lib.hid (g.heap_of (World.grows.heap_of (by (repeat (first | exact World.grows.refl _ | assumption | refine World.grows.alloc ?_ _ | refine World.grows.plus ?_ _ _ | refine World.grows.drew ?_))) HB2.out)); replace q0 := cell_of_heap (i := 0) HB.out rfl; replace q1 := cell_of_heap (i := 1) HB.out rfl; replace q2 := cell_of_heap (i := 2) HB.out rfl; clear g
  go_wp2_with (go_at_call 99; fail)
  refine (hac _ (HT.out.mono (HW.out.trans (by (repeat (first | exact World.grows.refl _ | assumption | refine World.grows.alloc ?_ _ | refine World.grows.plus ?_ _ _ | refine World.grows.drew ?_)))))).mono ?_
  rintro e U4 ⟨rfl, g⟩
  replace HW := Lib.hid (HW.out.trans (World.grows.trans (by (repeat (first | exact World.grows.refl _ | assumption | refine World.grows.alloc ?_ _ | refine World.grows.plus ?_ _ _ | refine World.grows.drew ?_))) g)); replace HB := Lib.hid (g.heap_of (World.grows.heap_of (by (repeat (first | exact World.grows.refl _ | assumption | refine World.grows.alloc ?_ _ | refine World.grows.plus ?_ _ _ | refine World.grows.drew ?_))) HB.out)); replace HB2 := Lib.hid (g.heap_of (World.grows.heap_of (by (repeat (first | exact World.grows.refl _ | assumption | refine World.grows.alloc ?_ _ | refine World.grows.plus ?_ _ _ | refine World.grows.drew ?_))) HB2.out)); replace q0 := cell_of_heap (i := 0) HB.out rfl; replace q1 := cell_of_heap (i := 1) HB.out rfl; replace q2 := cell_of_heap (i := 2) HB.out rfl; clear g
  go_wp2_with (go_at_call 99; fail)
  refine (hba _ (HT.out.mono (HW.out.trans (by (repeat (first | exact World.grows.refl _ | assumption | refine World.grows.alloc ?_ _ | refine World.grows.plus ?_ _ _ | refine World.grows.drew ?_)))))).mono ?_
  rintro e U5 ⟨rfl, g⟩
  replace HW := Lib.hid (HW.out.trans (World.grows.trans (by (repeat (first | exact World.grows.refl _ | assumption | refine World.grows.alloc ?_ _ | refine World.grows.plus ?_ _ _ | refine World.grows.drew ?_))) g)); replace HB := Lib.hid (g.heap_of (World.grows.heap_of (by (repeat (first | exact World.grows.refl _ | assumption | refine World.grows.alloc ?_ _ | refine World.grows.plus ?_ _ _ | refine World.grows.drew ?_))) HB.out)); replace HB2 := Lib.hid (g.heap_of (World.grows.heap_of (by (repeat (first | exact World.grows.refl _ | assumption | refine World.grows.alloc ?_ _ | refine World.grows.plus ?_ _ _ | refine World.grows.drew ?_))) HB2.out)); replace q0 := cell_of_heap (i := 0) HB.out rfl; replace q1 := cell_of_heap (i := 1) HB.out rfl; replace q2 := cell_of_heap (i := 2) HB.out rfl; clear g
  clear hab hbc hac hba
  go_upto_region 8 with fail
  go_cut [119] from 90 to 211 (fun s w' => s = .bool false ∧ Hid (U5.grows w'))
  case first =>
    cases va1 with
    | false =>
      clear T1 T2
      go_wp2
      go_meet
      exact ⟨rfl, Lib.hid (by (repeat (first | exact World.grows.refl _ | assumption | refine World.grows.alloc ?_ _ | refine World.grows.plus ?_ _ _ | refine World.grows.drew ?_)))⟩
    | true =>
      obtain rfl := T2.out rfl
      cases va2 with
      | false =>
        clear T1 T2
        go_wp2
        go_meet
        exact ⟨rfl, Lib.hid (by (repeat (first | exact World.grows.refl _ | assumption | refine World.grows.alloc ?_ _ | refine World.grows.plus ?_ _ _ | refine World.grows.drew ?_)))⟩
      | true =>
        obtain rfl := T1.out rfl rfl
        clear T1 T2
        go_wp2
        go_meet
        exact ⟨rfl, Lib.hid (by (repeat (first | exact World.grows.refl _ | assumption | refine World.grows.alloc ?_ _ | refine World.grows.plus ?_ _ _ | refine World.grows.drew ?_)))⟩
  case rest =>
    obtain ⟨rfl, hv⟩ := hcut
    have g := hv.out
    replace HW := Lib.hid (HW.out.trans g)
    replace HB := Lib.hid (g.heap_of HB.out)
    replace HB2 := Lib.hid (g.heap_of HB2.out)
    clear g q0 q1 q2 hv T1 T2 han hbn hcn
    have hok := t.ok_iff.1 HFine.out
    have hp1 := hok.p1
    have hp8 := hok.p8
    rw [HP0.out] at hp1 hp8
    obtain ⟨PN, rfl⟩ : ∃ PN : Nat, P0 = (PN : Int) := ⟨P0.toNat, by omega⟩
    obtain ⟨u, hu⟩ : ∃ x : Nat, y0 % PN = x := ⟨_, rfl⟩
    obtain ⟨v, hv⟩ : ∃ x : Nat, y1 % PN = x := ⟨_, rfl⟩
    obtain ⟨m, hm⟩ : ∃ x : Nat, y2 % PN = x := ⟨_, rfl⟩
    have hun : u < PN := by rw [← hu]; exact Nat.mod_lt _ (by omega)
    have hvn : v < PN := by rw [← hv]; exact Nat.mod_lt _ (by omega)
    have hmn : m < PN := by rw [← hm]; exact Nat.mod_lt _ (by omega)
    have e1 := tmod_at hu
    have e2 := tmod_at hv
    have e3 := tmod_at hm
    have w1 : IntKind.i64.wrap (y0 : Int) = y0 := wrapI rfl (by omega)
    have w2 : IntKind.i64.wrap (y1 : Int) = y1 := wrapI rfl (by omega)
    have w3 : IntKind.i64.wrap (y2 : Int) = y2 := wrapI rfl (by omega)
    have k1 : ¬ (PN : Int) = 0 := by omega
    have k3 : ¬ PN = 0 := by omega
    have q0 := cell_of_heap (i := 0) HB.out rfl
    have q1 := cell_of_heap (i := 1) HB.out rfl
    have q2 := cell_of_heap (i := 2) HB.out rfl
    have r0 := cell_of_heap (i := 0) HB2.out rfl
    have r1 := cell_of_heap (i := 1) HB2.out rfl
    have r2 := cell_of_heap (i := 2) HB2.out rfl
    have hW : ∀ i k, i < PN → k < PN → ∀ W, TownAt W (.agg #[.int .i64 (PN : Int), .slice sa N1 sc, .slice va N2 vc]) t → Calls Try.prog 17 #[(.agg #[.int .i64 (PN : Int), .slice sa N1 sc, .slice va N2 vc]), .int .i64 (i : Nat), .int .i64 (k : Nat), .bool slow] W fun e w' => e = .returned (.tuple #[.int .i64 (if dist t slow i k < nev then dist t slow i k else 0), .int .i64 ((if dist t slow i k < nev then 0 else 5 : Nat) : Int)]) ∧ W.grows w' := fun i k hi hk W ht => by
      have h1 := way_c W (.agg #[.int .i64 (PN : Int), .slice sa N1 sc, .slice va N2 vc]) t slow ht (i : Nat) (k : Nat)
      obtain ⟨z1, z2⟩ := way_nat HFine.out slow (a := i) (b := k) (by rw [HP0.out]; omega) (by rw [HP0.out]; omega)
      rw [z1, z2] at h1
      exact h1
    have c1 := hW u v hun hvn
    have c2 := hW u m hun hmn
    have c3 := hW m v hmn hvn
    have c4 := hW v u hvn hun
    have hD := dist_is hok slow
    have hs := hD.symm hok (a := v) (b := u) (by omega) (by omega)
    have ht := hD.tri u v m (by omega)
    have hp := hD.pos u v
    have hp2 := hD.pos u m
    have hp3 := hD.pos m v
    have ht1 := hD.top u v
    have ht2 := hD.top u m
    have ht3 := hD.top m v
    have hz : u = v → dist t slow u v = 0 := fun e => by rw [e]; exact hD.zero v
    have hone : u ≠ v → 1 ≤ dist t slow u v := fun e => dist_one hok slow e
    rw [hs] at c4
    obtain ⟨d1, hd1⟩ : ∃ x, dist t slow u v = x := ⟨_, rfl⟩
    obtain ⟨d2, hd2⟩ : ∃ x, dist t slow u m = x := ⟨_, rfl⟩
    obtain ⟨d3, hd3⟩ : ∃ x, dist t slow m v = x := ⟨_, rfl⟩
    have hnev : nev = 1099511627776 := rfl
    rw [hd1] at c1 c4 ht hp ht1 hz hone
    rw [hd2] at c2 ht hp2 ht2
    rw [hd3] at c3 ht hp3 ht3
    have HF := Lib.hid (And.intro hz hone)
    clear hu hv hm hD hs hd1 hd2 hd3 hW hz hone hp1 hp8 hok HP0
    go_upto_region 10 with fail
    (refine wp_region_calm (by kernel_rfl) (by kernel_rfl) ?_; (repeat (refine wpCalm_step (fun K hK => ?_); go_simp; first | (refine hK _ ?_; clear hK K) | (apply Exists.intro; refine ⟨fun n' x' => ?_, hK _ ?_⟩; (fail); clear hK K))); refine wpCalm_nil ?_; intro nq xq)
    have g := World.grows_plus wc nq xq
    replace HW := Lib.hid (HW.out.trans g)
    replace HB := Lib.hid (g.heap_of HB.out)
    clear g q0 q1 q2 r0 r1 r2 e1 e2 e3 w1 w2 w3 k1 k3 HB2
    generalize wc.plus nq xq = V1 at HW HB ⊢
    have q0 := cell_of_heap (i := 0) HB.out rfl
    have q1 := cell_of_heap (i := 1) HB.out rfl
    have q2 := cell_of_heap (i := 2) HB.out rfl
    by_cases hd : d2 < nev ∧ d3 < nev
    · have hd1 : d1 < nev := by omega
      rw [if_pos hd1, if_pos hd1] at c1 c4
      rw [if_pos hd.1, if_pos hd.1] at c2
      rw [if_pos hd.2, if_pos hd.2] at c3
      have hsum : wrap64 (d2 + d3) = d2 + d3 := by unfold wrap64; omega
      clear hd hd1 ht1 ht2 ht3 hp hp2 hp3
      go_wp2_with (go_at_call 99; fail)
      refine (c1 _ (HT.out.mono (HW.out.trans (by (repeat (first | exact World.grows.refl _ | assumption | refine World.grows.alloc ?_ _ | refine World.grows.plus ?_ _ _ | refine World.grows.drew ?_)))))).mono ?_
      rintro e V2 ⟨rfl, g⟩
      replace HW := Lib.hid (HW.out.trans (World.grows.trans (by (repeat (first | exact World.grows.refl _ | assumption | refine World.grows.alloc ?_ _ | refine World.grows.plus ?_ _ _ | refine World.grows.drew ?_))) g)); replace HB := Lib.hid (g.heap_of (World.grows.heap_of (by (repeat (first | exact World.grows.refl _ | assumption | refine World.grows.alloc ?_ _ | refine World.grows.plus ?_ _ _ | refine World.grows.drew ?_))) HB.out)); replace q0 := cell_of_heap (i := 0) HB.out rfl; replace q1 := cell_of_heap (i := 1) HB.out rfl; replace q2 := cell_of_heap (i := 2) HB.out rfl; clear g
      go_wp2_with (go_at_call 99; fail)
      refine (c2 _ (HT.out.mono (HW.out.trans (by (repeat (first | exact World.grows.refl _ | assumption | refine World.grows.alloc ?_ _ | refine World.grows.plus ?_ _ _ | refine World.grows.drew ?_)))))).mono ?_
      rintro e V3 ⟨rfl, g⟩
      replace HW := Lib.hid (HW.out.trans (World.grows.trans (by (repeat (first | exact World.grows.refl _ | assumption | refine World.grows.alloc ?_ _ | refine World.grows.plus ?_ _ _ | refine World.grows.drew ?_))) g)); replace HB := Lib.hid (g.heap_of (World.grows.heap_of (by (repeat (first | exact World.grows.refl _ | assumption | refine World.grows.alloc ?_ _ | refine World.grows.plus ?_ _ _ | refine World.grows.drew ?_))) HB.out)); replace q0 := cell_of_heap (i := 0) HB.out rfl; replace q1 := cell_of_heap (i := 1) HB.out rfl; replace q2 := cell_of_heap (i := 2) HB.out rfl; clear g
      go_wp2_with (go_at_call 99; fail)
      refine (c3 _ (HT.out.mono (HW.out.trans (by (repeat (first | exact World.grows.refl _ | assumption | refine World.grows.alloc ?_ _ | refine World.grows.plus ?_ _ _ | refine World.grows.drew ?_)))))).mono ?_
      rintro e V4 ⟨rfl, g⟩
      replace HW := Lib.hid (HW.out.trans (World.grows.trans (by (repeat (first | exact World.grows.refl _ | assumption | refine World.grows.alloc ?_ _ | refine World.grows.plus ?_ _ _ | refine World.grows.drew ?_))) g)); replace HB := Lib.hid (g.heap_of (World.grows.heap_of (by (repeat (first | exact World.grows.refl _ | assumption | refine World.grows.alloc ?_ _ | refine World.grows.plus ?_ _ _ | refine World.grows.drew ?_))) HB.out)); replace q0 := cell_of_heap (i := 0) HB.out rfl; replace q1 := cell_of_heap (i := 1) HB.out rfl; replace q2 := cell_of_heap (i := 2) HB.out rfl; clear g
      go_wp2_with (go_at_call 99; fail)
      refine (c4 _ (HT.out.mono (HW.out.trans (by (repeat (first | exact World.grows.refl _ | assumption | refine World.grows.alloc ?_ _ | refine World.grows.plus ?_ _ _ | refine World.grows.drew ?_)))))).mono ?_
      rintro e V5 ⟨rfl, g⟩
      replace HW := Lib.hid (HW.out.trans (World.grows.trans (by (repeat (first | exact World.grows.refl _ | assumption | refine World.grows.alloc ?_ _ | refine World.grows.plus ?_ _ _ | refine World.grows.drew ?_))) g)); replace HB := Lib.hid (g.heap_of (World.grows.heap_of (by (repeat (first | exact World.grows.refl _ | assumption | refine World.grows.alloc ?_ _ | refine World.grows.plus ?_ _ _ | refine World.grows.drew ?_))) HB.out)); replace q0 := cell_of_heap (i := 0) HB.out rfl; replace q1 := cell_of_heap (i := 1) HB.out rfl; replace q2 := cell_of_heap (i := 2) HB.out rfl; clear g
      clear c1 c2 c3 c4
      by_cases huv : u = v
      · have hz := HF.out.1 huv
        subst huv
        subst hz
        clear HF
        go_wp2_with (go_at_call 99; fail)
        refine (works_c _).mono ?_; rintro e U9 ⟨rfl, g⟩; replace HW := Lib.hid (HW.out.trans (World.grows.trans (by (repeat (first | exact World.grows.refl _ | assumption | refine World.grows.alloc ?_ _ | refine World.grows.plus ?_ _ _ | refine World.grows.drew ?_))) g)); replace HB := Lib.hid (g.heap_of (World.grows.heap_of (by (repeat (first | exact World.grows.refl _ | assumption | refine World.grows.alloc ?_ _ | refine World.grows.plus ?_ _ _ | refine World.grows.drew ?_))) HB.out)); replace q0 := cell_of_heap (i := 0) HB.out rfl; replace q1 := cell_of_heap (i := 1) HB.out rfl; replace q2 := cell_of_heap (i := 2) HB.out rfl; clear g; go_wp2; (refine bodyPost_ret (v := .bool true) (by simp [results, Try.results9, go_sem]) rfl ?_); exact ⟨rfl, HW.out.trans (by (repeat (first | exact World.grows.refl _ | assumption | refine World.grows.alloc ?_ _ | refine World.grows.plus ?_ _ _ | refine World.grows.drew ?_)))⟩
      · have hz := HF.out.2 huv
        have hz1 : ¬ d1 = 0 := by omega
        have huvI : ¬ (u : Int) = v := by omega
        have hdz : (d1 == 0) = false := by simpa using hz1
        have hduv : ((u : Int) == (v : Int)) = false := beq_eq_false_iff_ne.2 huvI
        clear HF
        go_wp2_with (go_at_call 99; fail)
        refine (works_c _).mono ?_; rintro e U9 ⟨rfl, g⟩; replace HW := Lib.hid (HW.out.trans (World.grows.trans (by (repeat (first | exact World.grows.refl _ | assumption | refine World.grows.alloc ?_ _ | refine World.grows.plus ?_ _ _ | refine World.grows.drew ?_))) g)); replace HB := Lib.hid (g.heap_of (World.grows.heap_of (by (repeat (first | exact World.grows.refl _ | assumption | refine World.grows.alloc ?_ _ | refine World.grows.plus ?_ _ _ | refine World.grows.drew ?_))) HB.out)); replace q0 := cell_of_heap (i := 0) HB.out rfl; replace q1 := cell_of_heap (i := 1) HB.out rfl; replace q2 := cell_of_heap (i := 2) HB.out rfl; clear g; go_wp2; (refine bodyPost_ret (v := .bool true) (by simp [results, Try.results9, go_sem]) rfl ?_); exact ⟨rfl, HW.out.trans (by (repeat (first | exact World.grows.refl _ | assumption | refine World.grows.alloc ?_ _ | refine World.grows.plus ?_ _ _ | refine World.grows.drew ?_)))⟩
    · obtain ⟨E1, hE1⟩ : ∃ x : Nat, (if d1 < nev then 0 else 5) = x := ⟨_, rfl⟩
      obtain ⟨p1, hp1⟩ : ∃ x : Int, (if d1 < nev then d1 else 0) = x := ⟨_, rfl⟩
      obtain ⟨E2, hE2⟩ : ∃ x : Nat, (if d2 < nev then 0 else 5) = x := ⟨_, rfl⟩
      obtain ⟨p2, hp2⟩ : ∃ x : Int, (if d2 < nev then d2 else 0) = x := ⟨_, rfl⟩
      obtain ⟨E3, hE3⟩ : ∃ x : Nat, (if d3 < nev then 0 else 5) = x := ⟨_, rfl⟩
      obtain ⟨p3, hp3⟩ : ∃ x : Int, (if d3 < nev then d3 else 0) = x := ⟨_, rfl⟩
      have hE : E2 = 0 → ¬ (E3 : Int) = 0 := fun h => by
        rw [← hE2] at h
        rw [← hE3]
        split at h
        · rename_i h1
          rw [if_neg (fun h2 => hd ⟨h1, h2⟩)]; decide
        · cases h
      rw [hE1, hp1] at c1 c4
      rw [hE2, hp2] at c2
      rw [hE3, hp3] at c3
      clear hd hE1 hE2 hE3 hp1 hp2 hp3 ht1 ht2 ht3 hp ht HF
      go_wp2_with (go_at_call 99; fail)
      refine (c1 _ (HT.out.mono (HW.out.trans (by (repeat (first | exact World.grows.refl _ | assumption | refine World.grows.alloc ?_ _ | refine World.grows.plus ?_ _ _ | refine World.grows.drew ?_)))))).mono ?_
      rintro e V2 ⟨rfl, g⟩
      replace HW := Lib.hid (HW.out.trans (World.grows.trans (by (repeat (first | exact World.grows.refl _ | assumption | refine World.grows.alloc ?_ _ | refine World.grows.plus ?_ _ _ | refine World.grows.drew ?_))) g)); replace HB := Lib.hid (g.heap_of (World.grows.heap_of (by (repeat (first | exact World.grows.refl _ | assumption | refine World.grows.alloc ?_ _ | refine World.grows.plus ?_ _ _ | refine World.grows.drew ?_))) HB.out)); replace q0 := cell_of_heap (i := 0) HB.out rfl; replace q1 := cell_of_heap (i := 1) HB.out rfl; replace q2 := cell_of_heap (i := 2) HB.out rfl; clear g
      go_wp2_with (go_at_call 99; fail)
      refine (c2 _ (HT.out.mono (HW.out.trans (by (repeat (first | exact World.grows.refl _ | assumption | refine World.grows.alloc ?_ _ | refine World.grows.plus ?_ _ _ | refine World.grows.drew ?_)))))).mono ?_
      rintro e V3 ⟨rfl, g⟩
      replace HW := Lib.hid (HW.out.trans (World.grows.trans (by (repeat (first | exact World.grows.refl _ | assumption | refine World.grows.alloc ?_ _ | refine World.grows.plus ?_ _ _ | refine World.grows.drew ?_))) g)); replace HB := Lib.hid (g.heap_of (World.grows.heap_of (by (repeat (first | exact World.grows.refl _ | assumption | refine World.grows.alloc ?_ _ | refine World.grows.plus ?_ _ _ | refine World.grows.drew ?_))) HB.out)); replace q0 := cell_of_heap (i := 0) HB.out rfl; replace q1 := cell_of_heap (i := 1) HB.out rfl; replace q2 := cell_of_heap (i := 2) HB.out rfl; clear g
      go_wp2_with (go_at_call 99; fail)
      refine (c3 _ (HT.out.mono (HW.out.trans (by (repeat (first | exact World.grows.refl _ | assumption | refine World.grows.alloc ?_ _ | refine World.grows.plus ?_ _ _ | refine World.grows.drew ?_)))))).mono ?_
      rintro e V4 ⟨rfl, g⟩
      replace HW := Lib.hid (HW.out.trans (World.grows.trans (by (repeat (first | exact World.grows.refl _ | assumption | refine World.grows.alloc ?_ _ | refine World.grows.plus ?_ _ _ | refine World.grows.drew ?_))) g)); replace HB := Lib.hid (g.heap_of (World.grows.heap_of (by (repeat (first | exact World.grows.refl _ | assumption | refine World.grows.alloc ?_ _ | refine World.grows.plus ?_ _ _ | refine World.grows.drew ?_))) HB.out)); replace q0 := cell_of_heap (i := 0) HB.out rfl; replace q1 := cell_of_heap (i := 1) HB.out rfl; replace q2 := cell_of_heap (i := 2) HB.out rfl; clear g
      go_wp2_with (go_at_call 99; fail)
      refine (c4 _ (HT.out.mono (HW.out.trans (by (repeat (first | exact World.grows.refl _ | assumption | refine World.grows.alloc ?_ _ | refine World.grows.plus ?_ _ _ | refine World.grows.drew ?_)))))).mono ?_
      rintro e V5 ⟨rfl, g⟩
      replace HW := Lib.hid (HW.out.trans (World.grows.trans (by (repeat (first | exact World.grows.refl _ | assumption | refine World.grows.alloc ?_ _ | refine World.grows.plus ?_ _ _ | refine World.grows.drew ?_))) g)); replace HB := Lib.hid (g.heap_of (World.grows.heap_of (by (repeat (first | exact World.grows.refl _ | assumption | refine World.grows.alloc ?_ _ | refine World.grows.plus ?_ _ _ | refine World.grows.drew ?_))) HB.out)); replace q0 := cell_of_heap (i := 0) HB.out rfl; replace q1 := cell_of_heap (i := 1) HB.out rfl; replace q2 := cell_of_heap (i := 2) HB.out rfl; clear g
      clear c1 c2 c3 c4
      by_cases hE0 : E2 = 0
      · have hE3 := hE hE0
        subst hE0
        clear hE
        go_wp2_with (go_at_call 99; fail)
        refine (works_c _).mono ?_; rintro e U9 ⟨rfl, g⟩; replace HW := Lib.hid (HW.out.trans (World.grows.trans (by (repeat (first | exact World.grows.refl _ | assumption | refine World.grows.alloc ?_ _ | refine World.grows.plus ?_ _ _ | refine World.grows.drew ?_))) g)); replace HB := Lib.hid (g.heap_of (World.grows.heap_of (by (repeat (first | exact World.grows.refl _ | assumption | refine World.grows.alloc ?_ _ | refine World.grows.plus ?_ _ _ | refine World.grows.drew ?_))) HB.out)); replace q0 := cell_of_heap (i := 0) HB.out rfl; replace q1 := cell_of_heap (i := 1) HB.out rfl; replace q2 := cell_of_heap (i := 2) HB.out rfl; clear g; go_wp2; (refine bodyPost_ret (v := .bool true) (by simp [results, Try.results9, go_sem]) rfl ?_); exact ⟨rfl, HW.out.trans (by (repeat (first | exact World.grows.refl _ | assumption | refine World.grows.alloc ?_ _ | refine World.grows.plus ?_ _ _ | refine World.grows.drew ?_)))⟩
      · have hE0I : ¬ (E2 : Int) = 0 := by omega
        clear hE
        go_wp2_with (go_at_call 99; fail)
        refine (works_c _).mono ?_; rintro e U9 ⟨rfl, g⟩; replace HW := Lib.hid (HW.out.trans (World.grows.trans (by (repeat (first | exact World.grows.refl _ | assumption | refine World.grows.alloc ?_ _ | refine World.grows.plus ?_ _ _ | refine World.grows.drew ?_))) g)); replace HB := Lib.hid (g.heap_of (World.grows.heap_of (by (repeat (first | exact World.grows.refl _ | assumption | refine World.grows.alloc ?_ _ | refine World.grows.plus ?_ _ _ | refine World.grows.drew ?_))) HB.out)); replace q0 := cell_of_heap (i := 0) HB.out rfl; replace q1 := cell_of_heap (i := 1) HB.out rfl; replace q2 := cell_of_heap (i := 2) HB.out rfl; clear g; go_wp2; (refine bodyPost_ret (v := .bool true) (by simp [results, Try.results9, go_sem]) rfl ?_); exact ⟨rfl, HW.out.trans (by (repeat (first | exact World.grows.refl _ | assumption | refine World.grows.alloc ?_ _ | refine World.grows.plus ?_ _ _ | refine World.grows.drew ?_)))⟩
end Go.Proofs.Ytaanbdjmibjcbaa

/-
  What is proved: the statement RoundOrdered, at every input.
-/
namespace Go.Proofs.Ytaanbdjmibjcbaa
open Go.ChangeShapes Go.WideShapes Go.ChangeAt Go.RowKit

set_option maxRecDepth 100000 in
theorem roundOrdered_lifted (os : Os) (started : os.Started) (H : Type) (enc : TypeId × Value → H) :
    ReturnsInHanded {} Try.checked os 9 .any (Rows.roundOrderedSpec.pre6 enc Try.prog Try.f9 Rows.roundOrderedRow.domain false) (Rows.roundOrderedSpec.post enc Try.prog Try.f9 false true false false) := by
  refine law_lifted (C := Try.checked) (tb := 4) started own_c laid_c (by kernel_rfl) Try.func9 (of_decide_eq_true (by kernel_rfl))
    (ChangeSpec.witness6 (enc := enc) (C := Try.checked) false ⟨#[], #[.agg #[.int .i64 0, .slice none 0 0, .slice none 0 0], .agg #[.int .u8 0, .int .u8 0, .int .u8 0], .agg #[.int .u8 0, .int .u8 0, .int .u8 0], .bool false], []⟩ 8 (by kernel_rfl) (by kernel_rfl) (by kernel_rfl) (by kernel_rfl))
    rfl Try.underlying4 rfl (fun ds hl => ?_) (fun W base args ds ps hval hA => ?_)
  · match ds, hl with
    | [d1, d2, d3, d4], _ => exact ⟨rfl, rfl, rfl⟩
  · have hA' : DataW.TrodAll enc Try.prog W 0 (fun _ => true) true Try.f9.params.toList args.toList ds ps := hA
    have hval' : ∀ (j : Nat) t v, Try.f9.params[j]? = some t → args[j]? = some v → Value.okWide Try.prog W .any base t v := hval
    rw [Try.params9] at hA' hval'
    obtain ⟨v1, v2, v3, v4, d1, d2, d3, d4, p1, p2, p3, p4, rfl, rfl, rfl, h1, h2, h3, h4⟩ := trodAll_four hA'
    obtain ⟨t1, ht1⟩ := town_of (hval' 0 25 v1 rfl rfl) h1
    obtain ⟨a2, b2, c2, rfl, k2⟩ := three_of (hval' 1 52 v2 rfl rfl) h2
    obtain ⟨a3, b3, c3, rfl, k3⟩ := three_of (hval' 2 52 v3 rfl rfl) h3
    obtain ⟨z4, rfl, -⟩ := open_bool Try.underlying4 (hval' 3 4 v4 rfl rfl) h4
    exact ordered_w W v1 t1 ht1 a2 b2 c2 a3 b3 c3 k2 k3 z4

theorem roundOrdered_holds : Rows.RoundOrderedSaid :=
  OpenClaim.holds_of_wide 9 Try.f9 rfl rfl rfl rfl rfl rfl rfl ⟨rfl, rfl, rfl, rfl, rfl⟩ rfl rfl rfl rfl rfl (by kernel_rfl) Try.func9 (by kernel_rfl)
    (of_decide_eq_true (by kernel_rfl)) (by unfold Func.isWrapper; first | (rw [if_pos (by decide +kernel)]; kernel_rfl) | (rw [if_neg (by decide +kernel)]; exact ⟨rfl, rfl⟩))
    (fun os started H enc _ => roundOrdered_lifted os started H enc)
end Go.Proofs.Ytaanbdjmibjcbaa

