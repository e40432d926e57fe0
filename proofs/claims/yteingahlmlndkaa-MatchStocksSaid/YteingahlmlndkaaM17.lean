/-
  What is proved: MatchStocks (3) answers true.
-/
import Derived.Test.YteingahlmlndkaaM16
import Derived.Test.YteingahlmlndkaaM13
import Derived.Test.YteingahlmlndkaaM6
set_option linter.all false
namespace Go.Proofs.Yteingahlmlndkaa
open Go.RowKit
attribute [local irreducible] Go.wpCalm rowV
/-- rows that two functions answer -/
def GrpTwo (U : World) (a b : Value) : Prop := ∃ A c A' c' n, a = .slice A n c ∧ b = .slice A' n c' ∧ ∀ W, U.grows W → Calls Try.prog 25 #[a, b] W fun e w' => e = .returned (.bool true) ∧ W.grows w'
theorem grpTwo_nil (U : World) : GrpTwo U (.slice none 0 0) (.slice none 0 0) := ⟨none, 0, none, 0, 0, rfl, rfl, fun W _ => by
  have h : RowsN W (.slice none 0 0) 0 (fun _ => 0) (fun _ _ => 0) := ⟨fun _ => undef, SliceAt.none, fun i hi => by omega⟩
  have := lists_c W _ _ 0 0 _ _ _ _ h h
  exact this⟩
theorem grpTwo_of {U : World} {a b : Value} {R : List (List Nat)} {vals vals' : List Value} (ha : OutR U a R vals) (hb : OutR U b R vals') : GrpTwo U a b := by
  obtain ⟨A, c, rfl, -⟩ := id ha
  obtain ⟨A', c', rfl, -⟩ := id hb
  exact ⟨A, c, A', c', _, rfl, rfl, fun W g => w_lists (ha.grow g) (hb.grow g)⟩
theorem GrpTwo.mono {U W : World} {a b : Value} (h : GrpTwo U a b) (g : U.grows W) : GrpTwo W a b := by
  obtain ⟨A, c, A', c', n, rfl, rfl, h⟩ := h
  exact ⟨A, c, A', c', n, rfl, rfl, fun W' g' => h W' (g.trans g')⟩
/-- both functions' groups -/
theorem groups_two (w : World) (v : Value) (s : Stk) (ht : StkAt w v s) (lv : Value) (m : Nat) (f : Nat → Int) (hl : IntsAt w lv m f) : ∃ E : Nat, Calls Try.prog 17 #[v, lv] w fun e w' => (∃ a, e = .returned (.tuple #[a, .int .i64 (E : Nat)]) ∧ (∀ W, w'.grows W → Calls Try.prog 18 #[v, lv] W fun e2 W' => ∃ b, e2 = .returned (.tuple #[b, .int .i64 (E : Nat)]) ∧ GrpTwo W' a b ∧ W.grows W')) ∧ w.grows w' := by
  by_cases hc : s.check = 0
  · have hok := (Stk.ok_iff s).1 hc
    cases hg : grpOk s f m with
    | false =>
      refine ⟨3, (groups_ok w v s ht hok lv m f hl).mono ?_⟩
      rintro e w' ⟨g, hp⟩
      rw [hg, if_neg Bool.false_ne_true] at hp
      refine ⟨⟨_, hp, fun W gW => (rgrp_ok W v s (ht.mono (g.trans gW)) hok lv m f (IntsAt.mono hl (g.trans gW))).mono ?_⟩, g⟩
      rintro e2 W' ⟨g2, hp2⟩
      rw [hg, if_neg Bool.false_ne_true] at hp2
      exact ⟨_, hp2, grpTwo_nil _, g2⟩
    | true =>
      refine ⟨0, (groups_ok w v s ht hok lv m f hl).mono ?_⟩
      rintro e w' ⟨g, hp⟩
      rw [hg, if_pos rfl] at hp
      obtain ⟨u, vals, rfl, hr⟩ := hp
      refine ⟨⟨u, rfl, fun W gW => (rgrp_ok W v s (ht.mono (g.trans gW)) hok lv m f (IntsAt.mono hl (g.trans gW))).mono ?_⟩, g⟩
      rintro e2 W' ⟨g2, hp2⟩
      rw [hg, if_pos rfl] at hp2
      obtain ⟨u2, vals2, rfl, hr2⟩ := hp2
      exact ⟨u2, rfl, grpTwo_of (hr.grow (gW.trans g2)) hr2, g2⟩
  · refine ⟨s.check, (groups_bad w v s ht lv hc).mono ?_⟩
    rintro e w' ⟨rfl, g⟩
    refine ⟨⟨_, rfl, fun W gW => (rgrp_bad W v s (ht.mono (g.trans gW)) lv hc).mono ?_⟩, g⟩
    rintro e2 W' ⟨rfl, g2⟩
    exact ⟨_, rfl, grpTwo_nil _, g2⟩
/-- both functions' answers about a pairing -/
theorem pairing_two (s : Stk) (m : Nat) (f : Nat → Int) : ∃ N E : Nat, (∀ w v lv, StkAt w v s → IntsAt w lv m f → Calls Try.prog 19 #[v, lv] w fun e w' => e = .returned (.tuple #[.int .i64 (N : Nat), .int .i64 (E : Nat)]) ∧ w.grows w') ∧ ∀ w v lv, StkAt w v s → IntsAt w lv m f → Calls Try.prog 20 #[v, lv] w fun e w' => e = .returned (.tuple #[.int .i64 (N : Nat), .int .i64 (E : Nat)]) ∧ w.grows w' := by
  by_cases hc : s.check = 0
  · have hok := (Stk.ok_iff s).1 hc
    exact ⟨_, _, fun w v lv h1 h2 => pairing_ok w v s h1 hok lv m f h2, fun w v lv h1 h2 => rpairing_ok w v s h1 hok lv m f h2⟩
  · exact ⟨0, s.check, fun w v lv h1 h2 => pairing_bad w v s h1 lv hc, fun w v lv h1 h2 => rpairing_bad w v s h1 lv hc⟩
/-- both functions' answers about a cut -/
theorem cut_two (s : Stk) (m : Nat) (f : Nat → Int) (hm : m ≤ 100) : ∃ N E : Nat, (∀ w v lv, StkAt w v s → IntsAt w lv m f → Calls Try.prog 21 #[v, lv] w fun e w' => e = .returned (.tuple #[.int .i64 (N : Nat), .int .i64 (E : Nat)]) ∧ w.grows w') ∧ ∀ w v lv, StkAt w v s → IntsAt w lv m f → Calls Try.prog 22 #[v, lv] w fun e w' => e = .returned (.tuple #[.int .i64 (N : Nat), .int .i64 (E : Nat)]) ∧ w.grows w' := by
  by_cases hc : s.check = 0
  · have hok := (Stk.ok_iff s).1 hc
    cases hg : grpOk s f m with
    | false =>
      refine ⟨0, 3, fun w v lv h1 h2 => (ccut_ok w v s h1 hok lv m f h2 hm).mono ?_, fun w v lv h1 h2 => (rcut_ok w v s h1 hok lv m f h2 hm).mono ?_⟩ <;>
      · rintro e w' ⟨g, hp⟩
        rw [hg, if_neg Bool.false_ne_true] at hp
        exact ⟨hp, g⟩
    | true =>
      refine ⟨cutN s f m, 0, fun w v lv h1 h2 => (ccut_ok w v s h1 hok lv m f h2 hm).mono ?_, fun w v lv h1 h2 => (rcut_ok w v s h1 hok lv m f h2 hm).mono ?_⟩ <;>
      · rintro e w' ⟨g, hp⟩
        rw [hg, if_pos rfl] at hp
        exact ⟨hp, g⟩
  · exact ⟨0, s.check, fun w v lv h1 h2 => ccut_bad w v s h1 lv hc, fun w v lv h1 h2 => rcut_bad w v s h1 lv hc⟩
set_option maxRecDepth 100000 in
set_option maxHeartbeats 8000000 in
theorem stocks_w (w : World) (tv : Value) (s : Stk) (ht : StkAt w tv s) (x y : Int) (v4 : Value) (m4 : Nat) (f4 : Nat → Int) (h4 : IntsAt w v4 m4 f4) (v5 : Value) (m5 : Nat) (f5 : Nat → Int) (h5 : IntsAt w v5 m5 f5) : Calls Try.prog 3 #[tv, .int .i64 x, .int .i64 y, v4, v5] w fun e w' => e = .returned (.bool true) ∧ w.grows w' := by
  have HT := Lib.hid ht
  have H4 := Lib.hid h4
  have H5 := Lib.hid h5
  obtain ⟨sv, vv, rfl, ⟨sa, sc, rfl, -⟩, ⟨va, vc, rfl, -⟩⟩ := ht
  obtain ⟨a4, c4, rfl, -⟩ := h4
  obtain ⟨a5, c5, rfl, -⟩ := h5
  obtain ⟨P, hP⟩ : ∃ P, s.wide = P := ⟨_, rfl⟩
  obtain ⟨N1, hN1⟩ : ∃ N, s.nt = N := ⟨_, rfl⟩
  obtain ⟨N2, hN2⟩ : ∃ N, s.nm = N := ⟨_, rfl⟩
  rw [hP, hN1, hN2] at HT ⊢
  clear hP hN1 hN2
  go_enter Try.func3, Try.ntmps3
  have HB : Hid ((w.alloc (.cells #[.slice sa N1 sc, .slice va N2 vc, .int .i64 P] 25)).heap[w.heap.size]? = some (.cells #[.slice sa N1 sc, .slice va N2 vc, .int .i64 P] 25)) := Lib.hid (World.heap_at _ _ _ rfl)
  have HW : Hid (w.grows (w.alloc (.cells #[.slice sa N1 sc, .slice va N2 vc, .int .i64 P] 25))) := Lib.hid (by (repeat (first | exact World.grows.refl _ | assumption | refine World.grows.alloc ?_ _ | refine World.grows.plus ?_ _ _ | refine World.grows.drew ?_)))
  have q0 := cell_of_heap (i := 0) HB.out rfl
  have q1 := cell_of_heap (i := 1) HB.out rfl
  have q2 := cell_of_heap (i := 2) HB.out rfl
  go_wp2_with (go_at_call 99; fail)
  refine (great_c _ _ s (HT.out.mono (HW.out.trans (by (repeat (first | exact World.grows.refl _ | assumption | refine World.grows.alloc ?_ _ | refine World.grows.plus ?_ _ _ | refine World.grows.drew ?_)))))).mono ?_
  rintro e U ⟨rfl, g⟩
  replace HW := Lib.hid (HW.out.trans (World.grows.trans (by (repeat (first | exact World.grows.refl _ | assumption | refine World.grows.alloc ?_ _ | refine World.grows.plus ?_ _ _ | refine World.grows.drew ?_))) g)); replace HB := Lib.hid (g.heap_of (World.grows.heap_of (by (repeat (first | exact World.grows.refl _ | assumption | refine World.grows.alloc ?_ _ | refine World.grows.plus ?_ _ _ | refine World.grows.drew ?_))) HB.out)); replace q0 := cell_of_heap (i := 0) HB.out rfl; replace q1 := cell_of_heap (i := 1) HB.out rfl; replace q2 := cell_of_heap (i := 2) HB.out rfl; clear g
  cases hgr : s.great with
  | true => go_wp2_with (go_at_call 99; fail); refine (works_c _).mono ?_; rintro e U9 ⟨rfl, g⟩; replace HW := Lib.hid (HW.out.trans (World.grows.trans (by (repeat (first | exact World.grows.refl _ | assumption | refine World.grows.alloc ?_ _ | refine World.grows.plus ?_ _ _ | refine World.grows.drew ?_))) g)); replace HB := Lib.hid (g.heap_of (World.grows.heap_of (by (repeat (first | exact World.grows.refl _ | assumption | refine World.grows.alloc ?_ _ | refine World.grows.plus ?_ _ _ | refine World.grows.drew ?_))) HB.out)); replace q0 := cell_of_heap (i := 0) HB.out rfl; replace q1 := cell_of_heap (i := 1) HB.out rfl; replace q2 := cell_of_heap (i := 2) HB.out rfl; clear g; go_wp2; (refine bodyPost_ret (v := .bool true) (by simp [results, Try.results3, go_sem]) rfl ?_); exact ⟨rfl, HW.out.trans (by (repeat (first | exact World.grows.refl _ | assumption | refine World.grows.alloc ?_ _ | refine World.grows.plus ?_ _ _ | refine World.grows.drew ?_)))⟩
  | false =>
    clear hgr
    by_cases hm4 : 40 < m4
    · have hI : (40 : Int) < m4 := by omega
      go_wp2_with (go_at_call 99; fail); refine (works_c _).mono ?_; rintro e U9 ⟨rfl, g⟩; replace HW := Lib.hid (HW.out.trans (World.grows.trans (by (repeat (first | exact World.grows.refl _ | assumption | refine World.grows.alloc ?_ _ | refine World.grows.plus ?_ _ _ | refine World.grows.drew ?_))) g)); replace HB := Lib.hid (g.heap_of (World.grows.heap_of (by (repeat (first | exact World.grows.refl _ | assumption | refine World.grows.alloc ?_ _ | refine World.grows.plus ?_ _ _ | refine World.grows.drew ?_))) HB.out)); replace q0 := cell_of_heap (i := 0) HB.out rfl; replace q1 := cell_of_heap (i := 1) HB.out rfl; replace q2 := cell_of_heap (i := 2) HB.out rfl; clear g; go_wp2; (refine bodyPost_ret (v := .bool true) (by simp [results, Try.results3, go_sem]) rfl ?_); exact ⟨rfl, HW.out.trans (by (repeat (first | exact World.grows.refl _ | assumption | refine World.grows.alloc ?_ _ | refine World.grows.plus ?_ _ _ | refine World.grows.drew ?_)))⟩
    · have hI : ¬ (40 : Int) < m4 := by omega
      by_cases hm5 : 40 < m5
      · have hI5 : (40 : Int) < m5 := by omega
        go_wp2_with (go_at_call 99; fail); refine (works_c _).mono ?_; rintro e U9 ⟨rfl, g⟩; replace HW := Lib.hid (HW.out.trans (World.grows.trans (by (repeat (first | exact World.grows.refl _ | assumption | refine World.grows.alloc ?_ _ | refine World.grows.plus ?_ _ _ | refine World.grows.drew ?_))) g)); replace HB := Lib.hid (g.heap_of (World.grows.heap_of (by (repeat (first | exact World.grows.refl _ | assumption | refine World.grows.alloc ?_ _ | refine World.grows.plus ?_ _ _ | refine World.grows.drew ?_))) HB.out)); replace q0 := cell_of_heap (i := 0) HB.out rfl; replace q1 := cell_of_heap (i := 1) HB.out rfl; replace q2 := cell_of_heap (i := 2) HB.out rfl; clear g; go_wp2; (refine bodyPost_ret (v := .bool true) (by simp [results, Try.results3, go_sem]) rfl ?_); exact ⟨rfl, HW.out.trans (by (repeat (first | exact World.grows.refl _ | assumption | refine World.grows.alloc ?_ _ | refine World.grows.plus ?_ _ _ | refine World.grows.drew ?_)))⟩
      · have hI5 : ¬ (40 : Int) < m5 := by omega
        obtain ⟨sx, hsx⟩ : ∃ z, suitX s x y = z := ⟨_, rfl⟩
        obtain ⟨se, hse⟩ : ∃ z, twoE s x y = z := ⟨_, rfl⟩
        have h15 := fun W ht => suit_c W (.agg #[.slice sa N1 sc, .slice va N2 vc, .int .i64 P]) s ht x y
        have h16 := fun W ht => rsuit_c W (.agg #[.slice sa N1 sc, .slice va N2 vc, .int .i64 P]) s ht x y
        rw [hsx, hse] at h15 h16
        clear hsx hse
        go_wp2_with (go_at_call 99; fail)
        refine (h15 _ (HT.out.mono (HW.out.trans (by (repeat (first | exact World.grows.refl _ | assumption | refine World.grows.alloc ?_ _ | refine World.grows.plus ?_ _ _ | refine World.grows.drew ?_)))))).mono ?_
        rintro e U2 ⟨rfl, g⟩
        replace HW := Lib.hid (HW.out.trans (World.grows.trans (by (repeat (first | exact World.grows.refl _ | assumption | refine World.grows.alloc ?_ _ | refine World.grows.plus ?_ _ _ | refine World.grows.drew ?_))) g)); replace HB := Lib.hid (g.heap_of (World.grows.heap_of (by (repeat (first | exact World.grows.refl _ | assumption | refine World.grows.alloc ?_ _ | refine World.grows.plus ?_ _ _ | refine World.grows.drew ?_))) HB.out)); replace q0 := cell_of_heap (i := 0) HB.out rfl; replace q1 := cell_of_heap (i := 1) HB.out rfl; replace q2 := cell_of_heap (i := 2) HB.out rfl; clear g
        go_wp2_with (go_at_call 99; fail)
        refine (h16 _ (HT.out.mono (HW.out.trans (by (repeat (first | exact World.grows.refl _ | assumption | refine World.grows.alloc ?_ _ | refine World.grows.plus ?_ _ _ | refine World.grows.drew ?_)))))).mono ?_
        rintro e U3 ⟨rfl, g⟩
        replace HW := Lib.hid (HW.out.trans (World.grows.trans (by (repeat (first | exact World.grows.refl _ | assumption | refine World.grows.alloc ?_ _ | refine World.grows.plus ?_ _ _ | refine World.grows.drew ?_))) g)); replace HB := Lib.hid (g.heap_of (World.grows.heap_of (by (repeat (first | exact World.grows.refl _ | assumption | refine World.grows.alloc ?_ _ | refine World.grows.plus ?_ _ _ | refine World.grows.drew ?_))) HB.out)); replace q0 := cell_of_heap (i := 0) HB.out rfl; replace q1 := cell_of_heap (i := 1) HB.out rfl; replace q2 := cell_of_heap (i := 2) HB.out rfl; clear g
        clear h15 h16
        go_wp2_with (go_at_call 99; fail)
        obtain ⟨E, hE⟩ := groups_two U3 _ s (HT.out.mono HW.out) _ m5 f5 (IntsAt.mono H5.out HW.out)
        refine hE.mono ?_
        rintro e U4 ⟨⟨ga, rfl, h18⟩, g⟩
        have H18 := Lib.hid h18
        replace HW := Lib.hid (HW.out.trans (World.grows.trans (by (repeat (first | exact World.grows.refl _ | assumption | refine World.grows.alloc ?_ _ | refine World.grows.plus ?_ _ _ | refine World.grows.drew ?_))) g)); replace HB := Lib.hid (g.heap_of (World.grows.heap_of (by (repeat (first | exact World.grows.refl _ | assumption | refine World.grows.alloc ?_ _ | refine World.grows.plus ?_ _ _ | refine World.grows.drew ?_))) HB.out)); replace q0 := cell_of_heap (i := 0) HB.out rfl; replace q1 := cell_of_heap (i := 1) HB.out rfl; replace q2 := cell_of_heap (i := 2) HB.out rfl; clear g
        clear h18 hE
        go_wp2_with (go_at_call 99; fail)
        refine (H18.out _ (by (repeat (first | exact World.grows.refl _ | assumption | refine World.grows.alloc ?_ _ | refine World.grows.plus ?_ _ _ | refine World.grows.drew ?_)))).mono ?_
        rintro e U5 ⟨gb, rfl, hG, g⟩
        have HG := Lib.hid hG
        obtain ⟨A, c, A', c', n, rfl, rfl, -⟩ := hG
        replace HW := Lib.hid (HW.out.trans (World.grows.trans (by (repeat (first | exact World.grows.refl _ | assumption | refine World.grows.alloc ?_ _ | refine World.grows.plus ?_ _ _ | refine World.grows.drew ?_))) g)); replace HB := Lib.hid (g.heap_of (World.grows.heap_of (by (repeat (first | exact World.grows.refl _ | assumption | refine World.grows.alloc ?_ _ | refine World.grows.plus ?_ _ _ | refine World.grows.drew ?_))) HB.out)); replace q0 := cell_of_heap (i := 0) HB.out rfl; replace q1 := cell_of_heap (i := 1) HB.out rfl; replace q2 := cell_of_heap (i := 2) HB.out rfl; clear g
        obtain ⟨N, E2, h19, h20⟩ := pairing_two s m4 f4
        go_wp2_with (go_at_call 99; fail)
        refine (h19 _ _ _ (HT.out.mono (HW.out.trans (by (repeat (first | exact World.grows.refl _ | assumption | refine World.grows.alloc ?_ _ | refine World.grows.plus ?_ _ _ | refine World.grows.drew ?_))))) (IntsAt.mono H4.out (HW.out.trans (by (repeat (first | exact World.grows.refl _ | assumption | refine World.grows.alloc ?_ _ | refine World.grows.plus ?_ _ _ | refine World.grows.drew ?_)))))).mono ?_
        rintro e U6 ⟨rfl, g⟩
        replace HG := Lib.hid (HG.out.mono (World.grows.trans (by (repeat (first | exact World.grows.refl _ | assumption | refine World.grows.alloc ?_ _ | refine World.grows.plus ?_ _ _ | refine World.grows.drew ?_))) g))
        replace HW := Lib.hid (HW.out.trans (World.grows.trans (by (repeat (first | exact World.grows.refl _ | assumption | refine World.grows.alloc ?_ _ | refine World.grows.plus ?_ _ _ | refine World.grows.drew ?_))) g)); replace HB := Lib.hid (g.heap_of (World.grows.heap_of (by (repeat (first | exact World.grows.refl _ | assumption | refine World.grows.alloc ?_ _ | refine World.grows.plus ?_ _ _ | refine World.grows.drew ?_))) HB.out)); replace q0 := cell_of_heap (i := 0) HB.out rfl; replace q1 := cell_of_heap (i := 1) HB.out rfl; replace q2 := cell_of_heap (i := 2) HB.out rfl; clear g
        go_wp2_with (go_at_call 99; fail)
        refine (h20 _ _ _ (HT.out.mono (HW.out.trans (by (repeat (first | exact World.grows.refl _ | assumption | refine World.grows.alloc ?_ _ | refine World.grows.plus ?_ _ _ | refine World.grows.drew ?_))))) (IntsAt.mono H4.out (HW.out.trans (by (repeat (first | exact World.grows.refl _ | assumption | refine World.grows.alloc ?_ _ | refine World.grows.plus ?_ _ _ | refine World.grows.drew ?_)))))).mono ?_
        rintro e U7 ⟨rfl, g⟩
        replace HG := Lib.hid (HG.out.mono (World.grows.trans (by (repeat (first | exact World.grows.refl _ | assumption | refine World.grows.alloc ?_ _ | refine World.grows.plus ?_ _ _ | refine World.grows.drew ?_))) g))
        replace HW := Lib.hid (HW.out.trans (World.grows.trans (by (repeat (first | exact World.grows.refl _ | assumption | refine World.grows.alloc ?_ _ | refine World.grows.plus ?_ _ _ | refine World.grows.drew ?_))) g)); replace HB := Lib.hid (g.heap_of (World.grows.heap_of (by (repeat (first | exact World.grows.refl _ | assumption | refine World.grows.alloc ?_ _ | refine World.grows.plus ?_ _ _ | refine World.grows.drew ?_))) HB.out)); replace q0 := cell_of_heap (i := 0) HB.out rfl; replace q1 := cell_of_heap (i := 1) HB.out rfl; replace q2 := cell_of_heap (i := 2) HB.out rfl; clear g
        clear h19 h20
        obtain ⟨N3, E3, h21, h22⟩ := cut_two s m5 f5 (by omega)
        go_wp2_with (go_at_call 99; fail)
        refine (h21 _ _ _ (HT.out.mono (HW.out.trans (by (repeat (first | exact World.grows.refl _ | assumption | refine World.grows.alloc ?_ _ | refine World.grows.plus ?_ _ _ | refine World.grows.drew ?_))))) (IntsAt.mono H5.out (HW.out.trans (by (repeat (first | exact World.grows.refl _ | assumption | refine World.grows.alloc ?_ _ | refine World.grows.plus ?_ _ _ | refine World.grows.drew ?_)))))).mono ?_
        rintro e U8 ⟨rfl, g⟩
        replace HG := Lib.hid (HG.out.mono (World.grows.trans (by (repeat (first | exact World.grows.refl _ | assumption | refine World.grows.alloc ?_ _ | refine World.grows.plus ?_ _ _ | refine World.grows.drew ?_))) g))
        replace HW := Lib.hid (HW.out.trans (World.grows.trans (by (repeat (first | exact World.grows.refl _ | assumption | refine World.grows.alloc ?_ _ | refine World.grows.plus ?_ _ _ | refine World.grows.drew ?_))) g)); replace HB := Lib.hid (g.heap_of (World.grows.heap_of (by (repeat (first | exact World.grows.refl _ | assumption | refine World.grows.alloc ?_ _ | refine World.grows.plus ?_ _ _ | refine World.grows.drew ?_))) HB.out)); replace q0 := cell_of_heap (i := 0) HB.out rfl; replace q1 := cell_of_heap (i := 1) HB.out rfl; replace q2 := cell_of_heap (i := 2) HB.out rfl; clear g
        go_wp2_with (go_at_call 99; fail)
        refine (h22 _ _ _ (HT.out.mono (HW.out.trans (by (repeat (first | exact World.grows.refl _ | assumption | refine World.grows.alloc ?_ _ | refine World.grows.plus ?_ _ _ | refine World.grows.drew ?_))))) (IntsAt.mono H5.out (HW.out.trans (by (repeat (first | exact World.grows.refl _ | assumption | refine World.grows.alloc ?_ _ | refine World.grows.plus ?_ _ _ | refine World.grows.drew ?_)))))).mono ?_
        rintro e U9 ⟨rfl, g⟩
        replace HG := Lib.hid (HG.out.mono (World.grows.trans (by (repeat (first | exact World.grows.refl _ | assumption | refine World.grows.alloc ?_ _ | refine World.grows.plus ?_ _ _ | refine World.grows.drew ?_))) g))
        replace HW := Lib.hid (HW.out.trans (World.grows.trans (by (repeat (first | exact World.grows.refl _ | assumption | refine World.grows.alloc ?_ _ | refine World.grows.plus ?_ _ _ | refine World.grows.drew ?_))) g)); replace HB := Lib.hid (g.heap_of (World.grows.heap_of (by (repeat (first | exact World.grows.refl _ | assumption | refine World.grows.alloc ?_ _ | refine World.grows.plus ?_ _ _ | refine World.grows.drew ?_))) HB.out)); replace q0 := cell_of_heap (i := 0) HB.out rfl; replace q1 := cell_of_heap (i := 1) HB.out rfl; replace q2 := cell_of_heap (i := 2) HB.out rfl; clear g
        clear h21 h22
        obtain ⟨C, hC⟩ : ∃ x, s.check = x := ⟨_, rfl⟩
        have h23 := fun n x => check_c (U9.plus n x) (.agg #[.slice sa N1 sc, .slice va N2 vc, .int .i64 P]) s (HT.out.mono (HW.out.trans (World.grows_plus _ _ _)))
        have h24 := fun n x => rcheck_c (U9.plus n x) (.agg #[.slice sa N1 sc, .slice va N2 vc, .int .i64 P]) s (HT.out.mono (HW.out.trans (World.grows_plus _ _ _)))
        have h14 := fun n x => works_c (U9.plus n x)
        have h25 : ∀ n' x, Calls Try.prog 25 #[.slice A n c, .slice A' n c'] (U9.plus n' x) fun e w' => e = .returned (.bool true) ∧ (U9.plus n' x).grows w' := fun n' x => by
          obtain ⟨B, d, B', d', k, e1, e2, h⟩ := HG.out
          exact h _ (World.grows_plus _ _ _)
        rw [hC] at h23 h24
        clear hC
        go_upto_region 11 with fail
        (refine wp_region_calm (by kernel_rfl) (by kernel_rfl) ?_; (repeat (refine wpCalm_step (fun K hK => ?_); go_simp; first | (refine hK _ ?_; clear hK K) | (apply Exists.intro; refine ⟨fun n' x' => ?_, hK _ ?_⟩; (first | with_reducible exact h23 _ _ | with_reducible exact h24 _ _ | with_reducible exact h25 _ _ | with_reducible exact h14 _ _); clear hK K))); refine wpCalm_nil ?_; intro nq xq)
        go_wp2
        (refine bodyPost_ret (v := .bool true) (by simp [results, Try.results3, go_sem]) rfl ?_)
        exact ⟨rfl, HW.out.trans (by (repeat (first | exact World.grows.refl _ | assumption | refine World.grows.alloc ?_ _ | refine World.grows.plus ?_ _ _ | refine World.grows.drew ?_)))⟩
end Go.Proofs.Yteingahlmlndkaa

/-
  What is proved: the statement MatchStocks, at every input.
-/
namespace Go.Proofs.Yteingahlmlndkaa
open Go.ChangeShapes Go.WideShapes Go.ChangeAt Go.RowKit

set_option maxRecDepth 100000 in
theorem matchStocks_lifted (os : Os) (started : os.Started) (H : Type) (enc : TypeId × Value → H) :
    ReturnsInHanded {} Try.checked os 3 .any (Rows.matchStocksSpec.pre6 enc Try.prog Try.f3 Rows.matchStocksRow.domain false) (Rows.matchStocksSpec.post enc Try.prog Try.f3 false true false false) := by
  refine law_lifted (C := Try.checked) (tb := 4) started own_c laid_c (by kernel_rfl) Try.func3 (of_decide_eq_true (by kernel_rfl))
    (ChangeSpec.witness6 (enc := enc) (C := Try.checked) false ⟨#[], #[.agg #[.slice none 0 0, .slice none 0 0, .int .i64 0], .int .i64 0, .int .i64 0, .slice none 0 0, .slice none 0 0], []⟩ 8 (by kernel_rfl) (by kernel_rfl) (by kernel_rfl) (by kernel_rfl))
    rfl Try.underlying4 rfl (fun ds hl => ?_) (fun W base args ds ps hval hA => ?_)
  · match ds, hl with
    | [d1, d2, d3, d4, d5], _ => exact ⟨rfl, rfl, rfl⟩
  · have hA' : DataW.TrodAll enc Try.prog W 0 (fun _ => true) true Try.f3.params.toList args.toList ds ps := hA
    have hval' : ∀ (j : Nat) t v, Try.f3.params[j]? = some t → args[j]? = some v → Value.okWide Try.prog W .any base t v := hval
    rw [Try.params3] at hA' hval'
    obtain ⟨v1, v2, v3, v4, v5, d1, d2, d3, d4, d5, p1, p2, p3, p4, p5, rfl, rfl, rfl, h1, h2, h3, h4, h5⟩ := trodAll_5 hA'
    obtain ⟨s1, hs1⟩ := stock_of (hval' 0 25 v1 rfl rfl) h1
    obtain ⟨z2, rfl, -, -, hw2⟩ := open_int Try.underlying3 (hval' 1 3 v2 rfl rfl) h2; have hz2 := lit_i64 hw2
    obtain ⟨z3, rfl, -, -, hw3⟩ := open_int Try.underlying3 (hval' 2 3 v3 rfl rfl) h3; have hz3 := lit_i64 hw3
    obtain ⟨m4, f4, hf4, hb4⟩ := ints_of (hval' 3 26 v4 rfl rfl) h4
    obtain ⟨m5, f5, hf5, hb5⟩ := ints_of (hval' 4 26 v5 rfl rfl) h5
    exact stocks_w W v1 s1 hs1 z2 z3 v4 m4 f4 hf4 v5 m5 f5 hf5

theorem matchStocks_holds : Rows.MatchStocksSaid :=
  OpenClaim.holds_of_wide 3 Try.f3 rfl rfl rfl rfl rfl rfl rfl ⟨rfl, rfl, rfl, rfl, rfl⟩ rfl rfl rfl rfl rfl (by kernel_rfl) Try.func3 (by kernel_rfl)
    (of_decide_eq_true (by kernel_rfl)) (by unfold Func.isWrapper; first | (rw [if_pos (by decide +kernel)]; kernel_rfl) | (rw [if_neg (by decide +kernel)]; exact ⟨rfl, rfl⟩))
    (fun os started H enc _ => matchStocks_lifted os started H enc)
end Go.Proofs.Yteingahlmlndkaa

