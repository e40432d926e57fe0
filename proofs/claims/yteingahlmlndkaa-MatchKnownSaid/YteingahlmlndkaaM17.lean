/-
  What is proved: MatchKnown (12) answers true.
-/
import Derived.Test.YteingahlmlndkaaM16
import Derived.Test.YteingahlmlndkaaM13
set_option linter.all false
namespace Go.Proofs.Yteingahlmlndkaa
open Go.RowKit
attribute [local irreducible] Go.wpCalm rowV
theorem w_suitK {X : World} {tv : Value} (h : StkAt X tv exS) {x y : Int} {b : Bool} (h1 : suitX exS x y = b) (h2 : twoE exS x y = 0) : Calls Try.prog 15 #[tv, .int .i64 x, .int .i64 y] X fun e w' => e = .returned (.tuple #[.bool b, .int .i64 0]) ∧ X.grows w' := by
  have := suit_c X tv exS h x y
  rw [h1, h2] at this
  exact this
theorem ints_none (W : World) : IntsAt W (.slice none 0 0) 0 (lst []) := SliceAt.none
theorem two_rowsK (U : World) : OutR (((U.alloc (Obj.cells #[.int .i64 0, .int .i64 1, .int .i64 2] 3)).alloc (Obj.cells #[.int .i64 3, .int .i64 4, .int .i64 5, .int .i64 6] 3)).alloc
      (Obj.cells #[.slice (some ⟨U.heap.size, 0, none⟩) 3 3, .slice (some ⟨U.heap.size + 1, 0, none⟩) 4 4] 26))
    (.slice (some ⟨U.heap.size + 1 + 1, 0, none⟩) 2 2) [[0, 1, 2], [3, 4, 5, 6]] [.slice (some ⟨U.heap.size, 0, none⟩) 3 3, .slice (some ⟨U.heap.size + 1, 0, none⟩) 4 4] := by
  refine rows_lit (R := [[0, 1, 2], [3, 4, 5, 6]]) (World.heap_at _ _ _ (by simp)) rfl (by decide) fun i x hx => ?_
  rcases (show i = 0 ∨ i = 1 ∨ 2 ≤ i by omega) with rfl | rfl | h4
  · cases hx
    exact ⟨rfl, [0, 1, 2], rfl, list_lit (L := [0, 1, 2]) (alloc_old (alloc_old (World.heap_at U _ _ rfl))) (by decide)⟩
  · cases hx
    exact ⟨rfl, [3, 4, 5, 6], rfl, list_lit (L := [3, 4, 5, 6]) (alloc_old (World.heap_at _ _ _ (by simp))) (by decide)⟩
  · have := (List.getElem?_eq_some_iff.1 hx).1
    simp at this
    omega
set_option maxRecDepth 100000 in
set_option maxHeartbeats 16000000 in
theorem known_w (w : World) : Calls Try.prog 12 #[] w fun e w' => e = .returned (.bool true) ∧ w.grows w' := by
  go_enter Try.func12, Try.ntmps12
  go_wp2_with (go_at_call 99; fail)
  refine (stock_c _).mono ?_
  rintro e W1 ⟨tv, rfl, hT, g⟩
  have G : Hid (w.grows W1) := Lib.hid (World.grows.trans (by (repeat (first | exact World.grows.refl _ | assumption | refine World.grows.alloc ?_ _ | refine World.grows.plus ?_ _ _ | refine World.grows.drew ?_))) g)
  have HT := Lib.hid hT
  obtain ⟨sv, vv, rfl, ⟨sa, sc, rfl, -⟩, ⟨va, vc, rfl, -⟩⟩ := hT
  obtain ⟨N1, hN1⟩ : ∃ N, exS.nt = N := ⟨_, rfl⟩
  obtain ⟨N2, hN2⟩ : ∃ N, exS.nm = N := ⟨_, rfl⟩
  obtain ⟨P, hP⟩ : ∃ P, exS.wide = P := ⟨_, rfl⟩
  rw [hP, hN1, hN2] at HT ⊢
  clear g hP hN1 hN2
  go_wp2_with (go_at_call 99; fail)
  have HB : Hid ((W1.alloc (.cells #[.slice sa N1 sc, .slice va N2 vc, .int .i64 P] 25)).heap[W1.heap.size]? = some (.cells #[.slice sa N1 sc, .slice va N2 vc, .int .i64 P] 25)) := Lib.hid (World.heap_at _ _ _ rfl)
  have HW : Hid (W1.grows (W1.alloc (.cells #[.slice sa N1 sc, .slice va N2 vc, .int .i64 P] 25))) := Lib.hid (by (repeat (first | exact World.grows.refl _ | assumption | refine World.grows.alloc ?_ _ | refine World.grows.plus ?_ _ _ | refine World.grows.drew ?_)))
  have q0 := cell_of_heap (i := 0) HB.out rfl
  have q1 := cell_of_heap (i := 1) HB.out rfl
  have q2 := cell_of_heap (i := 2) HB.out rfl
  refine (w_suitK (HT.out.mono (HW.out.trans (by (repeat (first | exact World.grows.refl _ | assumption | refine World.grows.alloc ?_ _ | refine World.grows.plus ?_ _ _ | refine World.grows.drew ?_))))) (b := true) (by decide +kernel) (by decide +kernel)).mono ?_
  rintro e U ⟨rfl, g⟩
  replace HW := Lib.hid (HW.out.trans (World.grows.trans (by (repeat (first | exact World.grows.refl _ | assumption | refine World.grows.alloc ?_ _ | refine World.grows.plus ?_ _ _ | refine World.grows.drew ?_))) g)); replace HB := Lib.hid (g.heap_of (World.grows.heap_of (by (repeat (first | exact World.grows.refl _ | assumption | refine World.grows.alloc ?_ _ | refine World.grows.plus ?_ _ _ | refine World.grows.drew ?_))) HB.out)); replace q0 := cell_of_heap (i := 0) HB.out rfl; replace q1 := cell_of_heap (i := 1) HB.out rfl; replace q2 := cell_of_heap (i := 2) HB.out rfl
  clear g
  go_wp2_with (go_at_call 99; fail)
  refine (w_suitK (HT.out.mono (HW.out.trans (by (repeat (first | exact World.grows.refl _ | assumption | refine World.grows.alloc ?_ _ | refine World.grows.plus ?_ _ _ | refine World.grows.drew ?_))))) (b := false) (by decide +kernel) (by decide +kernel)).mono ?_
  rintro e U1 ⟨rfl, g⟩
  replace HW := Lib.hid (HW.out.trans (World.grows.trans (by (repeat (first | exact World.grows.refl _ | assumption | refine World.grows.alloc ?_ _ | refine World.grows.plus ?_ _ _ | refine World.grows.drew ?_))) g)); replace HB := Lib.hid (g.heap_of (World.grows.heap_of (by (repeat (first | exact World.grows.refl _ | assumption | refine World.grows.alloc ?_ _ | refine World.grows.plus ?_ _ _ | refine World.grows.drew ?_))) HB.out)); replace q0 := cell_of_heap (i := 0) HB.out rfl; replace q1 := cell_of_heap (i := 1) HB.out rfl; replace q2 := cell_of_heap (i := 2) HB.out rfl
  clear g
  go_wp2_with (go_at_call 99; fail)
  refine (w_suitK (HT.out.mono (HW.out.trans (by (repeat (first | exact World.grows.refl _ | assumption | refine World.grows.alloc ?_ _ | refine World.grows.plus ?_ _ _ | refine World.grows.drew ?_))))) (b := true) (by decide +kernel) (by decide +kernel)).mono ?_
  rintro e U1 ⟨rfl, g⟩
  replace HW := Lib.hid (HW.out.trans (World.grows.trans (by (repeat (first | exact World.grows.refl _ | assumption | refine World.grows.alloc ?_ _ | refine World.grows.plus ?_ _ _ | refine World.grows.drew ?_))) g)); replace HB := Lib.hid (g.heap_of (World.grows.heap_of (by (repeat (first | exact World.grows.refl _ | assumption | refine World.grows.alloc ?_ _ | refine World.grows.plus ?_ _ _ | refine World.grows.drew ?_))) HB.out)); replace q0 := cell_of_heap (i := 0) HB.out rfl; replace q1 := cell_of_heap (i := 1) HB.out rfl; replace q2 := cell_of_heap (i := 2) HB.out rfl
  clear g
  go_wp2_with (go_at_call 99; fail)
  refine (w_groups (HT.out.mono (HW.out.trans (by (repeat (first | exact World.grows.refl _ | assumption | refine World.grows.alloc ?_ _ | refine World.grows.plus ?_ _ _ | refine World.grows.drew ?_))))) (m := 0) (l := []) (ints_none _) ex_okn ex_g).mono ?_
  rintro e U2 ⟨ga, gc, gv, rfl, hR, g⟩
  have HR := Lib.hid hR
  replace HW := Lib.hid (HW.out.trans (World.grows.trans (by (repeat (first | exact World.grows.refl _ | assumption | refine World.grows.alloc ?_ _ | refine World.grows.plus ?_ _ _ | refine World.grows.drew ?_))) g)); replace HB := Lib.hid (g.heap_of (World.grows.heap_of (by (repeat (first | exact World.grows.refl _ | assumption | refine World.grows.alloc ?_ _ | refine World.grows.plus ?_ _ _ | refine World.grows.drew ?_))) HB.out)); replace q0 := cell_of_heap (i := 0) HB.out rfl; replace q1 := cell_of_heap (i := 1) HB.out rfl; replace q2 := cell_of_heap (i := 2) HB.out rfl
  clear g hR
  go_wp2_with (go_at_call 99; fail)
  refine (w_pair (HT.out.mono (HW.out.trans (by (repeat (first | exact World.grows.refl _ | assumption | refine World.grows.alloc ?_ _ | refine World.grows.plus ?_ _ _ | refine World.grows.drew ?_))))) (l := [1, 0, -1, 5, -1, 3, -1]) (row_lit (c := [1, 0, -1, 5, -1, 3, -1]) (World.heap_at U2 _ _ rfl) (by decide)) ex_p3).mono ?_
  rintro e U3 ⟨rfl, g⟩
  replace HR := Lib.hid (HR.out.grow (World.grows.trans (by (repeat (first | exact World.grows.refl _ | assumption | refine World.grows.alloc ?_ _ | refine World.grows.plus ?_ _ _ | refine World.grows.drew ?_))) g))
  replace HW := Lib.hid (HW.out.trans (World.grows.trans (by (repeat (first | exact World.grows.refl _ | assumption | refine World.grows.alloc ?_ _ | refine World.grows.plus ?_ _ _ | refine World.grows.drew ?_))) g)); replace HB := Lib.hid (g.heap_of (World.grows.heap_of (by (repeat (first | exact World.grows.refl _ | assumption | refine World.grows.alloc ?_ _ | refine World.grows.plus ?_ _ _ | refine World.grows.drew ?_))) HB.out)); replace q0 := cell_of_heap (i := 0) HB.out rfl; replace q1 := cell_of_heap (i := 1) HB.out rfl; replace q2 := cell_of_heap (i := 2) HB.out rfl
  clear g
  go_wp2_with (go_at_call 99; fail)
  refine (w_ccut (HT.out.mono (HW.out.trans (by (repeat (first | exact World.grows.refl _ | assumption | refine World.grows.alloc ?_ _ | refine World.grows.plus ?_ _ _ | refine World.grows.drew ?_))))) (m := 0) (l := []) (ints_none _) (by decide) ex_okn ex_cn).mono ?_
  rintro e U6 ⟨rfl, g⟩
  replace HR := Lib.hid (HR.out.grow (World.grows.trans (by (repeat (first | exact World.grows.refl _ | assumption | refine World.grows.alloc ?_ _ | refine World.grows.plus ?_ _ _ | refine World.grows.drew ?_))) g))
  replace HW := Lib.hid (HW.out.trans (World.grows.trans (by (repeat (first | exact World.grows.refl _ | assumption | refine World.grows.alloc ?_ _ | refine World.grows.plus ?_ _ _ | refine World.grows.drew ?_))) g)); replace HB := Lib.hid (g.heap_of (World.grows.heap_of (by (repeat (first | exact World.grows.refl _ | assumption | refine World.grows.alloc ?_ _ | refine World.grows.plus ?_ _ _ | refine World.grows.drew ?_))) HB.out)); replace q0 := cell_of_heap (i := 0) HB.out rfl; replace q1 := cell_of_heap (i := 1) HB.out rfl; replace q2 := cell_of_heap (i := 2) HB.out rfl
  clear g
  go_wp2_with (go_at_call 99; fail)
  refine (w_ccut (HT.out.mono (HW.out.trans (by (repeat (first | exact World.grows.refl _ | assumption | refine World.grows.alloc ?_ _ | refine World.grows.plus ?_ _ _ | refine World.grows.drew ?_))))) (l := [0]) (row_lit (c := [0]) (World.heap_at U6 _ _ rfl) (by decide)) (by decide) ex_ok0 ex_c0).mono ?_
  rintro e U7 ⟨rfl, g⟩
  replace HR := Lib.hid (HR.out.grow (World.grows.trans (by (repeat (first | exact World.grows.refl _ | assumption | refine World.grows.alloc ?_ _ | refine World.grows.plus ?_ _ _ | refine World.grows.drew ?_))) g))
  replace HW := Lib.hid (HW.out.trans (World.grows.trans (by (repeat (first | exact World.grows.refl _ | assumption | refine World.grows.alloc ?_ _ | refine World.grows.plus ?_ _ _ | refine World.grows.drew ?_))) g)); replace HB := Lib.hid (g.heap_of (World.grows.heap_of (by (repeat (first | exact World.grows.refl _ | assumption | refine World.grows.alloc ?_ _ | refine World.grows.plus ?_ _ _ | refine World.grows.drew ?_))) HB.out)); replace q0 := cell_of_heap (i := 0) HB.out rfl; replace q1 := cell_of_heap (i := 1) HB.out rfl; replace q2 := cell_of_heap (i := 2) HB.out rfl
  clear g
  go_wp2_with (go_at_call 99; fail)
  refine (w_kpair (HT.out.mono (HW.out.trans (by (repeat (first | exact World.grows.refl _ | assumption | refine World.grows.alloc ?_ _ | refine World.grows.plus ?_ _ _ | refine World.grows.drew ?_))))) (x := 3) (y := 5) (N := 0) (by decide +kernel) (by decide +kernel)).mono ?_
  rintro e U10 ⟨rfl, g⟩
  replace HR := Lib.hid (HR.out.grow (World.grows.trans (by (repeat (first | exact World.grows.refl _ | assumption | refine World.grows.alloc ?_ _ | refine World.grows.plus ?_ _ _ | refine World.grows.drew ?_))) g))
  replace HW := Lib.hid (HW.out.trans (World.grows.trans (by (repeat (first | exact World.grows.refl _ | assumption | refine World.grows.alloc ?_ _ | refine World.grows.plus ?_ _ _ | refine World.grows.drew ?_))) g)); replace HB := Lib.hid (g.heap_of (World.grows.heap_of (by (repeat (first | exact World.grows.refl _ | assumption | refine World.grows.alloc ?_ _ | refine World.grows.plus ?_ _ _ | refine World.grows.drew ?_))) HB.out)); replace q0 := cell_of_heap (i := 0) HB.out rfl; replace q1 := cell_of_heap (i := 1) HB.out rfl; replace q2 := cell_of_heap (i := 2) HB.out rfl
  clear g
  go_wp2_with (go_at_call 99; fail)
  refine (w_kpair (HT.out.mono (HW.out.trans (by (repeat (first | exact World.grows.refl _ | assumption | refine World.grows.alloc ?_ _ | refine World.grows.plus ?_ _ _ | refine World.grows.drew ?_))))) (x := 1) (y := 2) (N := 0) (by decide +kernel) (by decide +kernel)).mono ?_
  rintro e U11 ⟨rfl, g⟩
  replace HR := Lib.hid (HR.out.grow (World.grows.trans (by (repeat (first | exact World.grows.refl _ | assumption | refine World.grows.alloc ?_ _ | refine World.grows.plus ?_ _ _ | refine World.grows.drew ?_))) g))
  replace HW := Lib.hid (HW.out.trans (World.grows.trans (by (repeat (first | exact World.grows.refl _ | assumption | refine World.grows.alloc ?_ _ | refine World.grows.plus ?_ _ _ | refine World.grows.drew ?_))) g)); replace HB := Lib.hid (g.heap_of (World.grows.heap_of (by (repeat (first | exact World.grows.refl _ | assumption | refine World.grows.alloc ?_ _ | refine World.grows.plus ?_ _ _ | refine World.grows.drew ?_))) HB.out)); replace q0 := cell_of_heap (i := 0) HB.out rfl; replace q1 := cell_of_heap (i := 1) HB.out rfl; replace q2 := cell_of_heap (i := 2) HB.out rfl
  clear g
  go_wp2_with (go_at_call 99; fail)
  refine (w_lists (HR.out.grow (by (repeat (first | exact World.grows.refl _ | assumption | refine World.grows.alloc ?_ _ | refine World.grows.plus ?_ _ _ | refine World.grows.drew ?_)))) (two_rowsK U11)).mono ?_
  rintro e U15 ⟨rfl, g⟩
  replace G := Lib.hid (G.out.trans (HW.out.trans (World.grows.trans (by (repeat (first | exact World.grows.refl _ | assumption | refine World.grows.alloc ?_ _ | refine World.grows.plus ?_ _ _ | refine World.grows.drew ?_))) g)))
  clear g HR HW HB HT q0 q1 q2
  go_wp2_with (go_at_call 99; fail)
  refine (works_c _).mono ?_
  rintro e U16 ⟨rfl, g⟩
  have G9 : w.grows U16 := G.out.trans (World.grows.trans (by (repeat (first | exact World.grows.refl _ | assumption | refine World.grows.alloc ?_ _ | refine World.grows.plus ?_ _ _ | refine World.grows.drew ?_))) g)
  clear g G
  go_wp2
  (refine bodyPost_ret (v := .bool true) (by simp [results, Try.results12, go_sem]) rfl ?_)
  exact ⟨rfl, G9.trans (by (repeat (first | exact World.grows.refl _ | assumption | refine World.grows.alloc ?_ _ | refine World.grows.plus ?_ _ _ | refine World.grows.drew ?_)))⟩
end Go.Proofs.Yteingahlmlndkaa

/-
  What is proved: the statement MatchKnown, at every input.
-/
namespace Go.Proofs.Yteingahlmlndkaa
open Go.ChangeShapes Go.WideShapes Go.ChangeAt Go.RowKit

set_option maxRecDepth 100000 in
theorem matchKnown_lifted (os : Os) (started : os.Started) (H : Type) (enc : TypeId × Value → H) :
    ReturnsInHanded {} Try.checked os 12 .any (Rows.matchKnownSpec.pre6 enc Try.prog Try.f12 Rows.matchKnownRow.domain false) (Rows.matchKnownSpec.post enc Try.prog Try.f12 false true false false) := by
  refine law_lifted (C := Try.checked) (tb := 4) started own_c laid_c (by kernel_rfl) Try.func12 (of_decide_eq_true (by kernel_rfl))
    (ChangeSpec.witness6 (enc := enc) (C := Try.checked) false ⟨#[], #[], []⟩ 8 (by kernel_rfl) (by kernel_rfl) (by kernel_rfl) (by kernel_rfl))
    rfl Try.underlying4 rfl (fun ds hl => ?_) (fun W base args ds ps hval hA => ?_)
  · match ds, hl with
    | [], _ => exact ⟨rfl, rfl, rfl⟩
  · have hA' : DataW.TrodAll enc Try.prog W 0 (fun _ => true) true Try.f12.params.toList args.toList ds ps := hA
    have hval' : ∀ (j : Nat) t v, Try.f12.params[j]? = some t → args[j]? = some v → Value.okWide Try.prog W .any base t v := hval
    rw [Try.params12] at hA' hval'
    obtain ⟨rfl, rfl, rfl⟩ := trodAll_none hA'
    exact known_w W 

theorem matchKnown_holds : Rows.MatchKnownSaid :=
  OpenClaim.holds_of_wide 12 Try.f12 rfl rfl rfl rfl rfl rfl rfl ⟨rfl, rfl, rfl, rfl, rfl⟩ rfl rfl rfl rfl rfl (by kernel_rfl) Try.func12 (by kernel_rfl)
    (of_decide_eq_true (by kernel_rfl)) (by unfold Func.isWrapper; first | (rw [if_pos (by decide +kernel)]; kernel_rfl) | (rw [if_neg (by decide +kernel)]; exact ⟨rfl, rfl⟩))
    (fun os started H enc _ => matchKnown_lifted os started H enc)
end Go.Proofs.Yteingahlmlndkaa

