/-
  What is proved: RoundTurned (13) answers true.
-/
import Derived.Test.YtaanbdjmibjcbaaM22
import Derived.Test.YtaanbdjmibjcbaaM23
import Derived.Test.YtaanbdjmibjcbaaM5
import Derived.Deep.CutRange
import Derived.Test.YtaanbdjmibjcbaaM15
set_option linter.all false
namespace Go.Proofs.Ytaanbdjmibjcbaa
open Go.RowKit
attribute [local irreducible] Go.wpCalm rowI
theorem plan_row {w : World} {pa : Option Addr} {PL pc : Nat} {P : List (List Int)} (h : PlanAt w (.slice pa PL pc) P) {i : Nat} (hi : i < P.length) : ∃ pb po ra rc, pa = some ⟨pb, po, none⟩ ∧ w.cell? ⟨pb, po + i, none⟩ = some (.slice ra (P.getD i []).length rc) ∧ (P.getD i []).length ≤ rc ∧ rc ≤ maxLen ∧ ∀ j, j < (P.getD i []).length → ∃ rb ro, ra = some ⟨rb, ro, none⟩ ∧ w.cell? ⟨rb, ro + j, none⟩ = some (.int .i64 ((P.getD i []).getD j 0)) := by
  obtain ⟨row, h1, h2⟩ := h
  obtain ⟨a, c, e, -, -, h3⟩ := h1
  obtain ⟨pb, po, rfl, h4⟩ := h3 i 0 hi (by omega)
  obtain ⟨ra, rc, e5, h6, h7, h8⟩ := h2 i hi
  refine ⟨pb, po, ra, rc, (Value.slice.inj e).1, ?_, h6, h7, fun j hj => ?_⟩
  · rw [← e5]; simpa using h4
  · obtain ⟨rb, ro, e9, h9⟩ := h8 j 0 hj (by omega)
    exact ⟨rb, ro, e9, by simpa using h9⟩
theorem drop_rev (c : List Int) {p : Nat} (h : p < c.length) : (c.drop (p + 1)).reverse ++ [c.getD p 0] = (c.drop p).reverse := by
  rw [List.drop_eq_getElem_cons h, List.reverse_cons, List.getD_eq_getElem?_getD, List.getElem?_eq_getElem h]
  rfl
theorem len_flat : ∀ (P : List (List Int)) (k : Nat), (P.getD k []).length ≤ P.flatten.length
  | [], _ => by simp
  | c :: P, 0 => by simp
  | c :: P, k + 1 => by
    have := len_flat P k
    rw [List.flatten_cons, List.length_append, List.getD_cons_succ]
    omega
theorem take_rev (P : List (List Int)) {k : Nat} (h : k < P.length) : (P.take k).map List.reverse ++ [(P.getD k []).reverse] = (P.take (k + 1)).map List.reverse := by
  rw [List.take_add_one, List.map_append, List.getD_eq_getElem?_getD, List.getElem?_eq_getElem h]
  rfl
theorem plan_of_rows {w : World} {B : Nat} {v : Value} {cs : List (Value × List Int)} (h : w.ownsRow B 35 1 v cs.length (cs.map (·.1))) (hc : ∀ x ∈ cs, w.ownsRow B 3 1 x.1 x.2.length (intsL x.2)) : PlanAt w v (cs.map (·.2)) := by
  refine ⟨fun i => (cs.map (·.1)).getD i (.slice none 0 0), ?_, fun i hi => ?_⟩
  · rw [List.length_map]
    exact h.sliceAt fun i j hi hj => by
      have : j = 0 := by omega
      subst this
      simp [hi]
  · rw [List.length_map] at hi
    have e1 : (cs.map (·.1)).getD i (.slice none 0 0) = (cs[i]).1 := by simp [hi]
    have e2 : (cs.map (·.2)).getD i [] = (cs[i]).2 := by simp [hi]
    show RowAt w ((cs.map (·.1)).getD i (.slice none 0 0)) ((cs.map (·.2)).getD i [])
    rw [e1, e2]
    exact (hc _ (List.getElem_mem hi)).sliceAt fun k j hk hj => by
      have : j = 0 := by omega
      subst this
      simpa using intsL_get _ hk
theorem wr_tt {z : Int} (h1 : 0 ≤ z) (h2 : z ≤ 10000) : IntKind.i64.wrap (10000 - z) = 10000 - z := wrapI rfl (by omega)
set_option maxRecDepth 100000 in
set_option maxHeartbeats 8000000 in
theorem turned_w (w : World) (tv : Value) (t : Town) (ht : TownAt w tv t) (x0 x1 : Nat) (hx : x0 ≤ 255 ∧ x1 ≤ 255) (pv : Value) (P : List (List Int)) (hp : PlanAt w pv P) (slow : Bool) : Calls Try.prog 13 #[tv, .agg #[.int .u8 (x0 : Nat), .int .u8 (x1 : Nat)], pv, .bool slow] w fun e w' => e = .returned (.bool true) ∧ w.grows w' := by
  have HT := Lib.hid ht
  obtain ⟨sv, vv, rfl, ⟨sa, sc, rfl, -⟩, ⟨va, vc, rfl, -⟩⟩ := ht
  obtain ⟨P0, hP⟩ : ∃ P, t.pl = P := ⟨_, rfl⟩
  obtain ⟨N1, hN1⟩ : ∃ N, t.ns = N := ⟨_, rfl⟩
  obtain ⟨N2, hN2⟩ : ∃ N, t.nv = N := ⟨_, rfl⟩
  have HP0 := Lib.hid hP
  have HN1 := Lib.hid hN1
  have HN2 := Lib.hid hN2
  rw [hP, hN1, hN2] at HT ⊢
  clear hP hN1 hN2
  have HPl := Lib.hid hp
  obtain ⟨pa, pc, rfl⟩ := plan_form hp
  obtain ⟨PL, hPL⟩ : ∃ x, P.length = x := ⟨_, rfl⟩
  have HPL := Lib.hid hPL
  rw [hPL] at HPl ⊢
  clear hp hPL
  go_enter Try.func13, Try.ntmps13
  have HB : Hid (((w.alloc (.cells #[.int .i64 P0, .slice sa N1 sc, .slice va N2 vc] 25)).alloc (.cells #[.int .u8 (x0 : Nat), .int .u8 (x1 : Nat)] 54)).heap[w.heap.size]? = some (.cells #[.int .i64 P0, .slice sa N1 sc, .slice va N2 vc] 25)) := Lib.hid (World.grows.heap_of (by (repeat (first | exact World.grows.refl _ | assumption | refine World.grows.alloc ?_ _ | refine World.grows.plus ?_ _ _ | refine World.grows.drew ?_))) (World.heap_at w _ _ rfl))
  have HB1 : Hid (((w.alloc (.cells #[.int .i64 P0, .slice sa N1 sc, .slice va N2 vc] 25)).alloc (.cells #[.int .u8 (x0 : Nat), .int .u8 (x1 : Nat)] 54)).heap[w.heap.size + 1]? = some (.cells #[.int .u8 (x0 : Nat), .int .u8 (x1 : Nat)] 54)) := Lib.hid (World.heap_at _ _ _ (by simp))
  have HW : Hid (w.grows ((w.alloc (.cells #[.int .i64 P0, .slice sa N1 sc, .slice va N2 vc] 25)).alloc (.cells #[.int .u8 (x0 : Nat), .int .u8 (x1 : Nat)] 54))) := Lib.hid (by (repeat (first | exact World.grows.refl _ | assumption | refine World.grows.alloc ?_ _ | refine World.grows.plus ?_ _ _ | refine World.grows.drew ?_)))
  have q0 := cell_of_heap (i := 0) HB.out rfl
  have q1 := cell_of_heap (i := 1) HB.out rfl
  have q2 := cell_of_heap (i := 2) HB.out rfl
  go_wp2_with (go_at_call 99; fail)
  refine (fine_c _ _ t (HT.out.mono (HW.out.trans (by (repeat (first | exact World.grows.refl _ | assumption | refine World.grows.alloc ?_ _ | refine World.grows.plus ?_ _ _ | refine World.grows.drew ?_)))))).mono ?_
  rintro e U ⟨rfl, g⟩
  replace HW := Lib.hid (HW.out.trans (World.grows.trans (by (repeat (first | exact World.grows.refl _ | assumption | refine World.grows.alloc ?_ _ | refine World.grows.plus ?_ _ _ | refine World.grows.drew ?_))) g)); replace HB := Lib.hid (g.heap_of (World.grows.heap_of (by (repeat (first | exact World.grows.refl _ | assumption | refine World.grows.alloc ?_ _ | refine World.grows.plus ?_ _ _ | refine World.grows.drew ?_))) HB.out)); replace q0 := cell_of_heap (i := 0) HB.out rfl; replace q1 := cell_of_heap (i := 1) HB.out rfl; replace q2 := cell_of_heap (i := 2) HB.out rfl; replace HB1 := Lib.hid (g.heap_of (World.grows.heap_of (by (repeat (first | exact World.grows.refl _ | assumption | refine World.grows.alloc ?_ _ | refine World.grows.plus ?_ _ _ | refine World.grows.drew ?_))) HB1.out)); clear g
  by_cases hfine : t.check = 0
  case neg =>
    rw [decide_eq_false hfine]
    go_wp2_with (go_at_call 99; fail); refine (works_c _).mono ?_; rintro e U9 ⟨rfl, g⟩; replace HW := Lib.hid (HW.out.trans (World.grows.trans (by (repeat (first | exact World.grows.refl _ | assumption | refine World.grows.alloc ?_ _ | refine World.grows.plus ?_ _ _ | refine World.grows.drew ?_))) g)); replace HB := Lib.hid (g.heap_of (World.grows.heap_of (by (repeat (first | exact World.grows.refl _ | assumption | refine World.grows.alloc ?_ _ | refine World.grows.plus ?_ _ _ | refine World.grows.drew ?_))) HB.out)); replace q0 := cell_of_heap (i := 0) HB.out rfl; replace q1 := cell_of_heap (i := 1) HB.out rfl; replace q2 := cell_of_heap (i := 2) HB.out rfl; replace HB1 := Lib.hid (g.heap_of (World.grows.heap_of (by (repeat (first | exact World.grows.refl _ | assumption | refine World.grows.alloc ?_ _ | refine World.grows.plus ?_ _ _ | refine World.grows.drew ?_))) HB1.out)); clear g; go_wp2; (refine bodyPost_ret (v := .bool true) (by simp [results, Try.results13, go_sem]) rfl ?_); exact ⟨rfl, HW.out.trans (by (repeat (first | exact World.grows.refl _ | assumption | refine World.grows.alloc ?_ _ | refine World.grows.plus ?_ _ _ | refine World.grows.drew ?_)))⟩
  rw [decide_eq_true hfine]
  by_cases hn1 : N2 < 1
  · have hn1I : (N2 : Int) < 1 := by omega
    go_wp2_with (go_at_call 99; fail); refine (works_c _).mono ?_; rintro e U9 ⟨rfl, g⟩; replace HW := Lib.hid (HW.out.trans (World.grows.trans (by (repeat (first | exact World.grows.refl _ | assumption | refine World.grows.alloc ?_ _ | refine World.grows.plus ?_ _ _ | refine World.grows.drew ?_))) g)); replace HB := Lib.hid (g.heap_of (World.grows.heap_of (by (repeat (first | exact World.grows.refl _ | assumption | refine World.grows.alloc ?_ _ | refine World.grows.plus ?_ _ _ | refine World.grows.drew ?_))) HB.out)); replace q0 := cell_of_heap (i := 0) HB.out rfl; replace q1 := cell_of_heap (i := 1) HB.out rfl; replace q2 := cell_of_heap (i := 2) HB.out rfl; replace HB1 := Lib.hid (g.heap_of (World.grows.heap_of (by (repeat (first | exact World.grows.refl _ | assumption | refine World.grows.alloc ?_ _ | refine World.grows.plus ?_ _ _ | refine World.grows.drew ?_))) HB1.out)); clear g; go_wp2; (refine bodyPost_ret (v := .bool true) (by simp [results, Try.results13, go_sem]) rfl ?_); exact ⟨rfl, HW.out.trans (by (repeat (first | exact World.grows.refl _ | assumption | refine World.grows.alloc ?_ _ | refine World.grows.plus ?_ _ _ | refine World.grows.drew ?_)))⟩
  have hn1I : ¬ (N2 : Int) < 1 := by omega
  go_wp2_with (go_at_call 99; fail)
  refine (long_c _ _ P (HPl.out.mono (HW.out.trans (by (repeat (first | exact World.grows.refl _ | assumption | refine World.grows.alloc ?_ _ | refine World.grows.plus ?_ _ _ | refine World.grows.drew ?_)))))).mono ?_
  rintro e U2 ⟨rfl, g⟩
  replace HW := Lib.hid (HW.out.trans (World.grows.trans (by (repeat (first | exact World.grows.refl _ | assumption | refine World.grows.alloc ?_ _ | refine World.grows.plus ?_ _ _ | refine World.grows.drew ?_))) g)); replace HB := Lib.hid (g.heap_of (World.grows.heap_of (by (repeat (first | exact World.grows.refl _ | assumption | refine World.grows.alloc ?_ _ | refine World.grows.plus ?_ _ _ | refine World.grows.drew ?_))) HB.out)); replace q0 := cell_of_heap (i := 0) HB.out rfl; replace q1 := cell_of_heap (i := 1) HB.out rfl; replace q2 := cell_of_heap (i := 2) HB.out rfl; replace HB1 := Lib.hid (g.heap_of (World.grows.heap_of (by (repeat (first | exact World.grows.refl _ | assumption | refine World.grows.alloc ?_ _ | refine World.grows.plus ?_ _ _ | refine World.grows.drew ?_))) HB1.out)); clear g
  cases hlg : longP P with
  | true =>
    go_wp2_with (go_at_call 99; fail); refine (works_c _).mono ?_; rintro e U9 ⟨rfl, g⟩; replace HW := Lib.hid (HW.out.trans (World.grows.trans (by (repeat (first | exact World.grows.refl _ | assumption | refine World.grows.alloc ?_ _ | refine World.grows.plus ?_ _ _ | refine World.grows.drew ?_))) g)); replace HB := Lib.hid (g.heap_of (World.grows.heap_of (by (repeat (first | exact World.grows.refl _ | assumption | refine World.grows.alloc ?_ _ | refine World.grows.plus ?_ _ _ | refine World.grows.drew ?_))) HB.out)); replace q0 := cell_of_heap (i := 0) HB.out rfl; replace q1 := cell_of_heap (i := 1) HB.out rfl; replace q2 := cell_of_heap (i := 2) HB.out rfl; replace HB1 := Lib.hid (g.heap_of (World.grows.heap_of (by (repeat (first | exact World.grows.refl _ | assumption | refine World.grows.alloc ?_ _ | refine World.grows.plus ?_ _ _ | refine World.grows.drew ?_))) HB1.out)); clear g; go_wp2; (refine bodyPost_ret (v := .bool true) (by simp [results, Try.results13, go_sem]) rfl ?_); exact ⟨rfl, HW.out.trans (by (repeat (first | exact World.grows.refl _ | assumption | refine World.grows.alloc ?_ _ | refine World.grows.plus ?_ _ _ | refine World.grows.drew ?_)))⟩
  | false =>
  obtain ⟨hl1, hl2⟩ := long_no hlg
  have HFine := Lib.hid hfine
  have HTurn := Lib.hid (turn_check hfine)
  have hok := t.ok_iff.1 hfine
  have h16 : N2 ≤ 16 := by rw [← HN2.out]; exact hok.v16
  have Hok := Lib.hid hok
  clear hlg hfine hok
  go_upto_region 5 with fail
  obtain ⟨xb, hxb⟩ : ∃ xb, U2.heap.size = xb := ⟨_, rfl⟩
  have HX : Hid ((U2.alloc (.cells #[.int .i64 P0, .slice sa N1 sc, .slice none 0 0] 25)).heap[xb]? = some (.cells #[.int .i64 P0, .slice sa N1 sc, .slice none 0 0] 25)) := Lib.hid (World.heap_at _ _ _ hxb.symm)
  have gX : U2.grows (U2.alloc (.cells #[.int .i64 P0, .slice sa N1 sc, .slice none 0 0] 25)) := by (repeat (first | exact World.grows.refl _ | assumption | refine World.grows.alloc ?_ _ | refine World.grows.plus ?_ _ _ | refine World.grows.drew ?_))
  have hwU : w.heap.size + 1 < U2.heap.size := World.lt_of_block HB1.out
  rw [hxb]
  generalize U2.alloc (.cells #[.int .i64 P0, .slice sa N1 sc, .slice none 0 0] 25) = V5 at HX gX ⊢
  replace HW := Lib.hid (HW.out.trans gX)
  replace HB := Lib.hid (gX.heap_of HB.out)
  replace HB1 := Lib.hid (gX.heap_of HB1.out)
  have hxV : xb < V5.heap.size := World.lt_of_block HX.out
  clear q0 q1 q2 gX
  have hTV : Hid (SliceAt w (.slice sa N1 sc) N1 4 (scell t) ∧ SliceAt w (.slice va N2 vc) N2 3 (vcell t)) := Lib.hid (by
    obtain ⟨sv', vv', e9, h1, h2⟩ := HT.out
    have e8 := Array.toList_inj.2 (Value.agg.inj e9)
    simp only [List.cons.injEq, and_true] at e8
    obtain ⟨-, rfl, rfl⟩ := e8
    rw [HN1.out] at h1
    rw [HN2.out] at h2
    exact ⟨h1, h2⟩)
  go_wp2
  go_loopw [10] (fun i wr => ∃ (k : Nat) (xa : Option Addr) (xc : Nat), k ≤ N2 ∧ i = .int .i64 k ∧ Hid (wr.heap[xb]? = some (.cells #[.int .i64 P0, .slice sa N1 sc, .slice xa k xc] 25)) ∧ Hid (wr.ownsRow V5.heap.size 71 3 (.slice xa k xc) k (tableL k 3 (vcell t.turn))) ∧ Hid (w.grows wr) ∧ Hid (wr.heap[w.heap.size]? = some (.cells #[.int .i64 P0, .slice sa N1 sc, .slice va N2 vc] 25)) ∧ Hid (wr.heap[w.heap.size + 1]? = some (.cells #[.int .u8 (x0 : Nat), .int .u8 (x1 : Nat)] 54)) ∧ V5.heap.size ≤ wr.heap.size) (fun i _ => N2 - (intOf i).toNat)
  case atStart => exact ⟨0, none, 0, by omega, rfl, HX, Lib.hid (World.ownsRow_nil _ _ _ _), HW, HB, HB1, Nat.le_refl _⟩
  case round =>
    clear HX HW HB HB1
    obtain ⟨k, xa, xc, hk, rfl, HX, ho, HW, HB, HB1, hsz⟩ := hrel
    have q2 : wr.cell? ⟨w.heap.size, 2, none⟩ = some (.slice va N2 vc) := cell_of_heap HB.out rfl
    by_cases hlt : k < N2
    · have hkI : (k : Int) < N2 := by omega
      obtain ⟨a4, c4, e4, h41, h42, h4⟩ := hTV.out.2
      obtain ⟨vb, vo, ea, c0⟩ := h4 k 0 hlt (by omega)
      have ea2 := (Value.slice.inj e4).1
      subst ea2
      subst ea
      obtain ⟨_, _, e5, c1⟩ := h4 k 1 hlt (by omega); cases e5
      obtain ⟨_, _, e5, c2⟩ := h4 k 2 hlt (by omega); cases e5
      have c0w : w.cell? ⟨vb, vo + k * 3, none⟩ = some (.int .i64 (t.vp k)) := c0
      have c1w : w.cell? ⟨vb, vo + k * 3 + 1, none⟩ = some (.int .i64 (t.vf k)) := c1
      have c2w : w.cell? ⟨vb, vo + k * 3 + 2, none⟩ = some (.int .i64 (t.vb k)) := c2
      replace c0 : wr.cell? ⟨vb, vo + k * 3, none⟩ = some (.int .i64 (t.vp k)) := HW.out.cell_of c0
      replace c1 : wr.cell? ⟨vb, vo + k * 3 + 1, none⟩ = some (.int .i64 (t.vf k)) := HW.out.cell_of c1
      replace c2 : wr.cell? ⟨vb, vo + k * 3 + 2, none⟩ = some (.int .i64 (t.vb k)) := HW.out.cell_of c2
      have hvt := Hok.out.vt k (by rw [HN2.out]; exact hlt)
      obtain ⟨Zp, hZp⟩ : ∃ x, t.vp k = x := ⟨_, rfl⟩
      obtain ⟨Zf, hZf⟩ : ∃ x, t.vf k = x := ⟨_, rfl⟩
      obtain ⟨Zb, hZb⟩ : ∃ x, t.vb k = x := ⟨_, rfl⟩
      have HZ : Hid (∀ j, j < 3 → vcell t.turn k j = if j = 0 then .int .i64 Zp else if j = 1 then .int .i64 (10000 - Zb) else .int .i64 (10000 - Zf)) := Lib.hid fun j hj => by
        rw [← hZp, ← hZf, ← hZb]; rfl
      rw [hZp] at c0 c0w
      rw [hZf] at c1 c1w hvt
      rw [hZb] at c2 c2w hvt
      clear hZp hZf hZb e4 h41 h42 h4
      have wB : IntKind.i64.wrap (10000 - Zb) = 10000 - Zb := wr_tt (by omega) (by omega)
      have wF : IntKind.i64.wrap (10000 - Zf) = 10000 - Zf := wr_tt (by omega) (by omega)
      have hHH : w.heap.size + 1 < V5.heap.size := by omega
      have hC0 : Hid (w.cell? ⟨vb, vo + k * 3, none⟩ = some (.int .i64 Zp)) := Lib.hid c0w
      have hC1 : Hid (w.cell? ⟨vb, vo + k * 3 + 1, none⟩ = some (.int .i64 Zf)) := Lib.hid c1w
      have hC2 : Hid (w.cell? ⟨vb, vo + k * 3 + 2, none⟩ = some (.int .i64 Zb)) := Lib.hid c2w
      go_upto_region 9 with fail
      obtain ⟨yb, hyb⟩ : ∃ y, wr.heap.size = y := ⟨_, rfl⟩
      have HY : Hid ((wr.alloc (.cells #[.int .i64 Zp, .int .i64 Zf, .int .i64 Zb] 71)).heap[yb]? = some (.cells #[.int .i64 Zp, .int .i64 Zf, .int .i64 Zb] 71)) := Lib.hid (World.heap_at _ _ _ hyb.symm)
      have gY : wr.grows (wr.alloc (.cells #[.int .i64 Zp, .int .i64 Zf, .int .i64 Zb] 71)) := by (repeat (first | exact World.grows.refl _ | assumption | refine World.grows.alloc ?_ _ | refine World.grows.plus ?_ _ _ | refine World.grows.drew ?_))
      have hYs : (wr.alloc (.cells #[.int .i64 Zp, .int .i64 Zf, .int .i64 Zb] 71)).heap.size = yb + 1 := by simp [hyb]
      rw [hyb]
      generalize wr.alloc (.cells #[.int .i64 Zp, .int .i64 Zf, .int .i64 Zb] 71) = Y1 at HY gY hYs ⊢
      replace HX := Lib.hid (gY.heap_of HX.out)
      replace HB := Lib.hid (gY.heap_of HB.out)
      replace HB1 := Lib.hid (gY.heap_of HB1.out)
      replace HW := Lib.hid (HW.out.trans gY)
      obtain ⟨I, hIe⟩ : ∃ I : World → Prop, I = fun w' => w'.heap[xb]? = some (.cells #[.int .i64 P0, .slice sa N1 sc, .slice xa k xc] 25) ∧ w'.heap[w.heap.size]? = some (.cells #[.int .i64 P0, .slice sa N1 sc, .slice (some ⟨vb, vo, none⟩) N2 vc] 25) ∧ w'.heap[w.heap.size + 1]? = some (.cells #[.int .u8 (x0 : Nat), .int .u8 (x1 : Nat)] 54) ∧ w.grows w' ∧ V5.heap.size ≤ w'.heap.size ∧ w'.heap[yb]? = some (.cells #[.int .i64 Zp, .int .i64 Zf, .int .i64 Zb] 71) := ⟨_, rfl⟩
      have hI : ∀ W W', I W → W.grows W' → I W' := by
        rw [hIe]
        rintro W W' ⟨a1, a2, a3, a4, a5, a6⟩ g
        exact ⟨g.heap_of a1, g.heap_of a2, g.heap_of a3, a4.trans g, Nat.le_trans a5 g.size, g.heap_of a6⟩
      have hIw : I Y1 := by rw [hIe]; exact ⟨HX.out, HB.out, HB1.out, HW.out, by omega, HY.out⟩
      have HI : Hid (∀ U, I U → U.heap[xb]? = some (.cells #[.int .i64 P0, .slice sa N1 sc, .slice xa k xc] 25) ∧ U.heap[w.heap.size]? = some (.cells #[.int .i64 P0, .slice sa N1 sc, .slice (some ⟨vb, vo, none⟩) N2 vc] 25) ∧ U.heap[w.heap.size + 1]? = some (.cells #[.int .u8 (x0 : Nat), .int .u8 (x1 : Nat)] 54) ∧ w.grows U ∧ V5.heap.size ≤ U.heap.size ∧ U.heap[yb]? = some (.cells #[.int .i64 Zp, .int .i64 Zf, .int .i64 Zb] 71)) := Lib.hid fun U h => by rw [hIe] at h; exact h
      have HIm : Hid (∀ U, (U.heap[xb]? = some (.cells #[.int .i64 P0, .slice sa N1 sc, .slice xa k xc] 25) ∧ U.heap[w.heap.size]? = some (.cells #[.int .i64 P0, .slice sa N1 sc, .slice (some ⟨vb, vo, none⟩) N2 vc] 25) ∧ U.heap[w.heap.size + 1]? = some (.cells #[.int .u8 (x0 : Nat), .int .u8 (x1 : Nat)] 54) ∧ w.grows U ∧ V5.heap.size ≤ U.heap.size ∧ U.heap[yb]? = some (.cells #[.int .i64 Zp, .int .i64 Zf, .int .i64 Zb] 71)) → I U) := Lib.hid fun U h => by rw [hIe]; exact h
      clear hIe c0 c1 c2 c0w c1w c2w q2
      (refine wp_region_chainJ 13 [10, 11, 12] (I) (hI) (hIw) (by kernel_rfl) (by kernel_rfl) (by decide) ?_; simp only [without, only, withNo, List.take_succ_cons, List.take_zero, List.drop_succ_cons, List.drop_zero, List.take_nil, List.drop_nil, Nat.reduceAdd, Nat.reduceSub, List.filter, List.contains_cons, List.contains_nil, Nat.reduceBEq, Bool.or_false, Bool.false_or, Bool.true_or, Bool.or_true, Bool.or_self, Bool.not_true, Bool.not_false, List.map_cons, List.map_nil])
      refine wpCalmJ_go rfl (.pointer (some ⟨xb, 2, none⟩)) (fun U hU => by go_simp) ?_
      refine wpCalmJ_go rfl (.slice xa k xc) (fun U hU => by have e1 : U.cell? ⟨xb, 2, none⟩ = some (.slice xa k xc) := cell_of_heap (HI.out U hU).1 rfl; go_simp) ?_
      refine wpCalmJ_go rfl (.pointer (some ⟨yb, 0, none⟩)) (fun U hU => by go_simp) ?_
      refine wpCalmJ_go rfl (.int .i64 Zp) (fun U hU => by have e1 : U.cell? ⟨yb, 0, none⟩ = some (.int .i64 Zp) := cell_of_heap (HI.out U hU).2.2.2.2.2 rfl; go_simp) ?_
      refine wpCalmJ_go rfl (.pointer (some ⟨yb, 2, none⟩)) (fun U hU => by go_simp) ?_
      refine wpCalmJ_go rfl (.int .i64 Zb) (fun U hU => by have e1 : U.cell? ⟨yb, 2, none⟩ = some (.int .i64 Zb) := cell_of_heap (HI.out U hU).2.2.2.2.2 rfl; go_simp) ?_
      refine wpCalmJ_go rfl (.int .i64 (10000 - Zb)) (fun U hU => by go_simp) ?_
      refine wpCalmJ_go rfl (.pointer (some ⟨yb, 1, none⟩)) (fun U hU => by go_simp) ?_
      refine wpCalmJ_go rfl (.int .i64 Zf) (fun U hU => by have e1 : U.cell? ⟨yb, 1, none⟩ = some (.int .i64 Zf) := cell_of_heap (HI.out U hU).2.2.2.2.2 rfl; go_simp) ?_
      refine wpCalmJ_go rfl (.int .i64 (10000 - Zf)) (fun U hU => by go_simp) ?_
      refine wpCalm_nilJ ?_
      clear wB wF
      simp only [Act.put, List.setIfInBounds_toArray, List.set_cons_zero, List.set_cons_succ]
      refine wpChain_stepOJ (fun K hK nc xc9 hgc => ?_)
      go_simp
      refine (visit_c _ _ _ _).mono ?_
      rintro e U9 ⟨rfl, g1⟩
      refine ⟨_, rfl, hI _ _ hgc g1, hK _ _ ?_⟩
      clear hK K
      have gU : wr.grows U9 := gY.trans ((World.grows_plus Y1 nc xc9).trans g1)
      clear hgc g1
      refine wpChain_stepOJ (fun K hK nd xd hgd => ?_)
      go_simp
      refine ⟨hI _ _ hgd (by (repeat (first | exact World.grows.refl _ | assumption | refine World.grows.alloc ?_ _ | refine World.grows.plus ?_ _ _ | refine World.grows.drew ?_))), hK _ _ ?_⟩
      clear hK K hgd
      have gV : wr.grows ((U9.plus nd xd).alloc (.cells #[.int .i64 Zp, .int .i64 (10000 - Zb), .int .i64 (10000 - Zf)] 71)) := gU.trans (by (repeat (first | exact World.grows.refl _ | assumption | refine World.grows.alloc ?_ _ | refine World.grows.plus ?_ _ _ | refine World.grows.drew ?_)))
      refine wpChainJ_append rfl (.tmp 57) (.tmp 67) 23 (by rfl) V5.heap.size 71 (.agg #[.int .i64 0, .int .i64 0, .int .i64 0]) 3 24 Try.underlying23 el71 (by rfl) (by omega) (.slice xa k xc) k _ (by rfl) (ho.out.grow gV) _ (by rfl) 1 _ (fun W0 g => SliceAt.src (by omega) ((one3 (U9.plus nd xd) (.int .i64 Zp) (.int .i64 (10000 - Zb)) (.int .i64 (10000 - Zf)) 71 _ (by simp)).mono g)) (one3_cells _ _ _) (by unfold maxLen; omega) (by omega) (Nat.le_trans hsz gV.size) ?_
      rintro W0 v' w' hgW hI0 hown hgb
      obtain ⟨b1, b2, b3, b4, b5, b6⟩ := HI.out W0 hI0
      have hown0 := (ho.out.grow gV).grow hgW
      have hlt0 := fun b he => ho.out.lt b he
      have r1 := (hgb.block xb (World.lt_of_block b1) (fun he => by have := (hown0.lt xb he.symm).1; omega)).trans b1
      have r2 := (hgb.block w.heap.size (World.lt_of_block b2) (fun he => by have := (hown0.lt _ he.symm).1; omega)).trans b2
      have r3 := (hgb.block (w.heap.size + 1) (World.lt_of_block b3) (fun he => by have := (hown0.lt _ he.symm).1; omega)).trans b3
      have r4 : w.grows w' := hgb.grows hown0 b4 (by omega)
      have r6 := (hgb.block yb (World.lt_of_block b6) (fun he => by have := (ho.out.lt yb he.symm).2; omega)).trans b6
      have r5 := Nat.le_trans b5 hgb.size
      obtain ⟨va', vc', rfl, -, -⟩ := row_form hown
      refine ⟨HIm.out _ ⟨r1, r2, r3, r4, r5, r6⟩, ?_⟩
      refine wpChain_nilJ (fun nc2 xc2 => ?_)
      have gX := World.grows_plus w' nc2 xc2
      have hcells : tableL k 3 (vcell t.turn) ++ tableL 1 3 (fun _ j => if j = 0 then Value.int .i64 Zp else if j = 1 then .int .i64 (10000 - Zb) else .int .i64 (10000 - Zf)) = tableL (k + 1) 3 (vcell t.turn) := by
        rw [tableL_snoc (vcell t.turn) k 3]
        have h0 := HZ.out 0 (by omega)
        have h1 := HZ.out 1 (by omega)
        have h2 := HZ.out 2 (by omega)
        rw [show List.range 3 = [0, 1, 2] from rfl]
        simp only [List.map_cons, List.map_nil, h0, h1, h2]
        rfl
      rw [hcells] at hown
      have R1 := gX.heap_of r1
      have R2 := Lib.hid (gX.heap_of r2)
      have R3 := Lib.hid (gX.heap_of r3)
      have R4 := Lib.hid (r4.trans gX)
      have R5 := Nat.le_trans r5 gX.size
      have RO := Lib.hid (hown.grow gX)
      clear r1 r2 r3 r4 r5 r6 hown hgb hown0 hlt0 b1 b2 b3 b4 b5 b6 hI0 hgW gV gU hcells HX HB HB1 HW ho hIw hI HI HIm HY gY hYs
      generalize w'.plus nc2 xc2 = X at R1 R2 R3 R4 R5 RO gX ⊢
      clear gX
      have x1 : X.cell? ⟨xb, 2, none⟩ = some (.slice xa k xc) := cell_of_heap R1 rfl
      have x2 := frozen_of_heap R1 2
      go_upto_region 7 with fail
      have E : Hid ((X.setCell ⟨xb, 2, none⟩ (.slice va' (k + 1) vc')).heap[xb]? = some (.cells #[.int .i64 P0, .slice sa N1 sc, .slice va' (k + 1) vc'] 25)) := Lib.hid (store_of_heap R1 2 (.slice va' (k + 1) vc'))
      have F2 := Lib.hid ((World.heap_setCell_map X ⟨xb, 2, none⟩ (.slice va' (k + 1) vc') w.heap.size (show xb ≠ w.heap.size by omega)).trans R2.out)
      have F3 := Lib.hid ((World.heap_setCell_map X ⟨xb, 2, none⟩ (.slice va' (k + 1) vc') (w.heap.size + 1) (show xb ≠ w.heap.size + 1 by omega)).trans R3.out)
      have F4 := Lib.hid (R4.out.setCell (p := ⟨xb, 2, none⟩) (show w.heap.size ≤ xb by omega) (.slice va' (k + 1) vc'))
      have F5 : V5.heap.size ≤ (X.setCell ⟨xb, 2, none⟩ (.slice va' (k + 1) vc')).heap.size := by simpa [World.setCell] using R5
      have FO := Lib.hid (RO.out.set (p := ⟨xb, 2, none⟩) hxV (.slice va' (k + 1) vc'))
      clear x1 x2 R1 R2 R3 R4 R5 RO
      generalize X.setCell ⟨xb, 2, none⟩ (.slice va' (k + 1) vc') = Y at E F2 F3 F4 F5 FO ⊢
      go_wp2_with (go_at_call 99; fail)
      case roundEnd => exact ⟨⟨k + 1, va', vc', by omega, by go_num, E, FO, F4, F2, F3, F5⟩, by simp [intOf]; omega⟩
    · have hke : k = N2 := by omega
      have hkI : ¬ (k : Int) < N2 := by omega
      rw [hke] at HX ho
      have HTX : Hid (TownAt wr (.agg #[.int .i64 P0, .slice sa N1 sc, .slice xa N2 xc]) t.turn) := Lib.hid ⟨_, _, by show _ = Value.agg #[.int .i64 t.pl, _, _]; rw [HP0.out], by have h := SliceAt.mono hTV.out.1 HW.out; rw [← HN1.out] at h ⊢; exact h, by have h := ho.out.sliceAt fun i j hi hj => tableL_get _ hi hj; rw [← HN2.out] at h ⊢; exact h⟩
      obtain ⟨a, ha⟩ : ∃ x : Nat, x0 % N2 = x := ⟨_, rfl⟩
      obtain ⟨b, hb⟩ : ∃ x : Nat, x1 % N2 = x := ⟨_, rfl⟩
      have han : a < N2 := by rw [← ha]; exact Nat.mod_lt _ (by omega)
      have hbn : b < N2 := by rw [← hb]; exact Nat.mod_lt _ (by omega)
      have HAB := Lib.hid (And.intro han hbn)
      have e1 := tmod_at ha
      have e2 := tmod_at hb
      have w1 : IntKind.i64.wrap (x0 : Int) = x0 := wrapI rfl (by omega)
      have w2 : IntKind.i64.wrap (x1 : Int) = x1 := wrapI rfl (by omega)
      have k1 : ¬ (N2 : Int) = 0 := by omega
      have k3 : ¬ N2 = 0 := by omega
      have r0 := cell_of_heap (i := 0) HB1.out rfl
      have r1 := cell_of_heap (i := 1) HB1.out rfl
      clear hke hk hlt ha hb han hbn ho
      go_upto_region 10 with fail
      (refine wp_region_calm (by kernel_rfl) (by kernel_rfl) ?_; (repeat (refine wpCalm_step (fun K hK => ?_); go_simp; first | (refine hK _ ?_; clear hK K) | (apply Exists.intro; refine ⟨fun n' x' => ?_, hK _ ?_⟩; (fail); clear hK K))); refine wpCalm_nil ?_; intro nq xq)
      have gN := World.grows_plus wr nq xq
      replace HW := Lib.hid (HW.out.trans gN)
      replace HB := Lib.hid (gN.heap_of HB.out)
      replace HB1 := Lib.hid (gN.heap_of HB1.out)
      replace HX := Lib.hid (gN.heap_of HX.out)
      replace HTX := Lib.hid (HTX.out.mono gN)
      clear e1 e2 w1 w2 k1 k3 r0 r1 gN q2 hkI
      generalize wr.plus nq xq = V6 at HW HB HB1 HX HTX ⊢
      have q0 := cell_of_heap (i := 0) HB.out rfl
      have q1 := cell_of_heap (i := 1) HB.out rfl
      have q2 := cell_of_heap (i := 2) HB.out rfl
      obtain ⟨ea1, ea2⟩ := aft_nat HFine.out slow (show a < t.nv by rw [HN2.out]; exact HAB.out.1) (show b < t.nv by rw [HN2.out]; exact HAB.out.2)
      have h21 := fun W ht => after_c W (.agg #[.int .i64 P0, .slice sa N1 sc, .slice va N2 vc]) t slow ht (a : Int) (b : Int)
      rw [ea1, ea2] at h21
      clear ea1 ea2
      go_wp2_with (go_at_call 99; fail)
      refine (h21 _ (HT.out.mono (HW.out.trans (by (repeat (first | exact World.grows.refl _ | assumption | refine World.grows.alloc ?_ _ | refine World.grows.plus ?_ _ _ | refine World.grows.drew ?_)))))).mono ?_
      rintro e V7 ⟨rfl, g⟩
      replace HX := Lib.hid (World.grows.heap_of (World.grows.trans (by (repeat (first | exact World.grows.refl _ | assumption | refine World.grows.alloc ?_ _ | refine World.grows.plus ?_ _ _ | refine World.grows.drew ?_))) g) HX.out)
      replace HTX := Lib.hid (HTX.out.mono (World.grows.trans (by (repeat (first | exact World.grows.refl _ | assumption | refine World.grows.alloc ?_ _ | refine World.grows.plus ?_ _ _ | refine World.grows.drew ?_))) g))
      replace HW := Lib.hid (HW.out.trans (World.grows.trans (by (repeat (first | exact World.grows.refl _ | assumption | refine World.grows.alloc ?_ _ | refine World.grows.plus ?_ _ _ | refine World.grows.drew ?_))) g)); replace HB := Lib.hid (g.heap_of (World.grows.heap_of (by (repeat (first | exact World.grows.refl _ | assumption | refine World.grows.alloc ?_ _ | refine World.grows.plus ?_ _ _ | refine World.grows.drew ?_))) HB.out)); replace q0 := cell_of_heap (i := 0) HB.out rfl; replace q1 := cell_of_heap (i := 1) HB.out rfl; replace q2 := cell_of_heap (i := 2) HB.out rfl; replace HB1 := Lib.hid (g.heap_of (World.grows.heap_of (by (repeat (first | exact World.grows.refl _ | assumption | refine World.grows.alloc ?_ _ | refine World.grows.plus ?_ _ _ | refine World.grows.drew ?_))) HB1.out)); clear g
      clear h21
      obtain ⟨ea1, ea2⟩ := aft_nat HTurn.out slow (show b < t.turn.nv by show b < t.nv; rw [HN2.out]; exact HAB.out.2) (show a < t.turn.nv by show a < t.nv; rw [HN2.out]; exact HAB.out.1)
      have ea3 := aft_turn Hok.out slow (show a < t.nv by rw [HN2.out]; exact HAB.out.1) (show b < t.nv by rw [HN2.out]; exact HAB.out.2)
      have h21 := fun W ht => after_c W (.agg #[.int .i64 P0, .slice sa N1 sc, .slice xa N2 xc]) t.turn slow ht (b : Int) (a : Int)
      rw [ea1, ea2, ea3] at h21
      clear ea1 ea2 ea3
      obtain ⟨A, hA⟩ : ∃ x, aft t slow a b = x := ⟨_, rfl⟩
      rw [hA] at h21 ⊢
      clear hA
      have z0 : V7.cell? ⟨xb, 0, none⟩ = some (.int .i64 P0) := cell_of_heap HX.out rfl
      have z1 : V7.cell? ⟨xb, 1, none⟩ = some (.slice sa N1 sc) := cell_of_heap HX.out rfl
      have z2 : V7.cell? ⟨xb, 2, none⟩ = some (.slice xa N2 xc) := cell_of_heap HX.out rfl
      go_wp2_with (go_at_call 99; fail)
      refine (h21 _ (HTX.out.mono (by (repeat (first | exact World.grows.refl _ | assumption | refine World.grows.alloc ?_ _ | refine World.grows.plus ?_ _ _ | refine World.grows.drew ?_))))).mono ?_
      rintro e V8 ⟨rfl, g⟩
      replace HX := Lib.hid (World.grows.heap_of (World.grows.trans (by (repeat (first | exact World.grows.refl _ | assumption | refine World.grows.alloc ?_ _ | refine World.grows.plus ?_ _ _ | refine World.grows.drew ?_))) g) HX.out)
      replace HTX := Lib.hid (HTX.out.mono (World.grows.trans (by (repeat (first | exact World.grows.refl _ | assumption | refine World.grows.alloc ?_ _ | refine World.grows.plus ?_ _ _ | refine World.grows.drew ?_))) g))
      replace HW := Lib.hid (HW.out.trans (World.grows.trans (by (repeat (first | exact World.grows.refl _ | assumption | refine World.grows.alloc ?_ _ | refine World.grows.plus ?_ _ _ | refine World.grows.drew ?_))) g)); replace HB := Lib.hid (g.heap_of (World.grows.heap_of (by (repeat (first | exact World.grows.refl _ | assumption | refine World.grows.alloc ?_ _ | refine World.grows.plus ?_ _ _ | refine World.grows.drew ?_))) HB.out)); replace q0 := cell_of_heap (i := 0) HB.out rfl; replace q1 := cell_of_heap (i := 1) HB.out rfl; replace q2 := cell_of_heap (i := 2) HB.out rfl; replace HB1 := Lib.hid (g.heap_of (World.grows.heap_of (by (repeat (first | exact World.grows.refl _ | assumption | refine World.grows.alloc ?_ _ | refine World.grows.plus ?_ _ _ | refine World.grows.drew ?_))) HB1.out)); clear g
      clear h21 z0 z1 z2
      have bA : (A == A) = true := by cases A <;> rfl
      have bA2 : (A != A) = false := by cases A <;> rfl
      go_wp2_with (go_at_call 99; fail)
      refine (needs_c _ (.agg #[.int .i64 P0, .slice sa N1 sc, .slice va N2 vc]) t slow (HT.out.mono (HW.out.trans (by (repeat (first | exact World.grows.refl _ | assumption | refine World.grows.alloc ?_ _ | refine World.grows.plus ?_ _ _ | refine World.grows.drew ?_)))))).mono ?_
      rintro e V9 ⟨rfl, g⟩
      replace HX := Lib.hid (World.grows.heap_of (World.grows.trans (by (repeat (first | exact World.grows.refl _ | assumption | refine World.grows.alloc ?_ _ | refine World.grows.plus ?_ _ _ | refine World.grows.drew ?_))) g) HX.out)
      replace HTX := Lib.hid (HTX.out.mono (World.grows.trans (by (repeat (first | exact World.grows.refl _ | assumption | refine World.grows.alloc ?_ _ | refine World.grows.plus ?_ _ _ | refine World.grows.drew ?_))) g))
      replace HW := Lib.hid (HW.out.trans (World.grows.trans (by (repeat (first | exact World.grows.refl _ | assumption | refine World.grows.alloc ?_ _ | refine World.grows.plus ?_ _ _ | refine World.grows.drew ?_))) g)); replace HB := Lib.hid (g.heap_of (World.grows.heap_of (by (repeat (first | exact World.grows.refl _ | assumption | refine World.grows.alloc ?_ _ | refine World.grows.plus ?_ _ _ | refine World.grows.drew ?_))) HB.out)); replace q0 := cell_of_heap (i := 0) HB.out rfl; replace q1 := cell_of_heap (i := 1) HB.out rfl; replace q2 := cell_of_heap (i := 2) HB.out rfl; replace HB1 := Lib.hid (g.heap_of (World.grows.heap_of (by (repeat (first | exact World.grows.refl _ | assumption | refine World.grows.alloc ?_ _ | refine World.grows.plus ?_ _ _ | refine World.grows.drew ?_))) HB1.out)); clear g
      clear bA bA2
      by_cases hC0 : needE t slow = 0
      case neg =>
        obtain ⟨C, hC⟩ : ∃ x, needE t slow = x := ⟨_, rfl⟩
        rw [hC] at hC0 ⊢
        have hCI : ¬ (C : Int) = 0 := by omega
        have hCb : ((C : Int) == 0) = false := beq_eq_false_iff_ne.2 hCI
        have hCb2 : ((C : Int) != 0) = true := by rw [bne, hCb]; rfl
        clear hC
        go_wp2_with (go_at_call 99; fail); refine (works_c _).mono ?_; rintro e U9 ⟨rfl, g⟩; replace HW := Lib.hid (HW.out.trans (World.grows.trans (by (repeat (first | exact World.grows.refl _ | assumption | refine World.grows.alloc ?_ _ | refine World.grows.plus ?_ _ _ | refine World.grows.drew ?_))) g)); replace HB := Lib.hid (g.heap_of (World.grows.heap_of (by (repeat (first | exact World.grows.refl _ | assumption | refine World.grows.alloc ?_ _ | refine World.grows.plus ?_ _ _ | refine World.grows.drew ?_))) HB.out)); replace q0 := cell_of_heap (i := 0) HB.out rfl; replace q1 := cell_of_heap (i := 1) HB.out rfl; replace q2 := cell_of_heap (i := 2) HB.out rfl; replace HB1 := Lib.hid (g.heap_of (World.grows.heap_of (by (repeat (first | exact World.grows.refl _ | assumption | refine World.grows.alloc ?_ _ | refine World.grows.plus ?_ _ _ | refine World.grows.drew ?_))) HB1.out)); clear g; go_wp2; (refine bodyPost_ret (v := .bool true) (by simp [results, Try.results13, go_sem]) rfl ?_); exact ⟨rfl, HW.out.trans (by (repeat (first | exact World.grows.refl _ | assumption | refine World.grows.alloc ?_ _ | refine World.grows.plus ?_ _ _ | refine World.grows.drew ?_)))⟩
      rw [hC0]
      have HC := Lib.hid hC0
      clear hC0
      have z0 : V9.cell? ⟨xb, 0, none⟩ = some (.int .i64 P0) := cell_of_heap HX.out rfl
      have z1 : V9.cell? ⟨xb, 1, none⟩ = some (.slice sa N1 sc) := cell_of_heap HX.out rfl
      have z2 : V9.cell? ⟨xb, 2, none⟩ = some (.slice xa N2 xc) := cell_of_heap HX.out rfl
      go_wp2_with (go_at_call 99; fail)
      refine (needs_c _ (.agg #[.int .i64 P0, .slice sa N1 sc, .slice xa N2 xc]) t.turn slow (HTX.out.mono (by (repeat (first | exact World.grows.refl _ | assumption | refine World.grows.alloc ?_ _ | refine World.grows.plus ?_ _ _ | refine World.grows.drew ?_))))).mono ?_
      rintro e V10 ⟨rfl, g⟩
      replace HX := Lib.hid (World.grows.heap_of (World.grows.trans (by (repeat (first | exact World.grows.refl _ | assumption | refine World.grows.alloc ?_ _ | refine World.grows.plus ?_ _ _ | refine World.grows.drew ?_))) g) HX.out)
      replace HTX := Lib.hid (HTX.out.mono (World.grows.trans (by (repeat (first | exact World.grows.refl _ | assumption | refine World.grows.alloc ?_ _ | refine World.grows.plus ?_ _ _ | refine World.grows.drew ?_))) g))
      replace HW := Lib.hid (HW.out.trans (World.grows.trans (by (repeat (first | exact World.grows.refl _ | assumption | refine World.grows.alloc ?_ _ | refine World.grows.plus ?_ _ _ | refine World.grows.drew ?_))) g)); replace HB := Lib.hid (g.heap_of (World.grows.heap_of (by (repeat (first | exact World.grows.refl _ | assumption | refine World.grows.alloc ?_ _ | refine World.grows.plus ?_ _ _ | refine World.grows.drew ?_))) HB.out)); replace q0 := cell_of_heap (i := 0) HB.out rfl; replace q1 := cell_of_heap (i := 1) HB.out rfl; replace q2 := cell_of_heap (i := 2) HB.out rfl; replace HB1 := Lib.hid (g.heap_of (World.grows.heap_of (by (repeat (first | exact World.grows.refl _ | assumption | refine World.grows.alloc ?_ _ | refine World.grows.plus ?_ _ _ | refine World.grows.drew ?_))) HB1.out)); clear g
      clear z0 z1 z2
      by_cases hC0 : needE t.turn slow = 0
      case neg =>
        obtain ⟨C, hC⟩ : ∃ x, needE t.turn slow = x := ⟨_, rfl⟩
        rw [hC] at hC0 ⊢
        have hCI : ¬ (C : Int) = 0 := by omega
        have hCb : ((C : Int) == 0) = false := beq_eq_false_iff_ne.2 hCI
        have hCb2 : ((C : Int) != 0) = true := by rw [bne, hCb]; rfl
        clear hC
        go_wp2_with (go_at_call 99; fail); refine (works_c _).mono ?_; rintro e U9 ⟨rfl, g⟩; replace HW := Lib.hid (HW.out.trans (World.grows.trans (by (repeat (first | exact World.grows.refl _ | assumption | refine World.grows.alloc ?_ _ | refine World.grows.plus ?_ _ _ | refine World.grows.drew ?_))) g)); replace HB := Lib.hid (g.heap_of (World.grows.heap_of (by (repeat (first | exact World.grows.refl _ | assumption | refine World.grows.alloc ?_ _ | refine World.grows.plus ?_ _ _ | refine World.grows.drew ?_))) HB.out)); replace q0 := cell_of_heap (i := 0) HB.out rfl; replace q1 := cell_of_heap (i := 1) HB.out rfl; replace q2 := cell_of_heap (i := 2) HB.out rfl; replace HB1 := Lib.hid (g.heap_of (World.grows.heap_of (by (repeat (first | exact World.grows.refl _ | assumption | refine World.grows.alloc ?_ _ | refine World.grows.plus ?_ _ _ | refine World.grows.drew ?_))) HB1.out)); clear g; go_wp2; (refine bodyPost_ret (v := .bool true) (by simp [results, Try.results13, go_sem]) rfl ?_); exact ⟨rfl, HW.out.trans (by (repeat (first | exact World.grows.refl _ | assumption | refine World.grows.alloc ?_ _ | refine World.grows.plus ?_ _ _ | refine World.grows.drew ?_)))⟩
      rw [hC0]
      have HC2 := Lib.hid hC0
      clear hC0
      obtain ⟨F, hF⟩ : ∃ x, few t slow = x := ⟨_, rfl⟩
      have h42 := fun W ht => carts_c W (.agg #[.int .i64 P0, .slice sa N1 sc, .slice va N2 vc]) t slow ht
      have h43 := fun W ht => carts_c W (.agg #[.int .i64 P0, .slice sa N1 sc, .slice xa N2 xc]) t.turn slow ht
      rw [show cartsN t slow = F by unfold cartsN; rw [if_pos HC.out, hF]] at h42
      rw [show cartsN t.turn slow = F by unfold cartsN; rw [if_pos HC2.out, few_turn HFine.out, hF]] at h43
      clear hF
      go_wp2_with (go_at_call 99; fail)
      refine (h42 _ (HT.out.mono (HW.out.trans (by (repeat (first | exact World.grows.refl _ | assumption | refine World.grows.alloc ?_ _ | refine World.grows.plus ?_ _ _ | refine World.grows.drew ?_)))))).mono ?_
      rintro e V11 ⟨rfl, g⟩
      replace HX := Lib.hid (World.grows.heap_of (World.grows.trans (by (repeat (first | exact World.grows.refl _ | assumption | refine World.grows.alloc ?_ _ | refine World.grows.plus ?_ _ _ | refine World.grows.drew ?_))) g) HX.out)
      replace HTX := Lib.hid (HTX.out.mono (World.grows.trans (by (repeat (first | exact World.grows.refl _ | assumption | refine World.grows.alloc ?_ _ | refine World.grows.plus ?_ _ _ | refine World.grows.drew ?_))) g))
      replace HW := Lib.hid (HW.out.trans (World.grows.trans (by (repeat (first | exact World.grows.refl _ | assumption | refine World.grows.alloc ?_ _ | refine World.grows.plus ?_ _ _ | refine World.grows.drew ?_))) g)); replace HB := Lib.hid (g.heap_of (World.grows.heap_of (by (repeat (first | exact World.grows.refl _ | assumption | refine World.grows.alloc ?_ _ | refine World.grows.plus ?_ _ _ | refine World.grows.drew ?_))) HB.out)); replace q0 := cell_of_heap (i := 0) HB.out rfl; replace q1 := cell_of_heap (i := 1) HB.out rfl; replace q2 := cell_of_heap (i := 2) HB.out rfl; replace HB1 := Lib.hid (g.heap_of (World.grows.heap_of (by (repeat (first | exact World.grows.refl _ | assumption | refine World.grows.alloc ?_ _ | refine World.grows.plus ?_ _ _ | refine World.grows.drew ?_))) HB1.out)); clear g
      clear h42
      have z0 : V11.cell? ⟨xb, 0, none⟩ = some (.int .i64 P0) := cell_of_heap HX.out rfl
      have z1 : V11.cell? ⟨xb, 1, none⟩ = some (.slice sa N1 sc) := cell_of_heap HX.out rfl
      have z2 : V11.cell? ⟨xb, 2, none⟩ = some (.slice xa N2 xc) := cell_of_heap HX.out rfl
      go_wp2_with (go_at_call 99; fail)
      refine (h43 _ (HTX.out.mono (by (repeat (first | exact World.grows.refl _ | assumption | refine World.grows.alloc ?_ _ | refine World.grows.plus ?_ _ _ | refine World.grows.drew ?_))))).mono ?_
      rintro e V12 ⟨rfl, g⟩
      replace HX := Lib.hid (World.grows.heap_of (World.grows.trans (by (repeat (first | exact World.grows.refl _ | assumption | refine World.grows.alloc ?_ _ | refine World.grows.plus ?_ _ _ | refine World.grows.drew ?_))) g) HX.out)
      replace HTX := Lib.hid (HTX.out.mono (World.grows.trans (by (repeat (first | exact World.grows.refl _ | assumption | refine World.grows.alloc ?_ _ | refine World.grows.plus ?_ _ _ | refine World.grows.drew ?_))) g))
      replace HW := Lib.hid (HW.out.trans (World.grows.trans (by (repeat (first | exact World.grows.refl _ | assumption | refine World.grows.alloc ?_ _ | refine World.grows.plus ?_ _ _ | refine World.grows.drew ?_))) g)); replace HB := Lib.hid (g.heap_of (World.grows.heap_of (by (repeat (first | exact World.grows.refl _ | assumption | refine World.grows.alloc ?_ _ | refine World.grows.plus ?_ _ _ | refine World.grows.drew ?_))) HB.out)); replace q0 := cell_of_heap (i := 0) HB.out rfl; replace q1 := cell_of_heap (i := 1) HB.out rfl; replace q2 := cell_of_heap (i := 2) HB.out rfl; replace HB1 := Lib.hid (g.heap_of (World.grows.heap_of (by (repeat (first | exact World.grows.refl _ | assumption | refine World.grows.alloc ?_ _ | refine World.grows.plus ?_ _ _ | refine World.grows.drew ?_))) HB1.out)); clear g
      clear h43 z0 z1 z2
      have HEX := Lib.hid (planX_turn HFine.out slow (need_zero HC.out).2 (need_zero HC2.out).2 P)
      clear q0 q1 q2
      have hPL30 : PL ≤ 30 := by rw [← HPL.out]; exact hl1
      go_wp2
      go_loopw [22, 23] (fun l i wr => ∃ (k : Nat) (cs : List (Value × List Int)), k ≤ PL ∧ cs.length = k ∧ i = .int .i64 k ∧ Hid (wr.ownsRow V12.heap.size 35 1 l k (cs.map (·.1))) ∧ Hid (∀ x ∈ cs, wr.ownsRow V12.heap.size 3 1 x.1 x.2.length (intsL x.2)) ∧ Hid (cs.map (·.2) = (P.take k).map List.reverse) ∧ Hid (V12.grows wr)) (fun _ i _ => PL - (intOf i).toNat)
      case atStart => exact ⟨0, [], by omega, rfl, rfl, Lib.hid (World.ownsRow_nil _ _ _ _), Lib.hid (fun x hx => by cases hx), Lib.hid rfl, Lib.hid (World.grows.refl _)⟩
      case round =>
        obtain ⟨k, cs, hk, hcl, rfl, ho, hcs, hcp, hg⟩ := hrel
        obtain ⟨Wo, rfl⟩ : ∃ Wo, Wo = wr := ⟨_, rfl⟩
        obtain ⟨la, lc, rfl, -, -⟩ := row_form ho.out
        by_cases hlt : k < PL
        · have hkI : (k : Int) < PL := by omega
          obtain ⟨pb, po, ra, rc, rfl, c0, hm1, hm2, hcell⟩ := plan_row HPl.out (show k < P.length by rw [HPL.out]; exact hlt)
          obtain ⟨c, hc⟩ : ∃ c, P.getD k [] = c := ⟨_, rfl⟩
          rw [hc] at c0 hm1 hcell
          have hM1 : c.length ≤ 1000 := by have := len_flat P k; rw [hc] at this; omega
          obtain ⟨M, hM⟩ : ∃ M, c.length = M := ⟨_, rfl⟩
          rw [hM] at c0 hm1 hM1 hcell
          have HM := Lib.hid hM
          have HC1 := Lib.hid hc
          have Hcl := Lib.hid hcl
          replace c0 : Wo.cell? ⟨pb, po + k, none⟩ = some (.slice ra M rc) := (HW.out.trans hg.out).cell_of c0
          have HCell : Hid (∀ j, j < M → ∃ rb ro, ra = some ⟨rb, ro, none⟩ ∧ Wo.cell? ⟨rb, ro + j, none⟩ = some (.int .i64 (c.getD j 0))) := Lib.hid fun j hj => by
            obtain ⟨rb, ro, e, h⟩ := hcell j hj
            exact ⟨rb, ro, e, (HW.out.trans hg.out).cell_of h⟩
          clear hM hc hcell hm1 hm2 hcl
          have hwM : IntKind.i64.wrap ((M : Int) - 1) = (M : Int) - 1 := wrapI rfl (by omega)
          go_wp2
          have HC0 := Lib.hid c0
          clear c0
          go_loopw [24, 25] (fun s i wr => ∃ (j n : Nat) (z : Int), j ≤ M ∧ Hid (n + j = M) ∧ z = (j : Int) - 1 ∧ i = .int .i64 z ∧ Hid (wr.ownsRow Wo.heap.size 3 1 s n (intsL (c.drop j).reverse)) ∧ Hid (Wo.grows wr)) (fun _ i _ => (intOf i + 1).toNat)
          case atStart => exact ⟨M, 0, (M : Int) - 1, by omega, Lib.hid (by omega), rfl, by go_num, Lib.hid (by rw [List.drop_of_length_le (by have := HM.out; omega)]; exact World.ownsRow_nil _ _ _ _), Lib.hid (World.grows.refl _)⟩
          case round =>
            obtain ⟨j, n, z, hj, hnj, hz, rfl, ho2, hg2⟩ := hrel
            obtain ⟨sa2, sc2, rfl, -, -⟩ := row_form ho2.out
            clear hwM
            by_cases hz0 : 0 ≤ z
            · obtain ⟨p, rfl⟩ : ∃ p : Nat, z = p := ⟨z.toNat, by omega⟩
              obtain rfl : j = p + 1 := by omega
              as_aux_lemma =>
              obtain ⟨rb, ro, rfl, c1⟩ := HCell.out p (by omega)
              replace c1 := hg2.out.cell_of c1
              have c0 := hg2.out.cell_of HC0.out
              have hpI : (p : Int) < M := by omega
              have hn1 := hnj.out
              obtain ⟨q, hq⟩ : ∃ q, c.getD p 0 = q := ⟨_, rfl⟩
              have HQ : Hid ((c.drop (p + 1)).reverse ++ [q] = (c.drop p).reverse) := Lib.hid (by rw [← hq]; exact drop_rev c (by rw [HM.out]; omega))
              rw [hq] at c1
              clear hz hq
              go_upto_region 27 with fail
              iterate 28 go_step
              refine wpList_append_r _ rfl (.tmp 150) (.tmp 158) 35 (by rfl) Wo.heap.size 3 (.int .i64 0) 1 8 Try.underlying35 el3 (by rfl) (by omega) (.slice sa2 n sc2) n _ (by rfl) (ho2.out.grow (by (repeat (first | exact World.grows.refl _ | assumption | refine World.grows.alloc ?_ _ | refine World.grows.plus ?_ _ _ | refine World.grows.drew ?_)))) (.slice (some ⟨wr.heap.size, 0, none⟩) 1 1) (by rfl) 1 _ (SliceAt.src (by omega) (one_slice _ _ _ _ (by simp))) (one_cell _) (by unfold maxLen; omega) (by omega) (by have := hg2.out.size; simp; omega) ?_
              intro v' w3 hown hgb
              have ho3 := ho2.out.grow (show wr.grows (wr.alloc (.cells #[.int .i64 q] 3)) by (repeat (first | exact World.grows.refl _ | assumption | refine World.grows.alloc ?_ _ | refine World.grows.plus ?_ _ _ | refine World.grows.drew ?_)))
              have hg3 := Lib.hid (hgb.grows ho3 (World.grows.trans hg2.out (by (repeat (first | exact World.grows.refl _ | assumption | refine World.grows.alloc ?_ _ | refine World.grows.plus ?_ _ _ | refine World.grows.drew ?_)))) (Nat.le_refl _))
              have hO : Hid (w3.ownsRow Wo.heap.size 3 1 v' (n + 1) (intsL (c.drop p).reverse)) := Lib.hid (by
                rw [intsL_one1, ← intsL_append, HQ.out] at hown
                exact hown)
              obtain ⟨sa3, sc3, rfl, -, -⟩ := row_form hown
              clear hown hgb ho3 c0 c1
              go_wp2
              case roundEnd => exact ⟨⟨p, n + 1, (p : Int) - 1, by omega, Lib.hid (by omega), rfl, by go_num, hO, hg3⟩, by simp [intOf]⟩
            · obtain rfl : j = 0 := by omega
              have hzI : ¬ 0 ≤ z := hz0
              as_aux_lemma =>
              have HO : Hid (wr.ownsRow V12.heap.size 3 1 (.slice sa2 n sc2) n (intsL c.reverse)) := Lib.hid (ho2.out.down hg.out.size)
              have hn0 : n = M := by have := hnj.out; omega
              have ho3 := Lib.hid (ho.out.grow hg2.out)
              have hg3 := Lib.hid (hg.out.trans hg2.out)
              have hcs3 : Hid (∀ x ∈ cs, wr.ownsRow V12.heap.size 3 1 x.1 x.2.length (intsL x.2)) := Lib.hid fun x hx => (hcs.out x hx).grow hg2.out
              have HN : Hid (n = c.reverse.length) := Lib.hid (by rw [List.length_reverse, HM.out]; exact hn0)
              clear hz hn0 ho2 hg2 HCell HC0 ho hcs
              go_upto_region 28 with fail
              iterate 10 go_step
              refine wpList_append_r _ rfl (.tmp 160) (.tmp 162) 39 (by rfl) V12.heap.size 35 (.slice none 0 0) 1 24 Try.underlying39 el35 (by rfl) (by omega) (.slice la k lc) k _ (by rfl) (ho3.out.grow (by (repeat (first | exact World.grows.refl _ | assumption | refine World.grows.alloc ?_ _ | refine World.grows.plus ?_ _ _ | refine World.grows.drew ?_)))) (.slice (some ⟨wr.heap.size, 0, none⟩) 1 1) (by rfl) 1 _ (SliceAt.src (by omega) (one_slice _ _ _ _ (by simp))) (slice_cell _ _ _) (by unfold maxLen; omega) (by omega) (by have := hg3.out.size; simp; omega) ?_
              intro v' w3 hown3 hgb
              have ho4 := ho3.out.grow (show wr.grows (wr.alloc (.cells #[.slice sa2 n sc2] 35)) by (repeat (first | exact World.grows.refl _ | assumption | refine World.grows.alloc ?_ _ | refine World.grows.plus ?_ _ _ | refine World.grows.drew ?_)))
              have hg4 := Lib.hid (hgb.grows ho4 (World.grows.trans hg3.out (by (repeat (first | exact World.grows.refl _ | assumption | refine World.grows.alloc ?_ _ | refine World.grows.plus ?_ _ _ | refine World.grows.drew ?_)))) (Nat.le_refl _))
              have hcs4 : Hid (∀ x ∈ cs ++ [(.slice sa2 n sc2, c.reverse)], w3.ownsRow V12.heap.size 3 1 x.1 x.2.length (intsL x.2)) := Lib.hid fun x hx => by
                rcases List.mem_append.1 hx with hx | hx
                · exact ((hcs3.out x hx).grow (by (repeat (first | exact World.grows.refl _ | assumption | refine World.grows.alloc ?_ _ | refine World.grows.plus ?_ _ _ | refine World.grows.drew ?_)))).other ho4 (by decide) hgb
                · rw [List.mem_singleton] at hx
                  subst hx
                  have h9 := (HO.out.grow (show wr.grows (wr.alloc (.cells #[.slice sa2 n sc2] 35)) by (repeat (first | exact World.grows.refl _ | assumption | refine World.grows.alloc ?_ _ | refine World.grows.plus ?_ _ _ | refine World.grows.drew ?_)))).other ho4 (by decide) hgb
                  show w3.ownsRow V12.heap.size 3 1 (.slice sa2 n sc2) c.reverse.length (intsL c.reverse)
                  rw [← HN.out]; exact h9
              have hcp4 : Hid ((cs ++ [(Value.slice sa2 n sc2, c.reverse)]).map (·.2) = (P.take (k + 1)).map List.reverse) := Lib.hid (by
                rw [List.map_append, hcp.out, ← take_rev P (by rw [HPL.out]; exact hlt), HC1.out]; rfl)
              have ho5 : Hid (w3.ownsRow V12.heap.size 35 1 v' (k + 1) ((cs ++ [(Value.slice sa2 n sc2, c.reverse)]).map (·.1))) := Lib.hid (by
                rw [tableL_one] at hown3
                rw [List.map_append]
                exact hown3)
              obtain ⟨la5, lc5, rfl, -, -⟩ := row_form hown3
              clear hown3 hgb ho4
              go_wp2
              case roundEnd => exact ⟨⟨k + 1, _, by omega, by rw [List.length_append, Hcl.out]; rfl, by go_num, ho5, hcs4, hcp4, hg4⟩, by simp [intOf]; omega⟩
        · have hke : k = PL := by omega
          have hkI : ¬ (k : Int) < PL := by omega
          as_aux_lemma =>
          have hlen : cs.length = P.length := by rw [HPL.out]; omega
          have HQ : Hid (PlanAt Wo (.slice la k lc) (P.map List.reverse)) := Lib.hid (by
            have h1 := plan_of_rows (cs := cs) (by rw [hcl]; exact ho.out) hcs.out
            rw [hcp.out, hke, ← HPL.out, List.take_length] at h1
            rw [hke]
            rw [← HPL.out]
            exact h1)
          have HFl : Hid ((P.map List.reverse).flatten.length ≤ 1000 ∧ (P.map List.reverse).length ≤ 30) := Lib.hid (by
            have : ∀ Q : List (List Int), (Q.map List.reverse).flatten.length = Q.flatten.length := fun Q => by
              induction Q with
              | nil => rfl
              | cons c Q ih => simp only [List.map_cons, List.flatten_cons, List.length_append, List.length_reverse, ih]
            rw [this, List.length_map]
            exact ⟨hl2, hl1⟩)
          have HE1 := HEX.out.1
          have HE2 := HEX.out.2
          have h28 := fun W ht hp => checkPlan_c W (.agg #[.int .i64 P0, .slice sa N1 sc, .slice va N2 vc]) (.slice pa PL pc) t slow ht P hp (by omega) (by omega)
          have h29 := fun W ht hp => checkPlan_c W (.agg #[.int .i64 P0, .slice sa N1 sc, .slice xa N2 xc]) (.slice la k lc) t.turn slow ht (P.map List.reverse) hp (by have := HFl.out.1; omega) (by have := HFl.out.2; omega)
          rw [HE1, HE2] at h29
          obtain ⟨X1, hX1⟩ : ∃ x, planX t slow P = x := ⟨_, rfl⟩
          obtain ⟨X2, hX2⟩ : ∃ x, planN t slow P = x := ⟨_, rfl⟩
          rw [hX1, hX2] at h28 h29
          replace HX := Lib.hid (hg.out.heap_of HX.out)
          replace HTX := Lib.hid (HTX.out.mono hg.out)
          replace HB := Lib.hid (hg.out.heap_of HB.out)
          replace HB1 := Lib.hid (hg.out.heap_of HB1.out)
          replace HW := Lib.hid (HW.out.trans hg.out)
          clear HE1 HE2 HEX hX1 hX2 hke hlt hlen ho hcs hcp hg hcl hk HFl
          have q0 := cell_of_heap (i := 0) HB.out rfl
          have q1 := cell_of_heap (i := 1) HB.out rfl
          have q2 := cell_of_heap (i := 2) HB.out rfl
          go_wp2_with (go_at_call 99; fail)
          refine (h28 _ (HT.out.mono (HW.out.trans (by (repeat (first | exact World.grows.refl _ | assumption | refine World.grows.alloc ?_ _ | refine World.grows.plus ?_ _ _ | refine World.grows.drew ?_))))) (HPl.out.mono (HW.out.trans (by (repeat (first | exact World.grows.refl _ | assumption | refine World.grows.alloc ?_ _ | refine World.grows.plus ?_ _ _ | refine World.grows.drew ?_)))))).mono ?_
          rintro e V13 ⟨rfl, g⟩
          replace HX := Lib.hid (World.grows.heap_of (World.grows.trans (by (repeat (first | exact World.grows.refl _ | assumption | refine World.grows.alloc ?_ _ | refine World.grows.plus ?_ _ _ | refine World.grows.drew ?_))) g) HX.out)
          replace HTX := Lib.hid (HTX.out.mono (World.grows.trans (by (repeat (first | exact World.grows.refl _ | assumption | refine World.grows.alloc ?_ _ | refine World.grows.plus ?_ _ _ | refine World.grows.drew ?_))) g))
          replace HQ := Lib.hid (HQ.out.mono (World.grows.trans (by (repeat (first | exact World.grows.refl _ | assumption | refine World.grows.alloc ?_ _ | refine World.grows.plus ?_ _ _ | refine World.grows.drew ?_))) g))
          replace HW := Lib.hid (HW.out.trans (World.grows.trans (by (repeat (first | exact World.grows.refl _ | assumption | refine World.grows.alloc ?_ _ | refine World.grows.plus ?_ _ _ | refine World.grows.drew ?_))) g)); replace HB := Lib.hid (g.heap_of (World.grows.heap_of (by (repeat (first | exact World.grows.refl _ | assumption | refine World.grows.alloc ?_ _ | refine World.grows.plus ?_ _ _ | refine World.grows.drew ?_))) HB.out)); replace q0 := cell_of_heap (i := 0) HB.out rfl; replace q1 := cell_of_heap (i := 1) HB.out rfl; replace q2 := cell_of_heap (i := 2) HB.out rfl; replace HB1 := Lib.hid (g.heap_of (World.grows.heap_of (by (repeat (first | exact World.grows.refl _ | assumption | refine World.grows.alloc ?_ _ | refine World.grows.plus ?_ _ _ | refine World.grows.drew ?_))) HB1.out)); clear g
          clear h28
          have z0 : V13.cell? ⟨xb, 0, none⟩ = some (.int .i64 P0) := cell_of_heap HX.out rfl
          have z1 : V13.cell? ⟨xb, 1, none⟩ = some (.slice sa N1 sc) := cell_of_heap HX.out rfl
          have z2 : V13.cell? ⟨xb, 2, none⟩ = some (.slice xa N2 xc) := cell_of_heap HX.out rfl
          go_wp2_with (go_at_call 99; fail)
          refine (h29 _ (HTX.out.mono (by (repeat (first | exact World.grows.refl _ | assumption | refine World.grows.alloc ?_ _ | refine World.grows.plus ?_ _ _ | refine World.grows.drew ?_)))) (HQ.out.mono (by (repeat (first | exact World.grows.refl _ | assumption | refine World.grows.alloc ?_ _ | refine World.grows.plus ?_ _ _ | refine World.grows.drew ?_))))).mono ?_
          rintro e V14 ⟨rfl, g⟩
          replace HW := Lib.hid (HW.out.trans (World.grows.trans (by (repeat (first | exact World.grows.refl _ | assumption | refine World.grows.alloc ?_ _ | refine World.grows.plus ?_ _ _ | refine World.grows.drew ?_))) g)); replace HB := Lib.hid (g.heap_of (World.grows.heap_of (by (repeat (first | exact World.grows.refl _ | assumption | refine World.grows.alloc ?_ _ | refine World.grows.plus ?_ _ _ | refine World.grows.drew ?_))) HB.out)); replace q0 := cell_of_heap (i := 0) HB.out rfl; replace q1 := cell_of_heap (i := 1) HB.out rfl; replace q2 := cell_of_heap (i := 2) HB.out rfl; replace HB1 := Lib.hid (g.heap_of (World.grows.heap_of (by (repeat (first | exact World.grows.refl _ | assumption | refine World.grows.alloc ?_ _ | refine World.grows.plus ?_ _ _ | refine World.grows.drew ?_))) HB1.out)); clear g
          clear h29 z0 z1 z2
          go_wp2_with (go_at_call 99; fail); refine (works_c _).mono ?_; rintro e U9 ⟨rfl, g⟩; replace HW := Lib.hid (HW.out.trans (World.grows.trans (by (repeat (first | exact World.grows.refl _ | assumption | refine World.grows.alloc ?_ _ | refine World.grows.plus ?_ _ _ | refine World.grows.drew ?_))) g)); replace HB := Lib.hid (g.heap_of (World.grows.heap_of (by (repeat (first | exact World.grows.refl _ | assumption | refine World.grows.alloc ?_ _ | refine World.grows.plus ?_ _ _ | refine World.grows.drew ?_))) HB.out)); replace q0 := cell_of_heap (i := 0) HB.out rfl; replace q1 := cell_of_heap (i := 1) HB.out rfl; replace q2 := cell_of_heap (i := 2) HB.out rfl; replace HB1 := Lib.hid (g.heap_of (World.grows.heap_of (by (repeat (first | exact World.grows.refl _ | assumption | refine World.grows.alloc ?_ _ | refine World.grows.plus ?_ _ _ | refine World.grows.drew ?_))) HB1.out)); clear g; go_wp2; (refine bodyPost_ret (v := .bool true) (by simp [results, Try.results13, go_sem]) rfl ?_); exact ⟨rfl, HW.out.trans (by (repeat (first | exact World.grows.refl _ | assumption | refine World.grows.alloc ?_ _ | refine World.grows.plus ?_ _ _ | refine World.grows.drew ?_)))⟩
end Go.Proofs.Ytaanbdjmibjcbaa

/-
  What is proved: the statement RoundTurned, at every input.
-/
namespace Go.Proofs.Ytaanbdjmibjcbaa
open Go.ChangeShapes Go.WideShapes Go.ChangeAt Go.RowKit

set_option maxRecDepth 100000 in
theorem roundTurned_lifted (os : Os) (started : os.Started) (H : Type) (enc : TypeId × Value → H) :
    ReturnsInHanded {} Try.checked os 13 .any (Rows.roundTurnedSpec.pre6 enc Try.prog Try.f13 Rows.roundTurnedRow.domain false) (Rows.roundTurnedSpec.post enc Try.prog Try.f13 false true false false) := by
  refine law_lifted (C := Try.checked) (tb := 4) started own_c laid_c (by kernel_rfl) Try.func13 (of_decide_eq_true (by kernel_rfl))
    (ChangeSpec.witness6 (enc := enc) (C := Try.checked) false ⟨#[], #[.agg #[.int .i64 0, .slice none 0 0, .slice none 0 0], .agg #[.int .u8 0, .int .u8 0], .slice none 0 0, .bool false], []⟩ 8 (by kernel_rfl) (by kernel_rfl) (by kernel_rfl) (by kernel_rfl))
    rfl Try.underlying4 rfl (fun ds hl => ?_) (fun W base args ds ps hval hA => ?_)
  · match ds, hl with
    | [d1, d2, d3, d4], _ => exact ⟨rfl, rfl, rfl⟩
  · have hA' : DataW.TrodAll enc Try.prog W 0 (fun _ => true) true Try.f13.params.toList args.toList ds ps := hA
    have hval' : ∀ (j : Nat) t v, Try.f13.params[j]? = some t → args[j]? = some v → Value.okWide Try.prog W .any base t v := hval
    rw [Try.params13] at hA' hval'
    obtain ⟨v1, v2, v3, v4, d1, d2, d3, d4, p1, p2, p3, p4, rfl, rfl, rfl, h1, h2, h3, h4⟩ := trodAll_four hA'
    obtain ⟨t1, ht1⟩ := town_of (hval' 0 25 v1 rfl rfl) h1
    obtain ⟨a2, b2, rfl, k2⟩ := two_of (hval' 1 54 v2 rfl rfl) h2
    obtain ⟨P3, hP3⟩ := plan_of (hval' 2 39 v3 rfl rfl) h3
    obtain ⟨z4, rfl, -⟩ := open_bool Try.underlying4 (hval' 3 4 v4 rfl rfl) h4
    exact turned_w W v1 t1 ht1 a2 b2 k2 v3 P3 hP3 z4

theorem roundTurned_holds : Rows.RoundTurnedSaid :=
  OpenClaim.holds_of_wide 13 Try.f13 rfl rfl rfl rfl rfl rfl rfl ⟨rfl, rfl, rfl, rfl, rfl⟩ rfl rfl rfl rfl rfl (by kernel_rfl) Try.func13 (by kernel_rfl)
    (of_decide_eq_true (by kernel_rfl)) (by unfold Func.isWrapper; first | (rw [if_pos (by decide +kernel)]; kernel_rfl) | (rw [if_neg (by decide +kernel)]; exact ⟨rfl, rfl⟩))
    (fun os started H enc _ => roundTurned_lifted os started H enc)
end Go.Proofs.Ytaanbdjmibjcbaa

