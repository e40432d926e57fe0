/-
  What is proved: one visit in memory.
-/
import Derived.Test.YtaanbdjmibjcbaaM18
import Derived.Test.YtaanbdjmibjcbaaM13
import Derived.Test.YtaanbdjmibjcbaaM15
set_option linter.all false
namespace Go.Proofs.Ytaanbdjmibjcbaa
open Go.RowKit
theorem one3 (w : World) (x y z : Value) (t b : Nat) (hb : b = w.heap.size) : SliceAt (w.alloc (.cells #[x, y, z] t)) (.slice (some ⟨b, 0, none⟩) 1 1) 1 3 (fun _ j => if j = 0 then x else if j = 1 then y else z) := by
  subst hb
  refine ⟨_, _, rfl, by omega, by unfold maxLen; omega, fun i j hi hj => ⟨_, _, rfl, ?_⟩⟩
  have hi0 : i = 0 := by omega
  subst hi0
  rcases (show j = 0 ∨ j = 1 ∨ j = 2 by omega) with rfl | rfl | rfl <;> simp [go_sem]
theorem one3_cells (a b c : Int) : ∀ u ∈ tableL 1 3 (fun _ j => if j = 0 then Value.int .i64 a else if j = 1 then .int .i64 b else .int .i64 c), u.oneCell' = true := by
  intro u hu
  have e : tableL 1 3 (fun _ j => if j = 0 then Value.int .i64 a else if j = 1 then .int .i64 b else .int .i64 c) = [.int .i64 a, .int .i64 b, .int .i64 c] := rfl
  rw [e] at hu
  simp at hu
  rcases hu with rfl | rfl | rfl <;> rfl
end Go.Proofs.Ytaanbdjmibjcbaa

/-
  What is proved: the examples' town, with the room of its visits; append onto it.
-/
namespace Go.Proofs.Ytaanbdjmibjcbaa
open Go.RowKit
attribute [local irreducible] Go.wpCalm rowI
theorem goes_append_cap {o : Oper} {a : Act} {W : World} {K : Value → World → Prop} (s x : Operand) (t : TypeId) (ho : o.op = .call { callee := .builtin .append, args := #[s, x], argTypes := #[t, t] })
    (e : TypeId) (z : Value) (size bytes : Nat) (ht : Try.prog.underlying t = some (.slice e)) (hi : Try.prog.knows e z size bytes) (hzs : z.cells.size = size) (hsz : 0 < size)
    (A : Option Addr) (n : Nat) (xs : List Value) (hs : a.eval s = .slice A n n) (hxs : SrcAt W (.slice A n n) n size xs) (hA : A = none → n = 0)
    (xv : Value) (hx : a.eval x = xv) (m : Nat) (news : List Value) (hsrc : SrcAt W xv m size news) (h0 : 0 < m) (h63 : n + m ≤ maxLen) (hbytes : (n + m) * bytes ≤ 140737488355328)
    (hK : ∀ v' w', w'.ownsRow W.heap.size e size v' (n + m) (xs ++ news) → W.grows w' → K v' w') : o.goes Try.prog a W K := by
  obtain ⟨v', w', hr, h2, h3⟩ := run_append_cap (P := Try.prog) W t o.type e z size bytes ht hi hzs hsz A n xs hxs hA xv m news hsrc h0 h63 hbytes
  unfold Oper.goes execOp
  simp only [ho, resolve, invoke, builtin, Sem.run_bind, Sem.run_pure, Result.andThen_ok, List.map_toArray, List.map_cons, List.map_nil, hs, hx, hr]
  exact ⟨h3, hK _ _ h2 h3⟩
set_option maxHeartbeats 2000000 in
theorem townX_c (w : World) : Calls Try.prog 47 #[] w fun e w' => ∃ sv b, e = .returned (.agg #[.int .i64 3, sv, .slice (some ⟨b, 0, none⟩) 5 5]) ∧ TownAt w' (.agg #[.int .i64 3, sv, .slice (some ⟨b, 0, none⟩) 5 5]) exT ∧ w.grows w' := by
  go_enter Try.func47, Try.ntmps47
  go_wp2_with (go_at_call 99; fail)
  refine (street_c _ _ _ _ _).mono ?_
  rintro e W1 ⟨rfl, g1⟩
  have B := g1.heap_of (World.heap_at _ _ _ rfl)
  have G := World.grows.trans (show w.grows _ by (repeat (first | exact World.grows.refl _ | assumption | refine World.grows.alloc ?_ _ | refine World.grows.plus ?_ _ _ | refine World.grows.drew ?_))) g1
  clear g1
  go_wp2_with (go_at_call 99; fail)
  refine (street_c _ _ _ _ _).mono ?_
  rintro e W2 ⟨rfl, g2⟩
  replace B := g2.heap_of B
  replace G := G.trans g2
  have hlt2 := World.lt_of_block B
  clear g2
  go_wp2_with (go_at_call 99; fail)
  refine (visit_c _ _ _ _).mono ?_
  rintro e W3 ⟨rfl, g3⟩
  have S := g3.heap_of (World.heap_at _ _ _ rfl)
  replace B := g3.heap_of (World.grows.heap_of (by (repeat (first | exact World.grows.refl _ | assumption | refine World.grows.alloc ?_ _ | refine World.grows.plus ?_ _ _ | refine World.grows.drew ?_))) B)
  replace G := G.trans (World.grows.trans (by (repeat (first | exact World.grows.refl _ | assumption | refine World.grows.alloc ?_ _ | refine World.grows.plus ?_ _ _ | refine World.grows.drew ?_))) g3)
  have hsz := (World.lt_of_block B)
  obtain ⟨sb, hsb⟩ : ∃ sb, W2.heap.size = sb := ⟨_, rfl⟩
  rw [hsb] at S hlt2 ⊢
  clear g3 hsb
  go_wp2_with (go_at_call 99; fail)
  refine (visit_c _ _ _ _).mono ?_
  rintro e W4 ⟨rfl, g4⟩
  go_wp2_with (go_at_call 99; fail)
  refine (visit_c _ _ _ _).mono ?_
  rintro e W5 ⟨rfl, g5⟩
  go_wp2_with (go_at_call 99; fail)
  refine (visit_c _ _ _ _).mono ?_
  rintro e W6 ⟨rfl, g6⟩
  go_wp2_with (go_at_call 99; fail)
  refine (visit_c _ _ _ _).mono ?_
  rintro e W7 ⟨rfl, g7⟩
  have g := ((g4.trans g5).trans g6).trans g7
  replace B := g.heap_of B
  replace S := g.heap_of S
  replace G := G.trans g
  clear g4 g5 g6 g7 g hsz
  have c0 := cell_of_heap (i := 0) B rfl
  have c1 := cell_of_heap (i := 1) B rfl
  have c2 := cell_of_heap (i := 2) B rfl
  have f0 := frozen_of_heap B 0
  have f1 := frozen_of_heap B 1
  have f2 := frozen_of_heap B 2
  have hb7 := World.lt_of_block B
  go_wp2
  have E := store_of_heap (store_of_heap (store_of_heap B 0 (.int .i64 3)) 1 (.slice (some ⟨sb, 0, none⟩) 2 2)) 2 (.slice (some ⟨W7.heap.size, 0, none⟩) 5 5)
  have S2 : (((W7.setCell ⟨w.heap.size, 0, none⟩ (.int .i64 3)).setCell ⟨w.heap.size, 1, none⟩ (.slice (some ⟨sb, 0, none⟩) 2 2)).setCell ⟨w.heap.size, 2, none⟩ (.slice (some ⟨W7.heap.size, 0, none⟩) 5 5)).heap[sb]? = some (.cells #[.int .i64 0, .int .i64 1, .int .i64 10, .int .i64 20, .int .i64 1, .int .i64 2, .int .i64 5, .int .i64 30] 62) := by
    rw [World.heap_setCell_map _ _ _ _ (show w.heap.size ≠ sb by omega), World.heap_setCell_map _ _ _ _ (show w.heap.size ≠ sb by omega), World.heap_setCell_map _ _ _ _ (show w.heap.size ≠ sb by omega)]
    exact S
  have GU := ((G.setCell (p := ⟨w.heap.size, 0, none⟩) (Nat.le_refl _) (.int .i64 3)).setCell (p := ⟨w.heap.size, 1, none⟩) (Nat.le_refl _) (.slice (some ⟨sb, 0, none⟩) 2 2)).setCell (p := ⟨w.heap.size, 2, none⟩) (Nat.le_refl _) (.slice (some ⟨W7.heap.size, 0, none⟩) 5 5)
  have hUs : W7.heap.size = (((W7.setCell ⟨w.heap.size, 0, none⟩ (.int .i64 3)).setCell ⟨w.heap.size, 1, none⟩ (.slice (some ⟨sb, 0, none⟩) 2 2)).setCell ⟨w.heap.size, 2, none⟩ (.slice (some ⟨W7.heap.size, 0, none⟩) 5 5)).heap.size := by simp
  obtain ⟨tb, htb⟩ : ∃ tb, W7.heap.size = tb := ⟨_, rfl⟩
  rw [htb] at E S2 GU hUs ⊢
  generalize World.setCell _ _ _ = U at E S2 GU hUs ⊢
  have gU : U.grows (U.alloc (.cells #[.int .i64 1, .int .i64 20, .int .i64 30, .int .i64 2, .int .i64 50, .int .i64 55, .int .i64 1, .int .i64 80, .int .i64 90, .int .i64 0, .int .i64 25, .int .i64 45, .int .i64 2, .int .i64 95, .int .i64 99] 71)) := by (repeat (first | exact World.grows.refl _ | assumption | refine World.grows.alloc ?_ _ | refine World.grows.plus ?_ _ _ | refine World.grows.drew ?_))
  have T := World.heap_at U (.cells #[.int .i64 1, .int .i64 20, .int .i64 30, .int .i64 2, .int .i64 50, .int .i64 55, .int .i64 1, .int .i64 80, .int .i64 90, .int .i64 0, .int .i64 25, .int .i64 45, .int .i64 2, .int .i64 95, .int .i64 99] 71) tb hUs
  replace E := gU.heap_of E
  replace S2 := gU.heap_of S2
  replace GU := GU.trans gU
  generalize World.alloc _ _ = F at E S2 GU T ⊢
  have e0 := cell_of_heap (v := .int .i64 3) (i := 0) E rfl
  have e1 := cell_of_heap (v := .slice (some ⟨sb, 0, none⟩) 2 2) (i := 1) E rfl
  have e2 := cell_of_heap (v := .slice (some ⟨tb, 0, none⟩) 5 5) (i := 2) E rfl
  refine bodyPost_ret (v := .agg #[.int .i64 3, .slice (some ⟨sb, 0, none⟩) 2 2, .slice (some ⟨tb, 0, none⟩) 5 5]) (by simp [results, Try.results47, go_sem, e0, e1, e2]) rfl ?_
  refine ⟨_, _, rfl, ⟨_, _, rfl, ⟨_, _, rfl, Nat.le_refl _, by unfold maxLen; omega, fun i j hi hj => ⟨_, _, rfl, ?_⟩⟩, ⟨_, _, rfl, Nat.le_refl _, by unfold maxLen; omega, fun i j hi hj => ⟨_, _, rfl, ?_⟩⟩⟩, GU⟩
  · have hi : i < 2 := hi
    refine cell_of_heap S2 ?_
    rcases (by omega : i = 0 ∨ i = 1) with rfl | rfl <;> rcases (by omega : j = 0 ∨ j = 1 ∨ j = 2 ∨ j = 3) with rfl | rfl | rfl | rfl <;> rfl
  · have hi : i < 5 := hi
    refine cell_of_heap T ?_
    rcases (by omega : i = 0 ∨ i = 1 ∨ i = 2 ∨ i = 3 ∨ i = 4) with rfl | rfl | rfl | rfl | rfl <;> rcases (by omega : j = 0 ∨ j = 1 ∨ j = 2) with rfl | rfl | rfl <;> rfl
end Go.Proofs.Ytaanbdjmibjcbaa

/-
  What is proved: RoundKnown (14) answers true.
-/
namespace Go.Proofs.Ytaanbdjmibjcbaa
open Go.RowKit
attribute [local irreducible] Go.wpCalm rowI
section
variable {X : World} {tv : Value}
theorem k_way (h : TownAt X tv exT) : Calls Try.prog 17 #[tv, .int .i64 0, .int .i64 2, .bool false] X fun e w' => e = .returned (.tuple #[.int .i64 15, .int .i64 0]) ∧ X.grows w' := by
  have := way_c X tv exT false h 0 2
  rw [ex_way3, ex_way4] at this
  exact this
theorem k_aft (h : TownAt X tv exT) : Calls Try.prog 21 #[tv, .int .i64 0, .int .i64 2, .bool true] X fun e w' => e = .returned (.tuple #[.bool true, .int .i64 0]) ∧ X.grows w' := by
  have := after_c X tv exT true h 0 2
  rw [ex_aft3, ex_two 0 2 rfl rfl] at this
  exact this
theorem k_late (h : TownAt X tv exT2) : Calls Try.prog 23 #[tv, .bool true] X fun e w' => ∃ a c, e = .returned (.tuple #[.slice a 1 c, .int .i64 0]) ∧ X.grows w' ∧ IntsAt w' (.slice a 1 c) 1 (lst [5]) := by
  refine (lateX_c X tv exT2 true h).mono ?_
  rintro e w' ⟨v, rfl, g, hL⟩
  rw [ex2_ok]
  unfold lateL at hL
  rw [if_pos ex2_ok, show exT2.nv = 6 from rfl, ex2_late1] at hL
  obtain ⟨a, c, rfl, h1, h2, h3⟩ := hL
  refine ⟨a, c, rfl, g, a, c, rfl, h1, h2, fun i j hi hj => ?_⟩
  obtain ⟨b, o, e1, e2⟩ := h3 i j hi hj
  refine ⟨b, o, e1, ?_⟩
  rw [e2]
  rcases (show i = 0 by omega) with rfl
  rfl
theorem k_late2 (h : TownAt X tv exT2) : Calls Try.prog 23 #[tv, .bool false] X fun e w' => ∃ a c, e = .returned (.tuple #[.slice a 0 c, .int .i64 0]) ∧ X.grows w' := by
  refine (lateX_c X tv exT2 false h).mono ?_
  rintro e w' ⟨v, rfl, g, hL⟩
  rw [ex2_ok]
  unfold lateL at hL
  rw [if_pos ex2_ok, show exT2.nv = 6 from rfl, ex2_late2] at hL
  obtain ⟨a, c, rfl, -⟩ := hL
  exact ⟨a, c, rfl, g⟩
theorem k_best (h : TownAt X tv exT) : Calls Try.prog 30 #[tv, .bool false] X fun e w' => ∃ a c, e = .returned (.tuple #[.slice a 2 c, .int .i64 0]) ∧ X.grows w' := by
  refine (bestL_c X tv exT false h).mono ?_
  rintro e w' ⟨a, c, Q, rfl, g, hQ⟩
  have h1 := (hQ.best (ex_need false)).size
  rw [ex_fewF] at h1
  rw [ex_need, h1]
  exact ⟨a, c, rfl, g⟩
theorem k_kind2 (h : TownAt X tv exT) : Calls Try.prog 37 #[tv, .int .i64 0, .int .i64 2, .bool true] X fun e w' => e = .returned (.tuple #[.int .i64 1, .int .i64 0]) ∧ X.grows w' := by
  have := kind_c X tv exT true h 0 2
  rw [ex_kind2, (ex_ask true).2.1] at this
  exact this
theorem k_kind3 (h : TownAt X tv exT) : Calls Try.prog 37 #[tv, .int .i64 1, .int .i64 2, .bool true] X fun e w' => e = .returned (.tuple #[.int .i64 0, .int .i64 0]) ∧ X.grows w' := by
  have := kind_c X tv exT true h 1 2
  rw [ex_kind3, (ex_ask true).2.2] at this
  exact this
theorem k_costs (h : TownAt X tv exT) : Calls Try.prog 39 #[tv, .bool false] X fun e w' => ∃ a c, e = .returned (.tuple #[.slice a 1 c, .int .i64 0]) ∧ X.grows w' ∧ IntsAt w' (.slice a 1 c) 1 (lst [3]) := by
  refine (costs_c X tv exT false h).mono ?_
  rintro e w' ⟨v, rfl, g, hL⟩
  rw [ex_need] at hL ⊢
  rw [if_pos rfl, show exT.nv = 5 from rfl, ex_costF] at hL
  obtain ⟨a, c, rfl, h1, h2, h3⟩ := hL
  refine ⟨a, c, rfl, g, a, c, rfl, h1, h2, fun i j hi hj => ?_⟩
  obtain ⟨b, o, e1, e2⟩ := h3 i j hi hj
  refine ⟨b, o, e1, ?_⟩
  rw [e2]
  rcases (show i = 0 by omega) with rfl
  rfl
end
/-- the town with the visit behind -/
theorem town_more {W : World} {sv vv : Value} (hs : SliceAt W sv 2 4 (scell exT)) (hv : SliceAt W vv 6 3 (vcell exT2)) : TownAt W (.agg #[.int .i64 3, sv, vv]) exT2 := ⟨sv, vv, rfl, hs, hv⟩
theorem vis_more {w' : World} {base e : Nat} {v' : Value} (h : w'.ownsRow base e 3 v' 6 (tableL 5 3 (vcell exT) ++ tableL 1 3 (fun _ j => if j = 0 then .int .i64 2 else if j = 1 then .int .i64 49 else .int .i64 50))) : SliceAt w' v' 6 3 (vcell exT2) := by
  refine h.sliceAt fun i j hi hj => ?_
  rcases (show i = 0 ∨ i = 1 ∨ i = 2 ∨ i = 3 ∨ i = 4 ∨ i = 5 by omega) with rfl | rfl | rfl | rfl | rfl | rfl <;> rcases (show j = 0 ∨ j = 1 ∨ j = 2 by omega) with rfl | rfl | rfl <;> rfl
def kK (c : Value) (v : Value) (_ : World) : Prop := v = c
theorem st_kK (c : Value) : Stays (kK c) := fun _ _ _ h _ => h
def kKT (_ : Value) (_ : World) : Prop := True
def kOne (v : Value) (W : World) : Prop := SliceAt W v 1 3 (fun _ j => if j = 0 then .int .i64 2 else if j = 1 then .int .i64 49 else .int .i64 50)
theorem st_kOne : Stays kOne := fun _ _ _ h g => SliceAt.mono h g
def visL : List Value := tableL 5 3 (vcell exT) ++ tableL 1 3 (fun _ j => if j = 0 then .int .i64 2 else if j = 1 then .int .i64 49 else .int .i64 50)
def kSix (n : Nat) (v : Value) (W : World) : Prop := ∃ a c, v = .slice a 6 c ∧ W.ownsRow n 71 3 v 6 visL
theorem st_kSix (n : Nat) : Stays (kSix n) := fun _ _ _ h g => by
  obtain ⟨a, c, h1, h2⟩ := h
  exact ⟨a, c, h1, h2.grow g⟩
set_option maxRecDepth 100000 in
set_option maxHeartbeats 16000000 in
theorem known_w (w : World) : Calls Try.prog 14 #[] w fun e w' => e = .returned (.bool true) ∧ w.grows w' := by
  go_enter Try.func14, Try.ntmps14
  go_wp2_with (go_at_call 99; fail)
  refine (townX_c _).mono ?_
  rintro e W1 ⟨sv, vb, rfl, hT, g⟩
  have G : Hid (w.grows W1) := Lib.hid (World.grows.trans (by (repeat (first | exact World.grows.refl _ | assumption | refine World.grows.alloc ?_ _ | refine World.grows.plus ?_ _ _ | refine World.grows.drew ?_))) g)
  have HT := Lib.hid hT
  obtain ⟨sv', vv', e1, hs, hv⟩ := hT
  have e2 := Array.toList_inj.2 (Value.agg.inj e1)
  simp only [List.cons.injEq, and_true] at e2
  obtain ⟨-, rfl, rfl⟩ := e2
  have HS := Lib.hid hs
  have HV := Lib.hid hv
  obtain ⟨sa, sc, rfl, -⟩ := hs
  obtain ⟨N1, hN1⟩ : ∃ N, exT.ns = N := ⟨_, rfl⟩
  have HN1 := Lib.hid hN1
  rw [hN1] at HT HS ⊢
  clear g hv e1 hN1
  go_wp2_with (go_at_call 99; fail)
  have HB : Hid ((W1.alloc (.cells #[.int .i64 3, .slice sa N1 sc, .slice (some ⟨vb, 0, none⟩) 5 5] 25)).heap[W1.heap.size]? = some (.cells #[.int .i64 3, .slice sa N1 sc, .slice (some ⟨vb, 0, none⟩) 5 5] 25)) := Lib.hid (World.heap_at _ _ _ rfl)
  have HW : Hid (W1.grows (W1.alloc (.cells #[.int .i64 3, .slice sa N1 sc, .slice (some ⟨vb, 0, none⟩) 5 5] 25))) := Lib.hid (by (repeat (first | exact World.grows.refl _ | assumption | refine World.grows.alloc ?_ _ | refine World.grows.plus ?_ _ _ | refine World.grows.drew ?_)))
  have q0 := cell_of_heap (i := 0) HB.out rfl
  have q1 := cell_of_heap (i := 1) HB.out rfl
  have q2 := cell_of_heap (i := 2) HB.out rfl
  refine (k_way (HT.out.mono (HW.out.trans (by (repeat (first | exact World.grows.refl _ | assumption | refine World.grows.alloc ?_ _ | refine World.grows.plus ?_ _ _ | refine World.grows.drew ?_)))))).mono ?_
  rintro e U ⟨rfl, g⟩
  replace HW := Lib.hid (HW.out.trans (World.grows.trans (by (repeat (first | exact World.grows.refl _ | assumption | refine World.grows.alloc ?_ _ | refine World.grows.plus ?_ _ _ | refine World.grows.drew ?_))) g)); replace HB := Lib.hid (g.heap_of (World.grows.heap_of (by (repeat (first | exact World.grows.refl _ | assumption | refine World.grows.alloc ?_ _ | refine World.grows.plus ?_ _ _ | refine World.grows.drew ?_))) HB.out)); replace q0 := cell_of_heap (i := 0) HB.out rfl; replace q1 := cell_of_heap (i := 1) HB.out rfl; replace q2 := cell_of_heap (i := 2) HB.out rfl
  clear g
  go_wp2_with (go_at_call 99; fail)
  refine (k_aft (HT.out.mono (HW.out.trans (by (repeat (first | exact World.grows.refl _ | assumption | refine World.grows.alloc ?_ _ | refine World.grows.plus ?_ _ _ | refine World.grows.drew ?_)))))).mono ?_
  rintro e U ⟨rfl, g⟩
  replace HW := Lib.hid (HW.out.trans (World.grows.trans (by (repeat (first | exact World.grows.refl _ | assumption | refine World.grows.alloc ?_ _ | refine World.grows.plus ?_ _ _ | refine World.grows.drew ?_))) g)); replace HB := Lib.hid (g.heap_of (World.grows.heap_of (by (repeat (first | exact World.grows.refl _ | assumption | refine World.grows.alloc ?_ _ | refine World.grows.plus ?_ _ _ | refine World.grows.drew ?_))) HB.out)); replace q0 := cell_of_heap (i := 0) HB.out rfl; replace q1 := cell_of_heap (i := 1) HB.out rfl; replace q2 := cell_of_heap (i := 2) HB.out rfl
  clear g
  go_upto_region 5 with fail
  obtain ⟨xb, hxb⟩ : ∃ xb, U.heap.size = xb := ⟨_, rfl⟩
  have HX : Hid ((U.alloc (.cells #[.int .i64 3, .slice sa N1 sc, .slice (some ⟨vb, 0, none⟩) 5 5] 25)).heap[xb]? = some (.cells #[.int .i64 3, .slice sa N1 sc, .slice (some ⟨vb, 0, none⟩) 5 5] 25)) := Lib.hid (World.heap_at _ _ _ hxb.symm)
  have gX : U.grows (U.alloc (.cells #[.int .i64 3, .slice sa N1 sc, .slice (some ⟨vb, 0, none⟩) 5 5] 25)) := by (repeat (first | exact World.grows.refl _ | assumption | refine World.grows.alloc ?_ _ | refine World.grows.plus ?_ _ _ | refine World.grows.drew ?_))
  have hwU : W1.heap.size < U.heap.size := World.lt_of_block HB.out
  rw [hxb]
  generalize (U.alloc (.cells #[.int .i64 3, .slice sa N1 sc, .slice (some ⟨vb, 0, none⟩) 5 5] 25)) = V5 at HX gX ⊢
  replace HW := Lib.hid (HW.out.trans gX)
  replace HB := Lib.hid (gX.heap_of HB.out)
  clear q0 q1 q2 gX
  have q2 : V5.cell? ⟨xb, 2, none⟩ = some (.slice (some ⟨vb, 0, none⟩) 5 5) := cell_of_heap HX.out rfl
  refine wp_region_invT 5 [[], [0], [], [2], [1, 3]] [some 33, some 34, some 35, some 36, some 37] [kK (.pointer (some ⟨xb, 2, none⟩)), kK (.slice (some ⟨vb, 0, none⟩) 5 5), kK (.agg #[.int .i64 2, .int .i64 49, .int .i64 50]), kOne, kSix V5.heap.size] [kKT, kKT, kKT, kKT, kKT] (fun _ _ _ _ => True) (by kernel_rfl) (by kernel_rfl) (by decide) (by simp) (by simp) (fun r hr => by simp only [List.mem_cons, List.not_mem_nil, or_false] at hr; rcases hr with rfl | rfl | rfl | rfl | rfl <;> first | exact st_kK _ | exact st_kOne | exact st_kSix _) (fun _ _ _ _ _ _ _ _ _ _ => ⟨trivial, trivial⟩) ?_ ?_
  · simp only [List.take_succ_cons, List.take_zero, zipT, oblT, depQ, List.getD_cons_zero, List.getD_cons_succ, and_true]
    refine ⟨?_, ?_, ?_, ?_, ?_⟩
    · intro K nc xc hK
      go_simp
      exact ⟨by (repeat (first | exact World.grows.refl _ | assumption | refine World.grows.alloc ?_ _ | refine World.grows.plus ?_ _ _ | refine World.grows.drew ?_)), hK _ _ rfl trivial⟩
    · intro K nc xc hK v0 h0
      obtain rfl : v0 = _ := h0
      go_simp
      exact ⟨by (repeat (first | exact World.grows.refl _ | assumption | refine World.grows.alloc ?_ _ | refine World.grows.plus ?_ _ _ | refine World.grows.drew ?_)), hK _ _ rfl trivial⟩
    · intro K nc xc hK
      go_simp
      refine (visit_c _ _ _ _).mono ?_
      rintro e W9 ⟨rfl, g⟩
      exact ⟨_, rfl, g, hK _ _ rfl trivial⟩
    · intro K nc xc hK v0 h0
      obtain rfl : v0 = _ := h0
      go_simp
      exact ⟨by (repeat (first | exact World.grows.refl _ | assumption | refine World.grows.alloc ?_ _ | refine World.grows.plus ?_ _ _ | refine World.grows.drew ?_)), hK _ _ (one3 _ _ _ _ _ _ (by simp)) trivial⟩
    · intro K nc xc hK v1 h1 v3 h3
      obtain rfl : v1 = _ := h1
      refine goes_append_cap (.tmp 34) (.tmp 36) 23 rfl 71 (.agg #[.int .i64 0, .int .i64 0, .int .i64 0]) 3 24 Try.underlying23 el71 (by rfl) (by omega) (some ⟨vb, 0, none⟩) 5 (tableL 5 3 (vcell exT)) (by simp [go_sem]) (SliceAt.src (by omega) (HV.out.mono (HW.out.trans (World.grows_plus _ _ _)))) (fun h => by cases h) v3 (by simp [go_sem]) 1 _ (SliceAt.src (by omega) h3) (by omega) (by unfold maxLen; omega) (by omega) fun v' w' h5 _ => hK _ _ ?_ trivial
      obtain ⟨a9, c9, e9, -⟩ := row_form h5
      exact ⟨a9, c9, e9, h5.down (by simp)⟩
  · intro val nc xc hv hd
    have hxV : xb < V5.heap.size := World.lt_of_block HX.out
    have e0 : val 0 = .pointer (some ⟨xb, 2, none⟩) := hv 0 (by omega)
    have e1 : val 1 = .slice (some ⟨vb, 0, none⟩) 5 5 := hv 1 (by omega)
    have e2 : val 2 = .agg #[.int .i64 2, .int .i64 49, .int .i64 50] := hv 2 (by omega)
    obtain ⟨a9, c9, e4, h9⟩ := hv 4 (by omega)
    obtain ⟨v3, e3⟩ : ∃ x, val 3 = x := ⟨_, rfl⟩
    have gN := World.grows_plus V5 nc xc
    clear hv hd
    generalize V5.plus nc xc = V6 at h9 gN ⊢
    rw [show List.range 5 = [0, 1, 2, 3, 4] from rfl]
    simp only [putL, List.getD_cons_zero, List.getD_cons_succ, e0, e1, e2, e3, e4, List.drop_succ_cons, List.drop_zero]
    replace HW := Lib.hid (HW.out.trans gN)
    replace HB := Lib.hid (gN.heap_of HB.out)
    replace HX := Lib.hid (gN.heap_of HX.out)
    rw [e4] at h9
    have x2 : V6.cell? ⟨xb, 2, none⟩ = some (.slice (some ⟨vb, 0, none⟩) 5 5) := cell_of_heap HX.out rfl
    have xf := frozen_of_heap HX.out 2
    have hne : xb ≠ W1.heap.size := by omega
    have E := Lib.hid (store_of_heap HX.out 2 (.slice a9 6 c9))
    have B2 : Hid ((V6.setCell ⟨xb, 2, none⟩ (.slice a9 6 c9)).heap[W1.heap.size]? = some (.cells #[.int .i64 3, .slice sa N1 sc, .slice (some ⟨vb, 0, none⟩) 5 5] 25)) := Lib.hid ((World.heap_setCell_map _ _ _ _ (show xb ≠ W1.heap.size from hne)).trans HB.out)
    have GW : Hid (W1.grows (V6.setCell ⟨xb, 2, none⟩ (.slice a9 6 c9))) := Lib.hid (HW.out.setCell (p := ⟨xb, 2, none⟩) (show W1.heap.size ≤ xb by omega) _)
    have S9 : Hid (SliceAt (V6.setCell ⟨xb, 2, none⟩ (.slice a9 6 c9)) (.slice a9 6 c9) 6 3 (vcell exT2)) := Lib.hid (vis_more ((h9.set (p := ⟨xb, 2, none⟩) hxV _)))
    clear e0 e1 e2 e3 e4 h9 q2 HW HB HX gN
    generalize hV7 : V6.setCell ⟨xb, 2, none⟩ (.slice a9 6 c9) = V7 at E B2 GW S9
    go_upto_region 6 with fail
    clear hV7 x2 xf
    have HXT : Hid (TownAt V7 (.agg #[.int .i64 3, .slice sa N1 sc, .slice a9 6 c9]) exT2) := Lib.hid (by
      have h8 := SliceAt.mono HS.out GW.out
      rw [← HN1.out] at h8 ⊢
      exact town_more h8 S9.out)
    have z0 := cell_of_heap (i := 0) E.out rfl
    have z1 := cell_of_heap (i := 1) E.out rfl
    have z2 := cell_of_heap (i := 2) E.out rfl
    replace HW := GW
    replace HB := B2
    have HXE : Hid (V7.heap[xb]? = some (.cells #[.int .i64 3, .slice sa N1 sc, .slice a9 6 c9] 25)) := E
    clear E B2 GW S9 hwU hne hxV HS HV HN1
    go_wp2_with (go_at_call 99; fail)
    refine (k_late HXT.out).mono ?_
    rintro e Y1 ⟨la, lc, rfl, g, hL1⟩
    have HL1 := Lib.hid hL1
    replace HW := Lib.hid (HW.out.trans g)
    replace HB := Lib.hid (g.heap_of HB.out)
    replace HXE := Lib.hid (g.heap_of HXE.out)
    replace HXT := Lib.hid (HXT.out.mono g)
    clear g hL1 z0 z1 z2
    have z0 := cell_of_heap (i := 0) HXE.out rfl
    have z1 := cell_of_heap (i := 1) HXE.out rfl
    have z2 := cell_of_heap (i := 2) HXE.out rfl
    go_wp2_with (go_at_call 99; fail)
    refine (k_late2 HXT.out).mono ?_
    rintro e Y2 ⟨la2, lc2, rfl, g⟩
    replace HL1 := Lib.hid (IntsAt.mono HL1.out g)
    replace HW := Lib.hid (HW.out.trans g)
    replace HB := Lib.hid (g.heap_of HB.out)
    clear g z0 z1 z2 HXE HXT
    have q0 := cell_of_heap (i := 0) HB.out rfl
    have q1 := cell_of_heap (i := 1) HB.out rfl
    have q2 := cell_of_heap (i := 2) HB.out rfl
    go_wp2_with (go_at_call 99; fail)
    refine (w_plan (HT.out.mono (HW.out.trans (by (repeat (first | exact World.grows.refl _ | assumption | refine World.grows.alloc ?_ _ | refine World.grows.plus ?_ _ _ | refine World.grows.drew ?_))))) false (P := [[0, 1, 2, 4], [3]]) (E := 0) (n := 2) (two_rows Y2 [0, 1, 2, 4] [3] (by decide) (by decide)) ex_plan3 rfl (by decide) (by decide)).mono ?_
    rintro e U1 ⟨rfl, g⟩
    replace HL1 := Lib.hid (IntsAt.mono HL1.out (World.grows.trans (by (repeat (first | exact World.grows.refl _ | assumption | refine World.grows.alloc ?_ _ | refine World.grows.plus ?_ _ _ | refine World.grows.drew ?_))) g))
    replace HW := Lib.hid (HW.out.trans (World.grows.trans (by (repeat (first | exact World.grows.refl _ | assumption | refine World.grows.alloc ?_ _ | refine World.grows.plus ?_ _ _ | refine World.grows.drew ?_))) g)); replace HB := Lib.hid (g.heap_of (World.grows.heap_of (by (repeat (first | exact World.grows.refl _ | assumption | refine World.grows.alloc ?_ _ | refine World.grows.plus ?_ _ _ | refine World.grows.drew ?_))) HB.out)); replace q0 := cell_of_heap (i := 0) HB.out rfl; replace q1 := cell_of_heap (i := 1) HB.out rfl; replace q2 := cell_of_heap (i := 2) HB.out rfl
    clear g
    go_wp2_with (go_at_call 99; fail)
    refine (k_best (HT.out.mono (HW.out.trans (by (repeat (first | exact World.grows.refl _ | assumption | refine World.grows.alloc ?_ _ | refine World.grows.plus ?_ _ _ | refine World.grows.drew ?_)))))).mono ?_
    rintro e U2 ⟨ba, bc, rfl, g⟩
    replace HL1 := Lib.hid (IntsAt.mono HL1.out (World.grows.trans (by (repeat (first | exact World.grows.refl _ | assumption | refine World.grows.alloc ?_ _ | refine World.grows.plus ?_ _ _ | refine World.grows.drew ?_))) g))
    replace HW := Lib.hid (HW.out.trans (World.grows.trans (by (repeat (first | exact World.grows.refl _ | assumption | refine World.grows.alloc ?_ _ | refine World.grows.plus ?_ _ _ | refine World.grows.drew ?_))) g)); replace HB := Lib.hid (g.heap_of (World.grows.heap_of (by (repeat (first | exact World.grows.refl _ | assumption | refine World.grows.alloc ?_ _ | refine World.grows.plus ?_ _ _ | refine World.grows.drew ?_))) HB.out)); replace q0 := cell_of_heap (i := 0) HB.out rfl; replace q1 := cell_of_heap (i := 1) HB.out rfl; replace q2 := cell_of_heap (i := 2) HB.out rfl
    clear g
    go_wp2_with (go_at_call 99; fail)
    refine (k_kind2 (HT.out.mono (HW.out.trans (by (repeat (first | exact World.grows.refl _ | assumption | refine World.grows.alloc ?_ _ | refine World.grows.plus ?_ _ _ | refine World.grows.drew ?_)))))).mono ?_
    rintro e U3 ⟨rfl, g⟩
    replace HL1 := Lib.hid (IntsAt.mono HL1.out (World.grows.trans (by (repeat (first | exact World.grows.refl _ | assumption | refine World.grows.alloc ?_ _ | refine World.grows.plus ?_ _ _ | refine World.grows.drew ?_))) g))
    replace HW := Lib.hid (HW.out.trans (World.grows.trans (by (repeat (first | exact World.grows.refl _ | assumption | refine World.grows.alloc ?_ _ | refine World.grows.plus ?_ _ _ | refine World.grows.drew ?_))) g)); replace HB := Lib.hid (g.heap_of (World.grows.heap_of (by (repeat (first | exact World.grows.refl _ | assumption | refine World.grows.alloc ?_ _ | refine World.grows.plus ?_ _ _ | refine World.grows.drew ?_))) HB.out)); replace q0 := cell_of_heap (i := 0) HB.out rfl; replace q1 := cell_of_heap (i := 1) HB.out rfl; replace q2 := cell_of_heap (i := 2) HB.out rfl
    clear g
    go_wp2_with (go_at_call 99; fail)
    refine (k_kind3 (HT.out.mono (HW.out.trans (by (repeat (first | exact World.grows.refl _ | assumption | refine World.grows.alloc ?_ _ | refine World.grows.plus ?_ _ _ | refine World.grows.drew ?_)))))).mono ?_
    rintro e U4 ⟨rfl, g⟩
    replace HL1 := Lib.hid (IntsAt.mono HL1.out (World.grows.trans (by (repeat (first | exact World.grows.refl _ | assumption | refine World.grows.alloc ?_ _ | refine World.grows.plus ?_ _ _ | refine World.grows.drew ?_))) g))
    replace HW := Lib.hid (HW.out.trans (World.grows.trans (by (repeat (first | exact World.grows.refl _ | assumption | refine World.grows.alloc ?_ _ | refine World.grows.plus ?_ _ _ | refine World.grows.drew ?_))) g)); replace HB := Lib.hid (g.heap_of (World.grows.heap_of (by (repeat (first | exact World.grows.refl _ | assumption | refine World.grows.alloc ?_ _ | refine World.grows.plus ?_ _ _ | refine World.grows.drew ?_))) HB.out)); replace q0 := cell_of_heap (i := 0) HB.out rfl; replace q1 := cell_of_heap (i := 1) HB.out rfl; replace q2 := cell_of_heap (i := 2) HB.out rfl
    clear g
    go_wp2_with (go_at_call 99; fail)
    refine (k_costs (HT.out.mono (HW.out.trans (by (repeat (first | exact World.grows.refl _ | assumption | refine World.grows.alloc ?_ _ | refine World.grows.plus ?_ _ _ | refine World.grows.drew ?_)))))).mono ?_
    rintro e U5 ⟨ca, cc, rfl, g, hC⟩
    have HC := Lib.hid hC
    replace HL1 := Lib.hid (IntsAt.mono HL1.out (World.grows.trans (by (repeat (first | exact World.grows.refl _ | assumption | refine World.grows.alloc ?_ _ | refine World.grows.plus ?_ _ _ | refine World.grows.drew ?_))) g))
    replace HW := Lib.hid (HW.out.trans (World.grows.trans (by (repeat (first | exact World.grows.refl _ | assumption | refine World.grows.alloc ?_ _ | refine World.grows.plus ?_ _ _ | refine World.grows.drew ?_))) g)); replace HB := Lib.hid (g.heap_of (World.grows.heap_of (by (repeat (first | exact World.grows.refl _ | assumption | refine World.grows.alloc ?_ _ | refine World.grows.plus ?_ _ _ | refine World.grows.drew ?_))) HB.out)); replace q0 := cell_of_heap (i := 0) HB.out rfl; replace q1 := cell_of_heap (i := 1) HB.out rfl; replace q2 := cell_of_heap (i := 2) HB.out rfl
    clear g hC
    go_wp2_with (go_at_call 99; fail)
    refine (w_ints (IntsAt.mono HL1.out (by (repeat (first | exact World.grows.refl _ | assumption | refine World.grows.alloc ?_ _ | refine World.grows.plus ?_ _ _ | refine World.grows.drew ?_)))) (row_lit (c := [5]) (World.heap_at U5 _ _ rfl) (by decide))).mono ?_
    rintro e U6 ⟨rfl, g⟩
    replace HC := Lib.hid (IntsAt.mono HC.out (World.grows.trans (by (repeat (first | exact World.grows.refl _ | assumption | refine World.grows.alloc ?_ _ | refine World.grows.plus ?_ _ _ | refine World.grows.drew ?_))) g))
    replace HW := Lib.hid (HW.out.trans (World.grows.trans (by (repeat (first | exact World.grows.refl _ | assumption | refine World.grows.alloc ?_ _ | refine World.grows.plus ?_ _ _ | refine World.grows.drew ?_))) g)); replace HB := Lib.hid (g.heap_of (World.grows.heap_of (by (repeat (first | exact World.grows.refl _ | assumption | refine World.grows.alloc ?_ _ | refine World.grows.plus ?_ _ _ | refine World.grows.drew ?_))) HB.out)); replace q0 := cell_of_heap (i := 0) HB.out rfl; replace q1 := cell_of_heap (i := 1) HB.out rfl; replace q2 := cell_of_heap (i := 2) HB.out rfl
    clear g HL1
    go_wp2_with (go_at_call 99; fail)
    refine (w_ints (IntsAt.mono HC.out (by (repeat (first | exact World.grows.refl _ | assumption | refine World.grows.alloc ?_ _ | refine World.grows.plus ?_ _ _ | refine World.grows.drew ?_)))) (row_lit (c := [3]) (World.heap_at U6 _ _ rfl) (by decide))).mono ?_
    rintro e U7 ⟨rfl, g⟩
    replace HW := Lib.hid (HW.out.trans (World.grows.trans (by (repeat (first | exact World.grows.refl _ | assumption | refine World.grows.alloc ?_ _ | refine World.grows.plus ?_ _ _ | refine World.grows.drew ?_))) g)); replace HB := Lib.hid (g.heap_of (World.grows.heap_of (by (repeat (first | exact World.grows.refl _ | assumption | refine World.grows.alloc ?_ _ | refine World.grows.plus ?_ _ _ | refine World.grows.drew ?_))) HB.out)); replace q0 := cell_of_heap (i := 0) HB.out rfl; replace q1 := cell_of_heap (i := 1) HB.out rfl; replace q2 := cell_of_heap (i := 2) HB.out rfl
    clear g HC
    go_wp2_with (go_at_call 99; fail)
    refine (works_c _).mono ?_
    rintro e U8 ⟨rfl, g⟩
    have G9 : w.grows U8 := G.out.trans (HW.out.trans g)
    clear g q0 q1 q2
    go_wp2
    (refine bodyPost_ret (v := .bool true) (by simp [results, Try.results14, go_sem]) rfl ?_)
    exact ⟨rfl, G9.trans (by (repeat (first | exact World.grows.refl _ | assumption | refine World.grows.alloc ?_ _ | refine World.grows.plus ?_ _ _ | refine World.grows.drew ?_)))⟩
end Go.Proofs.Ytaanbdjmibjcbaa

/-
  What is proved: the statement RoundKnown, at every input.
-/
namespace Go.Proofs.Ytaanbdjmibjcbaa
open Go.ChangeShapes Go.WideShapes Go.ChangeAt Go.RowKit

set_option maxRecDepth 100000 in
theorem roundKnown_lifted (os : Os) (started : os.Started) (H : Type) (enc : TypeId × Value → H) :
    ReturnsInHanded {} Try.checked os 14 .any (Rows.roundKnownSpec.pre6 enc Try.prog Try.f14 Rows.roundKnownRow.domain false) (Rows.roundKnownSpec.post enc Try.prog Try.f14 false true false false) := by
  refine law_lifted (C := Try.checked) (tb := 4) started own_c laid_c (by kernel_rfl) Try.func14 (of_decide_eq_true (by kernel_rfl))
    (ChangeSpec.witness6 (enc := enc) (C := Try.checked) false ⟨#[], #[], []⟩ 8 (by kernel_rfl) (by kernel_rfl) (by kernel_rfl) (by kernel_rfl))
    rfl Try.underlying4 rfl (fun ds hl => ?_) (fun W base args ds ps hval hA => ?_)
  · match ds, hl with
    | [], _ => exact ⟨rfl, rfl, rfl⟩
  · have hA' : DataW.TrodAll enc Try.prog W 0 (fun _ => true) true Try.f14.params.toList args.toList ds ps := hA
    have hval' : ∀ (j : Nat) t v, Try.f14.params[j]? = some t → args[j]? = some v → Value.okWide Try.prog W .any base t v := hval
    rw [Try.params14] at hA' hval'
    obtain ⟨rfl, rfl, rfl⟩ := trodAll_none hA'
    exact known_w W 

theorem roundKnown_holds : Rows.RoundKnownSaid :=
  OpenClaim.holds_of_wide 14 Try.f14 rfl rfl rfl rfl rfl rfl rfl ⟨rfl, rfl, rfl, rfl, rfl⟩ rfl rfl rfl rfl rfl (by kernel_rfl) Try.func14 (by kernel_rfl)
    (of_decide_eq_true (by kernel_rfl)) (by unfold Func.isWrapper; first | (rw [if_pos (by decide +kernel)]; kernel_rfl) | (rw [if_neg (by decide +kernel)]; exact ⟨rfl, rfl⟩))
    (fun os started H enc _ => roundKnown_lifted os started H enc)
end Go.Proofs.Ytaanbdjmibjcbaa

