/-
  What is proved: the tree of the examples, opened (46), and one with another node.
-/
import Derived.Test.YtdminglglapnlaaM12
import Derived.Test.YtdminglglapnlaaM6
import Derived.Test.YtdminglglapnlaaM15
set_option linter.all false
namespace Go.Proofs.Ytdminglglapnlaa
open Go.RowKit
attribute [local irreducible] Go.wpCalm

def TreeX (w : World) (nb : Nat) (v1 v2 : Value) (F1 F2 : Nat → Int) : Prop :=
  ∃ B, w.heap[nb]? = some (.cells #[.int .i64 1, v1, .int .i64 2, v2] 83) ∧ w.ownsRow B 129 2 v1 2 (nodeL F1 2) ∧ w.ownsRow B 129 2 v2 2 (nodeL F2 2)
theorem TreeX.mono {w w' : World} {nb : Nat} {v1 v2 : Value} {F1 F2 : Nat → Int} (h : TreeX w nb v1 v2 F1 F2) (g : w.grows w') : TreeX w' nb v1 v2 F1 F2 := by
  obtain ⟨B, h1, h2, h3⟩ := h
  exact ⟨B, g.heap_of h1, h2.grow g, h3.grow g⟩
/-- the second node is changed -/
theorem TreeX.put {w : World} {nb : Nat} {v1 v2 v3 : Value} {F1 F2 F3 : Nat → Int} (h : TreeX w nb v1 v2 F1 F2) {B3 : Nat} (h3 : w.ownsRow B3 129 2 v3 2 (nodeL F3 2)) :
    TreeX ((w.setCell ⟨nb, 2, none⟩ (.int .i64 2)).setCell ⟨nb, 3, none⟩ v3) nb v1 v3 F1 F3 := by
  obtain ⟨B, k1, k2, k3⟩ := h
  have e2 := store_of_heap k1 2 (.int .i64 2)
  have e3 := store_of_heap e2 3 v3
  have a1 := ownsRow_setCell_other k2 (a := ⟨nb, 2, none⟩) (fun e => row_block k2 k1 (by decide) _ e rfl) (.int .i64 2)
  have a2 := ownsRow_setCell_other a1 (a := ⟨nb, 3, none⟩) (fun e => row_block a1 e2 (by decide) _ e rfl) v3
  have b1 := ownsRow_setCell_other h3 (a := ⟨nb, 2, none⟩) (fun e => row_block h3 k1 (by decide) _ e rfl) (.int .i64 2)
  have b2 := ownsRow_setCell_other b1 (a := ⟨nb, 3, none⟩) (fun e => row_block b1 e2 (by decide) _ e rfl) v3
  exact ⟨0, e3.trans rfl, a2.down (Nat.zero_le _), b2.down (Nat.zero_le _)⟩
theorem TreeX.at {w : World} {nb : Nat} {v1 v2 : Value} {F1 F2 : Nat → Int} (h : TreeX w nb v1 v2 F1 F2) {t : Tr} (hn : t.n = 2) (hr : t.root = 0) (hf : t.feat 0 = 1 ∧ t.feat 1 = 2) (hb : t.nb 0 = 2 ∧ t.nb 1 = 2)
    (h0 : ∀ b, b < 2 → t.bv 0 b = F1 (2 * b) ∧ t.bt 0 b = F1 (2 * b + 1)) (h1 : ∀ b, b < 2 → t.bv 1 b = F2 (2 * b) ∧ t.bt 1 b = F2 (2 * b + 1)) : TreeAt w (.agg #[.int .i64 0, .slice (some ⟨nb, 0, none⟩) 2 2]) t := by
  obtain ⟨B, k1, k2, k3⟩ := h
  refine ⟨_, by rw [hr], fun i => if i = 0 then v1 else v2, ?_, fun i hi => ?_⟩
  · rw [hn]
    refine ⟨_, _, rfl, Nat.le_refl _, by decide, fun i j hi hj => ⟨_, _, rfl, ?_⟩⟩
    rw [Nat.zero_add]
    refine cell_of_heap k1 ?_
    have hi' : i = 0 ∨ i = 1 := by omega
    have hj' : j = 0 ∨ j = 1 := by omega
    unfold ncell
    rcases hi' with rfl | rfl <;> rcases hj' with rfl | rfl
    · rw [hf.1]; rfl
    · rfl
    · rw [hf.2]; rfl
    · rfl
  · rw [hn] at hi
    have hi' : i = 0 ∨ i = 1 := by omega
    rcases hi' with rfl | rfl
    · rw [hb.1]
      exact (node_sl k2).congr fun b j hbb hj => by unfold bcell; dsimp only; rw [(h0 b hbb).1, (h0 b hbb).2]
    · rw [hb.2]
      exact (node_sl k3).congr fun b j hbb hj => by unfold bcell; dsimp only; rw [(h1 b hbb).1, (h1 b hbb).2]
set_option maxHeartbeats 2000000 in
theorem exTreeX_c (w : World) : Calls Try.prog 46 #[] w fun e w' => ∃ nb v1 v2, e = .returned (.agg #[.int .i64 0, .slice (some ⟨nb, 0, none⟩) 2 2]) ∧ TreeX w' nb v1 v2 (nodeF [0, 1, 1, -9]) (nodeF [0, -8, 1, -10]) ∧ w.grows w' ∧ w.heap.size ≤ nb := by
  go_enter Try.func46, Try.ntmps46
  go_wp2_with (go_at_call 44; fail)
  refine (node_c _ _ _ (nodeF [0, 1, 1, -9]) (cells_at _ _ _ 4 1 _ (by simp) (by decide) (fun i j hi hj => by have hj' : j = 0 := (by omega); have hi' : i = 0 ∨ i = 1 ∨ i = 2 ∨ i = 3 ∨ i = 4 := (by omega); subst hj'; rcases hi' with rfl | rfl | rfl | rfl | rfl <;> first | rfl | omega))).mono ?_
  rintro e W1 ⟨n1, rfl, s1, g⟩
  have C0 : Hid (W1.heap[w.heap.size]? = some (.cells #[.int .i64 0, .slice none 0 0] 28)) := Lib.hid (g.heap_of (World.grows.heap_of (by (repeat (first | exact World.grows.refl _ | assumption | refine World.grows.alloc ?_ _ | refine World.grows.plus ?_ _ _ | refine World.grows.drew ?_))) (World.heap_at _ _ _ rfl)))
  have S1 := Lib.hid s1
  have G1 : Hid (w.grows W1) := Lib.hid (World.grows.trans (by (repeat (first | exact World.grows.refl _ | assumption | refine World.grows.alloc ?_ _ | refine World.grows.plus ?_ _ _ | refine World.grows.drew ?_))) g)
  have hs1 : w.heap.size < W1.heap.size := World.lt_of_block C0.out
  clear g s1
  go_wp2_with (go_at_call 44; fail)
  refine (node_c _ _ _ (nodeF [0, -8, 1, -10]) (cells_at _ _ _ 4 1 _ (by simp) (by decide) (fun i j hi hj => by have hj' : j = 0 := (by omega); have hi' : i = 0 ∨ i = 1 ∨ i = 2 ∨ i = 3 ∨ i = 4 := (by omega); subst hj'; rcases hi' with rfl | rfl | rfl | rfl | rfl <;> first | rfl | omega))).mono ?_
  rintro e W2 ⟨n2, rfl, s2, g⟩
  have G2 : Hid (W1.grows W2) := Lib.hid (World.grows.trans (by (repeat (first | exact World.grows.refl _ | assumption | refine World.grows.alloc ?_ _ | refine World.grows.plus ?_ _ _ | refine World.grows.drew ?_))) g)
  have S2 := Lib.hid s2
  have c5 := World.grows.heap_of G2.out C0.out
  have c50 : W2.cell? ⟨w.heap.size, 0, none⟩ = some (.int .i64 0) := cell_of_heap c5 rfl
  have c51 : W2.cell? ⟨w.heap.size, 1, none⟩ = some (.slice none 0 0) := cell_of_heap c5 rfl
  have f50 := frozen_of_heap c5 0
  have f51 := frozen_of_heap c5 1
  have hs5 : w.heap.size < W2.heap.size := World.lt_of_block c5
  have C5 := Lib.hid c5
  clear c5 g s2
  obtain ⟨b1, o1, rfl, -, -⟩ := row_form S1.out
  obtain ⟨b2, o2, rfl, -, -⟩ := row_form S2.out
  have H1 := G1.out.size
  go_wp2
  generalize hU : World.alloc _ _ = U
  have c7 : U.heap[w.heap.size]? = some (.cells #[.int .i64 0, .slice (some ⟨W2.heap.size, 0, none⟩) 2 2] 28) := by rw [← hU]; exact (World.grows.heap_of (World.grows.alloc (World.grows.refl _) _) (store_of_heap (store_of_heap C5.out 0 _) 1 _)).trans rfl
  have x0 : U.cell? ⟨w.heap.size, 0, none⟩ = some (.int .i64 0) := cell_of_heap c7 rfl
  have x1 : U.cell? ⟨w.heap.size, 1, none⟩ = some (.slice (some ⟨W2.heap.size, 0, none⟩) 2 2) := cell_of_heap c7 rfl
  refine bodyPost_ret (v := .agg #[.int .i64 0, .slice (some ⟨W2.heap.size, 0, none⟩) 2 2]) (by simp [results, Try.results46, go_sem, x0, x1]) rfl ?_
  rw [← hU]
  have q1 := (((((S1.out.down (base' := w.heap.size + 1) (by simp <;> omega)).grow G2.out).set (p := ⟨w.heap.size, 0, none⟩) (by simp) (.int .i64 0)).set (p := ⟨w.heap.size, 1, none⟩) (by simp) (.slice (some ⟨W2.heap.size, 0, none⟩) 2 2)))
  have q2 := (((S2.out.down (base' := w.heap.size + 1) (by simp <;> omega)).set (p := ⟨w.heap.size, 0, none⟩) (by simp) (.int .i64 0)).set (p := ⟨w.heap.size, 1, none⟩) (by simp) (.slice (some ⟨W2.heap.size, 0, none⟩) 2 2))
  refine ⟨_, _, _, rfl, ⟨w.heap.size + 1, World.heap_at _ _ _ (by simp), (q1.grow (World.grows.alloc (World.grows.refl _) _)), (q2.grow (World.grows.alloc (World.grows.refl _) _))⟩, World.grows.alloc (World.grows.setCell (World.grows.setCell (G1.out.trans G2.out) (by simp) _) (by simp) _) _, by omega⟩
/-- the tree of the examples with a wrong end -/
def exT2 : Tr where
  n := 2
  feat := fun i => if i = 0 then 1 else 2
  nb := fun _ => 2
  bv := fun _ b => b
  bt := fun i b => if i = 0 then (if b = 0 then 1 else -9) else -8
  root := 0
/-- a tree of four nodes -/
def exT3 : Tr where
  n := 4
  feat := fun i => ([0, 1, 1, 2] : List Int).getD i 0
  nb := fun _ => 2
  bv := fun i b => (([[0, 1], [0, 1], [0, 1], [0, 1]] : List (List Int)).getD i []).getD b 0
  bt := fun i b => (([[1, 2], [-8, -9], [3, -9], [-8, -10]] : List (List Int)).getD i []).getD b 0
  root := 0
theorem two2 {P : Nat → Prop} (h0 : P 0) (h1 : P 1) : ∀ b, b < 2 → P b := fun b hb => by
  have : b = 0 ∨ b = 1 := by omega
  rcases this with rfl | rfl <;> assumption
theorem TreeX.at1 {w : World} {nb : Nat} {v1 v2 : Value} (h : TreeX w nb v1 v2 (nodeF [0, 1, 1, -9]) (nodeF [0, -8, 1, -10])) : TreeAt w (.agg #[.int .i64 0, .slice (some ⟨nb, 0, none⟩) 2 2]) exT :=
  h.at rfl rfl ⟨rfl, rfl⟩ ⟨rfl, rfl⟩ (two2 ⟨rfl, rfl⟩ ⟨rfl, rfl⟩) (two2 ⟨rfl, rfl⟩ ⟨rfl, rfl⟩)
theorem TreeX.at2 {w : World} {nb : Nat} {v1 v2 : Value} (h : TreeX w nb v1 v2 (nodeF [0, 1, 1, -9]) (nodeF [0, -8, 1, -8])) : TreeAt w (.agg #[.int .i64 0, .slice (some ⟨nb, 0, none⟩) 2 2]) exT2 :=
  h.at rfl rfl ⟨rfl, rfl⟩ ⟨rfl, rfl⟩ (two2 ⟨rfl, rfl⟩ ⟨rfl, rfl⟩) (two2 ⟨rfl, rfl⟩ ⟨rfl, rfl⟩)
theorem exT2_A : exT2.treeE exR = 24 := by decide +kernel
theorem exT3_A : exT3.treeA exR = 13 ∧ exT3.treeE exR = 0 := by decide +kernel
theorem exT_follow8 : exT.followA exR 3 (fun i => if i = 0 then 0 else 1) = 8 ∧ exT.followC exR 3 (fun i => if i = 0 then 0 else 1) = 2 ∧ exT.followE exR 3 (fun i => if i = 0 then 0 else 1) = 0 := by decide +kernel
end Go.Proofs.Ytdminglglapnlaa

/-
  What is proved: the law of a region that draws its order, by properties: each operation of the head has a property of its value that stays when memory is made, and leans on those of the operations it waits for; behind the head reads in any order.
-/
namespace Go
open Go.RowKit
variable {P : Program} {ops : Array Oper}

/-- the values of operations, put one after another -/
def putL (dl : List (Option Tmp)) (val : Nat → Value) : List Nat → Act → Act
  | [], a => a
  | i :: l, a => putL dl val l (a.put (dl.getD i none) (val i))
theorem putL_append {dl : List (Option Tmp)} {val : Nat → Value} : ∀ (l1 l2 : List Nat) (a : Act), putL dl val (l1 ++ l2) a = putL dl val l2 (putL dl val l1 a)
  | [], _, _ => rfl
  | _ :: l1, l2, _ => putL_append l1 l2 _
theorem putL_congr {dl : List (Option Tmp)} {val val' : Nat → Value} : ∀ (l : List Nat) (a : Act), (∀ i ∈ l, val i = val' i) → putL dl val l a = putL dl val' l a
  | [], _, _ => rfl
  | i :: l, a, h => by
    unfold putL
    rw [h i (List.mem_cons_self ..)]
    exact putL_congr l _ fun j hj => h j (List.mem_cons_of_mem _ hj)
theorem putL_perm {dl : List (Option Tmp)} {val : Nat → Value} {l l' : List Nat} (hp : l.Perm l') : (∀ i ∈ l, ∀ j ∈ l, i ≠ j → ∀ d, dl.getD i none = some d → dl.getD j none ≠ some d) → ∀ a, putL dl val l a = putL dl val l' a := by
  induction hp with
  | nil => intro _ _; rfl
  | cons x _ ih => intro h a; exact ih (fun i hi j hj => h i (List.mem_cons_of_mem _ hi) j (List.mem_cons_of_mem _ hj)) _
  | swap x y l =>
    intro h a
    unfold putL
    unfold putL
    by_cases e : y = x
    · rw [e]
    · rw [Act.put_comm a (val y) (val x) (h y (by simp) x (by simp) e)]
  | trans h1 _ ih1 ih2 => intro h a; exact (ih1 h a).trans (ih2 (fun i hi j hj => h i (h1.mem_iff.2 hi) j (h1.mem_iff.2 hj)) a)
theorem execOp_putL {dl : List (Option Tmp)} {val : Nat → Value} {o : Oper} (hs : ∀ cs b, o.op ≠ .select cs b) : ∀ (l : List Nat) (a : Act), (∀ i ∈ l, ∀ d, dl.getD i none = some d → d ∉ o.looksAt ops) →
    execOp (putL dl val l a).eval o = execOp a.eval o
  | [], _, _ => rfl
  | i :: l, a, h => (execOp_putL hs l _ (fun j hj => h j (List.mem_cons_of_mem _ hj))).trans (execOp_put o hs a _ _ (h i (List.mem_cons_self ..)))

/-- for all values of these operations that have their properties -/
def depQ (dl : List (Option Tmp)) (R : List (Value → World → Prop)) (W : World) (K : Act → Prop) : List Nat → Act → Prop
  | [], a => K a
  | i :: l, a => ∀ v, R.getD i (fun _ _ => True) v W → depQ dl R W K l (a.put (dl.getD i none) v)
theorem depQ_of {dl : List (Option Tmp)} {R : List (Value → World → Prop)} {W : World} {K : Act → Prop} {val : Nat → Value} : ∀ (l : List Nat) (a : Act), depQ dl R W K l a → (∀ j ∈ l, R.getD j (fun _ _ => True) (val j) W) → K (putL dl val l a)
  | [], _, h, _ => h
  | i :: l, a, h, hv => depQ_of l _ (h (val i) (hv i (List.mem_cons_self ..))) fun j hj => hv j (List.mem_cons_of_mem _ hj)
/-- what is asked of the operations of the head, each with those it leans on -/
def oblQ (P : Program) (dl : List (Option Tmp)) (R : List (Value → World → Prop)) (w0 : World) (a : Act) : List (Oper × List Nat × (Value → World → Prop)) → Prop
  | [] => True
  | (o, D, r) :: l => (∀ K : Value → World → Prop, (∀ v W, r v W → K v W) → ∀ n x, depQ dl R (w0.plus n x) (fun a' => o.goes P a' (w0.plus n x) K) D a) ∧ oblQ P dl R w0 a l
theorem oblQ_at {dl : List (Option Tmp)} {R : List (Value → World → Prop)} {w0 : World} {a : Act} : ∀ (l : List (Oper × List Nat × (Value → World → Prop))), oblQ P dl R w0 a l → ∀ (i : Nat) (o : Oper) (D : List Nat) (r : Value → World → Prop), l[i]? = some (o, D, r) →
    ∀ W, w0.grows W → depQ dl R W (fun a' => Oper.goes P o a' W r) D a
  | [], _, i, o, D, r, h => by simp at h
  | _ :: l, hl, 0, o, D, r, h => by
    cases Option.some.inj h
    intro W hg
    obtain ⟨n, x, rfl⟩ := World.plus_of hg
    exact hl.1 r (fun _ _ h => h) n x
  | _ :: l, hl, i + 1, o, D, r, h => oblQ_at l hl.2 i o D r (by simpa using h)

def Region.invB (ops : Array Oper) (n : Nat) (ds : List (List Nat)) (dl : List (Option Tmp)) : Bool :=
  Region.mixB ops n [] && decide (n ≤ ops.size) &&
  (List.range n).all (fun i => match ops[i]? with
    | some o => o.guard.isNone && decide (dl.getD i none = o.dst) && (ds.getD i []).all (fun j => decide (j < n) && Region.waitsFor .any ops i j) && decide ((ds.getD i []).Nodup) &&
        (List.range n).all (fun j => decide (j = i) || (decide (dl.getD i none = none) || decide (dl.getD j none ≠ dl.getD i none)) && ((ds.getD i []).contains j || match dl.getD j none with | some d => !(o.looksAt ops).contains d | none => true))
    | none => false)

theorem wpAny_of_inv {w0 : World} {a : Act} {R : List (Value → World → Prop)} {Q : Exit → Act → World → Prop} {n : Nat} {ds : List (List Nat)} {dl : List (Option Tmp)} (hB : Region.invB ops n ds dl = true)
    (hheads0 : ∀ (listed : Array Bool) (i0 : Nat), HeadInv .any ops n listed → i0 < n → listed.getD i0 true = false → ∀ t ∈ Region.ready .any ops listed, t < n)
    (hR : ∀ i, Stays (R.getD i (fun _ _ => True)))
    (hop : ∀ i o, i < n → ops[i]? = some o → ∀ W, w0.grows W → depQ dl R W (fun a' => o.goes P a' W (R.getD i (fun _ _ => True))) (ds.getD i []) a)
    (hK : ∀ val W, w0.grows W → (∀ i, i < n → R.getD i (fun _ _ => True) (val i) W) → ∀ listed, HeadInv .any ops n listed → (∀ i, i < n → listed.getD i false = true) → wpAny P .any ops Q (ops.size - n) listed (putL dl val (List.range n) a) W) :
    ∀ (cnt : Nat) (L U : List Nat) (listed : Array Bool) (val : Nat → Value) (W : World), U.length = cnt → L.Nodup → U.Nodup → (∀ i, i ∈ L ↔ i < n ∧ listed.getD i false = true) → (∀ i, i ∈ U ↔ i < n ∧ listed.getD i false = false) →
      HeadInv .any ops n listed → w0.grows W → (∀ i ∈ L, R.getD i (fun _ _ => True) (val i) W) → wpAny P .any ops Q (cnt + (ops.size - n)) listed (putL dl val L a) W := by
  simp only [Region.invB, Bool.and_eq_true, decide_eq_true_eq] at hB
  obtain ⟨⟨hmix, hnle⟩, hall⟩ := hB
  simp only [Region.mixB, Bool.and_eq_true, decide_eq_true_eq] at hmix
  obtain ⟨⟨⟨hsel, _⟩, _⟩, hedge⟩ := hmix
  have hsp := Region.noSelect_spec hsel
  have spec : ∀ i o, i < n → ops[i]? = some o → o.guard = none ∧ dl.getD i none = o.dst ∧ (∀ j ∈ ds.getD i [], j < n ∧ Region.waitsFor .any ops i j = true) ∧ (ds.getD i []).Nodup ∧
      ∀ j, j < n → j ≠ i → (∀ d, dl.getD i none = some d → dl.getD j none ≠ some d) ∧ (j ∉ ds.getD i [] → ∀ d, dl.getD j none = some d → d ∉ o.looksAt ops) := by
    intro i o hi ho
    have h1 := List.all_eq_true.1 hall i (List.mem_range.2 hi)
    simp only [ho, Bool.and_eq_true, decide_eq_true_eq] at h1
    obtain ⟨⟨⟨⟨g1, g2⟩, g3⟩, g4⟩, g5⟩ := h1
    refine ⟨by simpa using g1, g2, fun j hj => ?_, g4, fun j hj hji => ?_⟩
    · have := List.all_eq_true.1 g3 j hj
      simpa using this
    · have h2 := List.all_eq_true.1 g5 j (List.mem_range.2 hj)
      simp only [Bool.or_eq_true, Bool.and_eq_true, decide_eq_true_eq] at h2
      rcases h2 with h2 | ⟨h2, h3⟩
      · exact absurd h2 hji
      · refine ⟨fun d hd hj' => ?_, fun hnd d hd => ?_⟩
        · rcases h2 with h2 | h2
          · rw [hd] at h2; cases h2
          · exact h2 (hj'.trans hd.symm)
        · rcases h3 with h3 | h3
          · exact absurd (by simpa using h3) hnd
          · rw [hd] at h3
            simpa using h3
  have edgeOf : ∀ i o, i < n → ops[i]? = some o → ∀ e ∈ o.after, Region.binds .any e = true → e.on < i := by
    intro i o hi ho e he hb
    have h1 := List.all_eq_true.1 hedge i (List.mem_range.2 hi)
    simp only [ho, Bool.and_eq_true] at h1
    have h2 := Array.all_eq_true_iff_forall_mem.1 h1.1 e he
    simpa only [hb, Bool.not_true, Bool.false_or, decide_eq_true_eq] using h2
  have unwait : ∀ (listed : Array Bool) (i j : Nat), i ∈ Region.ready .any ops listed → Region.waitsFor .any ops i j = true → listed.getD j false = true := by
    intro listed i j hi hw
    obtain ⟨oi, hoi, e, he, hb, hon⟩ := Region.waitsFor_spec hw
    obtain ⟨_, o', ho', hall⟩ := mem_ready.1 hi
    rw [hoi] at ho'; cases ho'
    have := hall e he hb
    rwa [hon] at this
  have at_lt : ∀ i, i < n → ∃ o, ops[i]? = some o := fun i hi => ⟨ops[i]'(by omega), Array.getElem?_eq_getElem (by omega)⟩
  have dst_ne : ∀ i, i < n → ∀ j, j < n → i ≠ j → ∀ d, dl.getD i none = some d → dl.getD j none ≠ some d := fun i hi j hj hij => by
    obtain ⟨o, ho⟩ := at_lt i hi
    exact ((spec i o hi ho).2.2.2.2 j hj (Ne.symm hij)).1
  intro cnt
  induction cnt with
  | zero =>
    intro L U listed val W hc hL hU hLm hUm inv hg hv
    have he : U = [] := List.eq_nil_of_length_eq_zero hc
    have hl : ∀ i, i < n → listed.getD i false = true := fun i hi => by
      cases h : listed.getD i false with
      | true => rfl
      | false =>
        have := (hUm i).2 ⟨hi, h⟩
        rw [he] at this
        cases this
    have hp : L.Perm (List.range n) := (List.perm_ext_iff_of_nodup hL List.nodup_range).2 fun i => by
      rw [hLm, List.mem_range]
      exact ⟨fun h => h.1, fun h => ⟨h, hl i h⟩⟩
    rw [Nat.zero_add, putL_perm hp (fun i hi j hj hij => dst_ne i ((hLm i).1 hi).1 j ((hLm j).1 hj).1 hij)]
    exact hK val W hg (fun i hi => hv i ((hLm i).2 ⟨hi, hl i hi⟩)) listed inv hl
  | succ cnt ih =>
    intro L U listed val W hc hL hU hLm hUm inv hg hv
    rw [show cnt + 1 + (ops.size - n) = (cnt + (ops.size - n)) + 1 by omega]
    obtain ⟨i0, hi0⟩ : ∃ i, i ∈ U := by
      cases U with
      | nil => simp at hc
      | cons x _ => exact ⟨x, List.mem_cons_self ..⟩
    have hi0' := (hUm i0).1 hi0
    have hheads := hheads0 listed i0 inv hi0'.1 (getD_in (by rw [inv.size]; omega) hi0'.2)
    have least : ∀ i, i < n → listed.getD i false = false → ∃ t, t ∈ Region.ready .any ops listed := by
      intro i
      induction i using Nat.strongRecOn with
      | _ i ih2 =>
        intro hi hl
        obtain ⟨o, ho⟩ := at_lt i hi
        by_cases h : ∃ e ∈ o.after, Region.binds .any e = true ∧ listed.getD e.on false = false
        · obtain ⟨e, he, hb, hel⟩ := h
          have := edgeOf i o hi ho e he hb
          exact ih2 e.on this (by omega) hel
        · refine ⟨i, mem_ready.2 ⟨getD_in (by rw [inv.size]; omega) hl, o, ho, fun e he hb => ?_⟩⟩
          cases hq : listed.getD e.on false with
          | true => rfl
          | false => exact absurd ⟨e, he, hb, hq⟩ h
    refine ⟨fun hnil => ?_, fun i hi => ?_⟩
    · exfalso
      obtain ⟨t, ht⟩ := least i0 hi0'.1 hi0'.2
      rw [hnil] at ht
      cases ht
    · have hin := hheads i hi
      have hl : listed.getD i false = false := getD_both (mem_ready.1 hi).1
      have inv' := inv.set hi hin
      obtain ⟨o, ho⟩ := at_lt i hin
      obtain ⟨sg, sd, sw, snd, sl⟩ := spec i o hin ho
      have set_ne : ∀ j, j ≠ i → (listed.setIfInBounds i true).getD j false = listed.getD j false := fun j hji => getD_set_ne false (Ne.symm hji)
      have set_self : (listed.setIfInBounds i true).getD i false = true := by
        have : i < listed.size := by rw [inv.size]; omega
        simp [this]
      have hiL : i ∉ L := fun h => by
        have := ((hLm i).1 h).2
        rw [hl] at this; cases this
      have hDL : ∀ j ∈ ds.getD i [], j ∈ L := fun j hj => (hLm j).2 ⟨(sw j hj).1, unwait listed i j hi (sw j hj).2⟩
      have hexec : execOp (putL dl val L a).eval o = execOp (putL dl val (ds.getD i []) a).eval o := by
        have hp : L.Perm (ds.getD i [] ++ L.filter fun j => !(ds.getD i []).contains j) := by
          refine (List.perm_ext_iff_of_nodup hL (List.nodup_append.2 ⟨snd, hL.filter _, fun x hx y hy e => ?_⟩)).2 fun j => ?_
          · subst e
            have h3 : (ds.getD i []).contains x = true := List.contains_iff_mem.2 hx
            have h4 := (List.mem_filter.1 hy).2
            simp only [h3] at h4
            cases h4
          · rw [List.mem_append, List.mem_filter]
            constructor
            · intro hj
              by_cases h : j ∈ ds.getD i []
              · exact .inl h
              · exact .inr ⟨hj, by simpa using h⟩
            · rintro (h | h)
              · exact hDL j h
              · exact h.1
        rw [putL_perm hp (fun i hi j hj hij => dst_ne i ((hLm i).1 hi).1 j ((hLm j).1 hj).1 hij), putL_append]
        refine execOp_putL (ops := ops) (fun cs b => hsp i o cs b ho) _ _ fun j hj d hd => ?_
        obtain ⟨h1, h2⟩ := List.mem_filter.1 hj
        refine (sl j ((hLm j).1 h1).1 (fun e => hiL (e ▸ h1))).2 (by simpa using h2) d hd
      have hgo := depQ_of (val := val) _ _ (hop i o hin ho W hg) (fun j hj => hv j (hDL j hj))
      have hrest : ∀ v W', W.grows W' → R.getD i (fun _ _ => True) v W' → wpAny P .any ops Q (cnt + (ops.size - n)) (listed.setIfInBounds i true) ((putL dl val L a).put o.dst v) W' := by
        intro v W' g hr
        have e : (putL dl val L a).put o.dst v = putL dl (fun k => if k = i then v else val k) (L ++ [i]) a := by
          rw [putL_append, putL_congr (val' := fun k => if k = i then v else val k) L a (fun j hj => (if_neg (fun h => hiL (by rw [← h]; exact hj))).symm)]
          simp only [putL, if_true, sd]
        rw [e]
        refine ih (L ++ [i]) (U.erase i) _ _ W' ?_ ?_ (hU.erase _) (fun j => ?_) (fun j => ?_) inv' (hg.trans g) (fun j hj => ?_)
        · have := List.length_erase_of_mem ((hUm i).2 ⟨hin, hl⟩)
          omega
        · rw [List.nodup_append]
          refine ⟨hL, List.nodup_cons.2 ⟨by simp, List.nodup_nil⟩, fun x hx y hy e => ?_⟩
          rw [List.mem_singleton] at hy
          exact hiL (by rw [← hy, ← e]; exact hx)
        · rw [List.mem_append, List.mem_singleton, hLm]
          by_cases hji : j = i
          · subst hji
            simp [set_self, hin]
          · rw [set_ne j hji]
            simp [hji]
        · rw [hU.mem_erase_iff, hUm]
          by_cases hji : j = i
          · subst hji
            simp [set_self]
          · rw [set_ne j hji]
            simp [hji]
        · rcases List.mem_append.1 hj with hj | hj
          · have : j ≠ i := fun h => hiL (by rw [← h]; exact hj)
            show R.getD j _ (if j = i then v else val j) W'
            rw [if_neg this]
            exact hR j _ _ _ (hv j hj) g
          · rw [List.mem_singleton] at hj
            subst hj
            show R.getD j _ (if j = j then v else val j) W'
            rw [if_pos rfl]
            exact hr
      unfold wpOp
      simp only [ho]
      rw [if_pos (by simp [Region.wanted, sg])]
      refine .inl ?_
      unfold Oper.wp
      unfold Oper.goes at hgo
      rw [hexec]
      generalize (execOp (putL dl val (ds.getD i []) a).eval o).run P W = r at *
      cases r with
      | halt z w' => simp only [goesUpon] at hgo
      | ok nx w' =>
        cases nx <;> simp only [goesUpon] at hgo <;> simp only [Oper.upon]
        case value u => exact hrest _ _ hgo.1 hgo.2
        case skip => exact hrest _ _ hgo.1 hgo.2
        case enter f args =>
          obtain ⟨rfl, hcall⟩ := hgo
          refine hcall.mono fun e w'' ⟨v, he, g, hp⟩ => ?_
          subst he
          exact hrest _ _ g hp

def Region.invRestB (ops : Array Oper) (n : Nat) (ds : List (List Nat)) (dl : List (Option Tmp)) : Bool :=
  Region.invB ops n ds dl && decide (n < ops.size) && Region.sinkB .any ops n && Region.restB ops n && Region.mixB ops ops.size []

def zipQ : List Oper → List (List Nat) → List (Value → World → Prop) → List (Oper × List Nat × (Value → World → Prop))
  | o :: l, D :: ds, r :: R => (o, D, r) :: zipQ l ds R
  | _, _, _ => []
theorem zipQ_at : ∀ (l : List Oper) (ds : List (List Nat)) (R : List (Value → World → Prop)), l.length ≤ ds.length → l.length ≤ R.length → ∀ i o, l[i]? = some o → (zipQ l ds R)[i]? = some (o, ds.getD i [], R.getD i (fun _ _ => True))
  | [], _, _, _, _, i, o, h => by simp at h
  | _ :: _, [], _, h1, _, _, _, _ => by simp at h1
  | _ :: _, _ :: _, [], _, h2, _, _, _ => by simp at h2
  | x :: l, D :: ds, r :: R, _, _, 0, o, h => by cases Option.some.inj h; rfl
  | x :: l, D :: ds, r :: R, h1, h2, i + 1, o, h => by
    have := zipQ_at l ds R (by simpa using h1) (by simpa using h2) i o (by simpa using h)
    simpa [zipQ] using this

/-- operations that make memory, each with a property that stays, and behind all of them (from n on) operations that only read, in any order -/
theorem wp_region_inv {id : Nat} {Q : Exit → Act → World → Prop} {a : Act} {w : World} {l : List Oper} (n : Nat) (ds : List (List Nat)) (dl : List (Option Tmp)) (R : List (Value → World → Prop)) (hm : P.follows .mixedOrders = true)
    (hB : (Region.invRestB l.toArray n ds dl && decide (n ≤ ds.length)) = true) (hn : n ≤ l.length) (hRn : n ≤ R.length) (hR : ∀ r ∈ R, Stays r)
    (hop : oblQ P dl R w a (zipQ (l.take n) ds R))
    (h : ∀ n' x, depQ dl R (w.plus n' x) (fun a'' => wpCalm P l.toArray (w.plus n' x) (fun a3 => ∀ k y, Q .normal a3 ((w.plus n' x).plus k y)) (l.drop n) a'') (List.range n) a) : (Code.region id l.toArray true).wp P Q a w := by
  simp only [Region.invRestB, Bool.and_eq_true, decide_eq_true_eq] at hB
  obtain ⟨⟨⟨⟨⟨hinv, hlt⟩, hsink⟩, hrest⟩, hmix⟩, hds⟩ := hB
  refine wp_region_any hm ?_
  obtain ⟨n0, x0, h0⟩ := World.more_drew w
  rw [h0]
  have key := wpAny_of_inv (P := P) (ops := l.toArray) (w0 := w) (a := a) (R := R) (Q := Q) (n := n) (ds := ds) (dl := dl) hinv
    (fun listed i0 inv hi0 hun0 t ht => by
      rcases Nat.lt_or_ge t n with h | h
      · exact h
      · exact absurd ht (rest_waits hsink hrest hlt inv _ i0 rfl hi0 hun0 t h))
    (fun i => by
      rw [List.getD_eq_getElem?_getD]
      cases hi : R[i]? with
      | none => exact fun _ _ _ _ _ => trivial
      | some r => exact hR r (List.mem_of_getElem? hi))
    (fun i o hi ho W hg => oblQ_at _ hop i o _ _ (zipQ_at (l.take n) ds R (by simp; omega) (by simp; omega) i o (by rw [List.getElem?_take, if_pos hi]; simpa using ho)) W hg)
    (fun val W hg hv listed inv hall => by
      obtain ⟨n', x, rfl⟩ := World.plus_of hg
      exact wpAny_calm_rest (by simpa using hmix) hn inv hall (depQ_of (val := val) _ _ (h n' x) fun j hj => hv j (List.mem_range.1 hj)))
    n [] (List.range n) (Array.replicate l.toArray.size false) (fun _ => undef) (w.plus n0 x0) (by simp) List.nodup_nil List.nodup_range
    (fun i => ⟨fun h => absurd h List.not_mem_nil, fun h => by rw [getD_replicate_false] at h; exact absurd h.2 (by decide)⟩)
    (fun i => by rw [List.mem_range, getD_replicate_false]; exact ⟨fun h => ⟨h, rfl⟩, fun h => h.1⟩)
    (headInv_start n) (World.grows_plus _ _ _) (fun i hi => by cases hi)
  rw [show n + (l.toArray.size - n) = l.toArray.size by omega] at key
  exact key
end Go

/-
  What is proved: MarkKnown (11) answers true.
-/
namespace Go.Proofs.Ytdminglglapnlaa
open Go.RowKit
attribute [local irreducible] Go.wpCalm

theorem node_h {w : World} (x : Int) {a b c d : Int} {bl : Nat} (hb : w.heap[bl]? = some (.cells #[.int .i64 a, .int .i64 b, .int .i64 c, .int .i64 d] 3)) : Calls Try.prog 47 #[.int .i64 x, .slice (some ⟨bl, 0, none⟩) 4 4] w fun e w' =>
    ∃ a1 c1, e = .returned (.agg #[.int .i64 x, .slice a1 2 c1]) ∧ w'.ownsRow 0 129 2 (.slice a1 2 c1) 2 (nodeL (nodeF [a, b, c, d]) 2) ∧ w.grows w' :=
  (node_c _ x _ (nodeF [a, b, c, d]) ⟨_, _, rfl, Nat.le_refl _, by decide, fun i j hi hj => ⟨_, _, rfl, by
    rw [Nat.zero_add]
    refine cell_of_heap hb ?_
    have hj' : j = 0 := (by omega)
    have hi' : i = 0 ∨ i = 1 ∨ i = 2 ∨ i = 3 := (by omega)
    subst hj'
    rcases hi' with rfl | rfl | rfl | rfl <;> rfl⟩⟩).mono (by
    rintro e w' ⟨nv, rfl, h, hg⟩
    obtain ⟨a1, c1, rfl, -, -⟩ := row_form h
    exact ⟨_, _, rfl, h.down (Nat.zero_le _), hg⟩)
def t4cell (u0 u1 u2 u3 : Value) (i j : Nat) : Value := ([.int .i64 0, u0, .int .i64 1, u1, .int .i64 1, u2, .int .i64 2, u3] : List Value).getD (i * 2 + j) undef
theorem c4 (u0 u1 u2 u3 : Value) : ∀ i j, i < 4 → j < 2 → (#[.int .i64 0, u0, .int .i64 1, u1, .int .i64 1, u2, .int .i64 2, u3] : Array Value)[i * 2 + j]? = some (t4cell u0 u1 u2 u3 i j) := fun i j hi hj => by
  have hj' : j = 0 ∨ j = 1 := (by omega)
  have hi' : i = 0 ∨ i = 1 ∨ i = 2 ∨ i = 3 := (by omega)
  rcases hi' with rfl | rfl | rfl | rfl <;> rcases hj' with rfl | rfl <;> rfl
theorem tree4 {w : World} {nv u0 u1 u2 u3 : Value} (h : SliceAt w nv 4 2 (t4cell u0 u1 u2 u3)) (h0 : w.ownsRow 0 129 2 u0 2 (nodeL (nodeF [0, 1, 1, 2]) 2)) (h1 : w.ownsRow 0 129 2 u1 2 (nodeL (nodeF [0, -8, 1, -9]) 2))
    (h2 : w.ownsRow 0 129 2 u2 2 (nodeL (nodeF [0, 3, 1, -9]) 2)) (h3 : w.ownsRow 0 129 2 u3 2 (nodeL (nodeF [0, -8, 1, -10]) 2)) : TreeAt w (.agg #[.int .i64 0, nv]) exT3 := by
  refine ⟨nv, rfl, fun i => ([u0, u1, u2, u3] : List Value).getD i undef, h.congr fun i j hi hj => ?_, fun i hi => ?_⟩
  · have hj' : j = 0 ∨ j = 1 := (by omega)
    have hi' : i = 0 ∨ i = 1 ∨ i = 2 ∨ i = 3 := (by omega)
    rcases hi' with rfl | rfl | rfl | rfl <;> rcases hj' with rfl | rfl <;> rfl
  · have hi : i < 4 := hi
    have hi' : i = 0 ∨ i = 1 ∨ i = 2 ∨ i = 3 := (by omega)
    rcases hi' with rfl | rfl | rfl | rfl
    · exact (node_sl h0).congr fun b j hb hj => by have hj' : j = 0 ∨ j = 1 := (by omega); have hb' : b = 0 ∨ b = 1 := (by omega); rcases hb' with rfl | rfl <;> rcases hj' with rfl | rfl <;> rfl
    · exact (node_sl h1).congr fun b j hb hj => by have hj' : j = 0 ∨ j = 1 := (by omega); have hb' : b = 0 ∨ b = 1 := (by omega); rcases hb' with rfl | rfl <;> rcases hj' with rfl | rfl <;> rfl
    · exact (node_sl h2).congr fun b j hb hj => by have hj' : j = 0 ∨ j = 1 := (by omega); have hb' : b = 0 ∨ b = 1 := (by omega); rcases hb' with rfl | rfl <;> rcases hj' with rfl | rfl <;> rfl
    · exact (node_sl h3).congr fun b j hb hj => by have hj' : j = 0 ∨ j = 1 := (by omega); have hb' : b = 0 ∨ b = 1 := (by omega); rcases hb' with rfl | rfl <;> rcases hj' with rfl | rfl <;> rfl
theorem k_t3 {w : World} {v tv : Value} (hv : RegAt w v exR) (ht : TreeAt w tv exT3) : Calls Try.prog 19 #[v, tv] w fun e w' => e = .returned (.tuple #[.int .i64 13, .int .i64 0]) ∧ w.grows w' := by
  have h := ptree_c w v exR hv tv exT3 ht
  rwa [exT3_A.1, exT3_A.2] at h
theorem k_fo {w : World} {v tv lv : Value} (hv : RegAt w v exR) (ht : TreeAt w tv exT) (hl : IntsAt w lv 3 fun i => if i = 0 then 0 else 1) : Calls Try.prog 17 #[v, tv, lv] w fun e w' => e = .returned (.tuple #[.int .i64 8, .int .i64 2, .int .i64 0]) ∧ w.grows w' := by
  have h := pfollow_c w v exR hv tv exT ht lv 3 _ hl
  rwa [exT_follow8.1, exT_follow8.2.1, exT_follow8.2.2] at h
theorem k_t2 {w : World} {v tv : Value} (hv : RegAt w v exR) (ht : TreeAt w tv exT2) : Calls Try.prog 19 #[v, tv] w fun e w' => e = .returned (.tuple #[.int .i64 0, .int .i64 24]) ∧ w.grows w' := by
  have h := ptree_c w v exR hv tv exT2 ht
  unfold Tr.treeA at h
  rwa [exT2_A] at h
/-! ### what the operations of the last region answer -/
def kV (x : Value) : Value → World → Prop := fun v _ => v = x
def kS (a b c d : Int) : Value → World → Prop := fun v W => ∃ bl, v = .slice (some ⟨bl, 0, none⟩) 4 4 ∧ W.heap[bl]? = some (.cells #[.int .i64 a, .int .i64 b, .int .i64 c, .int .i64 d] 3)
def kN (x : Int) (F : Nat → Int) : Value → World → Prop := fun v W => ∃ a1 c1, v = .agg #[.int .i64 x, .slice a1 2 c1] ∧ W.ownsRow 0 129 2 (.slice a1 2 c1) 2 (nodeL F 2)
def kT : Value → World → Prop := fun v W => ∃ u0 u1 u2 u3, SliceAt W v 4 2 (t4cell u0 u1 u2 u3) ∧ W.ownsRow 0 129 2 u0 2 (nodeL (nodeF [0, 1, 1, 2]) 2) ∧ W.ownsRow 0 129 2 u1 2 (nodeL (nodeF [0, -8, 1, -9]) 2) ∧ W.ownsRow 0 129 2 u2 2 (nodeL (nodeF [0, 3, 1, -9]) 2) ∧ W.ownsRow 0 129 2 u3 2 (nodeL (nodeF [0, -8, 1, -10]) 2)
def kTr : Value → World → Prop := fun v W => TreeAt W v exT3
theorem st_kV (x : Value) : Stays (kV x) := fun _ _ _ h _ => h
theorem st_kS (a b c d : Int) : Stays (kS a b c d) := fun _ _ _ ⟨bl, h, k⟩ g => ⟨bl, h, g.heap_of k⟩
theorem st_kN (x : Int) (F : Nat → Int) : Stays (kN x F) := fun _ _ _ ⟨a, c, h, k⟩ g => ⟨a, c, h, k.grow g⟩
theorem st_kT : Stays kT := fun _ _ _ ⟨a, b, c, d, s, h1, h2, h3, h4⟩ g => ⟨a, b, c, d, s.mono g, h1.grow g, h2.grow g, h3.grow g, h4.grow g⟩
theorem st_kTr : Stays kTr := fun _ _ _ h g => TreeAt.mono h g
set_option maxRecDepth 100000 in
set_option maxHeartbeats 8000000 in
theorem known_w (w : World) : Calls Try.prog 11 #[] w fun e w' => e = .returned (.bool true) ∧ w.grows w' := by
  go_enter Try.func11, Try.ntmps11
  go_wp2_with (go_at_call 44; fail)
  refine (exRegX_c _).mono ?_
  rintro e W1 ⟨mb, cb, rb, rfl, hX, g, -⟩
  have G : Hid (w.grows W1) := Lib.hid (World.grows.trans (by (repeat (first | exact World.grows.refl _ | assumption | refine World.grows.alloc ?_ _ | refine World.grows.plus ?_ _ _ | refine World.grows.drew ?_))) g)
  have HX := Lib.hid hX
  clear g hX
  go_wp2_with (go_at_call 44; fail)
  refine (exTreeX_c _).mono ?_
  rintro e W2 ⟨nb, v1, v2, rfl, hT, g, -⟩
  replace G : Hid (w.grows W2) := Lib.hid (G.out.trans (World.grows.trans (by (repeat (first | exact World.grows.refl _ | assumption | refine World.grows.alloc ?_ _ | refine World.grows.plus ?_ _ _ | refine World.grows.drew ?_))) g))
  replace HX := Lib.hid (HX.out.mono (World.grows.trans (by (repeat (first | exact World.grows.refl _ | assumption | refine World.grows.alloc ?_ _ | refine World.grows.plus ?_ _ _ | refine World.grows.drew ?_))) g))
  have HT := Lib.hid hT
  clear g hT
  go_wp2_with (go_at_call 44; fail)
  refine (exTreeX_c _).mono ?_
  rintro e W3 ⟨n3, v3, v4, rfl, hT3, g, hn3⟩
  have G3 : Hid (W2.grows W3) := Lib.hid (World.grows.trans (by (repeat (first | exact World.grows.refl _ | assumption | refine World.grows.alloc ?_ _ | refine World.grows.plus ?_ _ _ | refine World.grows.drew ?_))) g)
  have HT3 := Lib.hid hT3
  have hn2 : W2.heap.size ≤ n3 := by simpa using hn3
  have hn3' : n3 < W3.heap.size := World.lt_of_block hT3.choose_spec.1
  clear g hT3 hn3
  go_upto_region 2 with fail
  generalize hY : World.alloc _ _ = Y
  have b1 : Y.heap[W3.heap.size]? = some (.cells #[.slice (some ⟨mb, 0, none⟩) 5 5, .slice (some ⟨cb, 0, none⟩) 3 3] 25) := by rw [← hY]; exact World.grows.heap_of (by (repeat (first | exact World.grows.refl _ | assumption | refine World.grows.alloc ?_ _ | refine World.grows.plus ?_ _ _ | refine World.grows.drew ?_))) (World.heap_at _ _ _ rfl)
  have b2 : Y.heap[W3.heap.size + 1]? = some (.cells #[.int .i64 0, .slice (some ⟨nb, 0, none⟩) 2 2] 28) := by rw [← hY]; exact World.grows.heap_of (by (repeat (first | exact World.grows.refl _ | assumption | refine World.grows.alloc ?_ _ | refine World.grows.plus ?_ _ _ | refine World.grows.drew ?_))) (World.heap_at _ _ _ (by simp))
  have b3 : Y.heap[W3.heap.size + 1 + 1]? = some (.cells #[.int .i64 0, .slice (some ⟨n3, 0, none⟩) 2 2] 28) := by rw [← hY]; exact World.heap_at _ _ _ (by simp)
  have gY : W3.grows Y := by rw [← hY]; (repeat (first | exact World.grows.refl _ | assumption | refine World.grows.alloc ?_ _ | refine World.grows.plus ?_ _ _ | refine World.grows.drew ?_))
  have q31 : Y.cell? ⟨W3.heap.size + 1 + 1, 1, none⟩ = some (.slice (some ⟨n3, 0, none⟩) 2 2) := cell_of_heap b3 rfl
  replace HT3 := Lib.hid (HT3.out.mono gY)
  replace G3 := Lib.hid (G3.out.trans gY)
  have B1 := Lib.hid b1
  have B2 := Lib.hid b2
  have B3 := Lib.hid b3
  have hYs : W3.heap.size ≤ Y.heap.size := gY.size
  clear gY hY b1 b2 b3
  (refine wp_region_chain 4 [2, 3] (by kernel_rfl) (by kernel_rfl) (by decide) ?_; simp only [without, only, withNo, List.take_succ_cons, List.take_zero, List.drop_succ_cons, List.drop_zero, List.take_nil, List.drop_nil, Nat.reduceAdd, Nat.reduceSub, List.filter, List.contains_cons, List.contains_nil, Nat.reduceBEq, Bool.or_false, Bool.false_or, Bool.true_or, Bool.or_true, Bool.or_self, Bool.not_true, Bool.not_false, List.map_cons, List.map_nil]; (repeat (refine wpCalm_step (fun K hK => ?_); go_simp; first | (refine hK _ ?_; clear hK K) | (apply Exists.intro; refine ⟨fun n' x' => ?_, hK _ ?_⟩; (fail); clear hK K))); refine wpCalm_nil ?_)
  (refine wpChain_step (fun K hK nc xc => ?_); go_simp)
  refine ⟨by (repeat (first | exact World.grows.refl _ | assumption | refine World.grows.alloc ?_ _ | refine World.grows.plus ?_ _ _ | refine World.grows.drew ?_)), hK _ _ ?_⟩
  clear hK K
  (refine wpChain_step (fun K hK nc xc => ?_); go_simp)
  refine (node_c _ _ _ (nodeF [0, -8, 1, -8]) (SliceAt.mono (cells_at (w := World.plus _ _ _) _ 3 _ 4 1 _ (by simp) (by decide) (fun i j hi hj => by have hj' : j = 0 := (by omega); have hi' : i = 0 ∨ i = 1 ∨ i = 2 ∨ i = 3 ∨ i = 4 := (by omega); subst hj'; rcases hi' with rfl | rfl | rfl | rfl | rfl <;> first | rfl | omega)) (World.grows_plus _ _ _))).mono ?_
  rintro e W4 ⟨v5, rfl, h5, g⟩
  refine ⟨_, rfl, g, hK _ _ ?_⟩
  clear hK K
  obtain ⟨a5, c5, rfl, -, -⟩ := row_form h5
  (refine wpChain_nil (fun nc xc => ?_))
  have g4 : Y.grows (W4.plus nc xc) := World.grows.trans (World.grows.trans (by (repeat (first | exact World.grows.refl _ | assumption | refine World.grows.alloc ?_ _ | refine World.grows.plus ?_ _ _ | refine World.grows.drew ?_))) g) (World.grows_plus _ _ _)
  have h5' := h5.grow (World.grows_plus W4 nc xc)
  generalize hV : W4.plus nc xc = V at g4 h5' ⊢
  obtain ⟨B, k1, k2, k3⟩ := HT3.out
  have c38 : V.cell? ⟨n3, 2, none⟩ = some (.int .i64 2) := cell_of_heap (g4.heap_of k1) rfl
  have c39 : V.cell? ⟨n3, 3, none⟩ = some v4 := cell_of_heap (g4.heap_of k1) rfl
  have f38 := frozen_of_heap (g4.heap_of k1) 2
  have f39 := frozen_of_heap (g4.heap_of k1) 3
  have H5 := Lib.hid h5'
  have G4 := Lib.hid g4
  clear h5 h5' g4 g hV k1 k2 k3
  go_upto_region 3 with fail
  have HT4 := TreeX.put (HT3.out.mono G4.out) H5.out
  have g24 : W2.grows ((V.setCell ⟨n3, 2, none⟩ (.int .i64 2)).setCell ⟨n3, 3, none⟩ (.slice a5 2 c5)) := World.grows.setCell (World.grows.setCell (G3.out.trans G4.out) hn2 _) hn2 _
  have b1 := G4.out.heap_of B1.out
  have b2 := G4.out.heap_of B2.out
  have b3 := G4.out.heap_of B3.out
  rw [← World.heap_setCell_map V ⟨n3, 2, none⟩ (.int .i64 2) _ (by simp; omega), ← World.heap_setCell_map _ ⟨n3, 3, none⟩ (.slice a5 2 c5) _ (by simp; omega)] at b1 b2 b3
  generalize hZ : World.setCell _ _ _ = Z at HT4 g24 b1 b2 b3 ⊢
  have HR1 := Lib.hid (HX.out.mono g24).at1
  have HTA := Lib.hid (HT.out.mono g24).at1
  have HTB := Lib.hid HT4.at2
  have HG := Lib.hid (G.out.trans g24)
  have q10 : Z.cell? ⟨W3.heap.size, 0, none⟩ = some (.slice (some ⟨mb, 0, none⟩) 5 5) := cell_of_heap b1 rfl
  have q11 : Z.cell? ⟨W3.heap.size, 1, none⟩ = some (.slice (some ⟨cb, 0, none⟩) 3 3) := cell_of_heap b1 rfl
  have q20 : Z.cell? ⟨W3.heap.size + 1, 0, none⟩ = some (.int .i64 0) := cell_of_heap b2 rfl
  have q21 : Z.cell? ⟨W3.heap.size + 1, 1, none⟩ = some (.slice (some ⟨nb, 0, none⟩) 2 2) := cell_of_heap b2 rfl
  have q30 : Z.cell? ⟨W3.heap.size + 1 + 1, 0, none⟩ = some (.int .i64 0) := cell_of_heap b3 rfl
  have q32 : Z.cell? ⟨W3.heap.size + 1 + 1, 1, none⟩ = some (.slice (some ⟨n3, 0, none⟩) 2 2) := cell_of_heap b3 rfl
  obtain ⟨k1, hk1⟩ : ∃ k, W3.heap.size = k := ⟨_, rfl⟩
  rw [hk1] at q10 q11 q20 q21 q30 q32 ⊢
  clear hk1 hZ b1 b2 b3 g24 HT4 c38 c39 f38 f39 hn2 hn3' B1 B2 B3 G3 G4 H5 HT3 HX HT G q31 hYs
  have HZ : Hid (Z.grows Z) := Lib.hid (World.grows.refl _)
  go_wp2_with (go_at_call 44; fail)
  refine (k_fo (HR1.out.mono (HZ.out.trans (by (repeat (first | exact World.grows.refl _ | assumption | refine World.grows.alloc ?_ _ | refine World.grows.plus ?_ _ _ | refine World.grows.drew ?_))))) (HTA.out.mono (HZ.out.trans (by (repeat (first | exact World.grows.refl _ | assumption | refine World.grows.alloc ?_ _ | refine World.grows.plus ?_ _ _ | refine World.grows.drew ?_))))) (cells_at _ _ _ 3 1 _ rfl (by decide) (fun i j hi hj => by have hj' : j = 0 := (by omega); have hi' : i = 0 ∨ i = 1 ∨ i = 2 ∨ i = 3 ∨ i = 4 := (by omega); subst hj'; rcases hi' with rfl | rfl | rfl | rfl | rfl <;> first | rfl | omega))).mono ?_
  rintro e U ⟨rfl, g⟩
  replace q10 := World.grows.cell_of (World.grows.trans (by (repeat (first | exact World.grows.refl _ | assumption | refine World.grows.alloc ?_ _ | refine World.grows.plus ?_ _ _ | refine World.grows.drew ?_))) g) q10; replace q11 := World.grows.cell_of (World.grows.trans (by (repeat (first | exact World.grows.refl _ | assumption | refine World.grows.alloc ?_ _ | refine World.grows.plus ?_ _ _ | refine World.grows.drew ?_))) g) q11; replace q20 := World.grows.cell_of (World.grows.trans (by (repeat (first | exact World.grows.refl _ | assumption | refine World.grows.alloc ?_ _ | refine World.grows.plus ?_ _ _ | refine World.grows.drew ?_))) g) q20; replace q21 := World.grows.cell_of (World.grows.trans (by (repeat (first | exact World.grows.refl _ | assumption | refine World.grows.alloc ?_ _ | refine World.grows.plus ?_ _ _ | refine World.grows.drew ?_))) g) q21; replace q30 := World.grows.cell_of (World.grows.trans (by (repeat (first | exact World.grows.refl _ | assumption | refine World.grows.alloc ?_ _ | refine World.grows.plus ?_ _ _ | refine World.grows.drew ?_))) g) q30; replace q32 := World.grows.cell_of (World.grows.trans (by (repeat (first | exact World.grows.refl _ | assumption | refine World.grows.alloc ?_ _ | refine World.grows.plus ?_ _ _ | refine World.grows.drew ?_))) g) q32; replace HZ := Lib.hid (HZ.out.trans (World.grows.trans (by (repeat (first | exact World.grows.refl _ | assumption | refine World.grows.alloc ?_ _ | refine World.grows.plus ?_ _ _ | refine World.grows.drew ?_))) g)); clear g
  clear q20 q21
  go_wp2_with (go_at_call 44; fail)
  refine (k_t2 (HR1.out.mono (HZ.out.trans (by (repeat (first | exact World.grows.refl _ | assumption | refine World.grows.alloc ?_ _ | refine World.grows.plus ?_ _ _ | refine World.grows.drew ?_))))) (HTB.out.mono (HZ.out.trans (by (repeat (first | exact World.grows.refl _ | assumption | refine World.grows.alloc ?_ _ | refine World.grows.plus ?_ _ _ | refine World.grows.drew ?_)))))).mono ?_
  rintro e U ⟨rfl, g⟩
  replace q10 := World.grows.cell_of (World.grows.trans (by (repeat (first | exact World.grows.refl _ | assumption | refine World.grows.alloc ?_ _ | refine World.grows.plus ?_ _ _ | refine World.grows.drew ?_))) g) q10
  replace q11 := World.grows.cell_of (World.grows.trans (by (repeat (first | exact World.grows.refl _ | assumption | refine World.grows.alloc ?_ _ | refine World.grows.plus ?_ _ _ | refine World.grows.drew ?_))) g) q11
  replace HZ := Lib.hid (HZ.out.trans (World.grows.trans (by (repeat (first | exact World.grows.refl _ | assumption | refine World.grows.alloc ?_ _ | refine World.grows.plus ?_ _ _ | refine World.grows.drew ?_))) g))
  clear g q30 q32
  go_upto_region 5 with fail
  refine wp_region_inv 12 [[], [], [1], [], [3], [], [5], [], [7], [2, 4, 6, 8], [9], [0, 10]] [some 34, some 35, some 36, some 37, some 38, some 39, some 40, some 41, some 42, some 43, some 44, some 45]
    [kV (.agg #[.slice (some ⟨mb, 0, none⟩) 5 5, .slice (some ⟨cb, 0, none⟩) 3 3]), kS 0 1 1 2, kN 0 (nodeF [0, 1, 1, 2]), kS 0 (-8) 1 (-9), kN 1 (nodeF [0, -8, 1, -9]), kS 0 3 1 (-9), kN 1 (nodeF [0, 3, 1, -9]), kS 0 (-8) 1 (-10), kN 2 (nodeF [0, -8, 1, -10]), kT, kTr, kV (.tuple #[.int .i64 13, .int .i64 0])]
    (by kernel_rfl) (by kernel_rfl) (by decide) (by simp) (fun r hr => ?_) ?_ ?_
  · simp only [List.mem_cons, List.not_mem_nil, or_false] at hr
    rcases hr with rfl | rfl | rfl | rfl | rfl | rfl | rfl | rfl | rfl | rfl | rfl | rfl <;> first | exact st_kV _ | exact st_kS _ _ _ _ | exact st_kN _ _ | exact st_kT | exact st_kTr
  · simp only [List.take_succ_cons, List.take_zero, List.take_nil, zipQ, oblQ, depQ, List.getD_cons_zero, List.getD_cons_succ, and_true]
    refine ⟨?_, ?_, ?_, ?_, ?_, ?_, ?_, ?_, ?_, ?_, ?_, ?_⟩
    · intro K hK nc xc
      go_simp
      exact ⟨by (repeat (first | exact World.grows.refl _ | assumption | refine World.grows.alloc ?_ _ | refine World.grows.plus ?_ _ _ | refine World.grows.drew ?_)), hK _ _ rfl⟩
    · (intro K hK nc xc; go_simp; exact ⟨by (repeat (first | exact World.grows.refl _ | assumption | refine World.grows.alloc ?_ _ | refine World.grows.plus ?_ _ _ | refine World.grows.drew ?_)), hK _ _ ⟨_, rfl, (by first | exact World.heap_at _ _ _ rfl | exact World.heap_at _ _ _ (by simp))⟩⟩)
    · (intro K hK nc xc v0 h0; obtain ⟨bl, rfl, hb⟩ := h0; go_simp; refine (node_h _ hb).mono ?_; rintro e W ⟨a1, c1, rfl, s, g⟩; exact ⟨_, rfl, g, hK _ _ ⟨_, _, rfl, s⟩⟩)
    · (intro K hK nc xc; go_simp; exact ⟨by (repeat (first | exact World.grows.refl _ | assumption | refine World.grows.alloc ?_ _ | refine World.grows.plus ?_ _ _ | refine World.grows.drew ?_)), hK _ _ ⟨_, rfl, (by first | exact World.heap_at _ _ _ rfl | exact World.heap_at _ _ _ (by simp))⟩⟩)
    · (intro K hK nc xc v0 h0; obtain ⟨bl, rfl, hb⟩ := h0; go_simp; refine (node_h _ hb).mono ?_; rintro e W ⟨a1, c1, rfl, s, g⟩; exact ⟨_, rfl, g, hK _ _ ⟨_, _, rfl, s⟩⟩)
    · (intro K hK nc xc; go_simp; exact ⟨by (repeat (first | exact World.grows.refl _ | assumption | refine World.grows.alloc ?_ _ | refine World.grows.plus ?_ _ _ | refine World.grows.drew ?_)), hK _ _ ⟨_, rfl, (by first | exact World.heap_at _ _ _ rfl | exact World.heap_at _ _ _ (by simp))⟩⟩)
    · (intro K hK nc xc v0 h0; obtain ⟨bl, rfl, hb⟩ := h0; go_simp; refine (node_h _ hb).mono ?_; rintro e W ⟨a1, c1, rfl, s, g⟩; exact ⟨_, rfl, g, hK _ _ ⟨_, _, rfl, s⟩⟩)
    · (intro K hK nc xc; go_simp; exact ⟨by (repeat (first | exact World.grows.refl _ | assumption | refine World.grows.alloc ?_ _ | refine World.grows.plus ?_ _ _ | refine World.grows.drew ?_)), hK _ _ ⟨_, rfl, (by first | exact World.heap_at _ _ _ rfl | exact World.heap_at _ _ _ (by simp))⟩⟩)
    · (intro K hK nc xc v0 h0; obtain ⟨bl, rfl, hb⟩ := h0; go_simp; refine (node_h _ hb).mono ?_; rintro e W ⟨a1, c1, rfl, s, g⟩; exact ⟨_, rfl, g, hK _ _ ⟨_, _, rfl, s⟩⟩)
    · intro K hK nc xc v0 h0 v1 h1 v2 h2 v3 h3
      obtain ⟨a0, c0, rfl, o0⟩ := h0
      obtain ⟨a1, c1, rfl, o1⟩ := h1
      obtain ⟨a2, c2, rfl, o2⟩ := h2
      obtain ⟨a3, c3, rfl, o3⟩ := h3
      go_simp
      refine ⟨by (repeat (first | exact World.grows.refl _ | assumption | refine World.grows.alloc ?_ _ | refine World.grows.plus ?_ _ _ | refine World.grows.drew ?_)), hK _ _ ⟨_, _, _, _, cells_at _ _ _ 4 2 _ (by simp) (by decide) (c4 _ _ _ _), o0.grow (by (repeat (first | exact World.grows.refl _ | assumption | refine World.grows.alloc ?_ _ | refine World.grows.plus ?_ _ _ | refine World.grows.drew ?_))), o1.grow (by (repeat (first | exact World.grows.refl _ | assumption | refine World.grows.alloc ?_ _ | refine World.grows.plus ?_ _ _ | refine World.grows.drew ?_))), o2.grow (by (repeat (first | exact World.grows.refl _ | assumption | refine World.grows.alloc ?_ _ | refine World.grows.plus ?_ _ _ | refine World.grows.drew ?_))), o3.grow (by (repeat (first | exact World.grows.refl _ | assumption | refine World.grows.alloc ?_ _ | refine World.grows.plus ?_ _ _ | refine World.grows.drew ?_)))⟩⟩
    · intro K hK nc xc v0 h0
      obtain ⟨u0, u1, u2, u3, s, o0, o1, o2, o3⟩ := h0
      obtain ⟨a, c, rfl, -⟩ := id s
      go_simp
      exact ⟨by (repeat (first | exact World.grows.refl _ | assumption | refine World.grows.alloc ?_ _ | refine World.grows.plus ?_ _ _ | refine World.grows.drew ?_)), hK _ _ (tree4 s o0 o1 o2 o3)⟩
    · intro K hK nc xc v0 h0 v1 h1
      obtain rfl := h0
      obtain ⟨nv, e, hn⟩ := id h1
      subst e
      go_simp
      refine (k_t3 (HR1.out.mono (HZ.out.trans (by (repeat (first | exact World.grows.refl _ | assumption | refine World.grows.alloc ?_ _ | refine World.grows.plus ?_ _ _ | refine World.grows.drew ?_))))) h1).mono ?_
      rintro e W ⟨rfl, g⟩
      exact ⟨_, rfl, g, hK _ _ rfl⟩
  intro nc xc
  rw [show List.range 12 = [0, 1, 2, 3, 4, 5, 6, 7, 8, 9, 10, 11] from rfl]
  simp only [depQ, List.getD_cons_zero, List.getD_cons_succ]
  intro v0 h0 v1 h1 v2 h2 v3 h3 v4 h4 v5 h5 v6 h6 v7 h7 v8 h8 v9 h9 v10 h10 v11 h11
  obtain rfl := h11
  clear h0 h1 h2 h3 h4 h5 h6 h7 h8 h9 h10
  ((try simp only [without, only, withNo, List.take_succ_cons, List.take_zero, List.drop_succ_cons, List.drop_zero, List.take_nil, List.drop_nil, Nat.reduceAdd, Nat.reduceSub, List.filter, List.contains_cons, List.contains_nil, Nat.reduceBEq, Bool.or_false, Bool.false_or, Bool.true_or, Bool.or_true, Bool.or_self, Bool.not_true, Bool.not_false, List.map_cons, List.map_nil]); (repeat (refine wpCalm_step (fun K hK => ?_); go_simp; first | (refine hK _ ?_; clear hK K) | (apply Exists.intro; refine ⟨fun n' x' => ?_, hK _ ?_⟩; (fail); clear hK K))); refine wpCalm_nil ?_; intro nq xq)
  go_wp2_with (go_at_call 14; refine (works_c _).mono ?_; rintro e X5 ⟨rfl, g⟩)
  (refine bodyPost_ret (v := .bool true) (by simp [results, Try.results11, go_sem]) rfl ?_)
  exact ⟨rfl, HG.out.trans (HZ.out.trans (World.grows.trans (by (repeat (first | exact World.grows.refl _ | assumption | refine World.grows.alloc ?_ _ | refine World.grows.plus ?_ _ _ | refine World.grows.drew ?_))) g))⟩
end Go.Proofs.Ytdminglglapnlaa

/-
  What is proved: the statement MarkKnown, at every input.
-/
namespace Go.Proofs.Ytdminglglapnlaa
open Go.ChangeShapes Go.WideShapes Go.ChangeAt Go.RowKit

set_option maxRecDepth 100000 in
theorem markKnown_lifted (os : Os) (started : os.Started) (H : Type) (enc : TypeId × Value → H) :
    ReturnsInHanded {} Try.checked os 11 .any (Rows.markKnownSpec.pre6 enc Try.prog Try.f11 Rows.markKnownRow.domain false) (Rows.markKnownSpec.post enc Try.prog Try.f11 false true false false) := by
  refine law_lifted (C := Try.checked) (tb := 4) started own_c laid_c (by kernel_rfl) Try.func11 (of_decide_eq_true (by kernel_rfl))
    (ChangeSpec.witness6 (enc := enc) (C := Try.checked) false ⟨#[], #[], []⟩ 8 (by kernel_rfl) (by kernel_rfl) (by kernel_rfl) (by kernel_rfl))
    rfl Try.underlying4 rfl (fun ds hl => ?_) (fun W base args ds ps hval hA => ?_)
  · match ds, hl with
    | [], _ => exact ⟨rfl, rfl, rfl⟩
  · have hA' : DataW.TrodAll enc Try.prog W 0 (fun _ => true) true Try.f11.params.toList args.toList ds ps := hA
    have hval' : ∀ (j : Nat) t v, Try.f11.params[j]? = some t → args[j]? = some v → Value.okWide Try.prog W .any base t v := hval
    rw [Try.params11] at hA' hval'
    obtain ⟨rfl, rfl, rfl⟩ := trodAll_none hA'
    exact known_w W 

theorem markKnown_holds : Rows.MarkKnownSaid :=
  OpenClaim.holds_of_wide 11 Try.f11 rfl rfl rfl rfl rfl rfl rfl ⟨rfl, rfl, rfl, rfl, rfl⟩ rfl rfl rfl rfl rfl (by kernel_rfl) Try.func11 (by kernel_rfl)
    (of_decide_eq_true (by kernel_rfl)) (by unfold Func.isWrapper; first | (rw [if_pos (by decide +kernel)]; kernel_rfl) | (rw [if_neg (by decide +kernel)]; exact ⟨rfl, rfl⟩))
    (fun os started H enc _ => markKnown_lifted os started H enc)
end Go.Proofs.Ytdminglglapnlaa

