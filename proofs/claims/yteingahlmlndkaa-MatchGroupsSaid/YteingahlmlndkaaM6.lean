/-
  What is proved: the law of a region that draws its order: reads and calls beside a chain of operations that make memory, and behind it operations that only read, in any order.
-/
import Derived.Test.YteingahlmlndkaaM5
import Derived.Test.YteingahlmlndkaaM1
import Derived.Test.YteingahlmlndkaaM3
import Derived.Deep.CutRange
import Derived.Laws.BitsLemmas
import Derived.DeepKeys3
set_option linter.all false
namespace Go
open Go.RowKit
variable {P : Program} {ops : Array Oper}

/-- each operation behind n waits for one from n on -/
def Region.restB (ops : Array Oper) (n : Nat) : Bool := (List.range ops.size).all fun t => decide (t ≤ n) || (List.range t).any fun e => decide (n ≤ e) && Region.waitsFor .any ops t e

def Region.chainRestB (ops : Array Oper) (n : Nat) (ms : List Nat) : Bool :=
  Region.chainsB ops n ms && decide (n < ops.size) && Region.sinkB .any ops n && Region.restB ops n && Region.mixB ops ops.size []

end Go

/-
  What is proved: the law of a region that draws its order, by properties: each operation of the head has a property of its value that stays when memory is made, and leans on those of the operations it waits for; behind the head reads in any order.
-/
namespace Go
open Go.RowKit
variable {P : Program} {ops : Array Oper}

/-- the values of operations, put one after another -/
def putL (dl : List (Option Tmp)) (val : Nat → Value) : List Nat → Act → Act
  | [], a => a
  | i :: l, a => putL dl val l (a.put (dl.getD i none) (val i))
theorem putL_append {dl : List (Option Tmp)} {val : Nat → Value} : ∀ (l1 l2 : List Nat) (a : Act), putL dl val (l1 ++ l2) a = putL dl val l2 (putL dl val l1 a)
  | [], _, _ => rfl
  | _ :: l1, l2, _ => putL_append l1 l2 _
theorem putL_congr {dl : List (Option Tmp)} {val val' : Nat → Value} : ∀ (l : List Nat) (a : Act), (∀ i ∈ l, val i = val' i) → putL dl val l a = putL dl val' l a
  | [], _, _ => rfl
  | i :: l, a, h => by
    unfold putL
    rw [h i (List.mem_cons_self ..)]
    exact putL_congr l _ fun j hj => h j (List.mem_cons_of_mem _ hj)
theorem putL_perm {dl : List (Option Tmp)} {val : Nat → Value} {l l' : List Nat} (hp : l.Perm l') : (∀ i ∈ l, ∀ j ∈ l, i ≠ j → ∀ d, dl.getD i none = some d → dl.getD j none ≠ some d) → ∀ a, putL dl val l a = putL dl val l' a := by
  induction hp with
  | nil => intro _ _; rfl
  | cons x _ ih => intro h a; exact ih (fun i hi j hj => h i (List.mem_cons_of_mem _ hi) j (List.mem_cons_of_mem _ hj)) _
  | swap x y l =>
    intro h a
    unfold putL
    unfold putL
    by_cases e : y = x
    · rw [e]
    · rw [Act.put_comm a (val y) (val x) (h y (by simp) x (by simp) e)]
  | trans h1 _ ih1 ih2 => intro h a; exact (ih1 h a).trans (ih2 (fun i hi j hj => h i (h1.mem_iff.2 hi) j (h1.mem_iff.2 hj)) a)
theorem execOp_putL {dl : List (Option Tmp)} {val : Nat → Value} {o : Oper} (hs : ∀ cs b, o.op ≠ .select cs b) : ∀ (l : List Nat) (a : Act), (∀ i ∈ l, ∀ d, dl.getD i none = some d → d ∉ o.looksAt ops) →
    execOp (putL dl val l a).eval o = execOp a.eval o
  | [], _, _ => rfl
  | i :: l, a, h => (execOp_putL hs l _ (fun j hj => h j (List.mem_cons_of_mem _ hj))).trans (execOp_put o hs a _ _ (h i (List.mem_cons_self ..)))

/-- for all values of these operations that have their properties -/
def depQ (dl : List (Option Tmp)) (R : List (Value → World → Prop)) (W : World) (K : Act → Prop) : List Nat → Act → Prop
  | [], a => K a
  | i :: l, a => ∀ v, R.getD i (fun _ _ => True) v W → depQ dl R W K l (a.put (dl.getD i none) v)
theorem depQ_of {dl : List (Option Tmp)} {R : List (Value → World → Prop)} {W : World} {K : Act → Prop} {val : Nat → Value} : ∀ (l : List Nat) (a : Act), depQ dl R W K l a → (∀ j ∈ l, R.getD j (fun _ _ => True) (val j) W) → K (putL dl val l a)
  | [], _, h, _ => h
  | i :: l, a, h, hv => depQ_of l _ (h (val i) (hv i (List.mem_cons_self ..))) fun j hj => hv j (List.mem_cons_of_mem _ hj)
/-- what is asked of the operations of the head, each with those it leans on -/
def oblQ (P : Program) (dl : List (Option Tmp)) (R : List (Value → World → Prop)) (w0 : World) (a : Act) : List (Oper × List Nat × (Value → World → Prop)) → Prop
  | [] => True
  | (o, D, r) :: l => (∀ K : Value → World → Prop, (∀ v W, r v W → K v W) → ∀ n x, depQ dl R (w0.plus n x) (fun a' => o.goes P a' (w0.plus n x) K) D a) ∧ oblQ P dl R w0 a l
def Region.invB (ops : Array Oper) (n : Nat) (ds : List (List Nat)) (dl : List (Option Tmp)) : Bool :=
  Region.mixB ops n [] && decide (n ≤ ops.size) &&
  (List.range n).all (fun i => match ops[i]? with
    | some o => o.guard.isNone && decide (dl.getD i none = o.dst) && (ds.getD i []).all (fun j => decide (j < n) && Region.waitsFor .any ops i j) && decide ((ds.getD i []).Nodup) &&
        (List.range n).all (fun j => decide (j = i) || (decide (dl.getD i none = none) || decide (dl.getD j none ≠ dl.getD i none)) && ((ds.getD i []).contains j || match dl.getD j none with | some d => !(o.looksAt ops).contains d | none => true))
    | none => false)

def Region.invRestB (ops : Array Oper) (n : Nat) (ds : List (List Nat)) (dl : List (Option Tmp)) : Bool :=
  Region.invB ops n ds dl && decide (n < ops.size) && Region.sinkB .any ops n && Region.restB ops n && Region.mixB ops ops.size []

def zipQ : List Oper → List (List Nat) → List (Value → World → Prop) → List (Oper × List Nat × (Value → World → Prop))
  | o :: l, D :: ds, r :: R => (o, D, r) :: zipQ l ds R
  | _, _, _ => []
theorem zipQ_at : ∀ (l : List Oper) (ds : List (List Nat)) (R : List (Value → World → Prop)), l.length ≤ ds.length → l.length ≤ R.length → ∀ i o, l[i]? = some o → (zipQ l ds R)[i]? = some (o, ds.getD i [], R.getD i (fun _ _ => True))
  | [], _, _, _, _, i, o, h => by simp at h
  | _ :: _, [], _, h1, _, _, _, _ => by simp at h1
  | _ :: _, _ :: _, [], _, h2, _, _, _ => by simp at h2
  | x :: l, D :: ds, r :: R, _, _, 0, o, h => by cases Option.some.inj h; rfl
  | x :: l, D :: ds, r :: R, h1, h2, i + 1, o, h => by
    have := zipQ_at l ds R (by simpa using h1) (by simpa using h2) i o (by simpa using h)
    simpa [zipQ] using this

end Go

/-
  What is proved: rows of whole numbers of the call's own, that are written to by place.
-/
namespace Go
open Go.RowKit

def rowI (n : Nat) (f : Nat → Int) : Array Value := ((List.range n).map fun i => Value.int .i64 (f i)).toArray
def updI (f : Nat → Int) (i : Nat) (x : Int) : Nat → Int := fun k => if k = i then x else f k
theorem rowI_size (n : Nat) (f : Nat → Int) : (rowI n f).size = n := by simp [rowI]
theorem rowI_get (n : Nat) (f : Nat → Int) (i : Nat) (h : i < n) : (rowI n f)[i]? = some (.int .i64 (f i)) := by simp [rowI, h]
theorem rowI_set (n : Nat) (f : Nat → Int) (i : Nat) (x : Int) (h : i < n) : (rowI n f).setIfInBounds i (.int .i64 x) = rowI n (updI f i x) := by
  unfold rowI updI
  apply Array.ext_getElem?
  intro k
  rw [Array.getElem?_setIfInBounds]
  by_cases hk : i = k
  · subst hk; simp [h]
  · by_cases hkn : k < n
    · simp [hk, hkn, Ne.symm hk, show ¬ k = i from fun e => hk e.symm]
    · simp [hk, hkn]
theorem rowI_zero (n : Nat) : rowI n (fun _ => 0) = Array.replicate n (.int .i64 0) := by
  unfold rowI
  apply Array.ext_getElem?
  intro k
  by_cases hk : k < n <;> simp [hk, Array.getElem?_replicate]
theorem rowI_congr {n : Nat} {f g : Nat → Int} (h : ∀ i, i < n → f i = g i) : rowI n f = rowI n g := by
  unfold rowI
  congr 1
  apply List.map_congr_left
  intro i hi
  rw [h i (by simpa using hi)]
theorem rowI_cell {W : World} {b n : Nat} {f : Nat → Int} {t : TypeId} (h : W.heap[b]? = some (.cells (rowI n f) t)) {i : Nat} (hi : i < n) : W.cell? ⟨b, i, none⟩ = some (.int .i64 (f i)) := by
  unfold World.cell?
  simp only [h]
  exact rowI_get n f i hi
theorem rowI_frozen {W : World} {b n : Nat} {f : Nat → Int} {t : TypeId} (h : W.heap[b]? = some (.cells (rowI n f) t)) (i : Nat) : W.frozen? ⟨b, i, none⟩ = false := by
  unfold World.frozen?
  simp only [h]
  simp
theorem rowI_store {W : World} {b n : Nat} {f : Nat → Int} {t : TypeId} (h : W.heap[b]? = some (.cells (rowI n f) t)) {i : Nat} (hi : i < n) (x : Int) : (W.setCell ⟨b, i, none⟩ (.int .i64 x)).heap[b]? = some (.cells (rowI n (updI f i x)) t) := by
  unfold World.setCell
  simp only [Array.getElem?_modify, h, if_true, Option.map_some]
  have := rowI_set n f i x hi
  simp only [Option.isSome_none, Bool.false_eq_true, if_false, this]
theorem rowI_ints {W : World} {b n : Nat} {f : Nat → Int} {t : TypeId} (h : W.heap[b]? = some (.cells (rowI n f) t)) (hn : n ≤ maxLen) : IntsAt W (.slice (some ⟨b, 0, none⟩) n n) n f :=
  ⟨_, _, rfl, Nat.le_refl _, hn, fun i j hi hj => ⟨_, _, rfl, by
    have : j = 0 := by omega
    subst this
    simpa using rowI_cell h hi⟩⟩
theorem run_make_rowI {P : Program} (w : World) (t e : TypeId) (bytes : Nat) (ht : P.underlying t = some (.slice e)) (hi : P.knows e (.int .i64 0) 1 bytes) (n : Nat) (hb : bytes * n ≤ 281474976710656) (hn : n ≤ 9223372036854775807) :
    (Instr.makeSlice t (.int .i64 n) (.int .i64 n)).run P w = .ok (.slice (some ⟨w.heap.size, 0, none⟩) n n) (w.alloc (.cells (rowI n fun _ => 0) e)) := by
  rw [run_make_row w t e bytes ht hi n hb hn, rowI_zero, rowA_zero]

/-- a region that draws, cut at its end: all orders lead to one of the frames that f tells, in a world of which R holds -/
def cutE (N : Act → World → Prop) : Exit → Act → World → Prop := fun e a W => match e with | .normal => N a W | _ => False
end Go

/-
  What is proved: small things that the walks of layer 8 lean on.
-/
namespace Go.Proofs.Yteingahlmlndkaa
open Go.RowKit

@[go_sem] theorem run_store_func (P : Program) (w : World) (a : Addr) (m : Mode) (f : Fn) (b c : Array Value) : (store a (.func f b c) m).run P w = stored P w a (.func f b c) m := run_store P w a _ m rfl
theorem cell_of_heap {w : World} {b i : Nat} {A : Array Value} {t : TypeId} {v : Value} (h : w.heap[b]? = some (.cells A t)) (hA : A[i]? = some v) : w.cell? ⟨b, i, none⟩ = some v := by
  unfold World.cell?
  simp only [h]
  exact hA
theorem frozen_of_heap {w : World} {b : Nat} {A : Array Value} {t : TypeId} (h : w.heap[b]? = some (.cells A t)) (i : Nat) : w.frozen? ⟨b, i, none⟩ = false := by
  unfold World.frozen?
  simp only [h]
  simp
theorem store_of_heap {w : World} {b : Nat} {A : Array Value} {t : TypeId} (h : w.heap[b]? = some (.cells A t)) (i : Nat) (v : Value) : (w.setCell ⟨b, i, none⟩ v).heap[b]? = some (.cells (A.setIfInBounds i v) t) := by
  unfold World.setCell
  simp only [Array.getElem?_modify, h, if_true, Option.map_some]
  simp
theorem any_false_of {q : Nat → Bool} {n : Nat} (h : ∀ i, i < n → q i = false) : (List.range n).any q = false := by
  simp only [List.any_eq_false, List.mem_range, Bool.not_eq_true]; exact h
theorem any_true_of {q : Nat → Bool} {n i : Nat} (hi : i < n) (h : q i = true) : (List.range n).any q = true :=
  List.any_eq_true.2 ⟨i, by simpa using hi, h⟩
theorem upto_succ {p : Nat → Prop} {k : Nat} (h : ∀ j, j < k → p j) (hk : p k) : ∀ j, j < k + 1 → p j := fun j hj => by
  rcases Nat.lt_or_ge j k with h' | h'
  · exact h j h'
  · have : j = k := by omega
    subst this; exact hk
theorem wrapI {n m : Int} (h : n = m) (h2 : -9223372036854775808 ≤ n ∧ n ≤ 9223372036854775807) : IntKind.i64.wrap n = m := by
  rw [IntKind.wrap_i64]; omega
theorem one_slice (w : World) (v : Value) (t b : Nat) (hb : b = w.heap.size) : SliceAt (w.alloc (.cells #[v] t)) (.slice (some ⟨b, 0, none⟩) 1 1) 1 1 (fun _ _ => v) := by
  subst hb
  refine ⟨_, _, rfl, by omega, by unfold maxLen; omega, fun i j hi hj => ⟨_, _, rfl, ?_⟩⟩
  have hi0 : i = 0 := by omega
  have hj0 : j = 0 := by omega
  subst hi0; subst hj0
  simp [go_sem]
theorem two_ints (w : World) (x y : Int) (t b : Nat) (hb : b = w.heap.size) : IntsAt (w.alloc (.cells #[.int .i64 x, .int .i64 y] t)) (.slice (some ⟨b, 0, none⟩) 2 2) 2 (fun i => if i = 0 then x else y) := by
  subst hb
  refine ⟨_, _, rfl, by omega, by unfold maxLen; omega, fun i j hi hj => ⟨_, _, rfl, ?_⟩⟩
  have hi0 : i = 0 ∨ i = 1 := by omega
  have hj0 : j = 0 := by omega
  subst hj0
  rcases hi0 with rfl | rfl <;> simp [go_sem]
theorem el3 : Try.prog.knows 3 (.int .i64 0) 1 8 := Program.knows_of (by kernel_rfl)
theorem one_cell (x : Int) : ∀ u ∈ tableL 1 1 (fun _ _ => Value.int .i64 x), u.oneCell' = true := by
  intro u hu; rw [tableL_one] at hu; simp at hu; subst hu; rfl
theorem two_any (q : Int → Bool) (x y : Int) : ((List.range 2).any fun i => q (if i = 0 then x else y)) = (q x || q y) := by
  simp [List.range_succ]
/-- several blocks more -/
def allocs (w : World) : List Obj → World
  | [] => w
  | o :: l => allocs (w.alloc o) l
theorem allocs_grows : ∀ (l : List Obj) (w : World), w.grows (allocs w l)
  | [], w => World.grows.refl w
  | o :: l, w => ((World.grows.refl w).alloc o).trans (allocs_grows l _)
theorem allocs_at : ∀ (l : List Obj) (w : World) {i : Nat} {o : Obj}, l[i]? = some o → (allocs w l).heap[w.heap.size + i]? = some o
  | [], _, _, _, h => by simp at h
  | o :: l, w, 0, o', h => by
    have : o = o' := by simpa using h
    subst this
    exact (allocs_grows l _).heap_of (World.heap_at _ _ _ rfl)
  | o :: l, w, i + 1, o', h => by
    have := allocs_at l (w.alloc o) (i := i) (o := o') (by simpa using h)
    rw [World.size_alloc] at this
    show (allocs (w.alloc o) l).heap[w.heap.size + (i + 1)]? = _
    rw [← this]; congr 1; omega
end Go.Proofs.Yteingahlmlndkaa

/-
  What is proved: which stocks are valid, in the program (75, 60, 57, 56, 59, 62, 23) and by the definition (63, 24).
-/
namespace Go.Proofs.Yteingahlmlndkaa
open Go.RowKit
attribute [local irreducible] Go.wpCalm
set_option maxHeartbeats 1000000 in
theorem c75 (w : World) (b0 b1 : Nat) (lo hi n : Int) (h0 : w.cell? ⟨b0, 0, none⟩ = some (.int .i64 lo)) (h1 : w.cell? ⟨b1, 0, none⟩ = some (.int .i64 hi)) :
    Calls Try.prog 75 #[.int .i64 n, .pointer (some ⟨b0, 0, none⟩), .pointer (some ⟨b1, 0, none⟩)] w fun e w' => e = .returned (.bool (outB lo hi n)) ∧ w.grows w' := by
  unfold outB
  go_enter Try.func75, Try.ntmps75
  by_cases hl : n < lo
  · go_wp2
    go_ret
    exact ⟨by simp [hl], by (repeat (first | exact World.grows.refl _ | assumption | refine World.grows.alloc ?_ _ | refine World.grows.plus ?_ _ _ | refine World.grows.drew ?_))⟩
  · by_cases hh : hi < n
    · go_wp2
      go_ret
      exact ⟨by simp [hh], by (repeat (first | exact World.grows.refl _ | assumption | refine World.grows.alloc ?_ _ | refine World.grows.plus ?_ _ _ | refine World.grows.drew ?_))⟩
    · go_wp2
      go_ret
      exact ⟨by simp [hh, hl], by (repeat (first | exact World.grows.refl _ | assumption | refine World.grows.alloc ?_ _ | refine World.grows.plus ?_ _ _ | refine World.grows.drew ?_))⟩
set_option maxHeartbeats 1000000 in
theorem c60 (w : World) (lo hi n : Int) (sv : Value) (hs : SliceAt w sv 1 1 (fun _ _ => .int .i64 n)) :
    Calls Try.prog 60 #[.int .i64 lo, .int .i64 hi, sv] w fun e w' => e = .returned (.bool (!outB lo hi n)) ∧ w.grows w' := by
  have h75 : ∀ W : World, ((w.alloc (.cells #[.int .i64 lo] 2)).alloc (.cells #[.int .i64 hi] 2)).grows W → Calls Try.prog 75 (#[.int .i64 n] ++ #[.pointer (some ⟨w.heap.size, 0, none⟩), .pointer (some ⟨w.heap.size + 1, 0, none⟩)]) W fun e w' => e = .returned (.bool (outB lo hi n)) ∧ W.grows w' := by
    intro W hW
    have e0 : ((w.alloc (.cells #[.int .i64 lo] 2)).alloc (.cells #[.int .i64 hi] 2)).cell? ⟨w.heap.size, 0, none⟩ = some (.int .i64 lo) := by simp [go_sem]
    have e1 : ((w.alloc (.cells #[.int .i64 lo] 2)).alloc (.cells #[.int .i64 hi] 2)).cell? ⟨w.heap.size + 1, 0, none⟩ = some (.int .i64 hi) := by simp [go_sem]
    exact c75 W _ _ lo hi n (by rw [hW.cell (by rw [e0]; rfl), e0]) (by rw [hW.cell (by rw [e1]; rfl), e1])
  have H75 := Lib.hid h75
  have HA : Hid ((List.range 1).any (fun _ => outB lo hi n) = outB lo hi n) := Lib.hid (by simp)
  clear h75
  have Hs := Lib.hid hs
  go_enter Try.func60, Try.ntmps60
  go_wp2_with (refine (has74 _ _ 1 (fun _ _ => .int .i64 n) 75 _ (fun _ => outB lo hi n) (Hs.out.mono (by (repeat (first | exact World.grows.refl _ | assumption | refine World.grows.alloc ?_ _ | refine World.grows.plus ?_ _ _ | refine World.grows.drew ?_)))) (fun args w => (by simp [go_sem])) (fun i hi' W hW => H75.out W hW)).mono ?_; rintro e w' ⟨rfl, hg⟩; obtain ⟨n2, x2, rfl⟩ := World.plus_of hg)
  go_ret
  exact ⟨by simp, by (repeat (first | exact World.grows.refl _ | assumption | refine World.grows.alloc ?_ _ | refine World.grows.plus ?_ _ _ | refine World.grows.drew ?_))⟩
set_option maxHeartbeats 1000000 in
theorem c57 (w : World) (n : Int) : Calls Try.prog 57 #[.int .i64 n] w fun e w' => e = .returned (.bool (outB 0 9 n)) ∧ w.grows w' := by
  unfold outB
  go_enter Try.func57, Try.ntmps57
  by_cases hl : n < 0
  · go_wp2
    go_ret
    exact ⟨by simp [hl], by (repeat (first | exact World.grows.refl _ | assumption | refine World.grows.alloc ?_ _ | refine World.grows.plus ?_ _ _ | refine World.grows.drew ?_))⟩
  · by_cases hh : 9 < n
    · go_wp2
      go_ret
      exact ⟨by simp [hh], by (repeat (first | exact World.grows.refl _ | assumption | refine World.grows.alloc ?_ _ | refine World.grows.plus ?_ _ _ | refine World.grows.drew ?_))⟩
    · go_wp2
      go_ret
      exact ⟨by simp [hh, hl], by (repeat (first | exact World.grows.refl _ | assumption | refine World.grows.alloc ?_ _ | refine World.grows.plus ?_ _ _ | refine World.grows.drew ?_))⟩
set_option maxHeartbeats 1000000 in
theorem c56 (w : World) (x y : Int) (sv : Value) (hs : IntsAt w sv 2 (fun i => if i = 0 then x else y)) : Calls Try.prog 56 #[sv] w fun e w' => e = .returned (.bool (!(outB 0 9 x || outB 0 9 y))) ∧ w.grows w' := by
  have HA : Hid (((List.range 2).any fun i => outB 0 9 (if i = 0 then x else y)) = (outB 0 9 x || outB 0 9 y)) := Lib.hid (two_any (outB 0 9) x y)
  have Hs := Lib.hid hs
  obtain ⟨q, hq⟩ : ∃ q, (outB 0 9 x || outB 0 9 y) = q := ⟨_, rfl⟩
  rw [hq] at HA ⊢
  clear hq
  obtain ⟨sa, sc, rfl, -, -, -⟩ := hs
  go_enter Try.func56, Try.ntmps56
  go_wp2_with (go_at_call 99; fail)
  refine (has53 _ _ 2 (fun i _ => .int .i64 (if i = 0 then x else y)) 57 #[] (fun i => outB 0 9 (if i = 0 then x else y)) (Hs.out.mono (by (repeat (first | exact World.grows.refl _ | assumption | refine World.grows.alloc ?_ _ | refine World.grows.plus ?_ _ _ | refine World.grows.drew ?_)))) (fun args w => (by simp [go_sem])) (fun i hi' W hW => c57 W _)).mono ?_
  rw [HA.out]
  rintro e w' ⟨rfl, hg⟩
  obtain ⟨n2, x2, rfl⟩ := World.plus_of hg
  clear HA
  go_wp2
  (refine bodyPost_ret (v := .bool (!q)) (by simp [results, Try.results56, go_sem]) rfl ?_)
  exact ⟨rfl, by (repeat (first | exact World.grows.refl _ | assumption | refine World.grows.alloc ?_ _ | refine World.grows.plus ?_ _ _ | refine World.grows.drew ?_))⟩
set_option maxHeartbeats 2000000 in
theorem c59 (w : World) (s : Stk) (i : Nat) (b : Nat) (h0 : w.cell? ⟨b, 0, none⟩ = some (.func (.func 56) #[] #[])) :
    Calls Try.prog 59 #[.agg #[.int .i64 (s.tk i), .int .i64 (s.tw i), .int .i64 (s.tg i)], .pointer (some ⟨b, 0, none⟩)] w fun e w' => e = .returned (.bool (s.badT i)) ∧ w.grows w' := by
  have HG : Hid (s.badT i = (!!(outB 0 9 (s.tk i) || outB 0 9 (s.tg i)) || !!outB 0 10000 (s.tw i))) := Lib.hid (by rw [Bool.not_not, Bool.not_not]; rfl)
  go_enter Try.func59, Try.ntmps59
  go_wp2_with (go_at_call 99; fail)
  refine (c56 _ (s.tk i) (s.tg i) _ (two_ints _ _ _ _ _ (by simp))).mono ?_
  rintro e w' ⟨rfl, hg⟩; obtain ⟨n2, x2, rfl⟩ := World.plus_of hg
  have G := HG.out
  generalize (outB 0 9 (s.tk i) || outB 0 9 (s.tg i)) = q at G ⊢
  have G2 := Lib.hid G
  clear G HG
  cases q with
  | true =>
    go_wp2
    (refine bodyPost_ret (v := .bool true) (by simp [results, Try.results59, go_sem]) rfl ?_)
    exact ⟨by rw [G2.out]; rfl, by (repeat (first | exact World.grows.refl _ | assumption | refine World.grows.alloc ?_ _ | refine World.grows.plus ?_ _ _ | refine World.grows.drew ?_))⟩
  | false =>
    go_wp2_with (go_at_call 99; fail)
    refine (c60 _ _ _ (s.tw i) _ (one_slice _ _ _ _ (by simp))).mono ?_
    rintro e w' ⟨rfl, hg⟩; obtain ⟨n3, x3, rfl⟩ := World.plus_of hg
    go_wp2
    (refine bodyPost_ret (v := .bool (!!outB 0 10000 (s.tw i))) (by simp [results, Try.results59, go_sem]) rfl ?_)
    exact ⟨by rw [G2.out]; rfl, by (repeat (first | exact World.grows.refl _ | assumption | refine World.grows.alloc ?_ _ | refine World.grows.plus ?_ _ _ | refine World.grows.drew ?_))⟩
set_option maxRecDepth 100000 in
set_option maxHeartbeats 2000000 in
theorem c62 (w : World) (s : Stk) (i : Nat) (b : Nat) (h0 : w.cell? ⟨b, 0, none⟩ = some (.func (.func 56) #[] #[])) :
    Calls Try.prog 62 #[.agg #[.int .i64 (s.ma i), .int .i64 (s.mb i)], .pointer (some ⟨b, 0, none⟩)] w fun e w' => e = .returned (.bool (s.badM i)) ∧ w.grows w' := by
  have HG : Hid (s.badM i = !!(outB 0 9 (s.ma i) || outB 0 9 (s.mb i))) := Lib.hid (by rw [Bool.not_not]; rfl)
  go_enter Try.func62, Try.ntmps62
  go_upto_region 1 with fail
  (refine wp_region_chain 5 [2, 3, 4] (by kernel_rfl) (by kernel_rfl) (by decide) ?_; simp only [without, only, withNo, List.take_succ_cons, List.take_zero, List.drop_succ_cons, List.drop_zero, List.take_nil, List.drop_nil, Nat.reduceAdd, Nat.reduceSub, List.filter, List.contains_cons, List.contains_nil, Nat.reduceBEq, Bool.or_false, Bool.false_or, Bool.true_or, Bool.or_true, Bool.or_self, Bool.not_true, Bool.not_false, List.map_cons, List.map_nil]; (repeat (refine wpCalm_step (fun K hK => ?_); go_simp; first | (refine hK _ ?_; clear hK K) | (apply Exists.intro; refine ⟨fun n' x' => ?_, hK _ ?_⟩; (fail); clear hK K))); refine wpCalm_nil ?_)
  (refine wpChain_step (fun K hK nc xc => ?_); go_simp); refine (c56 _ (s.ma i) (s.mb i) _ ?_).mono ?_
  · exact IntsAt.mono (two_ints _ _ _ _ _ (by simp)) (World.grows_plus _ _ _)
  rintro e W3 ⟨rfl, g⟩; refine ⟨_, rfl, g, hK _ _ ?_⟩; clear hK K
  ((refine wpChain_step (fun K hK nc xc => ?_); go_simp); refine ⟨World.grows.refl _, hK _ _ ?_⟩; clear hK K)
  ((refine wpChain_step (fun K hK nc xc => ?_); go_simp); refine ⟨World.grows.refl _, hK _ _ ?_⟩; clear hK K)
  (refine wpChain_nil (fun nc xc => ?_))
  go_wp2
  (refine bodyPost_ret (v := .bool (!!(outB 0 9 (s.ma i) || outB 0 9 (s.mb i)))) (by simp [results, Try.results62, go_sem]) rfl ?_)
  exact ⟨by rw [HG.out], World.grows.trans (by (repeat (first | exact World.grows.refl _ | assumption | refine World.grows.alloc ?_ _ | refine World.grows.plus ?_ _ _ | refine World.grows.drew ?_))) (World.grows.trans g (by (repeat (first | exact World.grows.refl _ | assumption | refine World.grows.alloc ?_ _ | refine World.grows.plus ?_ _ _ | refine World.grows.drew ?_))))⟩
set_option maxRecDepth 100000 in
set_option maxHeartbeats 4000000 in
/-- CheckStock, the program's -/
theorem check_c (w : World) (v : Value) (s : Stk) (ht : StkAt w v s) : Calls Try.prog 23 #[v] w fun e w' => e = .returned (.int .i64 (s.check : Int)) ∧ w.grows w' := by
  obtain ⟨tv, mv, rfl, hs, hv⟩ := ht
  have Hs := Lib.hid hs
  have Hv := Lib.hid hv
  obtain ⟨sa, sc, rfl, s1, s2, -⟩ := hs
  obtain ⟨va, vc, rfl, v1, v2, -⟩ := hv
  unfold maxLen at s2 v2
  have HC : Hid (s.check = if 16 < s.nt ∨ 20 < s.nm then 6 else if (List.range s.nt).any s.badT = true then 3 else if ((List.range s.nm).any s.badM || outB 0 10000 s.wide) = true then 2 else 0) := Lib.hid rfl
  by_cases hm : 16 < s.nt ∨ 20 < s.nm
  · have HR : Hid (s.check = 6) := Lib.hid (by rw [HC.out, if_pos hm])
    clear HC
    go_enter Try.func23, Try.ntmps23
    by_cases h1 : 16 < s.nt
    · have h' : (16 : Int) < s.nt := by omega
      go_wp2; (refine bodyPost_ret (v := .int .i64 6) (by simp [results, Try.results23, go_sem]) rfl ?_); exact ⟨ret_int (by rw [HR.out]; rfl), by (repeat (first | exact World.grows.refl _ | assumption | refine World.grows.alloc ?_ _ | refine World.grows.plus ?_ _ _ | refine World.grows.drew ?_))⟩
    · have h1' : ¬ (16 : Int) < s.nt := by omega
      have h' : (20 : Int) < s.nm := by omega
      go_wp2; (refine bodyPost_ret (v := .int .i64 6) (by simp [results, Try.results23, go_sem]) rfl ?_); exact ⟨ret_int (by rw [HR.out]; rfl), by (repeat (first | exact World.grows.refl _ | assumption | refine World.grows.alloc ?_ _ | refine World.grows.plus ?_ _ _ | refine World.grows.drew ?_))⟩
  · have h3 : ¬ (16 : Int) < s.nt := by omega
    have h4 : ¬ (20 : Int) < s.nm := by omega
    rw [if_neg hm] at HC
    clear hm
    have H58 : Hid (∀ (W : World) (b : Nat), w.grows W → W.cell? ⟨b, 0, none⟩ = some (.func (.func 56) #[] #[]) → Calls Try.prog 58 #[.slice sa s.nt sc, .func (.func 59) #[] #[.pointer (some ⟨b, 0, none⟩)]] W fun e w' => e = .returned (.bool ((List.range s.nt).any s.badT)) ∧ W.grows w') := Lib.hid fun W b g a =>
      has58 W _ s.nt (tcell s) 59 #[.pointer (some ⟨b, 0, none⟩)] s.badT (Hs.out.mono g) (fun args w => by simp [go_sem]) (fun i hi W' hW => c59 W' s i b (World.grows.cell_of hW a))
    have H61 : Hid (∀ (W : World) (b : Nat), w.grows W → W.cell? ⟨b, 0, none⟩ = some (.func (.func 56) #[] #[]) → Calls Try.prog 61 #[.slice va s.nm vc, .func (.func 62) #[] #[.pointer (some ⟨b, 0, none⟩)]] W fun e w' => e = .returned (.bool ((List.range s.nm).any s.badM)) ∧ W.grows w') := Lib.hid fun W b g a =>
      has61 W _ s.nm (mcell s) 62 #[.pointer (some ⟨b, 0, none⟩)] s.badM (Hv.out.mono g) (fun args w => by simp [go_sem]) (fun i hi W' hW => c62 W' s i b (World.grows.cell_of hW a))
    go_enter Try.func23, Try.ntmps23
    go_wp2_with (go_at_call 99; fail)
    refine (H58.out _ _ (by (repeat (first | exact World.grows.refl _ | assumption | refine World.grows.alloc ?_ _ | refine World.grows.plus ?_ _ _ | refine World.grows.drew ?_))) (by simp [go_sem])).mono ?_
    rintro e w' ⟨rfl, hg⟩
    obtain ⟨n2, x2, rfl⟩ := World.plus_of hg
    cases q3 : (List.range s.nt).any s.badT with
    | true =>
      have HR : Hid (s.check = 3) := Lib.hid (by rw [HC.out, q3]; rfl)
      clear HC H58 H61
      go_wp2
      (refine bodyPost_ret (v := .int .i64 3) (by simp [results, Try.results23, go_sem]) rfl ?_)
      exact ⟨ret_int (by rw [HR.out]; rfl), by (repeat (first | exact World.grows.refl _ | assumption | refine World.grows.alloc ?_ _ | refine World.grows.plus ?_ _ _ | refine World.grows.drew ?_))⟩
    | false =>
      rw [q3, if_neg Bool.false_ne_true] at HC
      clear q3 H58
      go_wp2_with (go_at_call 99; fail)
      refine (H61.out _ _ (by (repeat (first | exact World.grows.refl _ | assumption | refine World.grows.alloc ?_ _ | refine World.grows.plus ?_ _ _ | refine World.grows.drew ?_))) (by simp [go_sem])).mono ?_
      rintro e w' ⟨rfl, hg⟩
      obtain ⟨n3, x3, rfl⟩ := World.plus_of hg
      cases q4 : (List.range s.nm).any s.badM with
      | true =>
        have HR : Hid (s.check = 2) := Lib.hid (by rw [HC.out, q4]; rfl)
        clear HC H61
        go_wp2
        (refine bodyPost_ret (v := .int .i64 2) (by simp [results, Try.results23, go_sem]) rfl ?_)
        exact ⟨ret_int (by rw [HR.out]; rfl), by (repeat (first | exact World.grows.refl _ | assumption | refine World.grows.alloc ?_ _ | refine World.grows.plus ?_ _ _ | refine World.grows.drew ?_))⟩
      | false =>
        rw [q4, Bool.false_or] at HC
        clear q4 H61
        go_wp2_with (go_at_call 99; fail)
        refine (c60 _ _ _ s.wide _ (one_slice _ _ _ _ (by simp))).mono ?_
        rintro e w' ⟨rfl, hg⟩
        obtain ⟨n4, x4, rfl⟩ := World.plus_of hg
        cases q5 : outB 0 10000 s.wide with
        | true =>
          have HR : Hid (s.check = 2) := Lib.hid (by rw [HC.out, q5]; rfl)
          clear HC
          go_wp2
          (refine bodyPost_ret (v := .int .i64 2) (by simp [results, Try.results23, go_sem]) rfl ?_)
          exact ⟨ret_int (by rw [HR.out]; rfl), by (repeat (first | exact World.grows.refl _ | assumption | refine World.grows.alloc ?_ _ | refine World.grows.plus ?_ _ _ | refine World.grows.drew ?_))⟩
        | false =>
          have HR : Hid (s.check = 0) := Lib.hid (by rw [HC.out, q5]; rfl)
          clear HC
          go_wp2
          (refine bodyPost_ret (v := .int .i64 0) (by simp [results, Try.results23, go_sem]) rfl ?_)
          exact ⟨ret_int (by rw [HR.out]; rfl), by (repeat (first | exact World.grows.refl _ | assumption | refine World.grows.alloc ?_ _ | refine World.grows.plus ?_ _ _ | refine World.grows.drew ?_))⟩
set_option maxHeartbeats 1000000 in
theorem c63 (w : World) (n hi : Int) : Calls Try.prog 63 #[.int .i64 n, .int .i64 hi] w fun e w' => e = .returned (.bool (!outB 0 hi n)) ∧ w.grows w' := by
  unfold outB
  go_enter Try.func63, Try.ntmps63
  by_cases hl : n < 0
  · have hl' : ¬ 0 ≤ n := by omega
    go_wp2
    go_ret
    exact ⟨by simp [hl], by (repeat (first | exact World.grows.refl _ | assumption | refine World.grows.alloc ?_ _ | refine World.grows.plus ?_ _ _ | refine World.grows.drew ?_))⟩
  · have hl' : 0 ≤ n := by omega
    by_cases hh : hi < n
    · have hh' : ¬ n ≤ hi := by omega
      go_wp2
      go_ret
      exact ⟨by simp [hh], by (repeat (first | exact World.grows.refl _ | assumption | refine World.grows.alloc ?_ _ | refine World.grows.plus ?_ _ _ | refine World.grows.drew ?_))⟩
    · have hh' : n ≤ hi := by omega
      go_wp2
      go_ret
      exact ⟨by simp [hh, hl], by (repeat (first | exact World.grows.refl _ | assumption | refine World.grows.alloc ?_ _ | refine World.grows.plus ?_ _ _ | refine World.grows.drew ?_))⟩
end Go.Proofs.Yteingahlmlndkaa

/-
  What is proved: lists of numbers in memory.
-/
namespace Go.Proofs.Yteingahlmlndkaa
open Go.RowKit

/-- a list of numbers in memory -/
def ListAt (w : World) (v : Value) (L : List Nat) : Prop := IntsAt w v L.length (fun i => ((L.getD i 0 : Nat) : Int))
theorem ListAt.mono {w w' : World} {v : Value} {L : List Nat} (h : ListAt w v L) (g : w.grows w') : ListAt w' v L := SliceAt.mono h g
def ilist (L : List Nat) : List Value := L.map fun n => .int .i64 (n : Nat)
theorem ilist_len (L : List Nat) : (ilist L).length = L.length := by simp [ilist]
theorem ilist_snoc (L : List Nat) (x : Nat) : ilist (L ++ [x]) = ilist L ++ [.int .i64 (x : Nat)] := by simp [ilist]
theorem ilist_one (L : List Nat) : ∀ u ∈ ilist L, u.oneCell' = true := fun u hu => by
  simp only [ilist, List.mem_map] at hu
  obtain ⟨n, _, rfl⟩ := hu
  rfl
theorem ilist_get (L : List Nat) {i : Nat} (h : i < L.length) : (ilist L)[i]? = some (.int .i64 ((L.getD i 0 : Nat) : Int)) := by
  simp [ilist, h]
theorem _root_.Go.World.ownsRow.listAt {w : World} {base e : Nat} {v : Value} {L : List Nat} {n : Nat} (h : w.ownsRow base e 1 v n (ilist L)) (hn : n = L.length) : ListAt w v L := by
  subst hn
  exact h.sliceAt fun i j hi hj => by
    have : j = 0 := by omega
    subst this
    simpa using ilist_get L hi
/-- those of the first k that have a property -/
def filtL (q : Nat → Bool) (k : Nat) : List Nat := (List.range k).filter q
theorem filtL_succ (q : Nat → Bool) (k : Nat) : filtL q (k + 1) = if q k = true then filtL q k ++ [k] else filtL q k := by
  unfold filtL
  rw [List.range_succ, List.filter_append]
  cases h : q k <;> simp [h]
theorem filtL_len (q : Nat → Bool) (k : Nat) : (filtL q k).length ≤ k := by
  have := List.length_filter_le q (List.range k)
  simpa [filtL] using this
theorem row_form {W : World} {base size : Nat} {e : TypeId} {v : Value} {n : Nat} {xs : List Value} (ho : W.ownsRow base e size v n xs) : ∃ a cap, v = .slice a n cap ∧ n ≤ cap ∧ cap ≤ maxLen := by
  rcases ho.2 with ⟨rfl, rfl⟩ | ⟨b, cap, cur, rfl, _, _, h1, h2, _⟩
  · exact ⟨_, _, rfl, Nat.le_refl _, Nat.zero_le _⟩
  · exact ⟨_, _, rfl, h1, h2⟩
end Go.Proofs.Yteingahlmlndkaa

/-
  What is proved: bits of things (46, 50, 66, 79).
-/
namespace Go.Proofs.Yteingahlmlndkaa
open Go.RowKit
attribute [local irreducible] Go.wpCalm
theorem pow_le16 {k : Nat} (hk : k ≤ 16) : 2 ^ k ≤ 65536 := Nat.pow_le_pow_right (n := 2) (j := 16) (by omega) hk
theorem pow_lt16 {k : Nat} (hk : k < 16) : 2 ^ k < 65536 := Nat.pow_lt_pow_right (by omega) hk
theorem wraps_u32 (n : Int) (h₀ : 0 ≤ n) (h₁ : n < 2 ^ 32) : IntKind.u32.wrap n = n := by rw [IntKind.wrap_u32]; omega
theorem shl_u32 {t : Nat} (ht : t < 16) : (2 : Int) ^ t % 4294967296 = ((2 ^ t : Nat) : Int) := by
  have h := pow_lt16 ht
  have e : ((2 : Int) ^ t) = ((2 ^ t : Nat) : Int) := by simp
  rw [e]
  generalize 2 ^ t = N at h
  omega
theorem shlw_u32 {t : Nat} (ht : t < 16) : IntKind.u32.wrap ((2 : Int) ^ t) = ((2 ^ t : Nat) : Int) := by
  rw [IntKind.wrap_u32, shl_u32 ht]
theorem or_u32 (a b : Nat) (ha : a < 65536) (hb : b < 65536) : bits .or .u32 (a : Int) (b : Int) = ((a ||| b : Nat) : Int) := (bits_nat .u32 32 (by decide) wraps_u32 a b (by omega) (by omega)).2
theorem and_u32 (a b : Nat) (ha : a < 65536) (hb : b < 65536) : bits .and .u32 (a : Int) (b : Int) = ((a &&& b : Nat) : Int) := (bits_nat .u32 32 (by decide) wraps_u32 a b (by omega) (by omega)).1
theorem andnot_u32 (a b : Nat) (ha : a < 65536) (hb : b < 65536) : bits .andNot .u32 (a : Int) (b : Int) = ((a &&& (2 ^ 32 - (b + 1)) : Nat) : Int) := by
  show IntKind.u32.wrap ((BitVec.ofInt 32 (a : Int) &&& ~~~BitVec.ofInt 32 (b : Int)).toNat : Int) = _
  have e : (BitVec.ofInt 32 (a : Int) &&& ~~~BitVec.ofInt 32 (b : Int)).toNat = a &&& (2 ^ 32 - (b + 1)) := by
    rw [BitVec.toNat_and, BitVec.toNat_not, BitVec.ofInt_natCast, BitVec.ofInt_natCast, BitVec.toNat_ofNat, BitVec.toNat_ofNat, Nat.mod_eq_of_lt (by omega), Nat.mod_eq_of_lt (by omega)]
    congr 1
    omega
  have hle : a &&& (2 ^ 32 - (b + 1)) ≤ a := Nat.and_le_left
  rw [e]
  exact wraps_u32 _ (by omega) (by omega)
theorem bit_out {B j : Nat} (hB : B < 65536) (hj : 16 ≤ j) : B.testBit j = false := Nat.testBit_lt_two_pow (Nat.lt_of_lt_of_le hB (by rw [show 65536 = 2 ^ 16 from rfl]; exact Nat.pow_le_pow_right (by omega) hj))
theorem bit_lt {B j : Nat} (hB : B < 65536) (h : B.testBit j = true) : j < 16 := by
  rcases Nat.lt_or_ge j 16 with h1 | h1
  · exact h1
  · rw [bit_out hB h1] at h; cases h
/-- a bit more -/
theorem or_bit {B t : Nat} (hB : B < 65536) (ht : t < 16) : ∃ Z : Nat, bits .or .u32 (B : Int) ((2 ^ t : Nat) : Int) = (Z : Int) ∧ Z < 65536 ∧ ∀ j, Z.testBit j = (B.testBit j || decide (j = t)) :=
  ⟨_, or_u32 B _ hB (pow_lt16 ht), Nat.or_lt_two_pow (n := 16) hB (pow_lt16 ht), fun j => by
    rw [Nat.testBit_or, Nat.testBit_two_pow]
    congr 1
    rw [decide_eq_decide]; exact eq_comm⟩
/-- a bit less -/
theorem less_bit {B t : Nat} (hB : B < 65536) (ht : t < 16) : ∃ Z : Nat, bits .andNot .u32 (B : Int) ((2 ^ t : Nat) : Int) = (Z : Int) ∧ Z < 65536 ∧ Z.testBit = less1 B.testBit t := by
  refine ⟨_, andnot_u32 B _ hB (pow_lt16 ht), Nat.lt_of_le_of_lt Nat.and_le_left hB, funext fun j => ?_⟩
  unfold less1
  rw [Nat.testBit_and, Nat.testBit_two_pow_sub_succ (Nat.lt_trans (pow_lt16 ht) (by omega)), Nat.testBit_two_pow]
  by_cases h : j < 32
  · rw [decide_eq_true h, Bool.true_and]
    congr 2
    by_cases e : t = j
    · subst e; simp
    · have : ¬ j = t := fun h => e h.symm
      simp [e, this]
  · rw [bit_out hB (by omega), Bool.false_and, Bool.false_and]
theorem has_bit {B t : Nat} (hB : B < 65536) : (bits .and .u32 ((B : Int) / 2 ^ t) 1 == 1) = B.testBit t := by
  have e1 : ((B : Int) / 2 ^ t) = ((B / 2 ^ t : Nat) : Int) := by simp
  have h1 : B / 2 ^ t ≤ B := Nat.div_le_self _ _
  rw [e1, show (1 : Int) = ((1 : Nat) : Int) from rfl, and_u32 _ 1 (by omega) (by omega), Nat.and_one_is_mod, Nat.testBit_eq_decide_div_mod_eq]
  by_cases h : B / 2 ^ t % 2 = 1
  · simp [h]
  · have : B / 2 ^ t % 2 = 0 := by omega
    simp [this]
set_option maxRecDepth 100000 in
theorem has_c (w : World) (B t : Nat) (hB : B < 65536) (ht : t < 16) : Calls Try.prog 46 #[.int .u32 (B : Nat), .int .i64 (t : Nat)] w fun e w' => e = .returned (.bool (B.testBit t)) ∧ w.grows w' := by
  have h0 : ¬ (t : Int) < 0 := by omega
  have HH := Lib.hid (has_bit (t := t) hB)
  go_enter Try.func46, Try.ntmps46
  go_wp2
  (refine bodyPost_ret (v := .bool (bits .and .u32 ((B : Int) / 2 ^ t) 1 == 1)) (by simp [results, Try.results46, go_sem]) rfl ?_)
  exact ⟨by rw [HH.out], by (repeat (first | exact World.grows.refl _ | assumption | refine World.grows.alloc ?_ _ | refine World.grows.plus ?_ _ _ | refine World.grows.drew ?_))⟩
set_option maxRecDepth 100000 in
theorem less_c (w : World) (B t : Nat) (hB : B < 65536) (ht : t < 16) : Calls Try.prog 50 #[.int .u32 (B : Nat), .int .i64 (t : Nat)] w fun e w' => (∃ Z : Nat, e = .returned (.int .u32 (Z : Nat)) ∧ Z < 65536 ∧ Z.testBit = less1 B.testBit t) ∧ w.grows w' := by
  have h0 : ¬ (t : Int) < 0 := by omega
  obtain ⟨Z, z1, z2, z3⟩ := less_bit hB ht
  rw [← shl_u32 ht] at z1
  go_enter Try.func50, Try.ntmps50
  go_wp2
  (refine bodyPost_ret (v := .int .u32 (Z : Nat)) (by simp [results, Try.results50, go_sem]) rfl ?_)
  exact ⟨⟨Z, rfl, z2, z3⟩, by (repeat (first | exact World.grows.refl _ | assumption | refine World.grows.alloc ?_ _ | refine World.grows.plus ?_ _ _ | refine World.grows.drew ?_))⟩
def stepV (k : Nat) : Array Value := #[.int .i64 (k : Nat)]
theorem things_c (w : World) (B : Nat) : Calls Try.prog 66 #[.int .u32 (B : Nat)] w fun e w' => e = .returned (.func (.func 79) #[] #[.pointer (some ⟨w.heap.size, 0, none⟩)]) ∧ w' = w.alloc (.cells #[.int .u32 (B : Nat)] 75) := by
  go_enter Try.func66, Try.ntmps66
  go_wp2
  go_ret
  exact ⟨rfl, rfl⟩
theorem filtL_pre (q : Nat → Bool) (k m : Nat) (h : k ≤ m) : ∃ r, filtL q m = filtL q k ++ r := by
  induction m with
  | zero => exact ⟨[], by have : k = 0 := by omega
                          subst this; simp⟩
  | succ m ih =>
    rcases Nat.lt_or_ge m k with h' | h'
    · have : k = m + 1 := by omega
      subst this; exact ⟨[], by simp⟩
    · obtain ⟨r, hr⟩ := ih h'
      rw [filtL_succ]
      split
      · exact ⟨r ++ [m], by rw [hr, List.append_assoc]⟩
      · exact ⟨r, hr⟩
theorem filtL_at (q : Nat → Bool) {k n : Nat} (hk : k < n) (hp : q k = true) : (filtL q n)[(filtL q k).length]? = some k := by
  obtain ⟨r, hr⟩ := filtL_pre q (k + 1) n (by omega)
  rw [hr, filtL_succ, if_pos hp, List.append_assoc, List.getElem?_append_right (by omega)]
  simp
set_option maxRecDepth 100000 in
set_option maxHeartbeats 2000000 in
theorem things_seq (b B : Nat) (hB : B < 65536) : SeqC Try.prog 79 #[.pointer (some ⟨b, 0, none⟩)] ((filtL B.testBit 16).map stepV) (fun W => W.cell? ⟨b, 0, none⟩ = some (.int .u32 (B : Nat))) := by
  intro l I X W hst hsx hRo hY h0
  have hb := hRo _ _ h0
  show CallsIn Fence.wide 0 Try.prog 79 #[.func (.yield l) #[] #[], .pointer (some ⟨b, 0, none⟩)] W _
  (refine callsIn_of_wp Try.func79 rfl trivial ?_ rfl; simp only [Try.ntmps79, List.size_toArray, List.length_cons, List.length_nil, Nat.reduceAdd, Nat.reduceSub, Array.replicate_succ, Array.replicate_zero, List.push_toArray, List.append_toArray, List.nil_append, List.cons_append])
  gi_wp2
  clear hb
  gi_loopw [4] (fun i wr => ∃ k : Nat, k ≤ 16 ∧ i = .int .i64 k ∧ I (filtL B.testBit k).length wr) (fun i _ => 16 - (intOf i).toNat)
  case atStart => exact ⟨0, by omega, rfl, h0⟩
  case round =>
    obtain ⟨k, hk, rfl, hI⟩ := hrel
    by_cases hlt : k < 16
    · have hb := hRo _ _ hI
      have hkI : (k : Int) < 16 := by omega
      have h46 := has_c wr B k hB hlt
      cases hr : B.testBit k with
      | true =>
        rw [hr] at h46
        have hxs : ((filtL B.testBit 16).map stepV)[(filtL B.testBit k).length]? = some (stepV k) := by rw [List.getElem?_map, filtL_at B.testBit hlt hr]; rfl
        have HF : Hid (filtL B.testBit (k + 1) = filtL B.testBit k ++ [k]) := Lib.hid (by rw [filtL_succ, if_pos hr])
        clear hr
        gi_wp2_with (gi_at_call 99; fail)
        refine (Fence.free_wide Try.prog).calls _ _ _ _ _ (h46.mono ?_)
        rintro e W2 ⟨rfl, g⟩
        have gW : wr.grows W2 := g
        clear h46 g
        obtain ⟨fn, tmps, assign, body, hy, hR⟩ := hY _ _ hxs W2 (hst _ _ _ hI gW)
        dsimp only [stepV] at hy
        gi_wp2
        refine hR.mono ?_
        rintro e W2 (⟨rfl, hI2⟩ | ⟨rfl, hX⟩)
        · gi_wp2
          case roundEnd => exact ⟨⟨k + 1, by omega, by go_num, by rw [HF.out]; simpa using hI2⟩, by simp [intOf]; omega⟩
        · gi_wp2
          refine bodyPost_ret (results_none rfl _ _ _) rfl ?_
          exact ⟨⟨_, rfl⟩, .inr hX⟩
      | false =>
        rw [hr] at h46
        have HF : Hid (filtL B.testBit (k + 1) = filtL B.testBit k) := Lib.hid (by rw [filtL_succ, if_neg (by rw [hr]; decide)])
        clear hr
        gi_wp2_with (gi_at_call 99; fail)
        refine (Fence.free_wide Try.prog).calls _ _ _ _ _ (h46.mono ?_)
        rintro e W2 ⟨rfl, g⟩
        have gW : wr.grows W2 := g
        clear h46 g
        gi_wp2
        case roundEnd => exact ⟨⟨k + 1, by omega, by go_num, by rw [HF.out]; exact hst _ _ _ hI gW⟩, by simp [intOf]; omega⟩
    · have hke : k = 16 := by omega
      subst hke
      gi_wp2
      go_end0
      exact ⟨⟨_, rfl⟩, .inl (by rw [List.length_map]; exact hI)⟩
end Go.Proofs.Yteingahlmlndkaa

/-
  What is proved: pairs as keys of maps.
-/
namespace Go.Proofs.Yteingahlmlndkaa
open Go.RowKit
def eP (k : Int × Int) : Value := .agg #[.int .i64 k.1, .int .i64 k.2]
theorem eq89 (d : Nat) (w : World) (a b : Int × Int) : (Op.equalIn (d + 3) 89 (eP a) (eP b)).run Try.prog w = .ok (decide (a = b)) w := by
  obtain ⟨a0, a1⟩ := a
  obtain ⟨b0, b1⟩ := b
  simp only [eP]
  rw [run_equalIn_struct w (d + 2) 89 _ _ (by kernel_rfl) (by kernel_rfl)]
  simp [go_sem]
  by_cases h0 : a0 = b0 <;> by_cases h1 : a1 = b1 <;> simp [h0, h1]
theorem chk3 (em : Bool) (n : Nat) (x : Int) (w : World) (t : TypeId) (ht : Try.prog.underlying t = some (.int .i64)) : (Instr.checkKey em (n + 1) t (.int .i64 x)).run Try.prog w = .ok () w := by
  rw [Instr.checkKey]
  simp [run_underlying ht]
theorem keyP : KeyOk Try.prog 89 eP where
  wide := by kernel_rfl
  eq := fun a b w => eq89 9997 w a b
  chk := fun em a w => by
    show (Instr.checkKey em (9999 + 1) 89 _).run _ _ = _
    rw [Instr.checkKey]
    have c := fun x : Int => chk3 em 9998 x w 3 Try.underlying3
    simp only [eP]
    simp [go_sem, c]
  bits := fun a => by simp [eP, Instr.sameBits]
theorem zero3 (w : World) : (zeroValue 3).run Try.prog w = .ok (.int .i64 0) w := by kernel_rfl
theorem lk87 (m : PM (Int × Int)) (b : Nat) : ∀ W : World, W.heap[b]? = some (m.obj eP) → ∀ x y, (Instr.lookup 87 (.map (some b)) (.agg #[.int .i64 x, .int .i64 y]) false).run Try.prog W = .ok (.int .i64 (m.getD (x, y))) W :=
  fun W h x y => run_lookup_pm keyP Try.underlying87 zero3 m b W h (x, y)
theorem up87 (m : PM (Int × Int)) (b : Nat) : ∀ W : World, W.heap[b]? = some (m.obj eP) → ∀ x y v, (Instr.mapUpdate 87 (.map (some b)) (.agg #[.int .i64 x, .int .i64 y]) (.int .i64 v)).run Try.prog W = .ok () (W.putObj b ((m.set (x, y) v).obj eP)) :=
  fun W h x y v => run_mapUpdate_pm keyP Try.underlying87 m b W h (x, y) v
set_option maxRecDepth 100000 in
theorem pairOf_c (w : World) (x y : Int) : Calls Try.prog 55 #[.int .i64 x, .int .i64 y] w fun e w' => e = .returned (.agg #[.int .i64 (min x y), .int .i64 (max x y)]) ∧ w.grows w' := by
  have key : ∀ a b : Int, a = min x y → b = max x y → Ending.returned (.agg #[.int .i64 a, .int .i64 b]) = .returned (.agg #[.int .i64 (min x y), .int .i64 (max x y)]) := fun a b h1 h2 => by rw [h1, h2]
  go_enter Try.func55, Try.ntmps55
  go_wp2
  case inl.inr => (refine bodyPost_ret (v := .agg #[.int .i64 y, .int .i64 x]) (by simp [results, Try.results55, go_sem]) rfl ?_); exact ⟨key _ _ (by omega) (by omega), by (repeat (first | exact World.grows.refl _ | assumption | refine World.grows.alloc ?_ _ | refine World.grows.plus ?_ _ _ | refine World.grows.drew ?_))⟩
  case inr.inl => (refine bodyPost_ret (v := .agg #[.int .i64 x, .int .i64 y]) (by simp [results, Try.results55, go_sem]) rfl ?_); exact ⟨key _ _ (by omega) (by omega), by (repeat (first | exact World.grows.refl _ | assumption | refine World.grows.alloc ?_ _ | refine World.grows.plus ?_ _ _ | refine World.grows.drew ?_))⟩
  case inr.inr => (refine bodyPost_ret (v := .agg #[.int .i64 x, .int .i64 x]) (by simp [results, Try.results55, go_sem]) rfl ?_); exact ⟨key _ _ (by omega) (by omega), by (repeat (first | exact World.grows.refl _ | assumption | refine World.grows.alloc ?_ _ | refine World.grows.plus ?_ _ _ | refine World.grows.drew ?_))⟩
end Go.Proofs.Yteingahlmlndkaa

