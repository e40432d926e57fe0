/-
  What is proved: how a world that has only grown reads; the worlds after pure calls as terms.
-/
import Derived.WalkKit
import Derived.WalkSpells
import Derived.WalkLawsBesides
import Derived.BigQuiet
import Derived.Deep.DeepFit
import Derived.Maps.AppendAt
import Derived.Laws.OwnMore
import Derived.Deep.AppendLies
set_option linter.all false
namespace Go
open Go.RowKit

/-- w' is w with more blocks: what lay in w lies on. -/
def World.grows (w w' : World) : Prop := Below w.heap.size w w'

theorem World.grows.refl (w : World) : w.grows w := Below.refl _ _
theorem World.grows.trans {a b c : World} (h : a.grows b) (k : b.grows c) : a.grows c := Below.trans h (Below.mono k h.size)

/-- A world of n blocks more than w: x, if x is such a one. -/
noncomputable def World.plus (w : World) (n : Nat) (x : World) : World :=
  open Classical in
  if w.grows x ∧ x.heap.size = w.heap.size + n then x
  else { heap := w.heap ++ Array.replicate n (.map #[] 0), tape := w.tape, drawn := 0, os := w.os, output := w.output }

theorem World.grows_plus (w : World) (n : Nat) (x : World) : w.grows (w.plus n x) := by
  unfold World.plus
  split
  · rename_i h; exact h.1
  · exact ⟨rfl, rfl, rfl, by simp, fun k hk => by simp [Array.getElem?_append, hk]⟩

@[go_sem, simp] theorem World.size_plus (w : World) (n : Nat) (x : World) : (w.plus n x).heap.size = w.heap.size + n := by
  unfold World.plus
  split
  · rename_i h; exact h.2
  · simp

theorem World.plus_of {w x : World} (h : w.grows x) : ∃ n y, x = w.plus n y := by
  refine ⟨x.heap.size - w.heap.size, x, ?_⟩
  unfold World.plus
  rw [if_pos ⟨h, by have := h.size; omega⟩]

theorem World.plus_self {w x : World} {n : Nat} (h : w.grows x) (hn : x.heap.size = w.heap.size + n) : w.plus n x = x := by
  unfold World.plus
  rw [if_pos ⟨h, hn⟩]

theorem World.block_lt_of_cell {w : World} {a : Addr} (h : (w.cell? a).isSome = true) : a.block < w.heap.size := by
  cases hc : w.cell? a with
  | none => rw [hc] at h; cases h
  | some v => exact World.block_lt_of_cell? w a hc

theorem World.grows.cell {w w' : World} (g : w.grows w') {a : Addr} (h : (w.cell? a).isSome = true) : w'.cell? a = w.cell? a :=
  Below.cell g (World.block_lt_of_cell h)

@[go_sem] theorem World.cell?_plus (w : World) (n : Nat) (x : World) (a : Addr) (h : (w.cell? a).isSome = true) : (w.plus n x).cell? a = w.cell? a :=
  (World.grows_plus w n x).cell h

@[go_sem] theorem World.cell?_alloc_is (w : World) (o : Obj) (a : Addr) (h : (w.cell? a).isSome = true) : (w.alloc o).cell? a = w.cell? a :=
  World.cell?_alloc_lt w o a (World.block_lt_of_cell h)

@[go_sem] theorem World.frozen?_plus (w : World) (n : Nat) (x : World) (a : Addr) (h : (w.cell? a).isSome = true) : (w.plus n x).frozen? a = w.frozen? a :=
  Below.frozen (World.grows_plus w n x) (World.block_lt_of_cell h)

/-- names for the worlds inside, so that no rule meets them again -/
noncomputable def World.drewIn (w : World) (n : Nat) (x : World) : World := (w.plus n x).drew
noncomputable def World.setIn (w : World) (n : Nat) (x : World) (a : Addr) (v : Value) : World := (w.plus n x).setCell a v

@[go_sem] theorem World.plus_drew (w : World) (n : Nat) (x : World) : (w.plus n x).drew = w.plus n (w.drewIn n x) := by
  unfold World.drewIn
  have h := World.grows_plus w n x
  rw [World.plus_self (n := n) (x := (w.plus n x).drew) (Below.drew h) (by simp)]

@[go_sem] theorem World.drew_plus (w : World) (n : Nat) (x : World) : w.drew.plus n x = w.plus n x := by
  have e : w.drew.grows x = w.grows x := propext ⟨fun h => ⟨h.os, h.tape, h.output, h.size, h.block⟩, fun h => ⟨h.os, h.tape, h.output, h.size, h.block⟩⟩
  unfold World.plus
  rw [e]
  rfl

theorem World.lt_of_block {w : World} {b : Nat} {o : Obj} (h : w.heap[b]? = some o) : b < w.heap.size := (Array.getElem?_eq_some_iff.1 h).1

@[go_sem] theorem World.heap_plus (w : World) (n : Nat) (x : World) (b : Nat) (h : (w.heap[b]?).isSome = true) : (w.plus n x).heap[b]? = w.heap[b]? := by
  cases ho : w.heap[b]? with
  | none => rw [ho] at h; cases h
  | some o => rw [(World.grows_plus w n x).block b (World.lt_of_block ho), ho]

/-- a store into what w holds: it is done in w -/
@[go_sem] theorem World.setCell_plus (w : World) (n : Nat) (x : World) (a : Addr) (v : Value) (_h : (w.cell? a).isSome = true) :
    (w.plus n x).setCell a v = (w.setCell a v).plus n (w.setIn n x a v) := by
  unfold World.setIn
  have g := World.grows_plus w n x
  have hs := World.size_plus w n x
  refine (World.plus_self (w := w.setCell a v) (x := (w.plus n x).setCell a v) ?_ (by simp)).symm
  refine ⟨g.os, g.tape, g.output, by simp, fun k hk => ?_⟩
  have hk' : k < w.heap.size := by simpa using hk
  simp only [World.setCell, Array.getElem?_modify]
  rw [g.block k hk']

@[go_sem] theorem World.setCell_alloc_is (w : World) (o : Obj) (a : Addr) (v : Value) (h : (w.cell? a).isSome = true) :
    (w.alloc o).setCell a v = (w.setCell a v).alloc o := by
  have hb := World.block_lt_of_cell h
  unfold World.setCell World.alloc
  congr 1
  apply Array.ext_getElem?
  intro k
  simp only [Array.getElem?_modify, Array.getElem?_push, Array.size_modify]
  by_cases hk : k = w.heap.size
  · subst hk
    simp [Nat.ne_of_lt hb]
  · simp [hk]

theorem World.grows.drew {a w : World} (h : a.grows w) : a.grows w.drew := Below.drew h
theorem World.grows.alloc {a w : World} (h : a.grows w) (o : Obj) : a.grows (w.alloc o) := Below.alloc h h.size o
theorem World.grows.plus {a w : World} (h : a.grows w) (n : Nat) (x : World) : a.grows (w.plus n x) := h.trans (World.grows_plus w n x)
theorem World.grows.setCell {a w : World} (h : a.grows w) {p : Addr} (hp : a.heap.size ≤ p.block) (v : Value) : a.grows (w.setCell p v) := Below.setCell h hp v

/-! looking through several layers at once -/
@[go_sem] theorem World.cell?_aa (w : World) (o0 : Obj) (o1 : Obj) (a : Addr) (h : (w.cell? a).isSome = true) : ((w.alloc o0).alloc o1).cell? a = w.cell? a := (((World.grows.refl w).alloc _).alloc _).cell h
@[go_sem] theorem World.frozen?_aa (w : World) (o0 : Obj) (o1 : Obj) (a : Addr) (h : (w.cell? a).isSome = true) : ((w.alloc o0).alloc o1).frozen? a = w.frozen? a := Below.frozen (((World.grows.refl w).alloc _).alloc _) (World.block_lt_of_cell h)
@[go_sem] theorem World.cell?_ap (w : World) (n0 : Nat) (x0 : World) (o1 : Obj) (a : Addr) (h : (w.cell? a).isSome = true) : ((w.plus n0 x0).alloc o1).cell? a = w.cell? a := (((World.grows.refl w).plus _ _).alloc _).cell h
@[go_sem] theorem World.frozen?_ap (w : World) (n0 : Nat) (x0 : World) (o1 : Obj) (a : Addr) (h : (w.cell? a).isSome = true) : ((w.plus n0 x0).alloc o1).frozen? a = w.frozen? a := Below.frozen (((World.grows.refl w).plus _ _).alloc _) (World.block_lt_of_cell h)
@[go_sem] theorem World.cell?_pa (w : World) (o0 : Obj) (n1 : Nat) (x1 : World) (a : Addr) (h : (w.cell? a).isSome = true) : ((w.alloc o0).plus n1 x1).cell? a = w.cell? a := (((World.grows.refl w).alloc _).plus _ _).cell h
@[go_sem] theorem World.frozen?_pa (w : World) (o0 : Obj) (n1 : Nat) (x1 : World) (a : Addr) (h : (w.cell? a).isSome = true) : ((w.alloc o0).plus n1 x1).frozen? a = w.frozen? a := Below.frozen (((World.grows.refl w).alloc _).plus _ _) (World.block_lt_of_cell h)
@[go_sem] theorem World.cell?_pp (w : World) (n0 : Nat) (x0 : World) (n1 : Nat) (x1 : World) (a : Addr) (h : (w.cell? a).isSome = true) : ((w.plus n0 x0).plus n1 x1).cell? a = w.cell? a := (((World.grows.refl w).plus _ _).plus _ _).cell h
@[go_sem] theorem World.frozen?_pp (w : World) (n0 : Nat) (x0 : World) (n1 : Nat) (x1 : World) (a : Addr) (h : (w.cell? a).isSome = true) : ((w.plus n0 x0).plus n1 x1).frozen? a = w.frozen? a := Below.frozen (((World.grows.refl w).plus _ _).plus _ _) (World.block_lt_of_cell h)
@[go_sem] theorem World.cell?_aaa (w : World) (o0 : Obj) (o1 : Obj) (o2 : Obj) (a : Addr) (h : (w.cell? a).isSome = true) : (((w.alloc o0).alloc o1).alloc o2).cell? a = w.cell? a := ((((World.grows.refl w).alloc _).alloc _).alloc _).cell h
@[go_sem] theorem World.frozen?_aaa (w : World) (o0 : Obj) (o1 : Obj) (o2 : Obj) (a : Addr) (h : (w.cell? a).isSome = true) : (((w.alloc o0).alloc o1).alloc o2).frozen? a = w.frozen? a := Below.frozen ((((World.grows.refl w).alloc _).alloc _).alloc _) (World.block_lt_of_cell h)
@[go_sem] theorem World.cell?_aap (w : World) (n0 : Nat) (x0 : World) (o1 : Obj) (o2 : Obj) (a : Addr) (h : (w.cell? a).isSome = true) : (((w.plus n0 x0).alloc o1).alloc o2).cell? a = w.cell? a := ((((World.grows.refl w).plus _ _).alloc _).alloc _).cell h
@[go_sem] theorem World.frozen?_aap (w : World) (n0 : Nat) (x0 : World) (o1 : Obj) (o2 : Obj) (a : Addr) (h : (w.cell? a).isSome = true) : (((w.plus n0 x0).alloc o1).alloc o2).frozen? a = w.frozen? a := Below.frozen ((((World.grows.refl w).plus _ _).alloc _).alloc _) (World.block_lt_of_cell h)
@[go_sem] theorem World.cell?_apa (w : World) (o0 : Obj) (n1 : Nat) (x1 : World) (o2 : Obj) (a : Addr) (h : (w.cell? a).isSome = true) : (((w.alloc o0).plus n1 x1).alloc o2).cell? a = w.cell? a := ((((World.grows.refl w).alloc _).plus _ _).alloc _).cell h
@[go_sem] theorem World.frozen?_apa (w : World) (o0 : Obj) (n1 : Nat) (x1 : World) (o2 : Obj) (a : Addr) (h : (w.cell? a).isSome = true) : (((w.alloc o0).plus n1 x1).alloc o2).frozen? a = w.frozen? a := Below.frozen ((((World.grows.refl w).alloc _).plus _ _).alloc _) (World.block_lt_of_cell h)
@[go_sem] theorem World.cell?_app (w : World) (n0 : Nat) (x0 : World) (n1 : Nat) (x1 : World) (o2 : Obj) (a : Addr) (h : (w.cell? a).isSome = true) : (((w.plus n0 x0).plus n1 x1).alloc o2).cell? a = w.cell? a := ((((World.grows.refl w).plus _ _).plus _ _).alloc _).cell h
@[go_sem] theorem World.frozen?_app (w : World) (n0 : Nat) (x0 : World) (n1 : Nat) (x1 : World) (o2 : Obj) (a : Addr) (h : (w.cell? a).isSome = true) : (((w.plus n0 x0).plus n1 x1).alloc o2).frozen? a = w.frozen? a := Below.frozen ((((World.grows.refl w).plus _ _).plus _ _).alloc _) (World.block_lt_of_cell h)
@[go_sem] theorem World.cell?_paa (w : World) (o0 : Obj) (o1 : Obj) (n2 : Nat) (x2 : World) (a : Addr) (h : (w.cell? a).isSome = true) : (((w.alloc o0).alloc o1).plus n2 x2).cell? a = w.cell? a := ((((World.grows.refl w).alloc _).alloc _).plus _ _).cell h
@[go_sem] theorem World.frozen?_paa (w : World) (o0 : Obj) (o1 : Obj) (n2 : Nat) (x2 : World) (a : Addr) (h : (w.cell? a).isSome = true) : (((w.alloc o0).alloc o1).plus n2 x2).frozen? a = w.frozen? a := Below.frozen ((((World.grows.refl w).alloc _).alloc _).plus _ _) (World.block_lt_of_cell h)
@[go_sem] theorem World.cell?_pap (w : World) (n0 : Nat) (x0 : World) (o1 : Obj) (n2 : Nat) (x2 : World) (a : Addr) (h : (w.cell? a).isSome = true) : (((w.plus n0 x0).alloc o1).plus n2 x2).cell? a = w.cell? a := ((((World.grows.refl w).plus _ _).alloc _).plus _ _).cell h
@[go_sem] theorem World.frozen?_pap (w : World) (n0 : Nat) (x0 : World) (o1 : Obj) (n2 : Nat) (x2 : World) (a : Addr) (h : (w.cell? a).isSome = true) : (((w.plus n0 x0).alloc o1).plus n2 x2).frozen? a = w.frozen? a := Below.frozen ((((World.grows.refl w).plus _ _).alloc _).plus _ _) (World.block_lt_of_cell h)
@[go_sem] theorem World.cell?_ppa (w : World) (o0 : Obj) (n1 : Nat) (x1 : World) (n2 : Nat) (x2 : World) (a : Addr) (h : (w.cell? a).isSome = true) : (((w.alloc o0).plus n1 x1).plus n2 x2).cell? a = w.cell? a := ((((World.grows.refl w).alloc _).plus _ _).plus _ _).cell h
@[go_sem] theorem World.frozen?_ppa (w : World) (o0 : Obj) (n1 : Nat) (x1 : World) (n2 : Nat) (x2 : World) (a : Addr) (h : (w.cell? a).isSome = true) : (((w.alloc o0).plus n1 x1).plus n2 x2).frozen? a = w.frozen? a := Below.frozen ((((World.grows.refl w).alloc _).plus _ _).plus _ _) (World.block_lt_of_cell h)
@[go_sem] theorem World.cell?_ppp (w : World) (n0 : Nat) (x0 : World) (n1 : Nat) (x1 : World) (n2 : Nat) (x2 : World) (a : Addr) (h : (w.cell? a).isSome = true) : (((w.plus n0 x0).plus n1 x1).plus n2 x2).cell? a = w.cell? a := ((((World.grows.refl w).plus _ _).plus _ _).plus _ _).cell h
@[go_sem] theorem World.frozen?_ppp (w : World) (n0 : Nat) (x0 : World) (n1 : Nat) (x1 : World) (n2 : Nat) (x2 : World) (a : Addr) (h : (w.cell? a).isSome = true) : (((w.plus n0 x0).plus n1 x1).plus n2 x2).frozen? a = w.frozen? a := Below.frozen ((((World.grows.refl w).plus _ _).plus _ _).plus _ _) (World.block_lt_of_cell h)
@[go_sem] theorem World.cell?_aaaa (w : World) (o0 : Obj) (o1 : Obj) (o2 : Obj) (o3 : Obj) (a : Addr) (h : (w.cell? a).isSome = true) : ((((w.alloc o0).alloc o1).alloc o2).alloc o3).cell? a = w.cell? a := (((((World.grows.refl w).alloc _).alloc _).alloc _).alloc _).cell h
@[go_sem] theorem World.cell?_aaap (w : World) (n0 : Nat) (x0 : World) (o1 : Obj) (o2 : Obj) (o3 : Obj) (a : Addr) (h : (w.cell? a).isSome = true) : ((((w.plus n0 x0).alloc o1).alloc o2).alloc o3).cell? a = w.cell? a := (((((World.grows.refl w).plus _ _).alloc _).alloc _).alloc _).cell h
@[go_sem] theorem World.cell?_aapa (w : World) (o0 : Obj) (n1 : Nat) (x1 : World) (o2 : Obj) (o3 : Obj) (a : Addr) (h : (w.cell? a).isSome = true) : ((((w.alloc o0).plus n1 x1).alloc o2).alloc o3).cell? a = w.cell? a := (((((World.grows.refl w).alloc _).plus _ _).alloc _).alloc _).cell h
@[go_sem] theorem World.cell?_aapp (w : World) (n0 : Nat) (x0 : World) (n1 : Nat) (x1 : World) (o2 : Obj) (o3 : Obj) (a : Addr) (h : (w.cell? a).isSome = true) : ((((w.plus n0 x0).plus n1 x1).alloc o2).alloc o3).cell? a = w.cell? a := (((((World.grows.refl w).plus _ _).plus _ _).alloc _).alloc _).cell h
@[go_sem] theorem World.cell?_apaa (w : World) (o0 : Obj) (o1 : Obj) (n2 : Nat) (x2 : World) (o3 : Obj) (a : Addr) (h : (w.cell? a).isSome = true) : ((((w.alloc o0).alloc o1).plus n2 x2).alloc o3).cell? a = w.cell? a := (((((World.grows.refl w).alloc _).alloc _).plus _ _).alloc _).cell h
@[go_sem] theorem World.cell?_apap (w : World) (n0 : Nat) (x0 : World) (o1 : Obj) (n2 : Nat) (x2 : World) (o3 : Obj) (a : Addr) (h : (w.cell? a).isSome = true) : ((((w.plus n0 x0).alloc o1).plus n2 x2).alloc o3).cell? a = w.cell? a := (((((World.grows.refl w).plus _ _).alloc _).plus _ _).alloc _).cell h
@[go_sem] theorem World.cell?_appa (w : World) (o0 : Obj) (n1 : Nat) (x1 : World) (n2 : Nat) (x2 : World) (o3 : Obj) (a : Addr) (h : (w.cell? a).isSome = true) : ((((w.alloc o0).plus n1 x1).plus n2 x2).alloc o3).cell? a = w.cell? a := (((((World.grows.refl w).alloc _).plus _ _).plus _ _).alloc _).cell h
@[go_sem] theorem World.cell?_appp (w : World) (n0 : Nat) (x0 : World) (n1 : Nat) (x1 : World) (n2 : Nat) (x2 : World) (o3 : Obj) (a : Addr) (h : (w.cell? a).isSome = true) : ((((w.plus n0 x0).plus n1 x1).plus n2 x2).alloc o3).cell? a = w.cell? a := (((((World.grows.refl w).plus _ _).plus _ _).plus _ _).alloc _).cell h
@[go_sem] theorem World.cell?_paaa (w : World) (o0 : Obj) (o1 : Obj) (o2 : Obj) (n3 : Nat) (x3 : World) (a : Addr) (h : (w.cell? a).isSome = true) : ((((w.alloc o0).alloc o1).alloc o2).plus n3 x3).cell? a = w.cell? a := (((((World.grows.refl w).alloc _).alloc _).alloc _).plus _ _).cell h
@[go_sem] theorem World.cell?_paap (w : World) (n0 : Nat) (x0 : World) (o1 : Obj) (o2 : Obj) (n3 : Nat) (x3 : World) (a : Addr) (h : (w.cell? a).isSome = true) : ((((w.plus n0 x0).alloc o1).alloc o2).plus n3 x3).cell? a = w.cell? a := (((((World.grows.refl w).plus _ _).alloc _).alloc _).plus _ _).cell h
@[go_sem] theorem World.cell?_papa (w : World) (o0 : Obj) (n1 : Nat) (x1 : World) (o2 : Obj) (n3 : Nat) (x3 : World) (a : Addr) (h : (w.cell? a).isSome = true) : ((((w.alloc o0).plus n1 x1).alloc o2).plus n3 x3).cell? a = w.cell? a := (((((World.grows.refl w).alloc _).plus _ _).alloc _).plus _ _).cell h
@[go_sem] theorem World.cell?_papp (w : World) (n0 : Nat) (x0 : World) (n1 : Nat) (x1 : World) (o2 : Obj) (n3 : Nat) (x3 : World) (a : Addr) (h : (w.cell? a).isSome = true) : ((((w.plus n0 x0).plus n1 x1).alloc o2).plus n3 x3).cell? a = w.cell? a := (((((World.grows.refl w).plus _ _).plus _ _).alloc _).plus _ _).cell h
@[go_sem] theorem World.cell?_ppaa (w : World) (o0 : Obj) (o1 : Obj) (n2 : Nat) (x2 : World) (n3 : Nat) (x3 : World) (a : Addr) (h : (w.cell? a).isSome = true) : ((((w.alloc o0).alloc o1).plus n2 x2).plus n3 x3).cell? a = w.cell? a := (((((World.grows.refl w).alloc _).alloc _).plus _ _).plus _ _).cell h
@[go_sem] theorem World.cell?_ppap (w : World) (n0 : Nat) (x0 : World) (o1 : Obj) (n2 : Nat) (x2 : World) (n3 : Nat) (x3 : World) (a : Addr) (h : (w.cell? a).isSome = true) : ((((w.plus n0 x0).alloc o1).plus n2 x2).plus n3 x3).cell? a = w.cell? a := (((((World.grows.refl w).plus _ _).alloc _).plus _ _).plus _ _).cell h
@[go_sem] theorem World.cell?_pppa (w : World) (o0 : Obj) (n1 : Nat) (x1 : World) (n2 : Nat) (x2 : World) (n3 : Nat) (x3 : World) (a : Addr) (h : (w.cell? a).isSome = true) : ((((w.alloc o0).plus n1 x1).plus n2 x2).plus n3 x3).cell? a = w.cell? a := (((((World.grows.refl w).alloc _).plus _ _).plus _ _).plus _ _).cell h
@[go_sem] theorem World.cell?_pppp (w : World) (n0 : Nat) (x0 : World) (n1 : Nat) (x1 : World) (n2 : Nat) (x2 : World) (n3 : Nat) (x3 : World) (a : Addr) (h : (w.cell? a).isSome = true) : ((((w.plus n0 x0).plus n1 x1).plus n2 x2).plus n3 x3).cell? a = w.cell? a := (((((World.grows.refl w).plus _ _).plus _ _).plus _ _).plus _ _).cell h

/-- the class of worlds for a region whose operations only read and call -/
def World.more (w : World) : World → Prop := fun w' => ∃ n x, w' = w.plus n x

theorem World.more_drew (w : World) : w.more { w with drawn := w.drawn + 1 } := World.plus_of (World.grows.drew (World.grows.refl w))

end Go

/-
  What is proved: slices that a call has made itself (ownsRow), beside worlds that grow; append onto them, whatever the source; slices as tables.
-/
namespace Go
open Go.RowKit

/-! ### slices as tables -/

/-- v is a slice of m elements of sz cells each -/
def SliceAt (w : World) (v : Value) (m sz : Nat) (c : Nat → Nat → Value) : Prop :=
  ∃ a cap, v = .slice a m cap ∧ m ≤ cap ∧ cap ≤ maxLen ∧ ∀ i j, i < m → j < sz → ∃ b o, a = some ⟨b, o, none⟩ ∧ w.cell? ⟨b, o + i * sz + j, none⟩ = some (c i j)

theorem SliceAt.mono {w w' : World} {v : Value} {m sz : Nat} {c : Nat → Nat → Value} (h : SliceAt w v m sz c) (g : w.grows w') : SliceAt w' v m sz c := by
  obtain ⟨a, cap, h1, h2, h3, h4⟩ := h
  exact ⟨a, cap, h1, h2, h3, fun i j hi hj => by
    obtain ⟨b, o, ha, hc⟩ := h4 i j hi hj
    exact ⟨b, o, ha, by rw [g.cell (by rw [hc]; rfl)]; exact hc⟩⟩
theorem SliceAt.congr {w : World} {v : Value} {m sz : Nat} {c d : Nat → Nat → Value} (h : SliceAt w v m sz c) (e : ∀ i j, i < m → j < sz → c i j = d i j) : SliceAt w v m sz d := by
  obtain ⟨a, cap, h1, h2, h3, h4⟩ := h
  exact ⟨a, cap, h1, h2, h3, fun i j hi hj => by rw [← e i j hi hj]; exact h4 i j hi hj⟩
theorem SliceAt.none {w : World} {sz : Nat} {c : Nat → Nat → Value} : SliceAt w (.slice none 0 0) 0 sz c :=
  ⟨_, _, rfl, Nat.le_refl _, Nat.zero_le _, fun i j hi _ => absurd hi (by omega)⟩

def IntsAt (w : World) (v : Value) (m : Nat) (f : Nat → Int) : Prop := SliceAt w v m 1 (fun i _ => .int .i64 (f i))
theorem IntsAt.mono {w w' : World} {v : Value} {m : Nat} {f : Nat → Int} (h : IntsAt w v m f) (g : w.grows w') : IntsAt w' v m f := SliceAt.mono h g

/-- the cells of a table in a row -/
def tableL (m sz : Nat) (c : Nat → Nat → Value) : List Value := (List.range (m * sz)).map fun k => c (k / sz) (k % sz)
theorem tableL_length (m sz : Nat) (c : Nat → Nat → Value) : (tableL m sz c).length = m * sz := by simp [tableL]

/-! ### rows of the call's own -/
section
variable {w w' : World} {base : Nat} {e : TypeId} {size : Nat} {v : Value} {n : Nat} {xs : List Value}

theorem World.ownsRow.grow (h : w.ownsRow base e size v n xs) (g : w.grows w') : w'.ownsRow base e size v n xs := by
  refine ⟨h.1, ?_⟩
  rcases h.2 with hn | ⟨b, cap, cur, rfl, hb, hgg, rest⟩
  · exact .inl hn
  · exact .inr ⟨b, cap, cur, rfl, hb, by rw [g.block b (World.lt_of_block hgg)]; exact hgg, rest⟩
theorem World.ownsRow.down {base' : Nat} (h : w.ownsRow base e size v n xs) (hb : base' ≤ base) : w.ownsRow base' e size v n xs := by
  refine ⟨h.1, ?_⟩
  rcases h.2 with hn | ⟨b, cap, cur, rfl, hb', rest⟩
  · exact .inl hn
  · exact .inr ⟨b, cap, cur, rfl, by omega, rest⟩
theorem World.ownsRow.sliceAt (h : w.ownsRow base e size v n xs) {c : Nat → Nat → Value} (hc : ∀ i j, i < n → j < size → xs[i * size + j]? = some (c i j)) : SliceAt w v n size c := by
  rcases h.2 with ⟨rfl, rfl⟩ | ⟨b, cap, cur, rfl, hb, hgg, h1, h2, h3, h4⟩
  · exact .none
  · refine ⟨_, _, rfl, h1, h2, fun i j hi hj => ⟨_, _, rfl, ?_⟩⟩
    have hlt : i * size + j < n * size := by
      have : (i + 1) * size ≤ n * size := Nat.mul_le_mul_right _ hi
      rw [Nat.add_mul] at this; omega
    rw [Nat.zero_add, h.cellAt _ hlt]
    exact hc i j hi hj

theorem World.ownsRow.set (h : w.ownsRow base e size v n xs) {p : Addr} (hp : p.block < base) (u : Value) : (w.setCell p u).ownsRow base e size v n xs := by
  refine ⟨h.1, ?_⟩
  rcases h.2 with hn | ⟨b, cap, cur, rfl, hb, hgg, rest⟩
  · exact .inl hn
  · refine .inr ⟨b, cap, cur, rfl, hb, ?_, rest⟩
    simp only [World.setCell, Array.getElem?_modify]
    rw [if_neg (by omega)]
    exact hgg
theorem World.grownBy.grows (g : w.grownBy w' v.ownBlock) (h : w.ownsRow base e size v n xs) {W0 : World} (h0 : W0.grows w) (hb : W0.heap.size ≤ base) : W0.grows w' :=
  ⟨g.os.trans h0.os, g.tape.trans h0.tape, g.output.trans h0.output, Nat.le_trans h0.size g.size, fun k hk => by
    rw [g.block k (Nat.lt_of_lt_of_le hk h0.size) (fun he => by have := (h.lt k he.symm).1; omega)]
    exact h0.block k hk⟩

/-- where the elements lie that are appended -/
def SrcAt (w : World) (xv : Value) (m size : Nat) (news : List Value) : Prop :=
  ∃ A c, xv = .slice A m c ∧ news.length = m * size ∧ (0 < m → ∃ ad, A = some ad ∧ ∀ j u, news[j]? = some u → w.cell? (ad.add j) = some u)

theorem add_plain (b o j : Nat) : (⟨b, o, none⟩ : Addr).add j = ⟨b, o + j, none⟩ := by
  unfold Addr.add
  split <;> simp_all
theorem SliceAt.src {c : Nat → Nat → Value} (hs : 0 < size) (h : SliceAt w v n size c) : SrcAt w v n size (tableL n size c) := by
  obtain ⟨a, cap, rfl, h2, h3, h4⟩ := h
  refine ⟨a, cap, rfl, tableL_length _ _ _, fun hn => ?_⟩
  obtain ⟨b, o, rfl, -⟩ := h4 0 0 hn hs
  refine ⟨_, rfl, fun j u hj => ?_⟩
  simp only [tableL, List.getElem?_map] at hj
  cases hr : (List.range (n * size))[j]? with
  | none => rw [hr] at hj; cases hj
  | some k =>
    rw [hr] at hj
    obtain ⟨hlt, hk⟩ := List.getElem?_eq_some_iff.1 hr
    simp at hk hlt
    subst hk
    simp at hj
    subst hj
    have hd : j / size < n := (Nat.div_lt_iff_lt_mul hs).2 hlt
    obtain ⟨b', o', he, hc⟩ := h4 (j / size) (j % size) hd (Nat.mod_lt _ hs)
    cases he
    rw [add_plain, ← hc]
    congr 2
    have := Nat.div_add_mod j size
    rw [Nat.mul_comm] at this
    omega
end

/-- what the program knows of an element's type -/
def Program.knows (P : Program) (e : TypeId) (z : Value) (size bytes : Nat) : Prop := ∃ i, P.info? e = some i ∧ i.zero = some z ∧ i.size = size ∧ i.bytes = bytes
theorem Program.knows_of {P : Program} {e : TypeId} {z : Value} {size bytes : Nat} (h : (P.info? e).map (fun i => (i.zero, i.size, i.bytes)) = some (some z, size, bytes)) : P.knows e z size bytes := by
  cases hi : P.info? e with
  | none => rw [hi] at h; cases h
  | some i =>
    rw [hi] at h
    simp only [Option.map_some, Option.some.injEq, Prod.mk.injEq] at h
    exact ⟨i, hi, h.1, h.2.1, h.2.2⟩

section
variable {P : Program} (w : World)

theorem run_append_g (base : Nat) (t ty e : TypeId) (i : TypeInfo) (z : Value) (size bytes : Nat) (ht : P.underlying t = some (.slice e)) (hi : P.info? e = some i) (hz : i.zero = some z)
    (hsize : i.size = size) (hby : i.bytes = bytes) (hzs : z.cells.size = size) (hsz : 0 < size)
    (v : Value) (n : Nat) (xs : List Value) (hown : w.ownsRow base e size v n xs)
    (xv : Value) (m : Nat) (news : List Value) (hsrc : SrcAt w xv m size news) (h1 : ∀ u ∈ news, u.oneCell' = true)
    (h63 : n + m ≤ maxLen) (hbytes : (n + m) * bytes ≤ 140737488355328) (hbase : base ≤ w.heap.size) :
    ∃ v' w', (Builtin.append_ #[t, t] ty #[v, xv]).run P w = .ok v' w' ∧ w'.ownsRow base e size v' (n + m) (xs ++ news) ∧ w.grownBy w' v.ownBlock := by
  obtain ⟨A, c, rfl, hl, hA⟩ := hsrc
  rcases Nat.eq_zero_or_pos m with hm | hm
  · subst hm
    have hn : news = [] := List.eq_nil_of_length_eq_zero (by simpa using hl)
    subst hn
    cases A with
    | some ad =>
      obtain ⟨v', w', hr, h2, h3, _⟩ := run_append_own_at (P := P) w base t ty e i z size bytes ht hi hz hsize hby hzs hsz v n xs hown ad 0 c [] (by simp) (by simp) (by simp) h63 hbytes hbase
      exact ⟨v', w', hr, h2, h3⟩
    | none =>
      refine ⟨v, w, ?_, by simpa using hown, ⟨rfl, rfl, rfl, Nat.le_refl _, fun _ _ _ => rfl⟩⟩
      rcases hown.2 with ⟨rfl, rfl⟩ | ⟨g, cap, cur, rfl, _, _, hnc, _⟩
      · simp [Builtin.append_, run_underlying ht, sizeOf, typeInfo, hi, Builtin.lenOf, Builtin.firstCells]
      · simp [Builtin.append_, run_underlying ht, sizeOf, typeInfo, hi, Builtin.lenOf, Builtin.firstCells, hnc, storeCells]
  · obtain ⟨ad, rfl, hc⟩ := hA hm
    obtain ⟨v', w', hr, h2, h3, _⟩ := run_append_own_at (P := P) w base t ty e i z size bytes ht hi hz hsize hby hzs hsz v n xs hown ad m c news hl hc h1 h63 hbytes hbase
    exact ⟨v', w', hr, h2, h3⟩

end

theorem tableL_get {m sz : Nat} (c : Nat → Nat → Value) {i j : Nat} (hi : i < m) (hj : j < sz) : (tableL m sz c)[i * sz + j]? = some (c i j) := by
  have hlt : i * sz + j < m * sz := by
    have : (i + 1) * sz ≤ m * sz := Nat.mul_le_mul_right _ hi
    rw [Nat.add_mul] at this; omega
  have h1 : (i * sz + j) / sz = i := by
    rw [Nat.mul_comm, Nat.mul_add_div (by omega), Nat.div_eq_of_lt hj, Nat.add_zero]
  have h2 : (i * sz + j) % sz = j := by
    rw [Nat.mul_comm, Nat.mul_add_mod, Nat.mod_eq_of_lt hj]
  simp [tableL, List.getElem?_map, List.getElem?_range hlt, h1, h2]
theorem tableL_snoc (c : Nat → Nat → Value) (m sz : Nat) : tableL (m + 1) sz c = tableL m sz c ++ (List.range sz).map (c m) := by
  unfold tableL
  apply List.ext_getElem?
  intro k
  simp only [List.getElem?_map, List.getElem?_append, List.length_map, List.length_range]
  split
  · rename_i h
    rw [List.getElem?_range (by rw [Nat.add_mul]; omega), List.getElem?_range h]
  · rename_i h
    rcases Nat.lt_or_ge k ((m + 1) * sz) with hk | hk
    · rw [List.getElem?_range hk]
      rw [Nat.add_mul] at hk
      obtain ⟨j, rfl⟩ : ∃ j, k = m * sz + j := ⟨k - m * sz, by omega⟩
      have hj : j < sz := by omega
      rw [show m * sz + j - m * sz = j by omega, List.getElem?_range hj]
      have h1 : (m * sz + j) / sz = m := by rw [Nat.mul_comm, Nat.mul_add_div (by omega), Nat.div_eq_of_lt hj, Nat.add_zero]
      have h2 : (m * sz + j) % sz = j := by rw [Nat.mul_comm, Nat.mul_add_mod, Nat.mod_eq_of_lt hj]
      simp [h1, h2]
    · rw [List.getElem?_eq_none (by simpa using hk), List.getElem?_eq_none (by rw [Nat.add_mul] at hk; simp; omega)]
      rfl

theorem SrcAt.cap {w : World} {A : Option Addr} {n sz c : Nat} {l : List Value} (h : SrcAt w (.slice A n c) n sz l) (c' : Nat) : SrcAt w (.slice A n c') n sz l := by
  obtain ⟨A', c1, he, h2, h3⟩ := h
  cases he
  exact ⟨A, c', rfl, h2, h3⟩
theorem tableL_one (c : Nat → Nat → Value) : tableL 1 1 c = [c 0 0] := rfl
theorem IntsAt.push {w : World} {base : Nat} {e : TypeId} {v : Value} {j : Nat} {h : Nat → Int} {x : Int} (ho : w.ownsRow base e 1 v (j + 1) (tableL j 1 (fun i _ => .int .i64 (h i)) ++ tableL 1 1 (fun _ _ => .int .i64 x))) (hx : x = h j) : IntsAt w v (j + 1) h := by
  subst hx
  refine ho.sliceAt fun i k hi hk => ?_
  have : tableL (j + 1) 1 (fun i _ => Value.int .i64 (h i)) = tableL j 1 (fun i _ => .int .i64 (h i)) ++ tableL 1 1 (fun _ _ => .int .i64 (h j)) := tableL_snoc _ j 1
  rw [← this]
  exact tableL_get _ hi hk
section
variable {P : Program} (w : World)

/-- append onto a slice without room -/
theorem run_append_cap (t ty e : TypeId) (z : Value) (size bytes : Nat) (ht : P.underlying t = some (.slice e)) (hi : P.knows e z size bytes) (hzs : z.cells.size = size) (hsz : 0 < size)
    (A : Option Addr) (n : Nat) (xs : List Value) (hxs : SrcAt w (.slice A n n) n size xs) (hA : A = none → n = 0)
    (xv : Value) (m : Nat) (news : List Value) (hsrc : SrcAt w xv m size news) (h0 : 0 < m)
    (h63 : n + m ≤ maxLen) (hbytes : (n + m) * bytes ≤ 140737488355328) :
    ∃ v' w', (Builtin.append_ #[t, t] ty #[.slice A n n, xv]).run P w = .ok v' w' ∧ w'.ownsRow w.heap.size e size v' (n + m) (xs ++ news) ∧ w.grows w' := by
  obtain ⟨i, hi, hz, rfl, rfl⟩ := hi
  obtain ⟨B, c, rfl, hl, hB⟩ := hsrc
  obtain ⟨ad, rfl, hc⟩ := hB h0
  obtain ⟨A', c', heq, hlx, hAx⟩ := hxs
  cases heq
  have hsmall : n + m ≤ 9223372036854775807 := by simp only [maxLen] at h63; omega
  have own : (w.drew.alloc (.cells (xs.toArray ++ news.toArray ++ Builtin.zeroCells z.cells (grownCap w (n + m) n e - (n + m))) e)).ownsRow w.heap.size e i.size
        (.slice (some ⟨w.heap.size, 0, none⟩) (n + m) (grownCap w (n + m) n e)) (n + m) (xs ++ news) := by
    have hge := grownCap_ge w (n + m) n e
    have hcm : grownCap w (n + m) n e ≤ maxLen := grownCap_le_maxLen w (n + m) n e h63
    have hlen : (xs ++ news).length = (n + m) * i.size := by rw [List.length_append, hlx, hl, Nat.add_mul]
    refine ⟨hlen, .inr ⟨w.heap.size, _, _, rfl, Nat.le_refl _, heap_alloc_new w.drew _, hge, hcm, ?_, ?_⟩⟩
    · simp only [Array.size_append, List.size_toArray, size_zeroCells, hzs, hlx, hl, ← Nat.add_mul]
      congr 1
      omega
    · simp only [Array.toList_append, List.append_assoc]
      rw [← List.append_assoc, ← hlen]
      exact List.take_left
  have gr : w.grows (w.drew.alloc (.cells (xs.toArray ++ news.toArray ++ Builtin.zeroCells z.cells (grownCap w (n + m) n e - (n + m))) e)) := (World.grows.refl w).drew.alloc _
  cases A with
  | none =>
    have hn : n = 0 := hA rfl
    subst hn
    have hx : xs = [] := List.eq_nil_of_length_eq_zero (by simpa using hlx)
    subst hx
    have hr := run_append_nil (P := P) w t ty e i z ht hi hz ad m c news hl hc (by omega) (by omega) (by have hb := hbytes; simp only [Nat.zero_add] at hb; omega)
    simp only [Nat.zero_add, List.nil_append, Array.empty_append] at own gr ⊢
    exact ⟨_, _, hr, own, gr⟩
  | some b =>
    have holds : ∀ j u, xs[j]? = some u → w.cell? (b.add j) = some u := by
      intro j u hj
      rcases Nat.eq_zero_or_pos n with hn | hn
      · subst hn
        have hx : xs = [] := List.eq_nil_of_length_eq_zero (by simpa using hlx)
        subst hx; simp at hj
      · obtain ⟨ad', e', hc'⟩ := hAx hn
        cases e'
        exact hc' j u hj
    have hr := run_append_grow (P := P) w t ty e i z ht hi hz b n n xs hlx holds ad m c news hl hc (by omega) (by omega) (growslice_fits (by omega) hbytes)
    exact ⟨_, _, hr, own, gr⟩

end

/-! ### a row of small integers in a block of the call's own, as a function -/
def updN (f : Nat → Nat) (i x : Nat) : Nat → Nat := fun k => if k = i then x else f k
def rowA (n : Nat) (f : Nat → Nat) : Array Value := ((List.range n).map fun i => Value.int .i64 (f i)).toArray
@[go_sem] theorem rowA_size (n : Nat) (f : Nat → Nat) : (rowA n f).size = n := by simp [rowA]
@[go_sem] theorem rowA_get (n : Nat) (f : Nat → Nat) (i : Nat) (h : i < n) : (rowA n f)[i]? = some (.int .i64 (f i)) := by
  simp [rowA, h]
@[go_sem] theorem rowA_getElem (n : Nat) (f : Nat → Nat) (i : Nat) (h : i < (rowA n f).size) : (rowA n f)[i]'h = .int .i64 (f i) := by
  simp [rowA]
@[go_sem] theorem rowA_set (n : Nat) (f : Nat → Nat) (i x : Nat) (h : i < n) : (rowA n f).setIfInBounds i (.int .i64 x) = rowA n (updN f i x) := by
  unfold rowA updN
  apply Array.ext_getElem?
  intro k
  rw [Array.getElem?_setIfInBounds]
  by_cases hk : k < n
  · by_cases hki : i = k
    · subst hki; simp [h]
    · simp [hk, hki, Ne.symm hki]
  · by_cases hki : i = k
    · omega
    · simp [hk, hki]
@[go_sem] theorem rowA_setS (n : Nat) (f : Nat → Nat) (i x : Nat) (h : i < n) : (rowA n f).setIfInBounds i (.int .i64 (x + 1)) = rowA n (updN f i (x + 1)) := rowA_set n f i (x + 1) h
theorem rowA_zero (n : Nat) : rowA n (fun _ => 0) = Array.replicate n (.int .i64 0) := by
  unfold rowA
  apply Array.ext_getElem?
  intro k
  by_cases hk : k < n <;> simp [hk, Array.getElem?_replicate]

theorem run_make_row {P : Program} (w : World) (t e : TypeId) (bytes : Nat) (ht : P.underlying t = some (.slice e)) (hi : P.knows e (.int .i64 0) 1 bytes) (n : Nat) (hb : bytes * n ≤ 281474976710656) (hn : n ≤ 9223372036854775807) :
    (Instr.makeSlice t (.int .i64 n) (.int .i64 n)).run P w = .ok (.slice (some ⟨w.heap.size, 0, none⟩) n n) (w.alloc (.cells (rowA n fun _ => 0) e)) := by
  obtain ⟨i, hi, hz, hs, rfl⟩ := hi
  have h := run_make (P := P) w t e i (.int .i64 0) ht hi hz .i64 .i64 n n (by omega) (by omega) (by have : ((i.bytes * n : Nat) : Int) ≤ 281474976710656 := (by omega); simpa using this) (by omega)
  rw [h, rowA_zero, hs]
  congr 2
  simp only [Int.toNat_natCast, Nat.mul_one]
  congr 1
  unfold madeCells
  apply Array.ext_getElem?
  intro k
  have h1 : k % 1 = 0 := by omega
  by_cases hk : k < n <;> simp [hk, Array.getElem?_replicate, Value.cells, h1]
section
variable {P : Program} (w : World)
/-- append in a walk, which tells of all other blocks: behind it 'intro v' w' hown hgr' -/
theorem wpList_append_r {ops : Array Oper} {rest : List Oper} {o : Oper} {a : Act} {Q : Exit → Act → World → Prop} (hgd : o.guard = none) (s x : Operand) (t : TypeId)
    (ho : o.op = .call { callee := .builtin .append, args := #[s, x], argTypes := #[t, t] })
    (base : Nat) (e : TypeId) (z : Value) (size bytes : Nat) (ht : P.underlying t = some (.slice e)) (hi : P.knows e z size bytes) (hzs : z.cells.size = size) (hsz : 0 < size)
    (v : Value) (n : Nat) (xs : List Value) (hs : a.eval s = v) (hown : w.ownsRow base e size v n xs)
    (xv : Value) (hx : a.eval x = xv) (m : Nat) (news : List Value) (hsrc : SrcAt w xv m size news) (h1 : ∀ u ∈ news, u.oneCell' = true)
    (h63 : n + m ≤ maxLen) (hbytes : (n + m) * bytes ≤ 140737488355328) (hbase : base ≤ w.heap.size)
    (h : ∀ v' w', w'.ownsRow base e size v' (n + m) (xs ++ news) → w.grownBy w' v.ownBlock → wpList P ops Q rest (a.put o.dst v') w') :
    wpList P ops Q (o :: rest) a w := by
  obtain ⟨i, hi, hz, hsize, hby⟩ := hi
  refine wpList_plain hgd fun K hK => ?_
  obtain ⟨v', w', hr, h2, h3⟩ := run_append_g (P := P) w base t o.type e i z size bytes ht hi hz hsize hby hzs hsz v n xs hown xv m news hsrc h1 h63 hbytes hbase
  unfold Oper.wp execOp
  simp only [ho, resolve, invoke, builtin, Sem.run_bind, Sem.run_pure, Result.andThen_ok, List.map_toArray, List.map_cons, List.map_nil, hs, hx, hr]
  exact hK _ _ (h v' w' h2 h3)
end

/-- a row of another type is not the one appended to -/
theorem World.ownsRow.other {w w' : World} {base base' : Nat} {e e' : TypeId} {size size' : Nat} {v u : Value} {n n' : Nat} {xs ys : List Value}
    (h : w.ownsRow base e size v n xs) (hu : w.ownsRow base' e' size' u n' ys) (hne : e ≠ e') (g : w.grownBy w' u.ownBlock) : w'.ownsRow base e size v n xs := by
  refine h.kept g ?_
  rcases h.2 with ⟨rfl, _⟩ | ⟨b, cap, cur, rfl, _, hgg, _⟩
  · exact .inl rfl
  · right
    rcases hu.2 with ⟨rfl, _⟩ | ⟨b', cap', cur', rfl, _, hgg', _⟩
    · simp [Value.ownBlock]
    · simp only [Value.ownBlock, ne_eq, Option.some.injEq]
      rintro rfl
      rw [hgg] at hgg'
      cases hgg'
      exact hne rfl
end Go

