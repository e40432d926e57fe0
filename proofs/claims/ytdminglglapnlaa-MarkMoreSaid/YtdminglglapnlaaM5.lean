/-
  What is proved: maps whose keys are arrays or structs, as lists of keys, numbers and stamps.
-/
import Derived.Test.YtdminglglapnlaaM3
import Derived.WideKeyRuns
import Derived.WideKeyEntry
import Derived.Test.YtdminglglapnlaaM4
import Derived.Lib.Hide
import Derived.Test.YtdminglglapnlaaM2
set_option linter.all false
namespace Go
open Go.RowKit

/-! ### blocks through layers -/
theorem World.grows.heap {w w' : World} (g : w.grows w') {b : Nat} (h : (w.heap[b]?).isSome = true) : w'.heap[b]? = w.heap[b]? := by
  cases ho : w.heap[b]? with
  | none => rw [ho] at h; cases h
  | some o => rw [g.block b (World.lt_of_block ho), ho]
@[go_sem] theorem World.heap_a (w : World) (o : Obj) (b : Nat) (h : (w.heap[b]?).isSome = true) : (w.alloc o).heap[b]? = w.heap[b]? := ((World.grows.refl w).alloc o).heap h
@[go_sem] theorem World.heap_at (w : World) (o : Obj) (b : Nat) (h : b = w.heap.size) : (w.alloc o).heap[b]? = some o := by subst h; exact heap_alloc_new w o
@[go_sem] theorem World.heap_drew (w : World) (b : Nat) : w.drew.heap[b]? = w.heap[b]? := rfl
@[go_sem] theorem World.heap_setCell_map (w : World) (a : Addr) (v : Value) (b : Nat) (h : a.block ≠ b) : (w.setCell a v).heap[b]? = w.heap[b]? := by
  exact Below.heap_setCell w a v b (fun e => h e.symm)
/-- a store into a block that is there, by what lies there -/
@[go_sem] theorem World.putObj_plus' (w : World) (n : Nat) (x : World) (b : Nat) (o : Obj) (h : (w.heap[b]?).isSome = true) : (w.plus n x).putObj b o = (w.putObj b o).plus n (w.putIn n x b o) := by
  cases ho : w.heap[b]? with
  | none => rw [ho] at h; cases h
  | some o' => exact World.putObj_plus w n x b o (World.lt_of_block ho)
@[go_sem] theorem World.putObj_alloc_is (w : World) (o o' : Obj) (b : Nat) (h : (w.heap[b]?).isSome = true) : (w.alloc o).putObj b o' = (w.putObj b o').alloc o := by
  cases ho : w.heap[b]? with
  | none => rw [ho] at h; cases h
  | some o1 => exact World.putObj_alloc_lt w o o' b (World.lt_of_block ho)
@[go_sem] theorem World.putObj_drew (w : World) (b : Nat) (o : Obj) : w.drew.putObj b o = (w.putObj b o).drew := rfl

@[go_sem] theorem World.heap_aa' (w : World) (o0 : Obj) (o1 : Obj) (b : Nat) (h : (w.heap[b]?).isSome = true) : ((w.alloc o0).alloc o1).heap[b]? = w.heap[b]? := (((World.grows.refl w).alloc _).alloc _).heap h
@[go_sem] theorem World.heap_ap' (w : World) (n0 : Nat) (x0 : World) (o1 : Obj) (b : Nat) (h : (w.heap[b]?).isSome = true) : ((w.plus n0 x0).alloc o1).heap[b]? = w.heap[b]? := (((World.grows.refl w).plus _ _).alloc _).heap h
@[go_sem] theorem World.heap_pa' (w : World) (o0 : Obj) (n1 : Nat) (x1 : World) (b : Nat) (h : (w.heap[b]?).isSome = true) : ((w.alloc o0).plus n1 x1).heap[b]? = w.heap[b]? := (((World.grows.refl w).alloc _).plus _ _).heap h
@[go_sem] theorem World.heap_pp' (w : World) (n0 : Nat) (x0 : World) (n1 : Nat) (x1 : World) (b : Nat) (h : (w.heap[b]?).isSome = true) : ((w.plus n0 x0).plus n1 x1).heap[b]? = w.heap[b]? := (((World.grows.refl w).plus _ _).plus _ _).heap h
@[go_sem] theorem World.heap_aaa' (w : World) (o0 : Obj) (o1 : Obj) (o2 : Obj) (b : Nat) (h : (w.heap[b]?).isSome = true) : (((w.alloc o0).alloc o1).alloc o2).heap[b]? = w.heap[b]? := ((((World.grows.refl w).alloc _).alloc _).alloc _).heap h
@[go_sem] theorem World.heap_aap' (w : World) (n0 : Nat) (x0 : World) (o1 : Obj) (o2 : Obj) (b : Nat) (h : (w.heap[b]?).isSome = true) : (((w.plus n0 x0).alloc o1).alloc o2).heap[b]? = w.heap[b]? := ((((World.grows.refl w).plus _ _).alloc _).alloc _).heap h
@[go_sem] theorem World.heap_apa' (w : World) (o0 : Obj) (n1 : Nat) (x1 : World) (o2 : Obj) (b : Nat) (h : (w.heap[b]?).isSome = true) : (((w.alloc o0).plus n1 x1).alloc o2).heap[b]? = w.heap[b]? := ((((World.grows.refl w).alloc _).plus _ _).alloc _).heap h
@[go_sem] theorem World.heap_app' (w : World) (n0 : Nat) (x0 : World) (n1 : Nat) (x1 : World) (o2 : Obj) (b : Nat) (h : (w.heap[b]?).isSome = true) : (((w.plus n0 x0).plus n1 x1).alloc o2).heap[b]? = w.heap[b]? := ((((World.grows.refl w).plus _ _).plus _ _).alloc _).heap h
@[go_sem] theorem World.heap_paa' (w : World) (o0 : Obj) (o1 : Obj) (n2 : Nat) (x2 : World) (b : Nat) (h : (w.heap[b]?).isSome = true) : (((w.alloc o0).alloc o1).plus n2 x2).heap[b]? = w.heap[b]? := ((((World.grows.refl w).alloc _).alloc _).plus _ _).heap h
@[go_sem] theorem World.heap_pap' (w : World) (n0 : Nat) (x0 : World) (o1 : Obj) (n2 : Nat) (x2 : World) (b : Nat) (h : (w.heap[b]?).isSome = true) : (((w.plus n0 x0).alloc o1).plus n2 x2).heap[b]? = w.heap[b]? := ((((World.grows.refl w).plus _ _).alloc _).plus _ _).heap h
@[go_sem] theorem World.heap_ppa' (w : World) (o0 : Obj) (n1 : Nat) (x1 : World) (n2 : Nat) (x2 : World) (b : Nat) (h : (w.heap[b]?).isSome = true) : (((w.alloc o0).plus n1 x1).plus n2 x2).heap[b]? = w.heap[b]? := ((((World.grows.refl w).alloc _).plus _ _).plus _ _).heap h
@[go_sem] theorem World.heap_ppp' (w : World) (n0 : Nat) (x0 : World) (n1 : Nat) (x1 : World) (n2 : Nat) (x2 : World) (b : Nat) (h : (w.heap[b]?).isSome = true) : (((w.plus n0 x0).plus n1 x1).plus n2 x2).heap[b]? = w.heap[b]? := ((((World.grows.refl w).plus _ _).plus _ _).plus _ _).heap h
@[go_sem] theorem World.heap_aaaa' (w : World) (o0 : Obj) (o1 : Obj) (o2 : Obj) (o3 : Obj) (b : Nat) (h : (w.heap[b]?).isSome = true) : ((((w.alloc o0).alloc o1).alloc o2).alloc o3).heap[b]? = w.heap[b]? := (((((World.grows.refl w).alloc _).alloc _).alloc _).alloc _).heap h
@[go_sem] theorem World.heap_aaap' (w : World) (n0 : Nat) (x0 : World) (o1 : Obj) (o2 : Obj) (o3 : Obj) (b : Nat) (h : (w.heap[b]?).isSome = true) : ((((w.plus n0 x0).alloc o1).alloc o2).alloc o3).heap[b]? = w.heap[b]? := (((((World.grows.refl w).plus _ _).alloc _).alloc _).alloc _).heap h
@[go_sem] theorem World.heap_aapa' (w : World) (o0 : Obj) (n1 : Nat) (x1 : World) (o2 : Obj) (o3 : Obj) (b : Nat) (h : (w.heap[b]?).isSome = true) : ((((w.alloc o0).plus n1 x1).alloc o2).alloc o3).heap[b]? = w.heap[b]? := (((((World.grows.refl w).alloc _).plus _ _).alloc _).alloc _).heap h
@[go_sem] theorem World.heap_aapp' (w : World) (n0 : Nat) (x0 : World) (n1 : Nat) (x1 : World) (o2 : Obj) (o3 : Obj) (b : Nat) (h : (w.heap[b]?).isSome = true) : ((((w.plus n0 x0).plus n1 x1).alloc o2).alloc o3).heap[b]? = w.heap[b]? := (((((World.grows.refl w).plus _ _).plus _ _).alloc _).alloc _).heap h
@[go_sem] theorem World.heap_apaa' (w : World) (o0 : Obj) (o1 : Obj) (n2 : Nat) (x2 : World) (o3 : Obj) (b : Nat) (h : (w.heap[b]?).isSome = true) : ((((w.alloc o0).alloc o1).plus n2 x2).alloc o3).heap[b]? = w.heap[b]? := (((((World.grows.refl w).alloc _).alloc _).plus _ _).alloc _).heap h
@[go_sem] theorem World.heap_apap' (w : World) (n0 : Nat) (x0 : World) (o1 : Obj) (n2 : Nat) (x2 : World) (o3 : Obj) (b : Nat) (h : (w.heap[b]?).isSome = true) : ((((w.plus n0 x0).alloc o1).plus n2 x2).alloc o3).heap[b]? = w.heap[b]? := (((((World.grows.refl w).plus _ _).alloc _).plus _ _).alloc _).heap h
@[go_sem] theorem World.heap_appa' (w : World) (o0 : Obj) (n1 : Nat) (x1 : World) (n2 : Nat) (x2 : World) (o3 : Obj) (b : Nat) (h : (w.heap[b]?).isSome = true) : ((((w.alloc o0).plus n1 x1).plus n2 x2).alloc o3).heap[b]? = w.heap[b]? := (((((World.grows.refl w).alloc _).plus _ _).plus _ _).alloc _).heap h
@[go_sem] theorem World.heap_appp' (w : World) (n0 : Nat) (x0 : World) (n1 : Nat) (x1 : World) (n2 : Nat) (x2 : World) (o3 : Obj) (b : Nat) (h : (w.heap[b]?).isSome = true) : ((((w.plus n0 x0).plus n1 x1).plus n2 x2).alloc o3).heap[b]? = w.heap[b]? := (((((World.grows.refl w).plus _ _).plus _ _).plus _ _).alloc _).heap h
@[go_sem] theorem World.heap_paaa' (w : World) (o0 : Obj) (o1 : Obj) (o2 : Obj) (n3 : Nat) (x3 : World) (b : Nat) (h : (w.heap[b]?).isSome = true) : ((((w.alloc o0).alloc o1).alloc o2).plus n3 x3).heap[b]? = w.heap[b]? := (((((World.grows.refl w).alloc _).alloc _).alloc _).plus _ _).heap h
@[go_sem] theorem World.heap_paap' (w : World) (n0 : Nat) (x0 : World) (o1 : Obj) (o2 : Obj) (n3 : Nat) (x3 : World) (b : Nat) (h : (w.heap[b]?).isSome = true) : ((((w.plus n0 x0).alloc o1).alloc o2).plus n3 x3).heap[b]? = w.heap[b]? := (((((World.grows.refl w).plus _ _).alloc _).alloc _).plus _ _).heap h
@[go_sem] theorem World.heap_papa' (w : World) (o0 : Obj) (n1 : Nat) (x1 : World) (o2 : Obj) (n3 : Nat) (x3 : World) (b : Nat) (h : (w.heap[b]?).isSome = true) : ((((w.alloc o0).plus n1 x1).alloc o2).plus n3 x3).heap[b]? = w.heap[b]? := (((((World.grows.refl w).alloc _).plus _ _).alloc _).plus _ _).heap h
@[go_sem] theorem World.heap_papp' (w : World) (n0 : Nat) (x0 : World) (n1 : Nat) (x1 : World) (o2 : Obj) (n3 : Nat) (x3 : World) (b : Nat) (h : (w.heap[b]?).isSome = true) : ((((w.plus n0 x0).plus n1 x1).alloc o2).plus n3 x3).heap[b]? = w.heap[b]? := (((((World.grows.refl w).plus _ _).plus _ _).alloc _).plus _ _).heap h
@[go_sem] theorem World.heap_ppaa' (w : World) (o0 : Obj) (o1 : Obj) (n2 : Nat) (x2 : World) (n3 : Nat) (x3 : World) (b : Nat) (h : (w.heap[b]?).isSome = true) : ((((w.alloc o0).alloc o1).plus n2 x2).plus n3 x3).heap[b]? = w.heap[b]? := (((((World.grows.refl w).alloc _).alloc _).plus _ _).plus _ _).heap h
@[go_sem] theorem World.heap_ppap' (w : World) (n0 : Nat) (x0 : World) (o1 : Obj) (n2 : Nat) (x2 : World) (n3 : Nat) (x3 : World) (b : Nat) (h : (w.heap[b]?).isSome = true) : ((((w.plus n0 x0).alloc o1).plus n2 x2).plus n3 x3).heap[b]? = w.heap[b]? := (((((World.grows.refl w).plus _ _).alloc _).plus _ _).plus _ _).heap h
@[go_sem] theorem World.heap_pppa' (w : World) (o0 : Obj) (n1 : Nat) (x1 : World) (n2 : Nat) (x2 : World) (n3 : Nat) (x3 : World) (b : Nat) (h : (w.heap[b]?).isSome = true) : ((((w.alloc o0).plus n1 x1).plus n2 x2).plus n3 x3).heap[b]? = w.heap[b]? := (((((World.grows.refl w).alloc _).plus _ _).plus _ _).plus _ _).heap h
@[go_sem] theorem World.heap_pppp' (w : World) (n0 : Nat) (x0 : World) (n1 : Nat) (x1 : World) (n2 : Nat) (x2 : World) (n3 : Nat) (x3 : World) (b : Nat) (h : (w.heap[b]?).isSome = true) : ((((w.plus n0 x0).plus n1 x1).plus n2 x2).plus n3 x3).heap[b]? = w.heap[b]? := (((((World.grows.refl w).plus _ _).plus _ _).plus _ _).plus _ _).heap h

/-! ### the maps -/
structure PM (K : Type) where
  l : List (K × Int × Nat)
  clock : Nat

section
variable {K : Type} [DecidableEq K]

def PM.ents (eK : K → Value) (l : List (K × Int × Nat)) : List MapEntry := l.map fun x => ⟨eK x.1, .int .i64 x.2.1, x.2.2⟩
def PM.obj (eK : K → Value) (m : PM K) : Obj := .map (PM.ents eK m.l).toArray m.clock
def PM.empty (K : Type) : PM K := ⟨[], 0⟩

structure PM.Ok (m : PM K) : Prop where
  keys : (m.l.map (·.1)).Nodup
  born : (m.l.map (·.2.2)).Pairwise (· < ·)
  clock : ∀ x ∈ m.l, x.2.2 < m.clock

def PM.fnd : List (K × Int × Nat) → K → Nat → Option (Nat × Int)
  | [], _, _ => none
  | x :: r, k, i => if k = x.1 then some (i, x.2.1) else PM.fnd r k (i + 1)
def PM.get (m : PM K) (k : K) : Option Int := (PM.fnd m.l k 0).map (·.2)
def PM.getD (m : PM K) (k : K) : Int := (m.get k).getD 0
def PM.put : List (K × Int × Nat) → K → Int → List (K × Int × Nat)
  | [], _, _ => []
  | x :: r, k, v => if k = x.1 then (x.1, v, x.2.2) :: r else x :: PM.put r k v
def PM.set (m : PM K) (k : K) (v : Int) : PM K :=
  if (m.get k).isSome then ⟨PM.put m.l k v, m.clock⟩ else ⟨m.l ++ [(k, v, m.clock)], m.clock + 1⟩
def PM.cut : List (K × Int × Nat) → K → List (K × Int × Nat)
  | [], _ => []
  | x :: r, k => if k = x.1 then r else x :: PM.cut r k
def PM.del (m : PM K) (k : K) : PM K := ⟨PM.cut m.l k, m.clock⟩

/-- what a key's type must be -/
structure KeyOk (P : Program) (kT : TypeId) (eK : K → Value) : Prop where
  wide : (match P.underlying kT with | some (.array _ _) | some (.struct _) => true | _ => false) = true
  eq : ∀ a b w, (Op.equal kT (eK a) (eK b)).run P w = .ok (decide (a = b)) w
  chk : ∀ em a w, (Instr.checkKey em 10000 kT (eK a)).run P w = .ok () w
  bits : ∀ a, Instr.sameBits 10000 (eK a) (eK a) = true

variable {P : Program} {kT T eT : TypeId} {eK : K → Value}

theorem run_findAsking_pm (hk : KeyOk P kT eK) (k : K) (w : World) : ∀ (l : List (K × Int × Nat)) (i : Nat),
    (Instr.findAsking kT (eK k) (PM.ents eK l) i).run P w = .ok ((PM.fnd l k i).map fun p => (p.1, Value.int .i64 p.2)) w
  | [], i => by simp [PM.ents, Instr.findAsking, PM.fnd]
  | x :: r, i => by
    have ih := run_findAsking_pm hk k w r (i + 1)
    simp only [PM.ents, List.map_cons, Instr.findAsking, Sem.run_bind, hk.eq, Result.andThen, PM.fnd] at ih ⊢
    by_cases h : k = x.1
    · simp [h]
    · simp only [h, decide_false, Bool.false_eq_true, if_false]
      exact ih

theorem run_findKey_pm (hk : KeyOk P kT eK) (k : K) (w : World) (l : List (K × Int × Nat)) :
    (Instr.findKey kT (eK k) (PM.ents eK l)).run P w = .ok ((PM.fnd l k 0).map fun p => (p.1, Value.int .i64 p.2)) w := by
  rw [run_findKey_eq w hk.wide]
  exact run_findAsking_pm hk k w l 0

theorem run_lookup_pm (hk : KeyOk P kT eK) (hT : P.underlying T = some (.map kT eT)) (hz : ∀ w, (zeroValue eT).run P w = .ok (.int .i64 0) w) (m : PM K) (b : Nat) (w : World)
    (hb : w.heap[b]? = some (m.obj eK)) (k : K) : (Instr.lookup T (.map (some b)) (eK k) false).run P w = .ok (.int .i64 (m.getD k)) w := by
  have hb' : w.heap[b]? = some (.map (PM.ents eK m.l).toArray m.clock) := hb
  simp only [Instr.lookup, Sem.run_bind, run_underlying hT, Result.andThen, MapKept.run_getObj_map hb', Sem.run_pure, hk.chk, run_findKey_pm hk]
  unfold PM.getD PM.get
  cases PM.fnd m.l k 0 with
  | none => simp [hz]
  | some p => simp

theorem run_lookup_ok_pm (hk : KeyOk P kT eK) (hT : P.underlying T = some (.map kT eT)) (hz : ∀ w, (zeroValue eT).run P w = .ok (.int .i64 0) w) (m : PM K) (b : Nat) (w : World)
    (hb : w.heap[b]? = some (m.obj eK)) (k : K) : (Instr.lookup T (.map (some b)) (eK k) true).run P w = .ok (.tuple #[.int .i64 (m.getD k), .bool (m.get k).isSome]) w := by
  have hb' : w.heap[b]? = some (.map (PM.ents eK m.l).toArray m.clock) := hb
  simp only [Instr.lookup, Sem.run_bind, run_underlying hT, Result.andThen, MapKept.run_getObj_map hb', Sem.run_pure, hk.chk, run_findKey_pm hk]
  unfold PM.getD PM.get
  cases PM.fnd m.l k 0 with
  | none => simp [hz]
  | some p => simp

theorem PM.fnd_spec : ∀ (l : List (K × Int × Nat)) (k : K) (i j : Nat) (v : Int), PM.fnd l k i = some (j, v) → i ≤ j ∧ ∃ b, l[j - i]? = some (k, v, b)
  | [], _, _, _, _, h => by simp [PM.fnd] at h
  | x :: r, k, i, j, v, h => by
    simp only [PM.fnd] at h
    split at h
    · rename_i hk
      simp only [Option.some.injEq, Prod.mk.injEq] at h
      obtain ⟨rfl, rfl⟩ := h
      subst hk
      exact ⟨Nat.le_refl _, x.2.2, by simp⟩
    · obtain ⟨h1, b, h2⟩ := PM.fnd_spec r k (i + 1) j v h
      refine ⟨by omega, b, ?_⟩
      rw [show j - i = (j - (i + 1)) + 1 by omega, List.getElem?_cons_succ]
      exact h2

theorem PM.put_modify (v : Int) : ∀ (l : List (K × Int × Nat)) (k : K) (i j : Nat) (u : Int), PM.fnd l k i = some (j, u) →
    (PM.ents eK l).modify (j - i) (fun e => { e with key := eK k, val := .int .i64 v }) = PM.ents eK (PM.put l k v)
  | [], _, _, _, _, h => by simp [PM.fnd] at h
  | x :: r, k, i, j, u, h => by
    have hs := PM.fnd_spec (x :: r) k i j u h
    simp only [PM.fnd] at h
    split at h
    · rename_i hk
      simp only [Option.some.injEq, Prod.mk.injEq] at h
      obtain ⟨rfl, rfl⟩ := h
      simp [PM.put, hk, PM.ents]
    · rename_i hk
      have h1 := (PM.fnd_spec r k (i + 1) j u h).1
      have ih := PM.put_modify v r k (i + 1) j u h
      rw [show j - i = (j - (i + 1)) + 1 by omega]
      simp only [PM.put, hk, if_false, PM.ents, List.map_cons, List.modify_succ_cons] at ih ⊢
      rw [ih]

theorem run_mapUpdate_pm (hk : KeyOk P kT eK) (hT : P.underlying T = some (.map kT eT)) (m : PM K) (b : Nat) (w : World)
    (hb : w.heap[b]? = some (m.obj eK)) (k : K) (v : Int) : (Instr.mapUpdate T (.map (some b)) (eK k) (.int .i64 v)).run P w = .ok () (w.putObj b ((m.set k v).obj eK)) := by
  have hb' : w.heap[b]? = some (.map (PM.ents eK m.l).toArray m.clock) := hb
  have hset : ∀ o, (setObj b o).run P w = .ok () (w.putObj b o) := fun o => by simp [setObj, Sem.run, hb', World.putObj]
  simp only [Instr.mapUpdate, Sem.run_bind, run_underlying hT, Result.andThen, MapKept.run_getObj_map hb', hk.chk, run_findKey_pm hk]
  cases hf : PM.fnd m.l k 0 with
  | none =>
    have hg : (m.get k).isSome = false := by simp [PM.get, hf]
    simp only [Option.map_none, hset, PM.set, hg, Bool.false_eq_true, if_false, PM.obj, PM.ents, List.map_append, List.map_cons, List.map_nil]
    simp
  | some p =>
    obtain ⟨j, u⟩ := p
    have hg : (m.get k).isSome = true := by simp [PM.get, hf]
    obtain ⟨_, bn, hat⟩ := PM.fnd_spec m.l k 0 j u hf
    rw [Nat.sub_zero] at hat
    have hk0 : (((PM.ents eK m.l).toArray)[j]?.map (·.key)).getD (eK k) = eK k := by simp [PM.ents, hat]
    have hm := PM.put_modify (eK := eK) v m.l k 0 j u hf
    rw [Nat.sub_zero] at hm
    simp only [Option.map_some, Instr.keyThatStays, hk0, hk.bits, if_true, Sem.run_pure, Sem.run_bind, Result.andThen, hset, PM.set, hg, PM.obj]
    rw [List.modify_toArray, hm]

theorem PM.cut_erase : ∀ (l : List (K × Int × Nat)) (k : K) (i j : Nat) (u : Int), PM.fnd l k i = some (j, u) → (PM.ents eK l).eraseIdx (j - i) = PM.ents eK (PM.cut l k)
  | [], _, _, _, _, h => by simp [PM.fnd] at h
  | x :: r, k, i, j, u, h => by
    simp only [PM.fnd] at h
    split at h
    · rename_i hk
      simp only [Option.some.injEq, Prod.mk.injEq] at h
      obtain ⟨rfl, rfl⟩ := h
      simp [PM.cut, hk, PM.ents]
    · rename_i hk
      have h1 := (PM.fnd_spec r k (i + 1) j u h).1
      have ih := PM.cut_erase r k (i + 1) j u h
      rw [show j - i = (j - (i + 1)) + 1 by omega]
      simp only [PM.cut, hk, if_false, PM.ents, List.map_cons, List.eraseIdx_cons_succ] at ih ⊢
      rw [ih]
theorem PM.cut_none : ∀ (l : List (K × Int × Nat)) (k : K) (i : Nat), PM.fnd l k i = none → PM.cut l k = l
  | [], _, _, _ => rfl
  | x :: r, k, i, h => by
    simp only [PM.fnd] at h
    split at h
    · cases h
    · rename_i hk; simp [PM.cut, hk, PM.cut_none r k (i + 1) h]

theorem run_delete_pm (hk : KeyOk P kT eK) (hT : P.underlying T = some (.map kT eT)) (m : PM K) (b : Nat) (w : World) (ty T2 : TypeId)
    (hb : w.heap[b]? = some (m.obj eK)) (k : K) : (Builtin.delete_ #[T, T2] ty #[.map (some b), eK k]).run P w = .ok (.tuple #[]) (w.putObj b ((m.del k).obj eK)) := by
  have hb' : w.heap[b]? = some (.map (PM.ents eK m.l).toArray m.clock) := hb
  have hset : ∀ o, (setObj b o).run P w = .ok () (w.putObj b o) := fun o => by simp [setObj, Sem.run, hb', World.putObj]
  simp only [Builtin.delete_, List.getElem?_toArray, List.getElem?_cons_zero, List.getElem?_cons_succ, Sem.run_bind, run_underlying hT, Result.andThen, MapKept.run_getObj_map hb', hk.chk, run_findKey_pm hk]
  cases hf : PM.fnd m.l k 0 with
  | none =>
    simp only [Option.map_none, hset, PM.del, PM.obj, PM.cut_none m.l k 0 hf, Sem.run_bind, Result.andThen, Sem.run_pure]
  | some p =>
    obtain ⟨j, u⟩ := p
    obtain ⟨_, bn, hat⟩ := PM.fnd_spec m.l k 0 j u hf
    rw [Nat.sub_zero] at hat
    have hlt : j < (PM.ents eK m.l).length := by
      have := (List.getElem?_eq_some_iff.1 hat).1
      simpa [PM.ents] using this
    have hc := PM.cut_erase (eK := eK) m.l k 0 j u hf
    rw [Nat.sub_zero] at hc
    simp only [Option.map_some, hset, PM.del, PM.obj, Sem.run_bind, Result.andThen, Sem.run_pure, Array.eraseIdxIfInBounds, List.size_toArray, hlt, dif_pos, List.eraseIdx_toArray, hc]


omit [DecidableEq K] in
theorem run_range_pm (hT : P.underlying T = some (.map kT eT)) (m : PM K) (b : Nat) (w : World) (hb : w.heap[b]? = some (m.obj eK)) :
    (Instr.range T (.map (some b))).run P w = .ok (.pointer (some ⟨w.heap.size, 0, none⟩)) (w.alloc (.mapIter (some b) m.clock #[] m.clock)) :=
  run_range_map w T kT eT b _ _ hT hb

/-- the entries that have not come yet -/
def PM.left (m : PM K) (seen : Array Nat) : List (K × Int × Nat) := m.l.filter fun x => !seen.contains x.2.2

omit [DecidableEq K] in
theorem run_next_pm (m : PM K) (hm : m.Ok) (b r : Nat) (seen : Array Nat) (ty : TypeId) (w : World) (hb : w.heap[b]? = some (m.obj eK)) (hr : w.heap[r]? = some (.mapIter (some b) m.clock seen m.clock)) :
    (m.left seen = [] ∧ (Instr.next (.pointer (some ⟨r, 0, none⟩)) false ty).run P w = .ok (.tuple #[.bool false]) w) ∨
    ∃ x ∈ m.left seen, ∃ w1 : World, (w1 = w ∨ w1 = w.drew) ∧ (Instr.next (.pointer (some ⟨r, 0, none⟩)) false ty).run P w =
      .ok (.tuple #[.bool true, eK x.1, .int .i64 x.2.1]) (w1.putObj r (.mapIter (some b) m.clock (seen.push x.2.2) m.clock)) := by
  have hb' : w.heap[b]? = some (.map (PM.ents eK m.l).toArray m.clock) := hb
  have hold : ∀ x ∈ (PM.ents eK m.l).toArray.toList, x.born < m.clock := fun x hx => by
    simp only [PM.ents, List.mem_map] at hx
    obtain ⟨y, hy, rfl⟩ := hx
    exact hm.clock y hy
  simp only [Instr.next, getObj, Sem.run_bind, Sem.run, hr, hb', Result.andThen, next_test_false seen _ _ _ hold (Nat.le_refl _), Bool.false_eq_true, if_false]
  have hL : Array.filter (fun e : MapEntry => !seen.contains e.born) (PM.ents eK m.l).toArray = (PM.ents eK (m.left seen)).toArray := by
    rw [List.filter_toArray, PM.left, PM.ents, PM.ents, List.filter_map]
    rfl
  rw [hL]
  have hmem : ∀ x ∈ (PM.ents eK (m.left seen)).toArray, x.born < m.clock := fun x hx => by
    refine hold x ?_
    simp only [PM.ents, List.mem_toArray, List.mem_map, PM.left, List.mem_filter] at hx ⊢
    obtain ⟨y, hy, rfl⟩ := hx
    exact ⟨y, hy.1, rfl⟩
  have e1 : (PM.ents eK (m.left seen)).toArray.filter (fun x => decide (x.born < m.clock)) = (PM.ents eK (m.left seen)).toArray := Array.filter_eq_self.2 (fun x hx => by simpa using hmem x hx)
  have e2 : (PM.ents eK (m.left seen)).toArray.filter (fun x => decide (x.born ≥ m.clock)) = #[] := by
    rw [Array.filter_eq_empty_iff]
    intro x hx
    have := hmem x hx
    simp
    omega
  simp only [e1, e2, Array.append_empty]
  cases hl : m.left seen with
  | nil =>
    left
    refine ⟨rfl, ?_⟩
    simp [PM.ents, choose, Sem.run, Question.forced]
  | cons y ys =>
    right
    have hch : ∃ (j : Nat) (w1 : World), j < (y :: ys).length ∧ (w1 = w ∨ w1 = w.drew) ∧ (choose (Question.mapNext (y :: ys).length)).run P w = .ok j w1 := by
      by_cases hf : (y :: ys).length ≤ 1
      · exact ⟨0, w, by simp, .inl rfl, by simp [choose, Sem.run, Question.forced] at hf ⊢; simp [hf]⟩
      · exact ⟨_, w.drew, Nat.mod_lt _ (by simp), .inr rfl, by
          simp only [choose, Sem.run, Question.forced, decide_eq_true_eq, hf, if_false, Question.cut]
          rfl⟩
    obtain ⟨j, w1, hj, hal, hrun⟩ := hch
    have hlen : (PM.ents eK (y :: ys)).length = (y :: ys).length := by simp [PM.ents]
    refine ⟨(y :: ys)[j], List.getElem_mem hj, w1, hal, ?_⟩
    have hne : (PM.ents eK (y :: ys)).toArray.isEmpty = false := by simp [PM.ents, Array.isEmpty]
    have hset : ∀ o, (setObj r o).run P w1 = .ok () (w1.putObj r o) := fun o => by
      have : w1.heap[r]? = some (.mapIter (some b) m.clock seen m.clock) := by rcases hal with rfl | rfl <;> exact hr
      simp [setObj, Sem.run, this, World.putObj]
    simp only [hne, Bool.false_eq_true, if_false, Array.empty_append, Array.size_map, List.size_toArray, hlen, hrun, Sem.run_bind, Result.andThen]
    have hget : (Array.map some (PM.ents eK (y :: ys)).toArray)[j]? = some (some ⟨eK (y :: ys)[j].1, .int .i64 (y :: ys)[j].2.1, (y :: ys)[j].2.2⟩) := by
      have h1 : (PM.ents eK (y :: ys))[j]? = some ⟨eK (y :: ys)[j].1, .int .i64 (y :: ys)[j].2.1, (y :: ys)[j].2.2⟩ := by
        unfold PM.ents
        rw [List.getElem?_map, List.getElem?_eq_getElem hj]
        rfl
      rw [Array.getElem?_map, List.getElem?_toArray, h1]
      rfl
    simp only [hget, Sem.run_bind, hset, Result.andThen, Sem.run_pure]

omit [DecidableEq K] in
theorem run_entry_pm (m : PM K) (hm : m.Ok) (b r c : Nat) (seen : Array Nat) (w : World) (hb : w.heap[b]? = some (m.obj eK)) (x : K × Int × Nat) (hx : x ∈ m.l)
    (hr : w.heap[r]? = some (.mapIter (some b) c (seen.push x.2.2) m.clock)) :
    (Instr.entry (.pointer (some ⟨r, 0, none⟩))).run P w = .ok (.tuple #[eK x.1, .int .i64 x.2.1]) w := by
  have hb' : w.heap[b]? = some (.map (PM.ents eK m.l).toArray m.clock) := hb
  have hf : (PM.ents eK m.l).find? (fun e => e.born == x.2.2) = some ⟨eK x.1, .int .i64 x.2.1, x.2.2⟩ := by
    refine find_born ⟨eK x.1, .int .i64 x.2.1, x.2.2⟩ _ ?_ (List.mem_map.2 ⟨x, hx, rfl⟩)
    have : (PM.ents eK m.l).map (·.born) = m.l.map (·.2.2) := by simp [PM.ents]
    rw [this]
    exact hm.born.imp (fun h => Nat.ne_of_lt h)
  simp only [Instr.entry, getObj, Sem.run_bind, Sem.run, hr, hb', Result.andThen, Array.back?_push]
  simp [hf]

end
end Go

/-
  What is proved: the entry of a map that is read, changed and stored ('m[k] += v'); plain laws of the lists that maps are.
-/
namespace Go
open Go.RowKit

section
variable {K : Type} [DecidableEq K]

theorem PM.fnd_none_iff : ∀ (l : List (K × Int × Nat)) (k : K) (i : Nat), PM.fnd l k i = none ↔ k ∉ l.map (·.1)
  | [], _, _ => by simp [PM.fnd]
  | x :: r, k, i => by
    simp only [PM.fnd]
    by_cases h : k = x.1
    · simp [h]
    · simp only [h, if_false, List.map_cons, List.mem_cons, false_or]
      exact PM.fnd_none_iff r k (i + 1)
theorem PM.fnd_shift : ∀ (l : List (K × Int × Nat)) (k : K) (i j : Nat), (PM.fnd l k i).map (·.2) = (PM.fnd l k j).map (·.2)
  | [], _, _, _ => rfl
  | x :: r, k, i, j => by
    simp only [PM.fnd]
    by_cases h : k = x.1
    · simp [h]
    · simp only [h, if_false]
      exact PM.fnd_shift r k _ _
theorem PM.fnd_append : ∀ (l r : List (K × Int × Nat)) (k : K) (i : Nat), PM.fnd (l ++ r) k i = match PM.fnd l k i with | some p => some p | none => PM.fnd r k (i + l.length)
  | [], r, k, i => by simp [PM.fnd]
  | x :: l, r, k, i => by
    simp only [List.cons_append, PM.fnd]
    by_cases h : k = x.1
    · simp [h]
    · simp only [h, if_false]
      rw [PM.fnd_append l r k (i + 1), List.length_cons, show i + 1 + l.length = i + (l.length + 1) by omega]
theorem PM.fnd_put (v : Int) : ∀ (l : List (K × Int × Nat)) (k j : K) (i : Nat), (PM.fnd (PM.put l k v) j i).map (·.2) = if j = k ∧ (PM.fnd l k i).isSome then some v else (PM.fnd l j i).map (·.2)
  | [], k, j, i => by simp [PM.put, PM.fnd]
  | x :: r, k, j, i => by
    have ih := PM.fnd_put v r k j (i + 1)
    simp only [PM.put, PM.fnd]
    by_cases h : k = x.1
    · subst h
      by_cases h2 : j = x.1
      · subst h2; simp [PM.fnd]
      · simp [PM.fnd, h2]
    · simp only [h, if_false, PM.fnd]
      by_cases h2 : j = x.1
      · subst h2
        simp [Ne.symm h]
      · simp only [h2, if_false]
        exact ih

theorem PM.get_set (m : PM K) (k j : K) (v : Int) : (m.set k v).get j = if j = k then some v else m.get j := by
  unfold PM.set
  split
  · rename_i h
    have h' : (PM.fnd m.l k 0).isSome = true := by simpa [PM.get] using h
    have := PM.fnd_put v m.l k j 0
    simp only [PM.get, this, h', and_true]
  · rename_i h
    have h' : PM.fnd m.l k 0 = none := by
      cases hf : PM.fnd m.l k 0 with
      | none => rfl
      | some p => simp [PM.get, hf] at h
    simp only [PM.get, PM.fnd_append]
    by_cases hj : j = k
    · subst hj
      rw [h']
      simp [PM.fnd]
    · rw [if_neg hj]
      cases PM.fnd m.l j 0 with
      | none => simp [PM.fnd, hj]
      | some p => rfl
theorem PM.getD_set (m : PM K) (k j : K) (v : Int) : (m.set k v).getD j = if j = k then v else m.getD j := by
  unfold PM.getD
  rw [PM.get_set]
  split <;> rfl
theorem PM.get_empty (k : K) : (PM.empty K).get k = none := rfl
theorem PM.getD_empty (k : K) : (PM.empty K).getD k = 0 := rfl

theorem PM.put_keys (v : Int) : ∀ (l : List (K × Int × Nat)) (k : K), (PM.put l k v).map (·.1) = l.map (·.1)
  | [], _ => rfl
  | x :: r, k => by
    simp only [PM.put]
    split
    · rfl
    · simp [PM.put_keys v r k]
theorem PM.put_born (v : Int) : ∀ (l : List (K × Int × Nat)) (k : K), (PM.put l k v).map (·.2.2) = l.map (·.2.2)
  | [], _ => rfl
  | x :: r, k => by
    simp only [PM.put]
    split
    · rfl
    · simp [PM.put_born v r k]
theorem PM.Ok.lt {m : PM K} (h : m.Ok) : ∀ b ∈ m.l.map (·.2.2), b < m.clock := by
  intro b hb
  obtain ⟨x, hx, rfl⟩ := List.mem_map.1 hb
  exact h.clock x hx
theorem PM.Ok.of {m : PM K} (h1 : (m.l.map (·.1)).Nodup) (h2 : (m.l.map (·.2.2)).Pairwise (· < ·)) (h3 : ∀ b ∈ m.l.map (·.2.2), b < m.clock) : m.Ok :=
  ⟨h1, h2, fun x hx => h3 _ (List.mem_map.2 ⟨x, hx, rfl⟩)⟩
theorem PM.Ok.empty : (PM.empty K).Ok := ⟨List.nodup_nil, List.Pairwise.nil, fun _ h => absurd h (by simp [PM.empty])⟩
theorem PM.Ok.set {m : PM K} (h : m.Ok) (k : K) (v : Int) : (m.set k v).Ok := by
  unfold PM.set
  split
  · exact PM.Ok.of (by rw [PM.put_keys]; exact h.keys) (by rw [PM.put_born]; exact h.born) (by rw [PM.put_born]; exact h.lt)
  · rename_i hn
    have h' : PM.fnd m.l k 0 = none := by
      cases hf : PM.fnd m.l k 0 with
      | none => rfl
      | some p => simp [PM.get, hf] at hn
    have hk := (PM.fnd_none_iff m.l k 0).1 h'
    refine PM.Ok.of ?_ ?_ ?_
    · simp only [List.map_append, List.map_cons, List.map_nil]
      rw [List.nodup_append]
      refine ⟨h.keys, by simp, fun a ha b hb => ?_⟩
      simp at hb
      subst hb
      intro he
      subst he
      exact hk ha
    · simp only [List.map_append, List.map_cons, List.map_nil, List.pairwise_append]
      refine ⟨h.born, by simp, fun a ha b hb => ?_⟩
      simp at hb
      subst hb
      exact h.lt a ha
    · intro b hb
      simp only [List.map_append, List.map_cons, List.map_nil, List.mem_append, List.mem_singleton] at hb
      rcases hb with hb | rfl
      · have := h.lt b hb
        show b < m.clock + 1
        omega
      · show m.clock < m.clock + 1
        omega

/-- the map with an entry for k -/
def PM.touch (m : PM K) (k : K) : PM K := if (m.get k).isSome then m else m.set k 0
/-- the stamp of k's entry -/
def PM.stamp (m : PM K) (k : K) : Nat := match PM.fnd m.l k 0 with | some p => ((m.l[p.1]?).map (·.2.2)).getD 0 | none => m.clock
theorem PM.Ok.touch {m : PM K} (h : m.Ok) (k : K) : (m.touch k).Ok := by
  unfold PM.touch
  split
  · exact h
  · exact h.set k 0
theorem PM.touch_set (m : PM K) (k : K) (v : Int) : (m.touch k).set k v = m.set k v := by
  unfold PM.touch
  split
  · rfl
  · rename_i h
    have h' : PM.fnd m.l k 0 = none := by
      cases hf : PM.fnd m.l k 0 with
      | none => rfl
      | some p => simp [PM.get, hf] at h
    have hs : ((m.set k 0).get k).isSome = true := by rw [PM.get_set, if_pos rfl]; rfl
    have e1 : m.set k 0 = ⟨m.l ++ [(k, 0, m.clock)], m.clock + 1⟩ := by unfold PM.set; rw [if_neg h]
    have e2 : m.set k v = ⟨m.l ++ [(k, v, m.clock)], m.clock + 1⟩ := by unfold PM.set; rw [if_neg h]
    rw [e2, PM.set, if_pos hs, e1]
    have hk := (PM.fnd_none_iff m.l k 0).1 h'
    have : ∀ (l : List (K × Int × Nat)), k ∉ l.map (·.1) → PM.put (l ++ [(k, 0, m.clock)]) k v = l ++ [(k, v, m.clock)] := by
      intro l
      induction l with
      | nil => intro _; simp [PM.put]
      | cons x r ih =>
        intro hn
        simp only [List.map_cons, List.mem_cons, not_or] at hn
        simp only [List.cons_append, PM.put, hn.1, if_false]
        rw [ih hn.2]
    rw [this m.l hk]
theorem PM.touch_getD (m : PM K) (k j : K) : (m.touch k).getD j = m.getD j := by
  unfold PM.touch
  split
  · rfl
  · rename_i h
    rw [PM.getD_set]
    split
    · rename_i hj
      subst hj
      have : m.get j = none := by
        cases hg : m.get j with
        | none => rfl
        | some v => rw [hg] at h; simp at h
      simp [PM.getD, this]
    · rfl

variable {P : Program} {kT T eT : TypeId} {eK : K → Value}

theorem run_mapEntry_pm (hk : KeyOk P kT eK) (hT : P.underlying T = some (.map kT eT)) (hz : ∀ w, (zeroValue eT).run P w = .ok (.int .i64 0) w) (m : PM K) (b : Nat) (w : World)
    (hb : w.heap[b]? = some (m.obj eK)) (k : K) : (Instr.mapEntry T (.map (some b)) (eK k)).run P w = .ok (.tuple #[.int .i64 (m.getD k), goInt (m.stamp k)]) (w.putObj b ((m.touch k).obj eK)) := by
  have hb' : w.heap[b]? = some (.map (PM.ents eK m.l).toArray m.clock) := hb
  have hset : ∀ o, (setObj b o).run P w = .ok () (w.putObj b o) := fun o => by simp [setObj, Sem.run, hb', World.putObj]
  simp only [Instr.mapEntry, Sem.run_bind, run_underlying hT, Result.andThen, MapKept.run_getObj_map hb', hk.chk, run_findKey_pm hk]
  cases hf : PM.fnd m.l k 0 with
  | none =>
    have hg : (m.get k).isSome = false := by simp [PM.get, hf]
    have hgn : m.get k = none := by simp [PM.get, hf]
    simp only [Option.map_none, Sem.run_bind, hz, Result.andThen, hset, Sem.run_pure, PM.touch, PM.set, hg, Bool.false_eq_true, if_false, PM.obj, PM.ents, List.map_append, List.map_cons, List.map_nil, PM.stamp, hf, PM.getD, hgn]
    simp
  | some p =>
    obtain ⟨j, u⟩ := p
    have hg : (m.get k).isSome = true := by simp [PM.get, hf]
    have hgs : m.get k = some u := by simp [PM.get, hf]
    obtain ⟨_, bn, hat⟩ := PM.fnd_spec m.l k 0 j u hf
    rw [Nat.sub_zero] at hat
    have hk0 : (((PM.ents eK m.l).toArray)[j]?.map (·.key)).getD (eK k) = eK k := by simp [PM.ents, hat]
    have hb0 : (((PM.ents eK m.l).toArray)[j]?.map (·.born)).getD 0 = bn := by simp [PM.ents, hat]
    have hm : (PM.ents eK m.l).modify j (fun e => { e with key := eK k }) = PM.ents eK m.l := by
      apply List.ext_getElem?
      intro i
      rw [List.getElem?_modify]
      by_cases hij : j = i
      · subst hij; simp [PM.ents, hat]
      · simp [hij]
    simp only [Option.map_some, Instr.keyThatStays, hk0, hk.bits, if_true, Sem.run_pure, Sem.run_bind, Result.andThen, hset, PM.touch, hg, PM.obj, hb0, PM.stamp, hf, PM.getD, hgs, hat]
    rw [List.modify_toArray, hm]
    simp [PM.ents, hat]

theorem PM.stamp_touch (m : PM K) (k : K) : (m.touch k).stamp k = m.stamp k ∧ ∃ j u, PM.fnd (m.touch k).l k 0 = some (j, u) ∧ ∃ x, (m.touch k).l[j]? = some (k, x, m.stamp k) := by
  unfold PM.touch
  split
  · rename_i h
    refine ⟨rfl, ?_⟩
    cases hf : PM.fnd m.l k 0 with
    | none => simp [PM.get, hf] at h
    | some p =>
      obtain ⟨j, u⟩ := p
      obtain ⟨_, bn, hat⟩ := PM.fnd_spec m.l k 0 j u hf
      rw [Nat.sub_zero] at hat
      refine ⟨j, u, rfl, u, ?_⟩
      simp [PM.stamp, hf, hat]
  · rename_i h
    have h' : PM.fnd m.l k 0 = none := by
      cases hf : PM.fnd m.l k 0 with
      | none => rfl
      | some p => simp [PM.get, hf] at h
    have e1 : m.set k 0 = ⟨m.l ++ [(k, 0, m.clock)], m.clock + 1⟩ := by unfold PM.set; rw [if_neg h]
    have hf : PM.fnd (m.l ++ [(k, 0, m.clock)]) k 0 = some (m.l.length, 0) := by rw [PM.fnd_append, h']; simp [PM.fnd]
    rw [e1]
    refine ⟨?_, m.l.length, 0, hf, 0, ?_⟩
    · simp [PM.stamp, hf, h']
    · simp [PM.stamp, h']

theorem run_entryStore_pm (m : PM K) (hm : m.Ok) (k : K) (b : Nat) (w : World) (T : TypeId) (hb : w.heap[b]? = some ((m.touch k).obj eK)) (v : Int) :
    (Instr.entryStore T (.map (some b)) (goInt (m.stamp k)) (.int .i64 v)).run P w = .ok () (w.putObj b ((m.set k v).obj eK)) := by
  have hb' : w.heap[b]? = some (.map (PM.ents eK (m.touch k).l).toArray (m.touch k).clock) := hb
  have hset : ∀ o, (setObj b o).run P w = .ok () (w.putObj b o) := fun o => by simp [setObj, Sem.run, hb', World.putObj]
  obtain ⟨_, j, u, hf, x, hat⟩ := PM.stamp_touch m k
  have hok := hm.touch k
  have hidx : (PM.ents eK (m.touch k).l).findIdx? (fun e => (e.born : Int) == (m.stamp k : Int)) = some j := by
    rw [List.findIdx?_eq_some_iff_getElem]
    have hlt : j < (PM.ents eK (m.touch k).l).length := by
      have := (List.getElem?_eq_some_iff.1 hat).1
      simpa [PM.ents] using this
    refine ⟨hlt, ?_, fun i hij => ?_⟩
    · obtain ⟨h1, h2⟩ := List.getElem?_eq_some_iff.1 hat
      simp [PM.ents, h2]
    · have hp := hok.born
      rw [List.pairwise_iff_getElem] at hp
      have hj := (List.getElem?_eq_some_iff.1 hat)
      have := hp i j (by simp; have := hj.1; omega) (by simpa using hj.1) hij
      simp only [List.getElem_map] at this
      simp only [PM.ents, List.getElem_map, beq_iff_eq]
      have h2 := hj.2
      rw [h2] at this
      simp only at this
      omega
  have hput := PM.put_modify (eK := eK) v (m.touch k).l k 0 j u hf
  rw [Nat.sub_zero] at hput
  have hkey : (PM.ents eK (m.touch k).l).modify j (fun e => { e with val := .int .i64 v }) = (PM.ents eK (m.touch k).l).modify j (fun e => { e with key := eK k, val := .int .i64 v }) := by
    apply List.ext_getElem?
    intro i
    rw [List.getElem?_modify, List.getElem?_modify]
    by_cases hij : j = i
    · subst hij; simp [PM.ents, hat]
    · simp [hij]
  have hgs : ((m.touch k).get k).isSome = true := by simp [PM.get, hf]
  have hcl : m.set k v = ⟨PM.put (m.touch k).l k v, (m.touch k).clock⟩ := by rw [← PM.touch_set, PM.set, if_pos hgs]
  rw [hcl]
  simp only [Instr.entryStore, Sem.run_bind, MapKept.run_getObj_map hb', Result.andThen, asInt, asIntOf, goInt, Sem.run_pure, List.findIdx?_toArray, hidx, hset, PM.obj, List.modify_toArray]
  rw [hkey, hput]
end
end Go

/-
  What is proved: the marks of ranges over functions among the deferred calls are taken off at the return; a world in which a map has been changed.
-/
namespace Go
open Go.RowKit

/-- marks of ranges over functions, each at a block of its own, not below B -/
def Marks (B : Nat) : List Deferred → World → Prop
  | [], _ => True
  | d :: ds, w => (∃ D, d.target = .collected D ∧ B ≤ D ∧ w.heap[D]? = some (.deferred (some [])) ∧ ∀ d' ∈ ds, d'.target ≠ .collected D) ∧ Marks B ds w

theorem Marks.keep {B : Nat} {w w' : World} (h : ∀ D : Nat, w.heap[D]? = some (.deferred (some [])) → w'.heap[D]? = some (.deferred (some []))) : ∀ {ds : List Deferred}, Marks B ds w → Marks B ds w'
  | [], _ => trivial
  | _ :: _, ⟨⟨D, h1, h2, h3, h4⟩, hr⟩ => ⟨⟨D, h1, h2, h D h3, h4⟩, Marks.keep h hr⟩
theorem Marks.mono {B : Nat} {w w' : World} (g : w.grows w') {ds : List Deferred} (h : Marks B ds w) : Marks B ds w' :=
  h.keep fun D hD => by rw [g.heap (by rw [hD]; rfl)]; exact hD
theorem Marks.put {B : Nat} {w : World} {b : Nat} {o : Obj} (hb : ∀ c, w.heap[b]? ≠ some (.deferred c)) {ds : List Deferred} (h : Marks B ds w) : Marks B ds (w.putObj b o) :=
  h.keep fun D hD => by
    by_cases hDb : D = b
    · subst hDb; exact absurd hD (hb _)
    · rw [World.putObj_heap_other hDb]; exact hD
theorem Marks.lt {B : Nat} {w : World} : ∀ {ds : List Deferred}, Marks B ds w → ∀ d ∈ ds, ∀ D, d.target = .collected D → D < w.heap.size
  | [], _, _, hd, _, _ => absurd hd (by simp)
  | d :: ds, ⟨⟨D, h1, _, h3, _⟩, hr⟩, d', hd, D', hD' => by
    rcases List.mem_cons.1 hd with rfl | hd
    · rw [h1] at hD'; cases hD'; exact World.lt_of_block h3
    · exact hr.lt d' hd D' hD'
theorem Marks.push {B : Nat} {w w' : World} {ds : List Deferred} (h : Marks B ds w) (g : (w.alloc (.deferred (some []))).grows w') (hB : B ≤ w.heap.size) :
    Marks B ({ target := .collected w.heap.size, args := #[] } :: ds) w' := by
  refine ⟨⟨w.heap.size, rfl, hB, by rw [g.heap (by rw [heap_alloc_new]; rfl)]; exact heap_alloc_new w _, fun d' hd he => ?_⟩, h.mono ((World.grows.alloc (World.grows.refl _) _).trans g)⟩
  have := h.lt d' hd _ he
  omega

theorem Marks.leaves {F : Fence} {n : Nat} {P : Program} {fn : Func} {tmps : Array Value} {R : Ending → World → Prop} {B : Nat} (Inv : World → Prop)
    (hI : ∀ w D, Inv w → B ≤ D → w.heap[D]? = some (.deferred (some [])) → Inv (w.putObj D (.deferred none)))
    (hend : ∀ w, Inv w → ∃ v, (results fn tmps).run P w = .ok v w ∧ R (.returned v) w) : ∀ (ds : List Deferred) (w : World), Marks B ds w → Inv w → LeavesInM F n P fn tmps R ds .returning w
  | [], w, _, h => hend w h
  | d :: ds, w, ⟨⟨D, h1, h2, h3, h4⟩, hr⟩, h => by
    refine ⟨by simp, .inl ⟨D, _, h1, run_takeDeferred h3, Marks.leaves Inv hI hend ds _ ?_ (hI w D h h2 h3)⟩⟩
    have : ∀ (ds : List Deferred), (∀ d' ∈ ds, d'.target ≠ .collected D) → Marks B ds w → Marks B ds (w.putObj D (.deferred none)) := by
      intro ds
      induction ds with
      | nil => intro _ _; trivial
      | cons d' ds ih =>
        rintro h5 ⟨⟨D', g1, g2, g3, g4⟩, gr⟩
        refine ⟨⟨D', g1, g2, ?_, g4⟩, ih (fun x hx => h5 x (List.mem_cons_of_mem _ hx)) gr⟩
        have : D' ≠ D := fun e => h5 d' (List.mem_cons_self ..) (e ▸ g1)
        rw [World.putObj_heap_other this]; exact g3
    exact this ds h4 hr

/-- cells that are there are there still -/
def World.cellsub (w w' : World) : Prop := ∀ a v, w.cell? a = some v → w'.cell? a = some v
theorem World.grows.cellsub {w w' : World} (g : w.grows w') : w.cellsub w' := fun a v h => by rw [g.cell (by rw [h]; rfl)]; exact h
theorem World.cellsub.trans {a b c : World} (h : a.cellsub b) (k : b.cellsub c) : a.cellsub c := fun x v hx => k x v (h x v hx)
theorem World.putObj_cellsub {w : World} {b : Nat} {o : Obj} (hb : ∀ a v, a.block = b → w.cell? a ≠ some v) : w.cellsub (w.putObj b o) := fun a v h => by
  by_cases hab : a.block = b
  · exact absurd h (hb a v hab)
  · have e : (w.putObj b o).cell? a = w.cell? a := by
      unfold World.cell?
      rw [World.putObj_heap_other hab]
    rw [e]; exact h
theorem World.no_cell_of_map {w : World} {b : Nat} {es : Array MapEntry} {c : Nat} (h : w.heap[b]? = some (.map es c)) (a : Addr) (v : Value) (ha : a.block = b) : w.cell? a ≠ some v := by
  unfold World.cell?
  rw [ha, h]
  simp
theorem World.no_cell_of_deferred {w : World} {b : Nat} {c : Option (List Deferred)} (h : w.heap[b]? = some (.deferred c)) (a : Addr) (v : Value) (ha : a.block = b) : w.cell? a ≠ some v := by
  unfold World.cell?
  rw [ha, h]
  simp
theorem World.putObj_map_cell {w : World} {b : Nat} {es es' : Array MapEntry} {c c' : Nat} (h : w.heap[b]? = some (.map es c)) (a : Addr) : (w.putObj b (.map es' c')).cell? a = w.cell? a := by
  by_cases hab : a.block = b
  · have h1 := World.no_cell_of_map h a
    have h2 : (w.putObj b (.map es' c')).heap[b]? = some (.map es' c') := World.putObj_heap_same (World.lt_of_block h)
    have h3 := World.no_cell_of_map h2 a
    cases hc : w.cell? a with
    | none =>
      cases hc' : (w.putObj b (.map es' c')).cell? a with
      | none => rfl
      | some v => exact absurd hc' (h3 v hab)
    | some v => exact absurd hc (h1 v hab)
  · unfold World.cell?
    rw [World.putObj_heap_other hab]
theorem World.putObj_putObj (w : World) (b : Nat) (o o' : Obj) : (w.putObj b o).putObj b o' = w.putObj b o' := by
  unfold World.putObj
  simp
theorem World.putObj_self {w : World} {b : Nat} {o : Obj} (h : w.heap[b]? = some o) : w.putObj b o = w := by
  have hlt := World.lt_of_block h
  unfold World.putObj
  have : w.heap.setIfInBounds b o = w.heap := by
    apply Array.ext_getElem?
    intro k
    rw [Array.getElem?_setIfInBounds]
    by_cases hk : b = k
    · subst hk; rw [if_pos rfl, if_pos hlt, h]
    · rw [if_neg hk]
  rw [this]
/-- a change of a block that is there, of worlds of which one has grown out of the other -/
theorem World.grows.putObj {w w' : World} (g : w.grows w') {b : Nat} (o : Obj) (hb : b < w.heap.size) : (w.putObj b o).grows (w'.putObj b o) :=
  ⟨g.os, g.tape, g.output, by simpa using g.size, fun k hk => by
    have hk' : k < w.heap.size := by simpa using hk
    by_cases hkb : k = b
    · subst hkb
      rw [World.putObj_heap_same (by have := g.size; omega), World.putObj_heap_same hk']
    · rw [World.putObj_heap_other hkb, World.putObj_heap_other hkb]; exact g.block k hk'⟩


/-- wp_rangeFunc_seq for the walk: the ends are variables -/
theorem wp_rangeFunc_walk {P : Program} {g : Operand} {ps : Array Tmp} {assign body : Code} {Q : Exit → Act → World → Prop} {a : Act} {w : World} {f : Nat} {lb : Array Value} {xs : List (Array Value)} {Ro : World → Prop}
    (hg : a.eval g = .func (.func f) #[] lb) (eg : ∀ args w, (callFunc f args).run P w = .ok (.enter f args) w)
    (hseq : SeqC P f lb xs Ro) (hps : ∀ x ∈ xs, x.size = ps.size)
    (B : Nat → World → Prop) (X : Code → World → Prop) (hB : ∀ k V, B k V → V.heap.size = w.heap.size) (hX : ∀ c V, X c V → V.heap.size = w.heap.size)
    (hR : ∀ k V, B k V → ∀ W, V.grows W → Ro W) (h0 : B 0 w)
    (hround : ∀ (k : Nat) (x : Array Value) (V : World) (lo : Obj) (n : Nat) (y : World), xs[k]? = some x → B k V → ∀ K0 : Act → World → Prop,
      Hid (∀ a1 W1, ((V.alloc (.deferred (some []))).alloc lo).grows W1 →
        (∀ (lo' : Obj) (K1 : Exit → Act → World → Prop), Hid (∀ e a' W', roundEnd B X k lo' e a' W' → K1 e a' W') → body.wpIn (Fence.wide.inRound (w.heap.size + 1)) 0 P K1 a1 (W1.putObj (w.heap.size + 1) lo')) → K0 a1 W1) →
      assign.wpIn (Fence.wide.inRound (w.heap.size + 1)) 0 P (Exit.then K0 (fun _ _ _ => False))
        { tmps := (ps.zip x).foldl (fun t (p, v) => t.setIfInBounds p v) a.tmps, defers := [] } (((V.alloc (.deferred (some []))).alloc lo).plus n y))
    (hdone : ∀ V n y, B xs.length V → Q .normal { a with defers := { target := .collected w.heap.size, args := #[] } :: a.defers } ((V.alloc (.deferred (some []))).plus n y))
    (hstop : ∀ c V n y, X c V → c.wp P Q { a with defers := { target := .collected w.heap.size, args := #[] } :: a.defers } ((V.alloc (.deferred (some []))).plus n y)) :
    (Code.rangeFunc g ps assign body).wp P Q a w :=
  wp_rangeFunc_seq hg eg hseq hps B X hB hX hR h0 (fun k x V lo n y hx hV => by
    refine hround k x V lo n y hx hV _ (Lib.hid fun a1 W1 h1 h2 => ⟨h1, fun lo' => h2 lo' _ (Lib.hid fun e a' W' h => h)⟩)) hdone hstop
theorem zip_one (t : Array Value) (p : Tmp) (v : Value) : Array.foldl (fun t x => match x with | (p, v) => t.setIfInBounds p v) t (#[p].zip #[v]) = t.setIfInBounds p v := by
  have : #[p].zip #[v] = #[(p, v)] := by simp
  rw [this]
  simp

theorem Oper.stirs_of {P : Program} {o : Oper} {a : Act} {w : World} {b : Nat} {ob : Obj} {v : Value} (hb : b < w.heap.size) (h : ∀ n x, (execOp a.eval o).run P (w.plus n x) = .ok (.value v) ((w.plus n x).putObj b ob)) :
    o.stirs P a w (w.putObj b ob) v := fun n x => ⟨_, h n x, (World.grows_plus w n x).putObj ob hb⟩
theorem World.grows.heap_of {w w' : World} (g : w.grows w') {b : Nat} {o : Obj} (h : w.heap[b]? = some o) : w'.heap[b]? = some o := by rw [g.heap (by rw [h]; rfl)]; exact h
theorem World.grows.cell_of {w w' : World} (g : w.grows w') {a : Addr} {v : Value} (h : w.cell? a = some v) : w'.cell? a = some v := by rw [g.cell (by rw [h]; rfl)]; exact h
theorem World.plus_ex {w x : World} {p : Prop} (g : w.grows x) (hp : p) : ∃ n y, x = w.plus n y ∧ p := by
  obtain ⟨n, y, h⟩ := World.plus_of g
  exact ⟨n, y, h, hp⟩
theorem bodyPostM_ret {F : Fence} {n : Nat} {P : Program} {fn : Func} {R : Ending → World → Prop} {t : Array Value} {w : World} {v : Value} (h1 : (results fn t).run P w = .ok v w) (h2 : R (.returned v) w) : bodyPostM F n P fn R .ret ⟨t, []⟩ w := ⟨v, h1, h2⟩
theorem Marks.setCell {B : Nat} {w : World} {a : Addr} {v : Value} {ds : List Deferred} (h : Marks B ds w) : Marks B ds (w.setCell a v) :=
  h.keep fun D hD => by
    unfold World.setCell
    simp only [Array.getElem?_modify]
    by_cases he : a.block = D
    · rw [if_pos he, hD]; rfl
    · rw [if_neg he]; exact hD
end Go

/-
  What is proved: where one looks in a tree, in the reference (40), what features cost (56), Follow (18) and CheckTree (20).
-/
namespace Go.Proofs.Ytdminglglapnlaa
open Go.RowKit
attribute [local irreducible] Go.wpCalm

/-- a list of numbers in memory -/
def ListAt (w : World) (v : Value) (L : List Nat) : Prop := IntsAt w v L.length (fun i => ((L.getD i 0 : Nat) : Int))
theorem ListAt.mono {w w' : World} {v : Value} {L : List Nat} (h : ListAt w v L) (g : w.grows w') : ListAt w' v L := SliceAt.mono h g
def ilist (L : List Nat) : List Value := L.map fun n => .int .i64 (n : Nat)
theorem ilist_len (L : List Nat) : (ilist L).length = L.length := by simp [ilist]
theorem ilist_snoc (L : List Nat) (x : Nat) : ilist (L ++ [x]) = ilist L ++ [.int .i64 (x : Nat)] := by simp [ilist]
theorem ilist_one (L : List Nat) : ∀ u ∈ ilist L, u.oneCell' = true := fun u hu => by
  simp only [ilist, List.mem_map] at hu
  obtain ⟨n, _, rfl⟩ := hu
  rfl
theorem ilist_get (L : List Nat) {i : Nat} (h : i < L.length) : (ilist L)[i]? = some (.int .i64 ((L.getD i 0 : Nat) : Int)) := by
  simp [ilist, h]
theorem _root_.Go.World.ownsRow.listAt {w : World} {base e : Nat} {v : Value} {L : List Nat} {n : Nat} (h : w.ownsRow base e 1 v n (ilist L)) (hn : n = L.length) : ListAt w v L := by
  subst hn
  exact h.sliceAt fun i j hi hj => by
    have : j = 0 := by omega
    subst this
    simpa using ilist_get L hi
theorem el3 : Try.prog.knows 3 (.int .i64 0) 1 8 := Program.knows_of (by kernel_rfl)
theorem one_slice (w : World) (v : Value) (t b : Nat) (hb : b = w.heap.size) : SliceAt (w.alloc (.cells #[v] t)) (.slice (some ⟨b, 0, none⟩) 1 1) 1 1 (fun _ _ => v) := by
  subst hb
  refine ⟨_, _, rfl, by omega, by unfold maxLen; omega, fun i j hi hj => ⟨_, _, rfl, ?_⟩⟩
  have hi0 : i = 0 := by omega
  have hj0 : j = 0 := by omega
  subst hi0; subst hj0
  simp [go_sem]
theorem one_cell (x : Int) : ∀ u ∈ tableL 1 1 (fun _ _ => Value.int .i64 x), u.oneCell' = true := by
  intro u hu; rw [tableL_one] at hu; simp at hu; subst hu; rfl
theorem own_far {w : World} {base e size : Nat} {v : Value} {n : Nat} {xs : List Value} (h : w.ownsRow base e size v n xs) {k : Nat} (hk : w.heap.size ≤ k) : some k ≠ v.ownBlock := by
  rcases h.2 with ⟨rfl, _⟩ | ⟨b, cap, cur, rfl, _, hgg, _⟩
  · simp [Value.ownBlock]
  · simp only [Value.ownBlock, ne_eq, Option.some.injEq]
    rintro rfl
    have := World.lt_of_block hgg
    omega

/-- a valid tree's memory, opened -/
structure NodesIn (w : World) (nb no : Nat) (bb bo bc : Nat → Nat) (t : Tr) : Prop where
  feat : ∀ i : Nat, i < t.n → w.cell? ⟨nb, no + i * 2, none⟩ = some (.int .i64 (t.feat i))
  row : ∀ i : Nat, i < t.n → ∃ a, w.cell? ⟨nb, no + i * 2 + 1, none⟩ = some (.slice a (t.nb i) (bc i)) ∧ (0 < t.nb i → a = some ⟨bb i, bo i, none⟩)
  val : ∀ i b : Nat, i < t.n → b < t.nb i → w.cell? ⟨bb i, bo i + b * 2, none⟩ = some (.int .i64 (t.bv i b))
  to : ∀ i b : Nat, i < t.n → b < t.nb i → w.cell? ⟨bb i, bo i + b * 2 + 1, none⟩ = some (.int .i64 (t.bt i b))
  cap : ∀ i : Nat, i < t.n → t.nb i ≤ bc i ∧ bc i ≤ maxLen
theorem NodesIn.mono {w w' : World} {nb no : Nat} {bb bo bc : Nat → Nat} {t : Tr} (h : NodesIn w nb no bb bo bc t) (g : w.grows w') : NodesIn w' nb no bb bo bc t :=
  ⟨fun i hi => by rw [g.cell (by rw [h.feat i hi]; rfl)]; exact h.feat i hi,
   fun i hi => by obtain ⟨a, h1, h2⟩ := h.row i hi; exact ⟨a, by rw [g.cell (by rw [h1]; rfl)]; exact h1, h2⟩,
   fun i b hi hb => by rw [g.cell (by rw [h.val i b hi hb]; rfl)]; exact h.val i b hi hb,
   fun i b hi hb => by rw [g.cell (by rw [h.to i b hi hb]; rfl)]; exact h.to i b hi hb, h.cap⟩
theorem NodesAt.open {w : World} {v : Value} {t : Tr} (h : NodesAt w v t) : ∃ na nc, v = .slice na t.n nc ∧ t.n ≤ nc ∧ nc ≤ maxLen ∧ ∃ nb no bb bo bc, (0 < t.n → na = some ⟨nb, no, none⟩) ∧ NodesIn w nb no bb bo bc t := by
  obtain ⟨row, ⟨na, nc, rfl, h1, h2, hn⟩, hrow⟩ := h
  refine ⟨na, nc, rfl, h1, h2, ?_⟩
  have hrow' : ∀ i, ∃ b o c, i < t.n → (∃ a, row i = .slice a (t.nb i) c ∧ (0 < t.nb i → a = some ⟨b, o, none⟩)) ∧ t.nb i ≤ c ∧ c ≤ maxLen ∧ ∀ x j, x < t.nb i → j < 2 → w.cell? ⟨b, o + x * 2 + j, none⟩ = some (bcell (t.bv i) (t.bt i) x j) := fun i => by
    by_cases hi : i < t.n
    · obtain ⟨a, c, e, k1, k2, k3⟩ := hrow i hi
      by_cases h0 : 0 < t.nb i
      · obtain ⟨b, o, rfl, _⟩ := k3 0 0 h0 (by omega)
        refine ⟨b, o, c, fun _ => ⟨⟨_, e, fun _ => rfl⟩, k1, k2, fun x j hx hj => ?_⟩⟩
        obtain ⟨b', o', e', h'⟩ := k3 x j hx hj
        cases e'
        exact h'
      · exact ⟨0, 0, c, fun _ => ⟨⟨a, e, fun h => absurd h h0⟩, k1, k2, fun x j hx => absurd hx (by omega)⟩⟩
    · exact ⟨0, 0, 0, fun h => absurd h hi⟩
  obtain ⟨bb, q1⟩ := Classical.axiomOfChoice hrow'
  obtain ⟨bo, q2⟩ := Classical.axiomOfChoice q1
  obtain ⟨bc, q3⟩ := Classical.axiomOfChoice q2
  have main : ∀ nb no, (∀ i j, i < t.n → j < 2 → w.cell? ⟨nb, no + i * 2 + j, none⟩ = some (ncell t.feat row i j)) → NodesIn w nb no bb bo bc t := fun nb no hc =>
    ⟨fun i hi => by simpa [ncell] using hc i 0 hi (by omega),
     fun i hi => by
      obtain ⟨⟨a, e, ha⟩, _⟩ := q3 i hi
      have := hc i 1 hi (by omega)
      simp only [ncell, Nat.one_ne_zero, if_false, e] at this
      exact ⟨a, this, ha⟩,
     fun i b hi hb => by simpa [bcell] using (q3 i hi).2.2.2 b 0 hb (by omega),
     fun i b hi hb => by simpa [bcell] using (q3 i hi).2.2.2 b 1 hb (by omega),
     fun i hi => ⟨(q3 i hi).2.1, (q3 i hi).2.2.1⟩⟩
  by_cases h0 : 0 < t.n
  · obtain ⟨nb, no, rfl, _⟩ := hn 0 0 h0 (by omega)
    refine ⟨nb, no, bb, bo, bc, fun _ => rfl, main nb no fun i j hi hj => ?_⟩
    obtain ⟨b', o', e', h'⟩ := hn i j hi hj
    cases e'
    exact h'
  · exact ⟨0, 0, bb, bo, bc, fun h => absurd h h0, main 0 0 fun i j hi => absurd hi (by omega)⟩

set_option maxHeartbeats 4000000 in
theorem rlooks_c (w : World) (nv : Value) (t : Tr) (nc : Nat) (hn : NodesAt w nv t) (ht : t.Ok nc) (vb vo vc : Nat) (v : Nat → Int) (hvc : nc ≤ vc ∧ vc ≤ maxLen) (hv : ∀ f : Nat, f < nc → w.cell? ⟨vb, vo + f, none⟩ = some (.int .i64 (v f))) :
    Calls Try.prog 40 #[.agg #[.int .i64 t.root, nv], .slice (some ⟨vb, vo, none⟩) nc vc] w fun e w' => ∃ lv, e = .returned (.tuple #[lv, .int .i64 (t.look v t.root).2]) ∧ ListAt w' lv (t.look v t.root).1 ∧ w.grows w' := by
  obtain ⟨na, ncap, rfl, h1, h2, nb, no, bb, bo, bc, hna, hN⟩ := hn.open
  have HN := Lib.hid hN
  have Hv := Lib.hid hv
  have Ht := Lib.hid ht
  obtain ⟨hvc1, hvc2⟩ := hvc
  unfold maxLen at h2 hvc2
  have hroot := ht.root
  have hn100 := ht.n
  clear hn hN hv ht
  go_enter Try.func40, Try.ntmps40
  go_wp2
  go_loopw [6, 7] (fun l p wr => ∃ (L : List Nat) (x : Int), p = .int .i64 x ∧ ((0 ≤ x ∧ x < t.n) ∨ (-1001 ≤ x ∧ x < 0)) ∧ (x < 0 → L.length ≤ 100) ∧ (0 ≤ x → (L.length : Int) ≤ x) ∧ Hid (t.look v t.root = (L ++ (t.look v x).1, (t.look v x).2)) ∧ wr.ownsRow (w.heap.size + 1) 3 1 l L.length (ilist L) ∧ (w.alloc (.cells #[.int .i64 t.root, .slice na t.n ncap] 28)).grows wr) (fun _ p _ => if intOf p < 0 then 0 else t.n - (intOf p).toNat + 1)
  case atStart => exact ⟨[], t.root, rfl, by omega, fun _ => by simp, fun _ => by simp; omega, Lib.hid rfl, World.ownsRow_nil _ _ _ _, by (repeat (first | exact World.grows.refl _ | assumption | refine World.grows.alloc ?_ _ | refine World.grows.plus ?_ _ _ | refine World.grows.drew ?_))⟩
  case round =>
    obtain ⟨L, x, rfl, hx, hL1, hL2, hlk, hown, hg⟩ := hrel
    have Hown := Lib.hid hown
    by_cases h0 : 0 ≤ x
    · have hxn : x < t.n := by omega
      obtain ⟨p, rfl⟩ : ∃ p : Nat, x = p := ⟨x.toNat, by omega⟩
      have hp : p < t.n := by omega
      have hnn := hna (by omega)
      subst hnn
      have hL3 := hL2 h0
      have b1 : wr.cell? ⟨w.heap.size, 1, none⟩ = some (.slice (some ⟨nb, no, none⟩) t.n ncap) := by rw [hg.cell (by simp [go_sem])]; simp [go_sem]
      have hgr := World.grows.trans (show w.grows (w.alloc (.cells #[.int .i64 t.root, .slice (some ⟨nb, no, none⟩) t.n ncap] 28)) by (repeat (first | exact World.grows.refl _ | assumption | refine World.grows.alloc ?_ _ | refine World.grows.plus ?_ _ _ | refine World.grows.drew ?_))) hg
      have h100 := Ht.out.n
      obtain ⟨a, hr1, hr2⟩ := (HN.out.mono hgr).row p hp
      have h3 := (HN.out.mono hgr).feat p hp
      obtain ⟨hc1, hc2⟩ := HN.out.cap p hp
      unfold maxLen at hc2
      have hfe := Ht.out.feat p hp
      obtain ⟨f, hf⟩ : ∃ f : Nat, t.feat p = f := ⟨(t.feat p).toNat, by omega⟩
      have hfn : f < nc := by omega
      have hft : t.ft p = f := by unfold Tr.ft; simp [hf]
      rw [hf] at h3
      have Hbr := Lib.hid (Ht.out.next_eq hp (v f))
      have Hg := Lib.hid hg
      have hsz := hg.size
      simp only [World.size_alloc] at hsz
      have Hsz := Lib.hid hsz
      clear hfe hown hgr hg hsz hf
      go_wp2_with (at_builtin; go_loud (refine wpList_append_r _ rfl _ _ _ (by rfl) (w.heap.size + 1) 3 (.int .i64 0) 1 8 Try.underlying29 el3 (by rfl) (by omega) _ L.length _ (by rfl) (Hown.out.grow (by (repeat (first | exact World.grows.refl _ | assumption | refine World.grows.alloc ?_ _ | refine World.grows.plus ?_ _ _ | refine World.grows.drew ?_)))) _ (by rfl) 1 _ (SliceAt.src (by omega) (one_slice _ _ _ _ (by simp))) (one_cell _) (by unfold maxLen; omega) (by omega) (by have := Hsz.out; simp; omega) ?_; intro v' w3 hown3 hgb; have hg3 := World.grownBy.grows hgb (Hown.out.grow (by (repeat (first | exact World.grows.refl _ | assumption | refine World.grows.alloc ?_ _ | refine World.grows.plus ?_ _ _ | refine World.grows.drew ?_)))) (W0 := w.alloc (.cells #[.int .i64 t.root, .slice (some ⟨nb, no, none⟩) t.n ncap] 28)) (by have := Hg.out; (repeat (first | exact World.grows.refl _ | assumption | refine World.grows.alloc ?_ _ | refine World.grows.plus ?_ _ _ | refine World.grows.drew ?_))) (by simp); have d0 : w3.cell? ⟨wr.heap.size, 0, none⟩ = some (.int .i64 (f : Nat)) := hgb.cell (by simp [go_sem]) (own_far Hown.out (Nat.le_refl _)); have d1 : w3.cell? ⟨wr.heap.size, 1, none⟩ = some (.slice a (t.nb p) (bc p)) := hgb.cell (by simp [go_sem]) (own_far Hown.out (Nat.le_refl _)); have Hown3 : Hid (w3.ownsRow (w.heap.size + 1) 3 1 v' (L.length + 1) (ilist (L ++ [f]))) := Lib.hid (by rw [ilist_snoc]; exact hown3); have Hg3 := Lib.hid hg3; clear hown3 hgb hg3 h3 hr1 b1))
      have hvf := World.grows.cell_of (World.grows.trans (show w.grows (w.alloc (.cells #[.int .i64 t.root, .slice (some ⟨nb, no, none⟩) t.n ncap] 28)) by (repeat (first | exact World.grows.refl _ | assumption | refine World.grows.alloc ?_ _ | refine World.grows.plus ?_ _ _ | refine World.grows.drew ?_))) Hg3.out) (Hv.out f hfn)
      have HN3 := Lib.hid (HN.out.mono (World.grows.trans (show w.grows (w.alloc (.cells #[.int .i64 t.root, .slice (some ⟨nb, no, none⟩) t.n ncap] 28)) by (repeat (first | exact World.grows.refl _ | assumption | refine World.grows.alloc ?_ _ | refine World.grows.plus ?_ _ _ | refine World.grows.drew ?_))) Hg3.out))
      go_loopw [9, 10] (fun x i wr' => ∃ m : Nat, m ≤ t.nb p ∧ i = .int .i64 m ∧ x = .int .i64 (t.next p (v f) m) ∧ w3.grows wr') (fun _ i _ => t.nb p - (intOf i).toNat)
      case atStart => exact ⟨0, by omega, rfl, rfl, by (repeat (first | exact World.grows.refl _ | assumption | refine World.grows.alloc ?_ _ | refine World.grows.plus ?_ _ _ | refine World.grows.drew ?_))⟩
      case round =>
        obtain ⟨m, hm, rfl, rfl, hg4⟩ := hrel
        obtain ⟨n4, x4, rfl⟩ := World.plus_of hg4
        by_cases hlt : m < t.nb p
        · have ha := hr2 (by omega)
          subst ha
          have hp0 := HN3.out.val p m hp hlt
          have hp1 := HN3.out.to p m hp hlt
          by_cases hq : t.bv p m = v f
          · have hnx : Hid (t.next p (v f) (m + 1) = t.bt p m) := Lib.hid (by simp only [Tr.next]; rw [if_pos hq])
            rw [hq] at hp0
            clear hq
            go_wp2
            (refine wp_region_calm (by kernel_rfl) (by kernel_rfl) ?_; (repeat (refine wpCalm_step (fun K hK => ?_); go_simp; first | (refine hK _ ?_; clear hK K) | (apply Exists.intro; refine ⟨fun n' x' => ?_, hK _ ?_⟩; (fail); clear hK K))); refine wpCalm_nil ?_; intro nq xq)
            go_wp2
            go_roundw
            case rel => exact ⟨m + 1, by omega, by go_num, by rw [hnx.out], by (repeat (first | exact World.grows.refl _ | assumption | refine World.grows.alloc ?_ _ | refine World.grows.plus ?_ _ _ | refine World.grows.drew ?_))⟩
            case measure => simp [intOf]; omega
          · have hnx : Hid (t.next p (v f) (m + 1) = t.next p (v f) m) := Lib.hid (by simp only [Tr.next]; rw [if_neg hq])
            go_wp2
            (refine wp_region_calm (by kernel_rfl) (by kernel_rfl) ?_; (repeat (refine wpCalm_step (fun K hK => ?_); go_simp; first | (refine hK _ ?_; clear hK K) | (apply Exists.intro; refine ⟨fun n' x' => ?_, hK _ ?_⟩; (fail); clear hK K))); refine wpCalm_nil ?_; intro nq xq)
            go_wp2
            go_roundw
            case rel => exact ⟨m + 1, by omega, by go_num, by rw [hnx.out], by (repeat (first | exact World.grows.refl _ | assumption | refine World.grows.alloc ?_ _ | refine World.grows.plus ?_ _ _ | refine World.grows.drew ?_))⟩
            case measure => simp [intOf]; omega
        · have hme : m = t.nb p := by omega
          subst hme
          cases hb : t.branch p (v f) with
          | none =>
            have hnx := Hbr.out
            rw [hb] at hnx
            have hlk2 := Lib.hid (Ht.out.look_none v h0 hxn (by rw [hft]; exact hb))
            simp only at hnx
            rw [hnx]
            clear hnx Hbr
            go_wp2
            refine bodyPost_ret (v := .tuple #[v', .int .i64 0]) (by simp [results, Try.results40, go_sem]) rfl ?_
            refine ⟨v', by rw [hlk.out, hlk2.out], ?_, World.grows.trans (by (repeat (first | exact World.grows.refl _ | assumption | refine World.grows.alloc ?_ _ | refine World.grows.plus ?_ _ _ | refine World.grows.drew ?_))) (Hg3.out.trans (by (repeat (first | exact World.grows.refl _ | assumption | refine World.grows.alloc ?_ _ | refine World.grows.plus ?_ _ _ | refine World.grows.drew ?_))))⟩
            rw [hlk.out, hlk2.out, hft]
            exact (Hown3.out.grow (by (repeat (first | exact World.grows.refl _ | assumption | refine World.grows.alloc ?_ _ | refine World.grows.plus ?_ _ _ | refine World.grows.drew ?_)))).listAt (by simp)
          | some b =>
            have hnx := Hbr.out
            rw [hb] at hnx
            obtain ⟨hb1, hb2⟩ := Tr.branch_some hb
            have hbt := Ht.out.bt' hp hb1
            have hlk2 := Lib.hid (Ht.out.look_some v h0 hxn (by rw [hft]; exact hb))
            simp only at hnx
            rw [hnx]
            have hne : ¬ t.bt p b = -2000 := by omega
            clear hnx Hbr
            go_wp2
            go_roundw
            case rel =>
              refine ⟨L ++ [f], t.bt p b, rfl, by omega, fun _ => by simp; omega, fun _ => by simp; omega, Lib.hid ?_, ?_, Hg3.out.trans (by (repeat (first | exact World.grows.refl _ | assumption | refine World.grows.alloc ?_ _ | refine World.grows.plus ?_ _ _ | refine World.grows.drew ?_)))⟩
              · rw [hlk.out, hlk2.out, hft]; simp
              · rw [show (L ++ [f]).length = L.length + 1 by simp]
                exact Hown3.out.grow (by (repeat (first | exact World.grows.refl _ | assumption | refine World.grows.alloc ?_ _ | refine World.grows.plus ?_ _ _ | refine World.grows.drew ?_)))
            case measure =>
              show (if t.bt p b < 0 then 0 else t.n - (t.bt p b).toNat + 1) < (if (p : Int) < 0 then 0 else t.n - (p : Int).toNat + 1)
              rw [if_neg (show ¬ (p : Int) < 0 by omega)]
              by_cases hz : t.bt p b < 0
              · rw [if_pos hz]; omega
              · rw [if_neg hz]; omega
    · have hx0 : x < 0 := by omega
      have hle := Lib.hid (t.look_end v hx0)
      have Hg := Lib.hid hg
      clear hown hg
      go_wp2
      refine bodyPost_ret (v := .tuple #[u6, .int .i64 x]) (by simp [results, Try.results40, go_sem]) rfl ?_
      refine ⟨u6, by rw [hlk.out, hle.out], ?_, World.grows.trans (by (repeat (first | exact World.grows.refl _ | assumption | refine World.grows.alloc ?_ _ | refine World.grows.plus ?_ _ _ | refine World.grows.drew ?_))) Hg.out⟩
      rw [hlk.out, hle.out]
      simp only [List.append_nil]
      exact Hown.out.listAt rfl
end Go.Proofs.Ytdminglglapnlaa

/-
  What is proved: whether numbers are within bounds (52), bad marks and costs (57, 59), where a branch leads (87), equal lists (50), in the program.
-/
namespace Go.Proofs.Ytdminglglapnlaa
open Go.RowKit
attribute [local irreducible] Go.wpCalm

def outB (lo hi n : Int) : Bool := decide (n < lo) || decide (hi < n)
theorem outB_iff (lo hi n : Int) : outB lo hi n = true ↔ n < lo ∨ hi < n := by simp [outB]
set_option maxHeartbeats 1000000 in
theorem c89 (w : World) (b0 b1 : Nat) (lo hi n : Int) (h0 : w.cell? ⟨b0, 0, none⟩ = some (.int .i64 lo)) (h1 : w.cell? ⟨b1, 0, none⟩ = some (.int .i64 hi)) :
    Calls Try.prog 89 #[.int .i64 n, .pointer (some ⟨b0, 0, none⟩), .pointer (some ⟨b1, 0, none⟩)] w fun e w' => e = .returned (.bool (outB lo hi n)) ∧ w.grows w' := by
  unfold outB
  go_enter Try.func89, Try.ntmps89
  by_cases hl : n < lo
  · go_wp2
    go_ret
    exact ⟨by simp [hl], by (repeat (first | exact World.grows.refl _ | assumption | refine World.grows.alloc ?_ _ | refine World.grows.plus ?_ _ _ | refine World.grows.drew ?_))⟩
  · by_cases hh : hi < n
    · go_wp2
      go_ret
      exact ⟨by simp [hh], by (repeat (first | exact World.grows.refl _ | assumption | refine World.grows.alloc ?_ _ | refine World.grows.plus ?_ _ _ | refine World.grows.drew ?_))⟩
    · go_wp2
      go_ret
      exact ⟨by simp [hh, hl], by (repeat (first | exact World.grows.refl _ | assumption | refine World.grows.alloc ?_ _ | refine World.grows.plus ?_ _ _ | refine World.grows.drew ?_))⟩

set_option maxHeartbeats 1000000 in
theorem c52 (w : World) (lo hi : Int) (m : Nat) (f : Nat → Int) (sv : Value) (hs : IntsAt w sv m f) :
    Calls Try.prog 52 #[.int .i64 lo, .int .i64 hi, sv] w fun e w' => e = .returned (.bool (!(List.range m).any fun i => outB lo hi (f i))) ∧ w.grows w' := by
  have h89 : ∀ i, i < m → ∀ W : World, ((w.alloc (.cells #[.int .i64 lo] 3)).alloc (.cells #[.int .i64 hi] 3)).grows W → Calls Try.prog 89 (#[.int .i64 (f i)] ++ #[.pointer (some ⟨w.heap.size, 0, none⟩), .pointer (some ⟨w.heap.size + 1, 0, none⟩)]) W fun e W' => e = .returned (.bool (outB lo hi (f i))) ∧ W.grows W' := by
    intro i _ W hW
    have e0 : ((w.alloc (.cells #[.int .i64 lo] 3)).alloc (.cells #[.int .i64 hi] 3)).cell? ⟨w.heap.size, 0, none⟩ = some (.int .i64 lo) := by simp [go_sem]
    have e1 : ((w.alloc (.cells #[.int .i64 lo] 3)).alloc (.cells #[.int .i64 hi] 3)).cell? ⟨w.heap.size + 1, 0, none⟩ = some (.int .i64 hi) := by simp [go_sem]
    exact c89 W _ _ lo hi (f i) (by rw [hW.cell (by rw [e0]; rfl), e0]) (by rw [hW.cell (by rw [e1]; rfl), e1])
  have H89 := Lib.hid h89
  clear h89
  have Hs := Lib.hid hs
  go_enter Try.func52, Try.ntmps52
  go_wp2_with (refine (has88 _ _ m (fun i _ => .int .i64 (f i)) 89 _ (fun i => outB lo hi (f i)) (Hs.out.mono (by (repeat (first | exact World.grows.refl _ | assumption | refine World.grows.alloc ?_ _ | refine World.grows.plus ?_ _ _ | refine World.grows.drew ?_)))) (fun args w => (by simp [go_sem])) (fun i hi' W hW => H89.out i hi' W hW)).mono ?_; rintro e w' ⟨rfl, hg⟩; obtain ⟨n2, x2, rfl⟩ := World.plus_of hg)
  go_ret
  exact ⟨rfl, by (repeat (first | exact World.grows.refl _ | assumption | refine World.grows.alloc ?_ _ | refine World.grows.plus ?_ _ _ | refine World.grows.drew ?_))⟩
theorem c52one (w : World) (lo hi n : Int) (sv : Value) (hs : SliceAt w sv 1 1 (fun _ _ => .int .i64 n)) :
    Calls Try.prog 52 #[.int .i64 lo, .int .i64 hi, sv] w fun e w' => e = .returned (.bool (!outB lo hi n)) ∧ w.grows w' := by
  have h := c52 w lo hi 1 (fun _ => n) sv hs
  have e : (List.range 1).any (fun _ => outB lo hi n) = outB lo hi n := by simp
  rw [e] at h
  exact h

theorem Reg.markB_iff (r : Reg) (m : Nat) : r.markB m = (outB 0 1000 (r.who m) || decide (r.nv m ≠ r.nc) || (List.range (r.nv m)).any fun i => outB 0 9 (r.val m i)) := rfl
set_option maxHeartbeats 1000000 in
theorem badMark_c (w : World) (r : Reg) (m : Nat) (vv : Value) (hv : IntsAt w vv (r.nv m) (r.val m)) (b : Nat) (ca : Option Addr) (cc : Nat) (h1 : r.nc ≤ cc) (h2 : cc ≤ maxLen) (hb : w.cell? ⟨b, 1, none⟩ = some (.slice ca r.nc cc)) :
    Calls Try.prog 57 #[.agg #[.int .i64 (r.who m), vv], .pointer (some ⟨b, 0, none⟩)] w fun e w' => e = .returned (.bool (r.markB m)) ∧ w.grows w' := by
  have Hv := Lib.hid hv
  obtain ⟨va, vc, rfl, v1, v2, -⟩ := hv
  unfold maxLen at h2 v2
  have hm := r.markB_iff m
  have h52 := fun W h => c52 W 0 9 (r.nv m) (r.val m) (.slice va (r.nv m) vc) h
  go_enter Try.func57, Try.ntmps57
  cases q1 : outB 0 1000 (r.who m) with
  | true =>
    rw [q1] at hm
    have HM : Hid (r.markB m = true) := Lib.hid hm
    clear hm
    go_wp2_with (go_at_call 52; (refine (c52one _ _ _ _ _ (one_slice _ _ _ _ (by simp))).mono ?_; rintro e w' ⟨rfl, hg⟩; obtain ⟨n2, x2, rfl⟩ := World.plus_of hg; simp only [q1]))
    (refine bodyPost_ret (v := .bool true) (by simp [results, Try.results57, go_sem]) rfl ?_)
    exact ⟨by rw [HM.out], by (repeat (first | exact World.grows.refl _ | assumption | refine World.grows.alloc ?_ _ | refine World.grows.plus ?_ _ _ | refine World.grows.drew ?_))⟩
  | false =>
    rw [q1] at hm
    by_cases q2 : r.nv m = r.nc
    · have q2' : (r.nv m : Int) = (r.nc : Int) := by omega
      have q2b : ((r.nv m : Int) == (r.nc : Int)) = true := by simp [q2]
      cases q3 : (List.range (r.nv m)).any (fun i => outB 0 9 (r.val m i)) with
      | true =>
        rw [q3] at hm h52
        simp only [Bool.not_true] at h52
        have HM : Hid (r.markB m = true) := Lib.hid (by rw [hm]; simp)
        clear hm q2 q3
        go_wp2_with (go_at_call 44; fail)
        refine (c52one _ _ _ _ _ (one_slice _ _ _ _ (by simp))).mono ?_
        rintro e w' ⟨rfl, hg⟩
        obtain ⟨n2, x2, rfl⟩ := World.plus_of hg
        simp only [q1]
        go_wp2_with (go_at_call 44; fail)
        refine (h52 _ (Hv.out.mono (by (repeat (first | exact World.grows.refl _ | assumption | refine World.grows.alloc ?_ _ | refine World.grows.plus ?_ _ _ | refine World.grows.drew ?_))))).mono ?_
        rintro e w' ⟨rfl, hg⟩
        obtain ⟨n3, x3, rfl⟩ := World.plus_of hg
        go_wp2
        (refine bodyPost_ret (v := .bool true) (by simp [results, Try.results57, go_sem]) rfl ?_)
        exact ⟨by rw [HM.out], by (repeat (first | exact World.grows.refl _ | assumption | refine World.grows.alloc ?_ _ | refine World.grows.plus ?_ _ _ | refine World.grows.drew ?_))⟩
      | false =>
        rw [q3] at hm h52
        simp only [Bool.not_false] at h52
        have HM : Hid (r.markB m = false) := Lib.hid (by rw [hm]; simp [q2])
        clear hm q2 q3
        go_wp2_with (go_at_call 44; fail)
        refine (c52one _ _ _ _ _ (one_slice _ _ _ _ (by simp))).mono ?_
        rintro e w' ⟨rfl, hg⟩
        obtain ⟨n2, x2, rfl⟩ := World.plus_of hg
        simp only [q1]
        go_wp2_with (go_at_call 44; fail)
        refine (h52 _ (Hv.out.mono (by (repeat (first | exact World.grows.refl _ | assumption | refine World.grows.alloc ?_ _ | refine World.grows.plus ?_ _ _ | refine World.grows.drew ?_))))).mono ?_
        rintro e w' ⟨rfl, hg⟩
        obtain ⟨n3, x3, rfl⟩ := World.plus_of hg
        go_wp2
        (refine bodyPost_ret (v := .bool false) (by simp [results, Try.results57, go_sem]) rfl ?_)
        exact ⟨by rw [HM.out], by (repeat (first | exact World.grows.refl _ | assumption | refine World.grows.alloc ?_ _ | refine World.grows.plus ?_ _ _ | refine World.grows.drew ?_))⟩
    · have q2' : ¬ (r.nv m : Int) = (r.nc : Int) := by omega
      have q2b : ((r.nv m : Int) == (r.nc : Int)) = false := beq_eq_false_iff_ne.2 q2'
      have HM : Hid (r.markB m = true) := Lib.hid (by rw [hm]; simp [q2])
      clear hm q2 h52
      go_wp2_with (go_at_call 52; (refine (c52one _ _ _ _ _ (one_slice _ _ _ _ (by simp))).mono ?_; rintro e w' ⟨rfl, hg⟩; obtain ⟨n2, x2, rfl⟩ := World.plus_of hg; simp only [q1]))
      (refine bodyPost_ret (v := .bool true) (by simp [results, Try.results57, go_sem]) rfl ?_)
      exact ⟨by rw [HM.out], by (repeat (first | exact World.grows.refl _ | assumption | refine World.grows.alloc ?_ _ | refine World.grows.plus ?_ _ _ | refine World.grows.drew ?_))⟩

set_option maxHeartbeats 1000000 in
theorem badCost_c (w : World) (c : Int) : Calls Try.prog 59 #[.int .i64 c] w fun e w' => e = .returned (.bool (outB 1 1000 c)) ∧ w.grows w' := by
  unfold outB
  go_enter Try.func59, Try.ntmps59
  by_cases hl : c < 1
  · go_wp2
    go_ret
    exact ⟨by simp [hl], by (repeat (first | exact World.grows.refl _ | assumption | refine World.grows.alloc ?_ _ | refine World.grows.plus ?_ _ _ | refine World.grows.drew ?_))⟩
  · by_cases hh : 1000 < c
    · go_wp2
      go_ret
      exact ⟨by simp [hh], by (repeat (first | exact World.grows.refl _ | assumption | refine World.grows.alloc ?_ _ | refine World.grows.plus ?_ _ _ | refine World.grows.drew ?_))⟩
    · go_wp2
      go_ret
      exact ⟨by simp [hh, hl], by (repeat (first | exact World.grows.refl _ | assumption | refine World.grows.alloc ?_ _ | refine World.grows.plus ?_ _ _ | refine World.grows.drew ?_))⟩

theorem Tr.toB_out (t : Tr) (x : Int) (lo : Nat) : t.toB x lo = (!outB lo ((t.n : Int) - 1) x || !outB (-1001) (-1) x) := by
  rw [Bool.eq_iff_iff, t.toB_iff]
  simp [outB]
  omega
set_option maxHeartbeats 1000000 in
theorem leads_c (w : World) (t : Tr) (b : Nat) (na : Option Addr) (nc : Nat) (h1 : t.n ≤ nc) (h2 : nc ≤ maxLen) (hb : w.cell? ⟨b, 1, none⟩ = some (.slice na t.n nc)) (x : Int) (lo : Nat) :
    Calls Try.prog 87 #[.int .i64 x, .int .i64 lo, .pointer (some ⟨b, 0, none⟩)] w fun e w' => e = .returned (.bool (t.toB x lo)) ∧ w.grows w' := by
  unfold maxLen at h2
  have ht := Lib.hid (t.toB_out x lo)
  have hw : IntKind.i64.wrap ((t.n : Int) - 1) = (t.n : Int) - 1 := wrapI rfl (by omega)
  go_enter Try.func87, Try.ntmps87
  cases q1 : outB lo ((t.n : Int) - 1) x with
  | false =>
    have HT : Hid (t.toB x lo = true) := Lib.hid (by rw [ht.out, q1]; rfl)
    go_wp2_with (go_at_call 52; (refine (c52one _ _ _ _ _ (one_slice _ _ _ _ (by simp))).mono ?_; rintro e w' ⟨rfl, hg⟩; obtain ⟨n2, x2, rfl⟩ := World.plus_of hg; simp only [q1]))
    (refine bodyPost_ret (v := .bool true) (by simp [results, Try.results87, go_sem]) rfl ?_)
    exact ⟨by rw [HT.out], by (repeat (first | exact World.grows.refl _ | assumption | refine World.grows.alloc ?_ _ | refine World.grows.plus ?_ _ _ | refine World.grows.drew ?_))⟩
  | true =>
    have HT : Hid (t.toB x lo = !outB (-1001) (-1) x) := Lib.hid (by rw [ht.out, q1]; rfl)
    go_wp2_with (go_at_call 52; (refine (c52one _ _ _ _ _ (one_slice _ _ _ _ (by simp))).mono ?_; rintro e w' ⟨rfl, hg⟩; obtain ⟨n2, x2, rfl⟩ := World.plus_of hg; try simp only [q1]))
    (refine bodyPost_ret (v := .bool !outB (-1001) (-1) x) (by simp [results, Try.results87, go_sem]) rfl ?_)
    exact ⟨by rw [HT.out], by (repeat (first | exact World.grows.refl _ | assumption | refine World.grows.alloc ?_ _ | refine World.grows.plus ?_ _ _ | refine World.grows.drew ?_))⟩

def eqL (f g : Nat → Int) (n : Nat) : Bool := (List.range n).all fun i => decide (f i = g i)
theorem eqL_no {f g : Nat → Int} {n i : Nat} (hi : i < n) (h : f i ≠ g i) : eqL f g n = false := by
  unfold eqL
  rw [List.all_eq_false]
  exact ⟨i, by simpa using hi, by simpa using h⟩
theorem eqL_yes {f g : Nat → Int} {n : Nat} (h : ∀ i, i < n → f i = g i) : eqL f g n = true := by
  unfold eqL
  simp only [List.all_eq_true, List.mem_range, decide_eq_true_eq]
  exact h
set_option maxHeartbeats 1000000 in
theorem equal_c (w : World) (av bv : Value) (n m : Nat) (f g : Nat → Int) (ha : IntsAt w av n f) (hb : IntsAt w bv m g) :
    Calls Try.prog 50 #[av, bv] w fun e w' => e = .returned (.bool (decide (n = m) && eqL f g n)) ∧ w.grows w' := by
  obtain ⟨aa, ac, rfl, a1, a2, ha⟩ := ha
  obtain ⟨ba, bc, rfl, b1, b2, hb⟩ := hb
  unfold maxLen at a2 b2
  go_enter Try.func50, Try.ntmps50
  by_cases hn : n = m
  · subst hn
    go_wp2
    go_loopw [13] (fun i wr => ∃ k : Nat, k ≤ n ∧ i = .int .i64 k ∧ Hid (∀ j, j < k → f j = g j) ∧ w.grows wr) (fun i _ => n - (intOf i).toNat)
    case atStart => exact ⟨0, by omega, rfl, Lib.hid fun j hj => by omega, by (repeat (first | exact World.grows.refl _ | assumption | refine World.grows.alloc ?_ _ | refine World.grows.plus ?_ _ _ | refine World.grows.drew ?_))⟩
    case round =>
      obtain ⟨k, hk, rfl, hl, hg⟩ := hrel
      obtain ⟨n1, x1, rfl⟩ := World.plus_of hg
      by_cases hlt : k < n
      · obtain ⟨b, o, rfl, h0⟩ := ha k 0 hlt (by omega)
        obtain ⟨b', o', rfl, h1⟩ := hb k 0 hlt (by omega)
        simp only [Nat.mul_one, Nat.add_zero] at h0 h1
        by_cases he : f k = g k
        · have hnx := Lib.hid (upto_succ hl.out he)
          rw [he] at h0
          clear he
          go_wp2
          (refine wp_region_calm (by kernel_rfl) (by kernel_rfl) ?_; (repeat (refine wpCalm_step (fun K hK => ?_); go_simp; first | (refine hK _ ?_; clear hK K) | (apply Exists.intro; refine ⟨fun n' x' => ?_, hK _ ?_⟩; (fail); clear hK K))); refine wpCalm_nil ?_; intro nq xq)
          go_wp2
          go_roundw
          case rel => exact ⟨k + 1, by omega, by go_num, hnx, by (repeat (first | exact World.grows.refl _ | assumption | refine World.grows.alloc ?_ _ | refine World.grows.plus ?_ _ _ | refine World.grows.drew ?_))⟩
          case measure => simp [intOf]; omega
        · have hx := Lib.hid (eqL_no hlt he)
          have heb : (f k == g k) = false := beq_eq_false_iff_ne.2 he
          go_wp2
          (refine wp_region_calm (by kernel_rfl) (by kernel_rfl) ?_; (repeat (refine wpCalm_step (fun K hK => ?_); go_simp; first | (refine hK _ ?_; clear hK K) | (apply Exists.intro; refine ⟨fun n' x' => ?_, hK _ ?_⟩; (fail); clear hK K))); refine wpCalm_nil ?_; intro nq xq)
          go_wp2
          go_ret
          exact ⟨by rw [hx.out]; simp, by (repeat (first | exact World.grows.refl _ | assumption | refine World.grows.alloc ?_ _ | refine World.grows.plus ?_ _ _ | refine World.grows.drew ?_))⟩
      · have hke : k = n := by omega
        subst hke
        have hx := Lib.hid (eqL_yes hl.out)
        go_wp2
        go_ret
        exact ⟨by rw [hx.out]; simp, by (repeat (first | exact World.grows.refl _ | assumption | refine World.grows.alloc ?_ _ | refine World.grows.plus ?_ _ _ | refine World.grows.drew ?_))⟩
  · have hn' : ¬ (n : Int) = (m : Int) := by omega
    have hnb : ((n : Int) == (m : Int)) = false := beq_eq_false_iff_ne.2 hn'
    go_wp2
    go_ret
    exact ⟨by simp [hn], by (repeat (first | exact World.grows.refl _ | assumption | refine World.grows.alloc ?_ _ | refine World.grows.plus ?_ _ _ | refine World.grows.drew ?_))⟩
end Go.Proofs.Ytdminglglapnlaa

/-
  What is proved: a mark (48), and an entry (86), of the chapter's examples.
-/
namespace Go.Proofs.Ytdminglglapnlaa
open Go.RowKit

theorem mark_s (w : World) (x : Int) (a : Option Addr) (n c : Nat) : Calls Try.prog 48 #[.int .i64 x, .slice a n c] w fun e w' => e = .returned (.agg #[.int .i64 x, .slice a n c]) ∧ w.grows w' := by
  go_enter Try.func48, Try.ntmps48
  go_wp2
  (refine bodyPost_ret (v := .agg #[.int .i64 x, .slice a n c]) (by simp [results, Try.results48, go_sem]) rfl ?_)
  exact ⟨rfl, by (repeat (first | exact World.grows.refl _ | assumption | refine World.grows.alloc ?_ _ | refine World.grows.plus ?_ _ _ | refine World.grows.drew ?_))⟩
theorem bound_s (w : World) (x : Int) (a : Option Addr) (n c : Nat) : Calls Try.prog 86 #[.int .i64 x, .slice a n c] w fun e w' => e = .returned (.agg #[.slice a n c, .int .i64 x]) ∧ w.grows w' := by
  go_enter Try.func86, Try.ntmps86
  go_wp2
  (refine bodyPost_ret (v := .agg #[.slice a n c, .int .i64 x]) (by simp [results, Try.results86, go_sem]) rfl ?_)
  exact ⟨rfl, by (repeat (first | exact World.grows.refl _ | assumption | refine World.grows.alloc ?_ _ | refine World.grows.plus ?_ _ _ | refine World.grows.drew ?_))⟩
end Go.Proofs.Ytdminglglapnlaa

