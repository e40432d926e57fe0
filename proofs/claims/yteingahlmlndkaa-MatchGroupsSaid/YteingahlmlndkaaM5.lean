/-
  What is proved: maps whose keys are arrays or structs, as lists of keys, numbers and stamps.
-/
import Derived.Test.YteingahlmlndkaaM4
import Derived.WideKeyRuns
import Derived.WideKeyEntry
import Derived.Lib.Hide
import Derived.Test.YteingahlmlndkaaM1
set_option linter.all false
namespace Go
open Go.RowKit

/-! ### blocks through layers -/
theorem World.grows.heap {w w' : World} (g : w.grows w') {b : Nat} (h : (w.heap[b]?).isSome = true) : w'.heap[b]? = w.heap[b]? := by
  cases ho : w.heap[b]? with
  | none => rw [ho] at h; cases h
  | some o => rw [g.block b (World.lt_of_block ho), ho]
@[go_sem] theorem World.heap_a (w : World) (o : Obj) (b : Nat) (h : (w.heap[b]?).isSome = true) : (w.alloc o).heap[b]? = w.heap[b]? := ((World.grows.refl w).alloc o).heap h
@[go_sem] theorem World.heap_at (w : World) (o : Obj) (b : Nat) (h : b = w.heap.size) : (w.alloc o).heap[b]? = some o := by subst h; exact heap_alloc_new w o
@[go_sem] theorem World.heap_drew (w : World) (b : Nat) : w.drew.heap[b]? = w.heap[b]? := rfl
@[go_sem] theorem World.heap_setCell_map (w : World) (a : Addr) (v : Value) (b : Nat) (h : a.block ≠ b) : (w.setCell a v).heap[b]? = w.heap[b]? := by
  exact Below.heap_setCell w a v b (fun e => h e.symm)
/-- a store into a block that is there, by what lies there -/
@[go_sem] theorem World.putObj_plus' (w : World) (n : Nat) (x : World) (b : Nat) (o : Obj) (h : (w.heap[b]?).isSome = true) : (w.plus n x).putObj b o = (w.putObj b o).plus n (w.putIn n x b o) := by
  cases ho : w.heap[b]? with
  | none => rw [ho] at h; cases h
  | some o' => exact World.putObj_plus w n x b o (World.lt_of_block ho)
@[go_sem] theorem World.putObj_alloc_is (w : World) (o o' : Obj) (b : Nat) (h : (w.heap[b]?).isSome = true) : (w.alloc o).putObj b o' = (w.putObj b o').alloc o := by
  cases ho : w.heap[b]? with
  | none => rw [ho] at h; cases h
  | some o1 => exact World.putObj_alloc_lt w o o' b (World.lt_of_block ho)
@[go_sem] theorem World.putObj_drew (w : World) (b : Nat) (o : Obj) : w.drew.putObj b o = (w.putObj b o).drew := rfl

@[go_sem] theorem World.heap_aa' (w : World) (o0 : Obj) (o1 : Obj) (b : Nat) (h : (w.heap[b]?).isSome = true) : ((w.alloc o0).alloc o1).heap[b]? = w.heap[b]? := (((World.grows.refl w).alloc _).alloc _).heap h
@[go_sem] theorem World.heap_ap' (w : World) (n0 : Nat) (x0 : World) (o1 : Obj) (b : Nat) (h : (w.heap[b]?).isSome = true) : ((w.plus n0 x0).alloc o1).heap[b]? = w.heap[b]? := (((World.grows.refl w).plus _ _).alloc _).heap h
@[go_sem] theorem World.heap_pa' (w : World) (o0 : Obj) (n1 : Nat) (x1 : World) (b : Nat) (h : (w.heap[b]?).isSome = true) : ((w.alloc o0).plus n1 x1).heap[b]? = w.heap[b]? := (((World.grows.refl w).alloc _).plus _ _).heap h
@[go_sem] theorem World.heap_pp' (w : World) (n0 : Nat) (x0 : World) (n1 : Nat) (x1 : World) (b : Nat) (h : (w.heap[b]?).isSome = true) : ((w.plus n0 x0).plus n1 x1).heap[b]? = w.heap[b]? := (((World.grows.refl w).plus _ _).plus _ _).heap h
@[go_sem] theorem World.heap_aaa' (w : World) (o0 : Obj) (o1 : Obj) (o2 : Obj) (b : Nat) (h : (w.heap[b]?).isSome = true) : (((w.alloc o0).alloc o1).alloc o2).heap[b]? = w.heap[b]? := ((((World.grows.refl w).alloc _).alloc _).alloc _).heap h
@[go_sem] theorem World.heap_aap' (w : World) (n0 : Nat) (x0 : World) (o1 : Obj) (o2 : Obj) (b : Nat) (h : (w.heap[b]?).isSome = true) : (((w.plus n0 x0).alloc o1).alloc o2).heap[b]? = w.heap[b]? := ((((World.grows.refl w).plus _ _).alloc _).alloc _).heap h
@[go_sem] theorem World.heap_apa' (w : World) (o0 : Obj) (n1 : Nat) (x1 : World) (o2 : Obj) (b : Nat) (h : (w.heap[b]?).isSome = true) : (((w.alloc o0).plus n1 x1).alloc o2).heap[b]? = w.heap[b]? := ((((World.grows.refl w).alloc _).plus _ _).alloc _).heap h
@[go_sem] theorem World.heap_app' (w : World) (n0 : Nat) (x0 : World) (n1 : Nat) (x1 : World) (o2 : Obj) (b : Nat) (h : (w.heap[b]?).isSome = true) : (((w.plus n0 x0).plus n1 x1).alloc o2).heap[b]? = w.heap[b]? := ((((World.grows.refl w).plus _ _).plus _ _).alloc _).heap h
@[go_sem] theorem World.heap_paa' (w : World) (o0 : Obj) (o1 : Obj) (n2 : Nat) (x2 : World) (b : Nat) (h : (w.heap[b]?).isSome = true) : (((w.alloc o0).alloc o1).plus n2 x2).heap[b]? = w.heap[b]? := ((((World.grows.refl w).alloc _).alloc _).plus _ _).heap h
@[go_sem] theorem World.heap_pap' (w : World) (n0 : Nat) (x0 : World) (o1 : Obj) (n2 : Nat) (x2 : World) (b : Nat) (h : (w.heap[b]?).isSome = true) : (((w.plus n0 x0).alloc o1).plus n2 x2).heap[b]? = w.heap[b]? := ((((World.grows.refl w).plus _ _).alloc _).plus _ _).heap h
@[go_sem] theorem World.heap_ppa' (w : World) (o0 : Obj) (n1 : Nat) (x1 : World) (n2 : Nat) (x2 : World) (b : Nat) (h : (w.heap[b]?).isSome = true) : (((w.alloc o0).plus n1 x1).plus n2 x2).heap[b]? = w.heap[b]? := ((((World.grows.refl w).alloc _).plus _ _).plus _ _).heap h
@[go_sem] theorem World.heap_ppp' (w : World) (n0 : Nat) (x0 : World) (n1 : Nat) (x1 : World) (n2 : Nat) (x2 : World) (b : Nat) (h : (w.heap[b]?).isSome = true) : (((w.plus n0 x0).plus n1 x1).plus n2 x2).heap[b]? = w.heap[b]? := ((((World.grows.refl w).plus _ _).plus _ _).plus _ _).heap h
@[go_sem] theorem World.heap_aaaa' (w : World) (o0 : Obj) (o1 : Obj) (o2 : Obj) (o3 : Obj) (b : Nat) (h : (w.heap[b]?).isSome = true) : ((((w.alloc o0).alloc o1).alloc o2).alloc o3).heap[b]? = w.heap[b]? := (((((World.grows.refl w).alloc _).alloc _).alloc _).alloc _).heap h
@[go_sem] theorem World.heap_aaap' (w : World) (n0 : Nat) (x0 : World) (o1 : Obj) (o2 : Obj) (o3 : Obj) (b : Nat) (h : (w.heap[b]?).isSome = true) : ((((w.plus n0 x0).alloc o1).alloc o2).alloc o3).heap[b]? = w.heap[b]? := (((((World.grows.refl w).plus _ _).alloc _).alloc _).alloc _).heap h
@[go_sem] theorem World.heap_aapa' (w : World) (o0 : Obj) (n1 : Nat) (x1 : World) (o2 : Obj) (o3 : Obj) (b : Nat) (h : (w.heap[b]?).isSome = true) : ((((w.alloc o0).plus n1 x1).alloc o2).alloc o3).heap[b]? = w.heap[b]? := (((((World.grows.refl w).alloc _).plus _ _).alloc _).alloc _).heap h
@[go_sem] theorem World.heap_aapp' (w : World) (n0 : Nat) (x0 : World) (n1 : Nat) (x1 : World) (o2 : Obj) (o3 : Obj) (b : Nat) (h : (w.heap[b]?).isSome = true) : ((((w.plus n0 x0).plus n1 x1).alloc o2).alloc o3).heap[b]? = w.heap[b]? := (((((World.grows.refl w).plus _ _).plus _ _).alloc _).alloc _).heap h
@[go_sem] theorem World.heap_apaa' (w : World) (o0 : Obj) (o1 : Obj) (n2 : Nat) (x2 : World) (o3 : Obj) (b : Nat) (h : (w.heap[b]?).isSome = true) : ((((w.alloc o0).alloc o1).plus n2 x2).alloc o3).heap[b]? = w.heap[b]? := (((((World.grows.refl w).alloc _).alloc _).plus _ _).alloc _).heap h
@[go_sem] theorem World.heap_apap' (w : World) (n0 : Nat) (x0 : World) (o1 : Obj) (n2 : Nat) (x2 : World) (o3 : Obj) (b : Nat) (h : (w.heap[b]?).isSome = true) : ((((w.plus n0 x0).alloc o1).plus n2 x2).alloc o3).heap[b]? = w.heap[b]? := (((((World.grows.refl w).plus _ _).alloc _).plus _ _).alloc _).heap h
@[go_sem] theorem World.heap_appa' (w : World) (o0 : Obj) (n1 : Nat) (x1 : World) (n2 : Nat) (x2 : World) (o3 : Obj) (b : Nat) (h : (w.heap[b]?).isSome = true) : ((((w.alloc o0).plus n1 x1).plus n2 x2).alloc o3).heap[b]? = w.heap[b]? := (((((World.grows.refl w).alloc _).plus _ _).plus _ _).alloc _).heap h
@[go_sem] theorem World.heap_appp' (w : World) (n0 : Nat) (x0 : World) (n1 : Nat) (x1 : World) (n2 : Nat) (x2 : World) (o3 : Obj) (b : Nat) (h : (w.heap[b]?).isSome = true) : ((((w.plus n0 x0).plus n1 x1).plus n2 x2).alloc o3).heap[b]? = w.heap[b]? := (((((World.grows.refl w).plus _ _).plus _ _).plus _ _).alloc _).heap h
@[go_sem] theorem World.heap_paaa' (w : World) (o0 : Obj) (o1 : Obj) (o2 : Obj) (n3 : Nat) (x3 : World) (b : Nat) (h : (w.heap[b]?).isSome = true) : ((((w.alloc o0).alloc o1).alloc o2).plus n3 x3).heap[b]? = w.heap[b]? := (((((World.grows.refl w).alloc _).alloc _).alloc _).plus _ _).heap h
@[go_sem] theorem World.heap_paap' (w : World) (n0 : Nat) (x0 : World) (o1 : Obj) (o2 : Obj) (n3 : Nat) (x3 : World) (b : Nat) (h : (w.heap[b]?).isSome = true) : ((((w.plus n0 x0).alloc o1).alloc o2).plus n3 x3).heap[b]? = w.heap[b]? := (((((World.grows.refl w).plus _ _).alloc _).alloc _).plus _ _).heap h
@[go_sem] theorem World.heap_papa' (w : World) (o0 : Obj) (n1 : Nat) (x1 : World) (o2 : Obj) (n3 : Nat) (x3 : World) (b : Nat) (h : (w.heap[b]?).isSome = true) : ((((w.alloc o0).plus n1 x1).alloc o2).plus n3 x3).heap[b]? = w.heap[b]? := (((((World.grows.refl w).alloc _).plus _ _).alloc _).plus _ _).heap h
@[go_sem] theorem World.heap_papp' (w : World) (n0 : Nat) (x0 : World) (n1 : Nat) (x1 : World) (o2 : Obj) (n3 : Nat) (x3 : World) (b : Nat) (h : (w.heap[b]?).isSome = true) : ((((w.plus n0 x0).plus n1 x1).alloc o2).plus n3 x3).heap[b]? = w.heap[b]? := (((((World.grows.refl w).plus _ _).plus _ _).alloc _).plus _ _).heap h
@[go_sem] theorem World.heap_ppaa' (w : World) (o0 : Obj) (o1 : Obj) (n2 : Nat) (x2 : World) (n3 : Nat) (x3 : World) (b : Nat) (h : (w.heap[b]?).isSome = true) : ((((w.alloc o0).alloc o1).plus n2 x2).plus n3 x3).heap[b]? = w.heap[b]? := (((((World.grows.refl w).alloc _).alloc _).plus _ _).plus _ _).heap h
@[go_sem] theorem World.heap_ppap' (w : World) (n0 : Nat) (x0 : World) (o1 : Obj) (n2 : Nat) (x2 : World) (n3 : Nat) (x3 : World) (b : Nat) (h : (w.heap[b]?).isSome = true) : ((((w.plus n0 x0).alloc o1).plus n2 x2).plus n3 x3).heap[b]? = w.heap[b]? := (((((World.grows.refl w).plus _ _).alloc _).plus _ _).plus _ _).heap h
@[go_sem] theorem World.heap_pppa' (w : World) (o0 : Obj) (n1 : Nat) (x1 : World) (n2 : Nat) (x2 : World) (n3 : Nat) (x3 : World) (b : Nat) (h : (w.heap[b]?).isSome = true) : ((((w.alloc o0).plus n1 x1).plus n2 x2).plus n3 x3).heap[b]? = w.heap[b]? := (((((World.grows.refl w).alloc _).plus _ _).plus _ _).plus _ _).heap h
@[go_sem] theorem World.heap_pppp' (w : World) (n0 : Nat) (x0 : World) (n1 : Nat) (x1 : World) (n2 : Nat) (x2 : World) (n3 : Nat) (x3 : World) (b : Nat) (h : (w.heap[b]?).isSome = true) : ((((w.plus n0 x0).plus n1 x1).plus n2 x2).plus n3 x3).heap[b]? = w.heap[b]? := (((((World.grows.refl w).plus _ _).plus _ _).plus _ _).plus _ _).heap h

/-! ### the maps -/
structure PM (K : Type) where
  l : List (K × Int × Nat)
  clock : Nat

section
variable {K : Type} [DecidableEq K]

def PM.ents (eK : K → Value) (l : List (K × Int × Nat)) : List MapEntry := l.map fun x => ⟨eK x.1, .int .i64 x.2.1, x.2.2⟩
def PM.obj (eK : K → Value) (m : PM K) : Obj := .map (PM.ents eK m.l).toArray m.clock
def PM.empty (K : Type) : PM K := ⟨[], 0⟩

structure PM.Ok (m : PM K) : Prop where
  keys : (m.l.map (·.1)).Nodup
  born : (m.l.map (·.2.2)).Pairwise (· < ·)
  clock : ∀ x ∈ m.l, x.2.2 < m.clock

def PM.fnd : List (K × Int × Nat) → K → Nat → Option (Nat × Int)
  | [], _, _ => none
  | x :: r, k, i => if k = x.1 then some (i, x.2.1) else PM.fnd r k (i + 1)
def PM.get (m : PM K) (k : K) : Option Int := (PM.fnd m.l k 0).map (·.2)
def PM.getD (m : PM K) (k : K) : Int := (m.get k).getD 0
def PM.put : List (K × Int × Nat) → K → Int → List (K × Int × Nat)
  | [], _, _ => []
  | x :: r, k, v => if k = x.1 then (x.1, v, x.2.2) :: r else x :: PM.put r k v
def PM.set (m : PM K) (k : K) (v : Int) : PM K :=
  if (m.get k).isSome then ⟨PM.put m.l k v, m.clock⟩ else ⟨m.l ++ [(k, v, m.clock)], m.clock + 1⟩
def PM.cut : List (K × Int × Nat) → K → List (K × Int × Nat)
  | [], _ => []
  | x :: r, k => if k = x.1 then r else x :: PM.cut r k
def PM.del (m : PM K) (k : K) : PM K := ⟨PM.cut m.l k, m.clock⟩

/-- what a key's type must be -/
structure KeyOk (P : Program) (kT : TypeId) (eK : K → Value) : Prop where
  wide : (match P.underlying kT with | some (.array _ _) | some (.struct _) => true | _ => false) = true
  eq : ∀ a b w, (Op.equal kT (eK a) (eK b)).run P w = .ok (decide (a = b)) w
  chk : ∀ em a w, (Instr.checkKey em 10000 kT (eK a)).run P w = .ok () w
  bits : ∀ a, Instr.sameBits 10000 (eK a) (eK a) = true

variable {P : Program} {kT T eT : TypeId} {eK : K → Value}

theorem run_findAsking_pm (hk : KeyOk P kT eK) (k : K) (w : World) : ∀ (l : List (K × Int × Nat)) (i : Nat),
    (Instr.findAsking kT (eK k) (PM.ents eK l) i).run P w = .ok ((PM.fnd l k i).map fun p => (p.1, Value.int .i64 p.2)) w
  | [], i => by simp [PM.ents, Instr.findAsking, PM.fnd]
  | x :: r, i => by
    have ih := run_findAsking_pm hk k w r (i + 1)
    simp only [PM.ents, List.map_cons, Instr.findAsking, Sem.run_bind, hk.eq, Result.andThen, PM.fnd] at ih ⊢
    by_cases h : k = x.1
    · simp [h]
    · simp only [h, decide_false, Bool.false_eq_true, if_false]
      exact ih

theorem run_findKey_pm (hk : KeyOk P kT eK) (k : K) (w : World) (l : List (K × Int × Nat)) :
    (Instr.findKey kT (eK k) (PM.ents eK l)).run P w = .ok ((PM.fnd l k 0).map fun p => (p.1, Value.int .i64 p.2)) w := by
  rw [run_findKey_eq w hk.wide]
  exact run_findAsking_pm hk k w l 0

theorem run_lookup_pm (hk : KeyOk P kT eK) (hT : P.underlying T = some (.map kT eT)) (hz : ∀ w, (zeroValue eT).run P w = .ok (.int .i64 0) w) (m : PM K) (b : Nat) (w : World)
    (hb : w.heap[b]? = some (m.obj eK)) (k : K) : (Instr.lookup T (.map (some b)) (eK k) false).run P w = .ok (.int .i64 (m.getD k)) w := by
  have hb' : w.heap[b]? = some (.map (PM.ents eK m.l).toArray m.clock) := hb
  simp only [Instr.lookup, Sem.run_bind, run_underlying hT, Result.andThen, MapKept.run_getObj_map hb', Sem.run_pure, hk.chk, run_findKey_pm hk]
  unfold PM.getD PM.get
  cases PM.fnd m.l k 0 with
  | none => simp [hz]
  | some p => simp

theorem PM.fnd_spec : ∀ (l : List (K × Int × Nat)) (k : K) (i j : Nat) (v : Int), PM.fnd l k i = some (j, v) → i ≤ j ∧ ∃ b, l[j - i]? = some (k, v, b)
  | [], _, _, _, _, h => by simp [PM.fnd] at h
  | x :: r, k, i, j, v, h => by
    simp only [PM.fnd] at h
    split at h
    · rename_i hk
      simp only [Option.some.injEq, Prod.mk.injEq] at h
      obtain ⟨rfl, rfl⟩ := h
      subst hk
      exact ⟨Nat.le_refl _, x.2.2, by simp⟩
    · obtain ⟨h1, b, h2⟩ := PM.fnd_spec r k (i + 1) j v h
      refine ⟨by omega, b, ?_⟩
      rw [show j - i = (j - (i + 1)) + 1 by omega, List.getElem?_cons_succ]
      exact h2

theorem PM.put_modify (v : Int) : ∀ (l : List (K × Int × Nat)) (k : K) (i j : Nat) (u : Int), PM.fnd l k i = some (j, u) →
    (PM.ents eK l).modify (j - i) (fun e => { e with key := eK k, val := .int .i64 v }) = PM.ents eK (PM.put l k v)
  | [], _, _, _, _, h => by simp [PM.fnd] at h
  | x :: r, k, i, j, u, h => by
    have hs := PM.fnd_spec (x :: r) k i j u h
    simp only [PM.fnd] at h
    split at h
    · rename_i hk
      simp only [Option.some.injEq, Prod.mk.injEq] at h
      obtain ⟨rfl, rfl⟩ := h
      simp [PM.put, hk, PM.ents]
    · rename_i hk
      have h1 := (PM.fnd_spec r k (i + 1) j u h).1
      have ih := PM.put_modify v r k (i + 1) j u h
      rw [show j - i = (j - (i + 1)) + 1 by omega]
      simp only [PM.put, hk, if_false, PM.ents, List.map_cons, List.modify_succ_cons] at ih ⊢
      rw [ih]

theorem run_mapUpdate_pm (hk : KeyOk P kT eK) (hT : P.underlying T = some (.map kT eT)) (m : PM K) (b : Nat) (w : World)
    (hb : w.heap[b]? = some (m.obj eK)) (k : K) (v : Int) : (Instr.mapUpdate T (.map (some b)) (eK k) (.int .i64 v)).run P w = .ok () (w.putObj b ((m.set k v).obj eK)) := by
  have hb' : w.heap[b]? = some (.map (PM.ents eK m.l).toArray m.clock) := hb
  have hset : ∀ o, (setObj b o).run P w = .ok () (w.putObj b o) := fun o => by simp [setObj, Sem.run, hb', World.putObj]
  simp only [Instr.mapUpdate, Sem.run_bind, run_underlying hT, Result.andThen, MapKept.run_getObj_map hb', hk.chk, run_findKey_pm hk]
  cases hf : PM.fnd m.l k 0 with
  | none =>
    have hg : (m.get k).isSome = false := by simp [PM.get, hf]
    simp only [Option.map_none, hset, PM.set, hg, Bool.false_eq_true, if_false, PM.obj, PM.ents, List.map_append, List.map_cons, List.map_nil]
    simp
  | some p =>
    obtain ⟨j, u⟩ := p
    have hg : (m.get k).isSome = true := by simp [PM.get, hf]
    obtain ⟨_, bn, hat⟩ := PM.fnd_spec m.l k 0 j u hf
    rw [Nat.sub_zero] at hat
    have hk0 : (((PM.ents eK m.l).toArray)[j]?.map (·.key)).getD (eK k) = eK k := by simp [PM.ents, hat]
    have hm := PM.put_modify (eK := eK) v m.l k 0 j u hf
    rw [Nat.sub_zero] at hm
    simp only [Option.map_some, Instr.keyThatStays, hk0, hk.bits, if_true, Sem.run_pure, Sem.run_bind, Result.andThen, hset, PM.set, hg, PM.obj]
    rw [List.modify_toArray, hm]

theorem PM.cut_erase : ∀ (l : List (K × Int × Nat)) (k : K) (i j : Nat) (u : Int), PM.fnd l k i = some (j, u) → (PM.ents eK l).eraseIdx (j - i) = PM.ents eK (PM.cut l k)
  | [], _, _, _, _, h => by simp [PM.fnd] at h
  | x :: r, k, i, j, u, h => by
    simp only [PM.fnd] at h
    split at h
    · rename_i hk
      simp only [Option.some.injEq, Prod.mk.injEq] at h
      obtain ⟨rfl, rfl⟩ := h
      simp [PM.cut, hk, PM.ents]
    · rename_i hk
      have h1 := (PM.fnd_spec r k (i + 1) j u h).1
      have ih := PM.cut_erase r k (i + 1) j u h
      rw [show j - i = (j - (i + 1)) + 1 by omega]
      simp only [PM.cut, hk, if_false, PM.ents, List.map_cons, List.eraseIdx_cons_succ] at ih ⊢
      rw [ih]
theorem PM.cut_none : ∀ (l : List (K × Int × Nat)) (k : K) (i : Nat), PM.fnd l k i = none → PM.cut l k = l
  | [], _, _, _ => rfl
  | x :: r, k, i, h => by
    simp only [PM.fnd] at h
    split at h
    · cases h
    · rename_i hk; simp [PM.cut, hk, PM.cut_none r k (i + 1) h]

/-- the entries that have not come yet -/
def PM.left (m : PM K) (seen : Array Nat) : List (K × Int × Nat) := m.l.filter fun x => !seen.contains x.2.2

end
end Go

/-
  What is proved: the entry of a map that is read, changed and stored ('m[k] += v'); plain laws of the lists that maps are.
-/
namespace Go
open Go.RowKit

section
variable {K : Type} [DecidableEq K]

theorem PM.fnd_none_iff : ∀ (l : List (K × Int × Nat)) (k : K) (i : Nat), PM.fnd l k i = none ↔ k ∉ l.map (·.1)
  | [], _, _ => by simp [PM.fnd]
  | x :: r, k, i => by
    simp only [PM.fnd]
    by_cases h : k = x.1
    · simp [h]
    · simp only [h, if_false, List.map_cons, List.mem_cons, false_or]
      exact PM.fnd_none_iff r k (i + 1)
theorem PM.fnd_shift : ∀ (l : List (K × Int × Nat)) (k : K) (i j : Nat), (PM.fnd l k i).map (·.2) = (PM.fnd l k j).map (·.2)
  | [], _, _, _ => rfl
  | x :: r, k, i, j => by
    simp only [PM.fnd]
    by_cases h : k = x.1
    · simp [h]
    · simp only [h, if_false]
      exact PM.fnd_shift r k _ _
theorem PM.fnd_append : ∀ (l r : List (K × Int × Nat)) (k : K) (i : Nat), PM.fnd (l ++ r) k i = match PM.fnd l k i with | some p => some p | none => PM.fnd r k (i + l.length)
  | [], r, k, i => by simp [PM.fnd]
  | x :: l, r, k, i => by
    simp only [List.cons_append, PM.fnd]
    by_cases h : k = x.1
    · simp [h]
    · simp only [h, if_false]
      rw [PM.fnd_append l r k (i + 1), List.length_cons, show i + 1 + l.length = i + (l.length + 1) by omega]
theorem PM.fnd_put (v : Int) : ∀ (l : List (K × Int × Nat)) (k j : K) (i : Nat), (PM.fnd (PM.put l k v) j i).map (·.2) = if j = k ∧ (PM.fnd l k i).isSome then some v else (PM.fnd l j i).map (·.2)
  | [], k, j, i => by simp [PM.put, PM.fnd]
  | x :: r, k, j, i => by
    have ih := PM.fnd_put v r k j (i + 1)
    simp only [PM.put, PM.fnd]
    by_cases h : k = x.1
    · subst h
      by_cases h2 : j = x.1
      · subst h2; simp [PM.fnd]
      · simp [PM.fnd, h2]
    · simp only [h, if_false, PM.fnd]
      by_cases h2 : j = x.1
      · subst h2
        simp [Ne.symm h]
      · simp only [h2, if_false]
        exact ih

theorem PM.get_set (m : PM K) (k j : K) (v : Int) : (m.set k v).get j = if j = k then some v else m.get j := by
  unfold PM.set
  split
  · rename_i h
    have h' : (PM.fnd m.l k 0).isSome = true := by simpa [PM.get] using h
    have := PM.fnd_put v m.l k j 0
    simp only [PM.get, this, h', and_true]
  · rename_i h
    have h' : PM.fnd m.l k 0 = none := by
      cases hf : PM.fnd m.l k 0 with
      | none => rfl
      | some p => simp [PM.get, hf] at h
    simp only [PM.get, PM.fnd_append]
    by_cases hj : j = k
    · subst hj
      rw [h']
      simp [PM.fnd]
    · rw [if_neg hj]
      cases PM.fnd m.l j 0 with
      | none => simp [PM.fnd, hj]
      | some p => rfl
theorem PM.getD_set (m : PM K) (k j : K) (v : Int) : (m.set k v).getD j = if j = k then v else m.getD j := by
  unfold PM.getD
  rw [PM.get_set]
  split <;> rfl
theorem PM.get_empty (k : K) : (PM.empty K).get k = none := rfl
theorem PM.getD_empty (k : K) : (PM.empty K).getD k = 0 := rfl

theorem PM.put_keys (v : Int) : ∀ (l : List (K × Int × Nat)) (k : K), (PM.put l k v).map (·.1) = l.map (·.1)
  | [], _ => rfl
  | x :: r, k => by
    simp only [PM.put]
    split
    · rfl
    · simp [PM.put_keys v r k]
theorem PM.put_born (v : Int) : ∀ (l : List (K × Int × Nat)) (k : K), (PM.put l k v).map (·.2.2) = l.map (·.2.2)
  | [], _ => rfl
  | x :: r, k => by
    simp only [PM.put]
    split
    · rfl
    · simp [PM.put_born v r k]
theorem PM.Ok.lt {m : PM K} (h : m.Ok) : ∀ b ∈ m.l.map (·.2.2), b < m.clock := by
  intro b hb
  obtain ⟨x, hx, rfl⟩ := List.mem_map.1 hb
  exact h.clock x hx
theorem PM.Ok.of {m : PM K} (h1 : (m.l.map (·.1)).Nodup) (h2 : (m.l.map (·.2.2)).Pairwise (· < ·)) (h3 : ∀ b ∈ m.l.map (·.2.2), b < m.clock) : m.Ok :=
  ⟨h1, h2, fun x hx => h3 _ (List.mem_map.2 ⟨x, hx, rfl⟩)⟩
theorem PM.Ok.empty : (PM.empty K).Ok := ⟨List.nodup_nil, List.Pairwise.nil, fun _ h => absurd h (by simp [PM.empty])⟩
theorem PM.Ok.set {m : PM K} (h : m.Ok) (k : K) (v : Int) : (m.set k v).Ok := by
  unfold PM.set
  split
  · exact PM.Ok.of (by rw [PM.put_keys]; exact h.keys) (by rw [PM.put_born]; exact h.born) (by rw [PM.put_born]; exact h.lt)
  · rename_i hn
    have h' : PM.fnd m.l k 0 = none := by
      cases hf : PM.fnd m.l k 0 with
      | none => rfl
      | some p => simp [PM.get, hf] at hn
    have hk := (PM.fnd_none_iff m.l k 0).1 h'
    refine PM.Ok.of ?_ ?_ ?_
    · simp only [List.map_append, List.map_cons, List.map_nil]
      rw [List.nodup_append]
      refine ⟨h.keys, by simp, fun a ha b hb => ?_⟩
      simp at hb
      subst hb
      intro he
      subst he
      exact hk ha
    · simp only [List.map_append, List.map_cons, List.map_nil, List.pairwise_append]
      refine ⟨h.born, by simp, fun a ha b hb => ?_⟩
      simp at hb
      subst hb
      exact h.lt a ha
    · intro b hb
      simp only [List.map_append, List.map_cons, List.map_nil, List.mem_append, List.mem_singleton] at hb
      rcases hb with hb | rfl
      · have := h.lt b hb
        show b < m.clock + 1
        omega
      · show m.clock < m.clock + 1
        omega

/-- the map with an entry for k -/
def PM.touch (m : PM K) (k : K) : PM K := if (m.get k).isSome then m else m.set k 0
/-- the stamp of k's entry -/
def PM.stamp (m : PM K) (k : K) : Nat := match PM.fnd m.l k 0 with | some p => ((m.l[p.1]?).map (·.2.2)).getD 0 | none => m.clock
theorem PM.Ok.touch {m : PM K} (h : m.Ok) (k : K) : (m.touch k).Ok := by
  unfold PM.touch
  split
  · exact h
  · exact h.set k 0
variable {P : Program} {kT T eT : TypeId} {eK : K → Value}

end
end Go

/-
  What is proved: the marks of ranges over functions among the deferred calls are taken off at the return; a world in which a map has been changed.
-/
namespace Go
open Go.RowKit

/-- marks of ranges over functions, each at a block of its own, not below B -/
def Marks (B : Nat) : List Deferred → World → Prop
  | [], _ => True
  | d :: ds, w => (∃ D, d.target = .collected D ∧ B ≤ D ∧ w.heap[D]? = some (.deferred (some [])) ∧ ∀ d' ∈ ds, d'.target ≠ .collected D) ∧ Marks B ds w

theorem Marks.keep {B : Nat} {w w' : World} (h : ∀ D : Nat, w.heap[D]? = some (.deferred (some [])) → w'.heap[D]? = some (.deferred (some []))) : ∀ {ds : List Deferred}, Marks B ds w → Marks B ds w'
  | [], _ => trivial
  | _ :: _, ⟨⟨D, h1, h2, h3, h4⟩, hr⟩ => ⟨⟨D, h1, h2, h D h3, h4⟩, Marks.keep h hr⟩
theorem Marks.mono {B : Nat} {w w' : World} (g : w.grows w') {ds : List Deferred} (h : Marks B ds w) : Marks B ds w' :=
  h.keep fun D hD => by rw [g.heap (by rw [hD]; rfl)]; exact hD
theorem Marks.put {B : Nat} {w : World} {b : Nat} {o : Obj} (hb : ∀ c, w.heap[b]? ≠ some (.deferred c)) {ds : List Deferred} (h : Marks B ds w) : Marks B ds (w.putObj b o) :=
  h.keep fun D hD => by
    by_cases hDb : D = b
    · subst hDb; exact absurd hD (hb _)
    · rw [World.putObj_heap_other hDb]; exact hD
theorem Marks.lt {B : Nat} {w : World} : ∀ {ds : List Deferred}, Marks B ds w → ∀ d ∈ ds, ∀ D, d.target = .collected D → D < w.heap.size
  | [], _, _, hd, _, _ => absurd hd (by simp)
  | d :: ds, ⟨⟨D, h1, _, h3, _⟩, hr⟩, d', hd, D', hD' => by
    rcases List.mem_cons.1 hd with rfl | hd
    · rw [h1] at hD'; cases hD'; exact World.lt_of_block h3
    · exact hr.lt d' hd D' hD'
theorem Marks.push {B : Nat} {w w' : World} {ds : List Deferred} (h : Marks B ds w) (g : (w.alloc (.deferred (some []))).grows w') (hB : B ≤ w.heap.size) :
    Marks B ({ target := .collected w.heap.size, args := #[] } :: ds) w' := by
  refine ⟨⟨w.heap.size, rfl, hB, by rw [g.heap (by rw [heap_alloc_new]; rfl)]; exact heap_alloc_new w _, fun d' hd he => ?_⟩, h.mono ((World.grows.alloc (World.grows.refl _) _).trans g)⟩
  have := h.lt d' hd _ he
  omega

theorem Marks.leaves {F : Fence} {n : Nat} {P : Program} {fn : Func} {tmps : Array Value} {R : Ending → World → Prop} {B : Nat} (Inv : World → Prop)
    (hI : ∀ w D, Inv w → B ≤ D → w.heap[D]? = some (.deferred (some [])) → Inv (w.putObj D (.deferred none)))
    (hend : ∀ w, Inv w → ∃ v, (results fn tmps).run P w = .ok v w ∧ R (.returned v) w) : ∀ (ds : List Deferred) (w : World), Marks B ds w → Inv w → LeavesInM F n P fn tmps R ds .returning w
  | [], w, _, h => hend w h
  | d :: ds, w, ⟨⟨D, h1, h2, h3, h4⟩, hr⟩, h => by
    refine ⟨by simp, .inl ⟨D, _, h1, run_takeDeferred h3, Marks.leaves Inv hI hend ds _ ?_ (hI w D h h2 h3)⟩⟩
    have : ∀ (ds : List Deferred), (∀ d' ∈ ds, d'.target ≠ .collected D) → Marks B ds w → Marks B ds (w.putObj D (.deferred none)) := by
      intro ds
      induction ds with
      | nil => intro _ _; trivial
      | cons d' ds ih =>
        rintro h5 ⟨⟨D', g1, g2, g3, g4⟩, gr⟩
        refine ⟨⟨D', g1, g2, ?_, g4⟩, ih (fun x hx => h5 x (List.mem_cons_of_mem _ hx)) gr⟩
        have : D' ≠ D := fun e => h5 d' (List.mem_cons_self ..) (e ▸ g1)
        rw [World.putObj_heap_other this]; exact g3
    exact this ds h4 hr

/-- cells that are there are there still -/
def World.cellsub (w w' : World) : Prop := ∀ a v, w.cell? a = some v → w'.cell? a = some v
theorem World.grows.cellsub {w w' : World} (g : w.grows w') : w.cellsub w' := fun a v h => by rw [g.cell (by rw [h]; rfl)]; exact h
theorem World.cellsub.trans {a b c : World} (h : a.cellsub b) (k : b.cellsub c) : a.cellsub c := fun x v hx => k x v (h x v hx)
theorem World.putObj_cellsub {w : World} {b : Nat} {o : Obj} (hb : ∀ a v, a.block = b → w.cell? a ≠ some v) : w.cellsub (w.putObj b o) := fun a v h => by
  by_cases hab : a.block = b
  · exact absurd h (hb a v hab)
  · have e : (w.putObj b o).cell? a = w.cell? a := by
      unfold World.cell?
      rw [World.putObj_heap_other hab]
    rw [e]; exact h
theorem World.no_cell_of_deferred {w : World} {b : Nat} {c : Option (List Deferred)} (h : w.heap[b]? = some (.deferred c)) (a : Addr) (v : Value) (ha : a.block = b) : w.cell? a ≠ some v := by
  unfold World.cell?
  rw [ha, h]
  simp
theorem World.putObj_putObj (w : World) (b : Nat) (o o' : Obj) : (w.putObj b o).putObj b o' = w.putObj b o' := by
  unfold World.putObj
  simp
theorem World.putObj_self {w : World} {b : Nat} {o : Obj} (h : w.heap[b]? = some o) : w.putObj b o = w := by
  have hlt := World.lt_of_block h
  unfold World.putObj
  have : w.heap.setIfInBounds b o = w.heap := by
    apply Array.ext_getElem?
    intro k
    rw [Array.getElem?_setIfInBounds]
    by_cases hk : b = k
    · subst hk; rw [if_pos rfl, if_pos hlt, h]
    · rw [if_neg hk]
  rw [this]
/-- a change of a block that is there, of worlds of which one has grown out of the other -/
theorem World.grows.putObj {w w' : World} (g : w.grows w') {b : Nat} (o : Obj) (hb : b < w.heap.size) : (w.putObj b o).grows (w'.putObj b o) :=
  ⟨g.os, g.tape, g.output, by simpa using g.size, fun k hk => by
    have hk' : k < w.heap.size := by simpa using hk
    by_cases hkb : k = b
    · subst hkb
      rw [World.putObj_heap_same (by have := g.size; omega), World.putObj_heap_same hk']
    · rw [World.putObj_heap_other hkb, World.putObj_heap_other hkb]; exact g.block k hk'⟩


theorem zip_one (t : Array Value) (p : Tmp) (v : Value) : Array.foldl (fun t x => match x with | (p, v) => t.setIfInBounds p v) t (#[p].zip #[v]) = t.setIfInBounds p v := by
  have : #[p].zip #[v] = #[(p, v)] := by simp
  rw [this]
  simp

theorem World.grows.heap_of {w w' : World} (g : w.grows w') {b : Nat} {o : Obj} (h : w.heap[b]? = some o) : w'.heap[b]? = some o := by rw [g.heap (by rw [h]; rfl)]; exact h
theorem World.grows.cell_of {w w' : World} (g : w.grows w') {a : Addr} {v : Value} (h : w.cell? a = some v) : w'.cell? a = some v := by rw [g.cell (by rw [h]; rfl)]; exact h
theorem bodyPostM_ret {F : Fence} {n : Nat} {P : Program} {fn : Func} {R : Ending → World → Prop} {t : Array Value} {w : World} {v : Value} (h1 : (results fn t).run P w = .ok v w) (h2 : R (.returned v) w) : bodyPostM F n P fn R .ret ⟨t, []⟩ w := ⟨v, h1, h2⟩
theorem Marks.setCell {B : Nat} {w : World} {a : Addr} {v : Value} {ds : List Deferred} (h : Marks B ds w) : Marks B ds (w.setCell a v) :=
  h.keep fun D hD => by
    unfold World.setCell
    simp only [Array.getElem?_modify]
    by_cases he : a.block = D
    · rw [if_pos he, hD]; rfl
    · rw [if_neg he]; exact hD
end Go

/-
  What is proved: the law of a region that draws its order: reads and calls in any order, beside a chain of operations that make memory, of which each waits for the one before.
-/
namespace Go
open Go.RowKit

/-- what is asked once an operation has come to this -/
def goesUpon (P : Program) (W : World) (post : Value → World → Prop) : Result Next → Prop
  | .ok (.value u) W' => W.grows W' ∧ post u W'
  | .ok .skip W' => W.grows W' ∧ post undef W'
  | .ok (.enter f args) W' => W' = W ∧ Calls P f args W (fun e W'' => ∃ v, e = .returned v ∧ W.grows W'' ∧ post v W'')
  | _ => False
def Oper.goes (P : Program) (o : Oper) (a : Act) (W : World) (post : Value → World → Prop) : Prop := goesUpon P W post ((execOp a.eval o).run P W)
attribute [go_sem] goesUpon Oper.goes
/-- the same, where the operation may write into what came behind w0 -/
def goesUponO (P : Program) (w0 W : World) (post : Value → World → Prop) : Result Next → Prop
  | .ok (.value u) W' => w0.grows W' ∧ post u W'
  | .ok .skip W' => w0.grows W' ∧ post undef W'
  | .ok (.enter f args) W' => W' = W ∧ Calls P f args W (fun e W'' => ∃ v, e = .returned v ∧ w0.grows W'' ∧ post v W'')
  | _ => False
def Oper.goesO (P : Program) (o : Oper) (a : Act) (w0 W : World) (post : Value → World → Prop) : Prop := goesUponO P w0 W post ((execOp a.eval o).run P W)
attribute [go_sem] goesUponO Oper.goesO
theorem goesUponO_mono {P : Program} {w0 W : World} {p q : Value → World → Prop} (h : ∀ v W', w0.grows W' → p v W' → q v W') (r : Result Next) (h1 : goesUponO P w0 W p r) : goesUponO P w0 W q r := by
  cases r with
  | halt z w' => simp only [goesUponO] at h1
  | ok nx w' =>
    cases nx <;> simp only [goesUponO] at h1 ⊢
    case value u => exact ⟨h1.1, h _ _ h1.1 h1.2⟩
    case skip => exact ⟨h1.1, h _ _ h1.1 h1.2⟩
    case enter f args => exact ⟨h1.1, h1.2.mono fun e W'' ⟨v, he, hg, hp⟩ => ⟨v, he, hg, h _ _ hg hp⟩⟩
theorem goesUponO_of {P : Program} {w0 W : World} {p : Value → World → Prop} (hg : w0.grows W) (r : Result Next) (h1 : goesUpon P W p r) : goesUponO P w0 W p r := by
  cases r with
  | halt z w' => simp only [goesUpon] at h1
  | ok nx w' =>
    cases nx <;> simp only [goesUpon] at h1 <;> simp only [goesUponO]
    case value u => exact ⟨hg.trans h1.1, h1.2⟩
    case skip => exact ⟨hg.trans h1.1, h1.2⟩
    case enter f args => exact ⟨h1.1, h1.2.mono fun e W'' ⟨v, he, hg', hp⟩ => ⟨v, he, hg.trans hg', hp⟩⟩
theorem filt_len {α : Type} (q : α → Bool) : ∀ l : List α, (l.filter fun x => !q x).length + (l.filter q).length = l.length
  | [] => rfl
  | x :: l => by
    have := filt_len q l
    by_cases h : q x = true
    · simp [h]; omega
    · simp [h]; omega

section
variable {P : Program} {ops : Array Oper}

/-- the chain, with room between its operations -/
def wpChain (P : Program) (ops : Array Oper) (w0 : World) (K : Act → World → Prop) : List Oper → Act → World → Prop
  | [], a, W => ∀ W', W.grows W' → K a W'
  | o :: r, a, W => ∀ W', W.grows W' → w0.grows W' → if Region.wanted o (yielded ops a.tmps) then o.goesO P a w0 W' (fun v W'' => wpChain P ops w0 K r (a.put o.dst v) W'') else wpChain P ops w0 K r (a.put o.dst undef) W'
theorem wpChain_nil {w0 : World} {K : Act → World → Prop} {a : Act} {W : World} (h : ∀ n x, K a (W.plus n x)) : wpChain P ops w0 K [] a W := fun W' hg => by obtain ⟨n, x, rfl⟩ := World.plus_of hg; exact h n x
theorem wpChain_step {w0 : World} {Q : Act → World → Prop} {a : Act} {o : Oper} {r : List Oper} {W : World}
    (h : ∀ K : Act → World → Prop, (∀ a W, wpChain P ops w0 Q r a W → K a W) → ∀ n x, if Region.wanted o (yielded ops a.tmps) then o.goes P a (W.plus n x) (fun v W'' => K (a.put o.dst v) W'') else K (a.put o.dst undef) (W.plus n x)) : wpChain P ops w0 Q (o :: r) a W :=
  fun W' hg hg0 => by
    obtain ⟨n, x, rfl⟩ := World.plus_of hg
    have h1 := h _ (fun _ _ h => h) n x
    split
    · rename_i hw
      rw [if_pos hw] at h1
      exact goesUponO_of hg0 _ h1
    · rename_i hw
      rw [if_neg hw] at h1
      exact h1
theorem wpChain_grow {w0 : World} {K : Act → World → Prop} {a : Act} : ∀ {l : List Oper} {W W' : World}, W.grows W' → wpChain P ops w0 K l a W → wpChain P ops w0 K l a W'
  | [], _, _, g, h => fun W'' g' => h W'' (g.trans g')
  | _ :: _, _, _, g, h => fun W'' g' g0 => h W'' (g.trans g') g0

theorem chain_front {w0 : World} {Φ : Value → Act → World → Prop} {o : Oper} (hso : ∀ cs b, o.op ≠ .select cs b) {W : World} : ∀ (es : List Oper) (a : Act),
    (∀ y ∈ es, o.apart ops y = true ∧ ∀ cs b, y.op ≠ .select cs b) →
    wpCalm P ops w0 (fun a' => if Region.wanted o (yielded ops a'.tmps) then o.goesO P a' w0 W (fun v W'' => Φ v (a'.put o.dst v) W'') else Φ undef (a'.put o.dst undef) W) es a →
    if Region.wanted o (yielded ops a.tmps) then o.goesO P a w0 W (fun v W'' => wpCalm P ops w0 (fun a'' => Φ v a'' W'') es (a.put o.dst v)) else wpCalm P ops w0 (fun a'' => Φ undef a'' W) es (a.put o.dst undef)
  | [], a, _, h => h
  | y :: es, a, hap, h => by
    obtain ⟨u, hy, h'⟩ := wpCalm_cons.1 h
    have h'' := chain_front hso es _ (fun z hz => hap z (List.mem_cons_of_mem _ hz)) h'
    obtain ⟨ha, hsy⟩ := hap y (List.mem_cons_self ..)
    obtain ⟨h1, h2, h3⟩ := Oper.apart_spec ha
    rw [wanted_put o a y.dst u h3] at h''
    split
    · rename_i hw
      rw [if_pos hw] at h''
      unfold Oper.goesO at h'' ⊢
      rw [execOp_put o hso a y.dst u h3] at h''
      refine goesUponO_mono (fun v W' _ hp => wpCalm_cons.2 ⟨u, (YieldsC.put hsy h1).2 hy, ?_⟩) _ h''
      rw [Act.put_comm a v u h2]
      exact hp
    · rename_i hw
      rw [if_neg hw] at h''
      refine wpCalm_cons.2 ⟨u, (YieldsC.put hsy h1).2 hy, ?_⟩
      rw [Act.put_comm a undef u h2]
      exact h''

/-- what is asked of the text: the operations 'ms' are a chain, nothing else in the head waits for them; of two one waits or they are apart -/
def Region.chainsB (ops : Array Oper) (n : Nat) (ms : List Nat) : Bool :=
  Region.mixB ops n [] &&
  (List.range n).all (fun i => ms.contains i || match ops[i]? with | some o => o.after.all (fun e => !Region.binds .any e || !ms.contains e.on) | none => true) &&
  (ms.zip (ms.drop 1)).all (fun p => decide (p.1 < p.2) && Region.waitsFor .any ops p.2 p.1) && ms.all (fun i => decide (i < n))
def Region.chainPlanB (ops : Array Oper) (n : Nat) (ms : List Nat) : Bool :=
  Region.chainsB ops n ms && (decide (n = ops.size) || (decide (n < ops.size) && Region.sinkB .any ops n && Region.chainB .any ops n)) &&
  Region.seqB .any ops (ops.size - n) n ((List.range ops.size).map fun i => decide (i < n)).toArray
def without (l : List Oper) (n : Nat) (ms : List Nat) : List Oper := ((withNo 0 (l.take n)).filter fun p => !ms.contains p.1).map (·.2)
def only (l : List Oper) (n : Nat) (ms : List Nat) : List Oper := ((withNo 0 (l.take n)).filter fun p => ms.contains p.1).map (·.2)
end

section
variable {P : Program} {ops : Array Oper} {w0 : World} {F : Fence} (hF : F.Free P) {N : Nat}

include hF in
theorem wpAnyIn_of_chain {Q : Exit → Act → World → Prop} {n : Nat} {ms0 : List Nat}
    (hB : Region.chainsB ops n ms0 = true) (hnd : Region.noDeferB ops = true)
    (hheads0 : ∀ (listed : Array Bool) (i0 : Nat), HeadInv .any ops n listed → i0 < n → listed.getD i0 true = false → ∀ t ∈ Region.ready .any ops listed, t < n)
    {K : Act → World → Prop}
    (hK : ∀ a W, K a W → ∀ listed, HeadInv .any ops n listed → (∀ i, i < n → listed.getD i false = true) → wpAnyIn F N P .any ops Q (ops.size - n) listed a W) :
    ∀ (cnt : Nat) (es ms : List (Nat × Oper)) (listed : Array Bool) (a : Act) (W : World),
      es.length + ms.length = cnt → HeadInv .any ops n listed →
      (∀ i, i < n → (listed.getD i false = false ↔ i ∈ es.map (·.1) ∨ i ∈ ms.map (·.1))) →
      (∀ p ∈ es, p.1 < n ∧ ops[p.1]? = some p.2 ∧ ms0.contains p.1 = false) → (∀ p ∈ ms, p.1 < n ∧ ops[p.1]? = some p.2 ∧ ms0.contains p.1 = true) →
      (es.map (·.1)).Pairwise (· < ·) → (ms.map (·.1)).Pairwise (fun i j => i < j) → (∀ p q : Nat × Oper, ∀ l1 l2, ms = l1 ++ p :: q :: l2 → Region.waitsFor .any ops q.1 p.1 = true) →
      w0.grows W → wpCalm P ops w0 (fun a' => wpChain P ops w0 K (ms.map (·.2)) a' W) (es.map (·.2)) a →
      wpAnyIn F N P .any ops Q (cnt + (ops.size - n)) listed a W := by
  simp only [Region.chainsB, Bool.and_eq_true] at hB
  obtain ⟨⟨⟨hmix, hEM⟩, _⟩, _⟩ := hB
  simp only [Region.mixB, Bool.and_eq_true, decide_eq_true_eq] at hmix
  obtain ⟨⟨⟨hsel, hnle⟩, hpair⟩, hedge⟩ := hmix
  have hsp := Region.noSelect_spec hsel
  have pairOf : ∀ i j oi oj, i < j → j < n → ops[i]? = some oi → ops[j]? = some oj → Region.waitsFor .any ops j i = true ∨ oi.apart ops oj = true := by
    intro i j oi oj hij hj hi hoj
    have h1 := List.all_eq_true.1 (List.all_eq_true.1 hpair i (List.mem_range.2 (by omega))) j (List.mem_range.2 hj)
    simp only [Bool.or_eq_true, decide_eq_true_eq, Region.pairB, hi, hoj] at h1
    rcases h1 with h1 | h1
    · omega
    · exact h1
  have apart_symm : ∀ x y : Oper, x.apart ops y = true → y.apart ops x = true := by
    intro x y h
    unfold Oper.apart at *
    cases hx : x.dst <;> cases hy : y.dst <;> simp [hx, hy] at h ⊢
    · exact h
    · exact h
    · exact ⟨⟨h.2, fun e => h.1.2 e.symm⟩, h.1.1⟩
  have edgeOf : ∀ i o, i < n → ops[i]? = some o → ∀ e ∈ o.after, Region.binds .any e = true → e.on < i := by
    intro i o hi ho e he hb
    have h1 := List.all_eq_true.1 hedge i (List.mem_range.2 hi)
    simp only [ho, Bool.and_eq_true] at h1
    have h2 := Array.all_eq_true_iff_forall_mem.1 h1.1 e he
    simpa only [hb, Bool.not_true, Bool.false_or, decide_eq_true_eq] using h2
  have edgeEM : ∀ i o, i < n → ops[i]? = some o → ms0.contains i = false → ∀ e ∈ o.after, Region.binds .any e = true → ms0.contains e.on = false := by
    intro i o hi ho h3 e he hb
    have h1 := List.all_eq_true.1 hEM i (List.mem_range.2 hi)
    simp only [ho, h3, Bool.false_or] at h1
    have h2 := Array.all_eq_true_iff_forall_mem.1 h1 e he
    simpa [hb] using h2
  have unwait : ∀ (listed : Array Bool) (i j : Nat), i ∈ Region.ready .any ops listed → listed.getD j false = false → Region.waitsFor .any ops i j = true → False := by
    intro listed i j hi hj hw
    obtain ⟨oi, hoi, e, he, hb, hon⟩ := Region.waitsFor_spec hw
    obtain ⟨_, o', ho', hall⟩ := mem_ready.1 hi
    rw [hoi] at ho'; cases ho'
    have := hall e he hb
    rw [hon, hj] at this; cases this
  intro cnt
  induction cnt with
  | zero =>
    intro es ms listed a W hc inv hmem hes hms _ _ _ hgW h
    have he : es = [] := List.eq_nil_of_length_eq_zero (by omega)
    have ha : ms = [] := List.eq_nil_of_length_eq_zero (by omega)
    subst he; subst ha
    rw [Nat.zero_add]
    refine hK a W (h W (World.grows.refl _)) listed inv fun i hi => ?_
    have := hmem i hi
    simp only [List.map_nil, List.not_mem_nil, or_self, iff_false, Bool.not_eq_false] at this
    exact this
  | succ cnt ih =>
    intro es ms listed a W hc inv hmem hes hms hse hsm hsw hgW h
    rw [show cnt + 1 + (ops.size - n) = (cnt + (ops.size - n)) + 1 by omega]
    have hun : ∃ i, i < n ∧ listed.getD i true = false := by
      cases es with
      | cons p es =>
        have h1 := hes p (List.mem_cons_self ..)
        refine ⟨p.1, h1.1, getD_in (by rw [inv.size]; omega) ((hmem p.1 h1.1).2 (.inl (by simp)))⟩
      | nil =>
        cases ms with
        | nil => simp at hc
        | cons p ms =>
          have h1 := hms p (List.mem_cons_self ..)
          exact ⟨p.1, h1.1, getD_in (by rw [inv.size]; omega) ((hmem p.1 h1.1).2 (.inr (by simp)))⟩
    obtain ⟨i0, hi0, hun0⟩ := hun
    have hheads := hheads0 listed i0 inv hi0 hun0
    refine ⟨fun hnil => ?_, fun i hi => ?_⟩
    · exfalso
      have first : ∀ i o, i < n → ops[i]? = some o → listed.getD i false = false → (∀ j, j < i → listed.getD j false = true ∨ (ms0.contains i = false ∧ ms0.contains j = true)) → False := by
        intro i o hi ho hl hall
        have : i ∈ Region.ready .any ops listed := mem_ready.2 ⟨getD_in (by rw [inv.size]; omega) hl, o, ho, fun e he hb => by
          have h1 := edgeOf i o hi ho e he hb
          rcases hall e.on h1 with h3 | ⟨h3, h4⟩
          · exact h3
          · rw [edgeEM i o hi ho h3 e he hb] at h4; cases h4⟩
        rw [hnil] at this; cases this
      cases es with
      | cons p es =>
        obtain ⟨h1, h2, h3⟩ := hes p (List.mem_cons_self ..)
        refine first p.1 p.2 h1 h2 ((hmem p.1 h1).2 (.inl (by simp))) fun j hj => ?_
        cases hl : listed.getD j false with
        | true => exact .inl rfl
        | false =>
          refine .inr ⟨h3, ?_⟩
          rcases (hmem j (by omega)).1 hl with h4 | h4
          · simp only [List.map_cons, List.mem_cons] at h4
            simp only [List.map_cons, List.pairwise_cons] at hse
            rcases h4 with h4 | h4
            · omega
            · have := hse.1 j h4; omega
          · obtain ⟨q, hq, rfl⟩ := List.mem_map.1 h4
            exact (hms q hq).2.2
      | nil =>
        cases ms with
        | nil => simp at hc
        | cons p ms =>
          obtain ⟨h1, h2, h3⟩ := hms p (List.mem_cons_self ..)
          refine first p.1 p.2 h1 h2 ((hmem p.1 h1).2 (.inr (by simp))) fun j hj => ?_
          cases hl : listed.getD j false with
          | true => exact .inl rfl
          | false =>
            rcases (hmem j (by omega)).1 hl with h4 | h4
            · simp at h4
            · simp only [List.map_cons, List.mem_cons] at h4
              simp only [List.map_cons, List.pairwise_cons] at hsm
              rcases h4 with h4 | h4
              · omega
              · have := hsm.1 j h4; omega
    · have hin := hheads i hi
      have hl : listed.getD i false = false := getD_both (mem_ready.1 hi).1
      have inv' := inv.set hi hin
      have set_mem : ∀ j, j < n → j ≠ i → ((listed.setIfInBounds i true).getD j false = false ↔ listed.getD j false = false) := fun j hj hji => by rw [getD_set_ne false (Ne.symm hji)]
      have set_self : (listed.setIfInBounds i true).getD i false = true := by
        have : i < listed.size := by rw [inv.size]; omega
        simp [this]
      rcases (hmem i hin).1 hl with hie | him
      · obtain ⟨p, hp, rfl⟩ := List.mem_map.1 hie
        obtain ⟨l1, l2, rfl⟩ := List.append_of_mem hp
        obtain ⟨h1, h2, h3⟩ := hes p hp
        have hsort := hse
        simp only [List.map_append, List.map_cons, List.pairwise_append, List.pairwise_cons] at hsort
        have hap1 : ∀ y ∈ l1.map (·.2), p.2.apart ops y = true ∧ ∀ cs b, y.op ≠ .select cs b := by
          intro y hy
          obtain ⟨q, hq, rfl⟩ := List.mem_map.1 hy
          obtain ⟨g1, g2, g3⟩ := hes q (by simp [hq])
          refine ⟨?_, fun cs b => hsp q.1 q.2 cs b g2⟩
          have hlt : q.1 < p.1 := hsort.2.2 q.1 (List.mem_map.2 ⟨q, hq, rfl⟩) p.1 (by simp)
          rcases pairOf q.1 p.1 q.2 p.2 hlt h1 g2 h2 with hw | ha
          · exact (unwait listed p.1 q.1 hi ((hmem q.1 g1).2 (.inl (by simp; exact .inl ⟨_, hq⟩))) hw).elim
          · exact apart_symm _ _ ha
        rw [List.map_append, List.map_cons] at h
        obtain ⟨v, hy, h'⟩ := calm_front (fun cs b => hsp p.1 p.2 cs b h2) _ a hap1 h
        have hrest : ∀ W', W.grows W' → wpAnyIn F N P .any ops Q (cnt + (ops.size - n)) (listed.setIfInBounds p.1 true) (a.put p.2.dst v) W' := by
          intro W' hg
          refine ih (l1 ++ l2) ms _ _ W' (by simp at hc ⊢; omega) inv' (fun j hj => ?_) (fun q hq => hes q (by simp at hq ⊢; rcases hq with h | h <;> simp [h])) hms ?_ hsm hsw (hgW.trans hg) (by rw [List.map_append]; exact wpCalm_mono (fun a' h => wpChain_grow hg h) _ _ h')
          · by_cases hji : j = p.1
            · subst hji
              rw [set_self]
              simp only [Bool.true_eq_false, false_iff]
              rintro (hh | hh)
              · obtain ⟨q, hq, he⟩ := List.mem_map.1 hh
                rcases List.mem_append.1 hq with hq | hq
                · have := hsort.2.2 q.1 (List.mem_map.2 ⟨q, hq, rfl⟩) p.1 (by simp); omega
                · have := hsort.2.1.1 q.1 (List.mem_map.2 ⟨q, hq, rfl⟩); omega
              · obtain ⟨q, hq, he⟩ := List.mem_map.1 hh
                have := (hms q hq).2.2
                rw [he, h3] at this; cases this
            · rw [set_mem j hj hji, hmem j hj]
              simp only [List.map_append, List.map_cons, List.mem_append, List.mem_cons]
              constructor
              · rintro ((h | h | h) | h)
                · exact .inl (.inl h)
                · exact absurd h hji
                · exact .inl (.inr h)
                · exact .inr h
              · rintro ((h | h) | h)
                · exact .inl (.inl h)
                · exact .inl (.inr (.inr h))
                · exact .inr h
          · rw [List.map_append, List.pairwise_append]
            exact ⟨hsort.1, hsort.2.1.2, fun x hx y hy => hsort.2.2 x hx y (List.mem_cons_of_mem _ hy)⟩
        unfold wpOpIn
        simp only [h2]
        rcases hy with ⟨hw, hv⟩ | ⟨hw, rfl⟩
        · rw [if_pos hw]
          obtain ⟨n', x, rfl⟩ := World.plus_of hgW
          have hv' := hv n' x
          unfold Oper.calmAt at hv'
          unfold Oper.wpIn
          refine ⟨fun f _ => hF.fn f, ?_⟩
          rw [Oper.semAt_plain F a.eval p.2 (Region.noDefer_spec hnd p.1 p.2 h2)]
          generalize (execOp a.eval p.2).run P (w0.plus n' x) = r at *
          cases r with
          | halt z w' => simp only [Oper.calmUpon] at hv'
          | ok nx w' =>
            cases nx <;> simp only [Oper.calmUpon] at hv' <;> simp only [Oper.uponIn]
            case value u => obtain ⟨rfl, rfl⟩ := hv'; exact hrest _ (World.grows.refl _)
            case skip => obtain ⟨rfl, rfl⟩ := hv'; exact hrest _ (World.grows.refl _)
            case enter f args =>
              obtain ⟨rfl, hcall⟩ := hv'
              refine ⟨(fun h => by rw [hF.depth] at h; cases h), hF.calls _ _ _ _ _ (hcall.mono fun e w'' ⟨he, hg⟩ => ?_)⟩
              subst he
              exact hrest _ hg
        · rw [if_neg (by rw [hw]; exact Bool.false_ne_true)]
          exact ⟨fun f _ => hF.fn f, hrest _ (World.grows.refl _)⟩
      · -- the next of the chain
        cases ms with
        | nil => simp at him
        | cons m ms =>
        have hhead : i = m.1 := by
          rcases List.mem_cons.1 (by simpa using him : i ∈ m.1 :: ms.map (·.1)) with h1 | h1
          · exact h1
          · exfalso
            obtain ⟨q, hq, rfl⟩ := List.mem_map.1 h1
            obtain ⟨l1, l2, rfl⟩ := List.append_of_mem hq
            rcases List.eq_nil_or_concat l1 with rfl | ⟨l0, z, rfl⟩
            · exact unwait listed q.1 m.1 hi ((hmem m.1 (hms m (List.mem_cons_self ..)).1).2 (.inr (by simp))) (hsw m q [] l2 (by simp))
            · exact unwait listed q.1 z.1 hi ((hmem z.1 (hms z (by simp)).1).2 (.inr (by simp))) (hsw z q (m :: l0) l2 (by simp))
        subst hhead
        obtain ⟨h1, h2, h3⟩ := hms m (List.mem_cons_self ..)
        have hape : ∀ y ∈ es.map (·.2), m.2.apart ops y = true ∧ ∀ cs b, y.op ≠ .select cs b := by
          intro y hy
          obtain ⟨q, hq, rfl⟩ := List.mem_map.1 hy
          obtain ⟨g1, g2, g3⟩ := hes q hq
          refine ⟨?_, fun cs b => hsp q.1 q.2 cs b g2⟩
          have hql : listed.getD q.1 false = false := (hmem q.1 g1).2 (.inl (List.mem_map.2 ⟨q, hq, rfl⟩))
          rcases Nat.lt_trichotomy q.1 m.1 with hlt | heq | hgt
          · rcases pairOf q.1 m.1 q.2 m.2 hlt h1 g2 h2 with hw | ha
            · exact (unwait listed m.1 q.1 hi hql hw).elim
            · exact apart_symm _ _ ha
          · rw [heq, h3] at g3; cases g3
          · rcases pairOf m.1 q.1 m.2 q.2 hgt g1 h2 g2 with hw | ha
            · exfalso
              obtain ⟨oq, hoq, e, he, hb, hon⟩ := Region.waitsFor_spec hw
              have := edgeEM q.1 oq g1 hoq g3 e he hb
              rw [hon, h3] at this; cases this
            · exact ha
        have h' := chain_front (Φ := fun _ a'' W'' => wpChain P ops w0 K (ms.map (·.2)) a'' W'') (fun cs b => hsp m.1 m.2 cs b h2) _ a hape (wpCalm_mono (fun a' h => h W (World.grows.refl _) hgW) _ _ h)
        have hrest : ∀ v W', w0.grows W' → wpCalm P ops w0 (fun a'' => wpChain P ops w0 K (ms.map (·.2)) a'' W') (es.map (·.2)) (a.put m.2.dst v) → wpAnyIn F N P .any ops Q (cnt + (ops.size - n)) (listed.setIfInBounds m.1 true) (a.put m.2.dst v) W' := by
          intro v W' hg hh
          have hsm' : m.1 ∉ ms.map (·.1) := by
            simp only [List.map_cons, List.pairwise_cons] at hsm
            intro hx
            have := hsm.1 m.1 hx
            omega
          refine ih es ms _ _ W' (by simp at hc ⊢; omega) inv' (fun j hj => ?_) hes (fun q hq => hms q (List.mem_cons_of_mem _ hq)) hse ?_ (fun p q l1 l2 he => hsw p q (m :: l1) l2 (by rw [he]; rfl)) hg hh
          · by_cases hji : j = m.1
            · subst hji
              rw [set_self]
              simp only [Bool.true_eq_false, false_iff]
              rintro (hh | hh)
              · obtain ⟨q, hq, he⟩ := List.mem_map.1 hh
                have := (hes q hq).2.2
                rw [he, h3] at this; cases this
              · exact hsm' hh
            · rw [set_mem j hj hji, hmem j hj]
              simp only [List.map_cons, List.mem_cons]
              constructor
              · rintro (h | h | h)
                · exact .inl h
                · exact absurd h hji
                · exact .inr h
              · rintro (h | h)
                · exact .inl h
                · exact .inr (.inr h)
          · simp only [List.map_cons, List.pairwise_cons] at hsm
            exact hsm.2
        unfold wpOpIn
        simp only [h2]
        by_cases hw : Region.wanted m.2 (yielded ops a.tmps) = true
        · rw [if_pos hw] at h' ⊢
          unfold Oper.goesO at h'
          unfold Oper.wpIn
          refine ⟨fun f _ => hF.fn f, ?_⟩
          rw [Oper.semAt_plain F a.eval m.2 (Region.noDefer_spec hnd m.1 m.2 h2)]
          generalize (execOp a.eval m.2).run P W = r at *
          cases r with
          | halt z w' => simp only [goesUponO] at h'
          | ok nx w' =>
            cases nx <;> simp only [goesUponO] at h' <;> simp only [Oper.uponIn]
            case value u => exact hrest _ _ h'.1 h'.2
            case skip => exact hrest _ _ h'.1 h'.2
            case enter f args =>
              obtain ⟨rfl, hcall⟩ := h'
              refine ⟨(fun h => by rw [hF.depth] at h; cases h), hF.calls _ _ _ _ _ (hcall.mono fun e w'' ⟨v, he, hg, hp⟩ => ?_)⟩
              subst he
              exact hrest _ _ hg hp
        · rw [if_neg hw] at h' ⊢
          exact ⟨fun f _ => hF.fn f, hrest _ _ hgW h'⟩

theorem zip_nextIn : ∀ (l : List Nat) (f : Nat → Nat → Bool), (l.zip (l.drop 1)).all (fun p => f p.1 p.2) = true → ∀ (i j : Nat) (l1 l2 : List Nat), l = l1 ++ i :: j :: l2 → f i j = true
  | l, f, h, i, j, l1, l2, he => by
    subst he
    refine List.all_eq_true.1 h (i, j) ?_
    rw [List.mem_iff_getElem?]
    refine ⟨l1.length, ?_⟩
    rw [List.getElem?_zip_eq_some]
    simp [List.getElem?_append_right, List.getElem?_drop]

include hF in
/-- reads and calls in any order, beside a chain (numbers ms), a tail in order from n on -/
theorem wpIn_region_chain {id : Nat} {Q : Exit → Act → World → Prop} {a : Act} {w : World} {l : List Oper} (n : Nat) (ms : List Nat) (hm : P.follows .mixedOrders = true)
    (hB : (Region.chainPlanB l.toArray n ms && decide (((withNo 0 (l.take n)).filter fun p => ms.contains p.1).map (·.1) = ms)) = true) (hnd : Region.noDeferB l.toArray = true) (hn : n ≤ l.length)
    (h : wpCalm P l.toArray w (fun a' => wpChain P l.toArray w (fun a'' W => wpListIn F N P l.toArray Q (l.drop n) a'' W) (only l n ms) a' w) (without l n ms) a) : (Code.region id l.toArray true).wpIn F N P Q a w := by
  simp only [Region.chainPlanB, Bool.and_eq_true, Bool.or_eq_true, decide_eq_true_eq] at hB
  obtain ⟨⟨⟨hch, hplan⟩, hseq⟩, hms⟩ := hB
  have hch0 := hch
  have hnle : n ≤ l.toArray.size := by simpa using hn
  refine wpIn_region_any hm ?_
  obtain ⟨n0, x0, h0⟩ := World.more_drew w
  rw [h0]
  have hat : ∀ p ∈ withNo 0 (l.take n), p.1 < n ∧ l.toArray[p.1]? = some p.2 := fun p hp => by
    have h2 := ((withNo_mem 0 _ p).1 hp).2
    rw [Nat.sub_zero, List.getElem?_take] at h2
    split at h2
    · rename_i hlt; exact ⟨by omega, by simpa using h2⟩
    · cases h2
  have hsorted : ((withNo 0 (l.take n)).map (·.1)).Pairwise (· < ·) := by rw [withNo_fst]; exact List.pairwise_lt_range'
  have hfilt : ∀ (q : Nat × Oper → Bool), (((withNo 0 (l.take n)).filter q).map (·.1)).Pairwise (· < ·) := fun q => by
    have : ((withNo 0 (l.take n)).filter q).Sublist (withNo 0 (l.take n)) := List.filter_sublist
    exact hsorted.sublist (this.map _)
  have hlen : ((withNo 0 (l.take n)).filter fun p => !ms.contains p.1).length + ((withNo 0 (l.take n)).filter fun p => ms.contains p.1).length = n := by
    have e1 : (withNo 0 (l.take n)).length = n := by
      have := congrArg List.length (withNo_snd 0 (l.take n))
      simp at this
      omega
    have := filt_len (fun p : Nat × Oper => ms.contains p.1) (withNo 0 (l.take n))
    omega
  have key := wpAnyIn_of_chain hF (N := N) (P := P) (ops := l.toArray) (w0 := w) (Q := Q) (n := n) (ms0 := ms) hch hnd
    (fun listed i0 inv hi0 hun0 => by
      rcases hplan with h | ⟨⟨h1, h2⟩, h3⟩
      · subst h; exact heads_of_all listed
      · exact heads_of_tail h1 h2 h3 listed i0 inv hi0 hun0)
    (K := fun a'' W => wpListIn F N P l.toArray Q (l.drop n) a'' W)
    (fun a W hK listed inv hall => by
      have hl := seq_listed inv hnle hall
      subst hl
      have hd : (l.drop n).length = l.toArray.size - n := by simp
      have := wpAnyIn_of_seq hnd (Q' := Q) (l.drop n) n _ a W (fun j => by simp [List.getElem?_drop]) (by rw [hd]; exact hseq) hK
      rwa [hd] at this)
    n ((withNo 0 (l.take n)).filter fun p => !ms.contains p.1) ((withNo 0 (l.take n)).filter fun p => ms.contains p.1) (Array.replicate l.toArray.size false) a (w.plus n0 x0) hlen (headInv_start n)
    (fun i hi => by
      simp only [getD_replicate_false, true_iff, List.mem_map, List.mem_filter]
      have hil : i < (l.take n).length := by simp; omega
      have hi2 : (i, (l.take n)[i]) ∈ withNo 0 (l.take n) := (withNo_mem 0 _ _).2 ⟨Nat.zero_le _, by rw [Nat.sub_zero]; exact List.getElem?_eq_getElem hil⟩
      cases hc : ms.contains i with
      | true => exact .inr ⟨_, ⟨hi2, hc⟩, rfl⟩
      | false => exact .inl ⟨_, ⟨hi2, by simpa using hc⟩, rfl⟩)
    (fun p hp => by
      obtain ⟨h1, h2⟩ := List.mem_filter.1 hp
      exact ⟨(hat p h1).1, (hat p h1).2, by simpa using h2⟩)
    (fun p hp => by
      obtain ⟨h1, h2⟩ := List.mem_filter.1 hp
      exact ⟨(hat p h1).1, (hat p h1).2, h2⟩)
    (hfilt _) (hfilt _)
    (fun p q l1 l2 he => by
      simp only [Region.chainsB, Bool.and_eq_true] at hch0
      have hz := hch0.1.2
      have := zip_nextIn ms (fun i j => decide (i < j) && Region.waitsFor .any l.toArray j i) hz p.1 q.1 (l1.map (·.1)) (l2.map (·.1)) (by rw [← hms, he]; simp)
      simp only [Bool.and_eq_true] at this
      exact this.2)
    (World.grows_plus _ _ _)
    (wpCalm_mono (fun a' h => wpChain_grow (World.grows_plus _ _ _) h) _ _ h)
  rw [show n + (l.toArray.size - n) = l.toArray.size by omega] at key
  exact key
end

section
variable {P : Program} {ops : Array Oper} {w0 : World}

theorem wpAny_of_chain {Q : Exit → Act → World → Prop} {n : Nat} {ms0 : List Nat}
    (hB : Region.chainsB ops n ms0 = true)
    (hheads0 : ∀ (listed : Array Bool) (i0 : Nat), HeadInv .any ops n listed → i0 < n → listed.getD i0 true = false → ∀ t ∈ Region.ready .any ops listed, t < n)
    {K : Act → World → Prop}
    (hK : ∀ a W, K a W → ∀ listed, HeadInv .any ops n listed → (∀ i, i < n → listed.getD i false = true) → wpAny P .any ops Q (ops.size - n) listed a W) :
    ∀ (cnt : Nat) (es ms : List (Nat × Oper)) (listed : Array Bool) (a : Act) (W : World),
      es.length + ms.length = cnt → HeadInv .any ops n listed →
      (∀ i, i < n → (listed.getD i false = false ↔ i ∈ es.map (·.1) ∨ i ∈ ms.map (·.1))) →
      (∀ p ∈ es, p.1 < n ∧ ops[p.1]? = some p.2 ∧ ms0.contains p.1 = false) → (∀ p ∈ ms, p.1 < n ∧ ops[p.1]? = some p.2 ∧ ms0.contains p.1 = true) →
      (es.map (·.1)).Pairwise (· < ·) → (ms.map (·.1)).Pairwise (fun i j => i < j) → (∀ p q : Nat × Oper, ∀ l1 l2, ms = l1 ++ p :: q :: l2 → Region.waitsFor .any ops q.1 p.1 = true) →
      w0.grows W → wpCalm P ops w0 (fun a' => wpChain P ops w0 K (ms.map (·.2)) a' W) (es.map (·.2)) a →
      wpAny P .any ops Q (cnt + (ops.size - n)) listed a W := by
  simp only [Region.chainsB, Bool.and_eq_true] at hB
  obtain ⟨⟨⟨hmix, hEM⟩, _⟩, _⟩ := hB
  simp only [Region.mixB, Bool.and_eq_true, decide_eq_true_eq] at hmix
  obtain ⟨⟨⟨hsel, hnle⟩, hpair⟩, hedge⟩ := hmix
  have hsp := Region.noSelect_spec hsel
  have pairOf : ∀ i j oi oj, i < j → j < n → ops[i]? = some oi → ops[j]? = some oj → Region.waitsFor .any ops j i = true ∨ oi.apart ops oj = true := by
    intro i j oi oj hij hj hi hoj
    have h1 := List.all_eq_true.1 (List.all_eq_true.1 hpair i (List.mem_range.2 (by omega))) j (List.mem_range.2 hj)
    simp only [Bool.or_eq_true, decide_eq_true_eq, Region.pairB, hi, hoj] at h1
    rcases h1 with h1 | h1
    · omega
    · exact h1
  have apart_symm : ∀ x y : Oper, x.apart ops y = true → y.apart ops x = true := by
    intro x y h
    unfold Oper.apart at *
    cases hx : x.dst <;> cases hy : y.dst <;> simp [hx, hy] at h ⊢
    · exact h
    · exact h
    · exact ⟨⟨h.2, fun e => h.1.2 e.symm⟩, h.1.1⟩
  have edgeOf : ∀ i o, i < n → ops[i]? = some o → ∀ e ∈ o.after, Region.binds .any e = true → e.on < i := by
    intro i o hi ho e he hb
    have h1 := List.all_eq_true.1 hedge i (List.mem_range.2 hi)
    simp only [ho, Bool.and_eq_true] at h1
    have h2 := Array.all_eq_true_iff_forall_mem.1 h1.1 e he
    simpa only [hb, Bool.not_true, Bool.false_or, decide_eq_true_eq] using h2
  have edgeEM : ∀ i o, i < n → ops[i]? = some o → ms0.contains i = false → ∀ e ∈ o.after, Region.binds .any e = true → ms0.contains e.on = false := by
    intro i o hi ho h3 e he hb
    have h1 := List.all_eq_true.1 hEM i (List.mem_range.2 hi)
    simp only [ho, h3, Bool.false_or] at h1
    have h2 := Array.all_eq_true_iff_forall_mem.1 h1 e he
    simpa [hb] using h2
  have unwait : ∀ (listed : Array Bool) (i j : Nat), i ∈ Region.ready .any ops listed → listed.getD j false = false → Region.waitsFor .any ops i j = true → False := by
    intro listed i j hi hj hw
    obtain ⟨oi, hoi, e, he, hb, hon⟩ := Region.waitsFor_spec hw
    obtain ⟨_, o', ho', hall⟩ := mem_ready.1 hi
    rw [hoi] at ho'; cases ho'
    have := hall e he hb
    rw [hon, hj] at this; cases this
  intro cnt
  induction cnt with
  | zero =>
    intro es ms listed a W hc inv hmem hes hms _ _ _ hgW h
    have he : es = [] := List.eq_nil_of_length_eq_zero (by omega)
    have ha : ms = [] := List.eq_nil_of_length_eq_zero (by omega)
    subst he; subst ha
    rw [Nat.zero_add]
    refine hK a W (h W (World.grows.refl _)) listed inv fun i hi => ?_
    have := hmem i hi
    simp only [List.map_nil, List.not_mem_nil, or_self, iff_false, Bool.not_eq_false] at this
    exact this
  | succ cnt ih =>
    intro es ms listed a W hc inv hmem hes hms hse hsm hsw hgW h
    rw [show cnt + 1 + (ops.size - n) = (cnt + (ops.size - n)) + 1 by omega]
    have hun : ∃ i, i < n ∧ listed.getD i true = false := by
      cases es with
      | cons p es =>
        have h1 := hes p (List.mem_cons_self ..)
        refine ⟨p.1, h1.1, getD_in (by rw [inv.size]; omega) ((hmem p.1 h1.1).2 (.inl (by simp)))⟩
      | nil =>
        cases ms with
        | nil => simp at hc
        | cons p ms =>
          have h1 := hms p (List.mem_cons_self ..)
          exact ⟨p.1, h1.1, getD_in (by rw [inv.size]; omega) ((hmem p.1 h1.1).2 (.inr (by simp)))⟩
    obtain ⟨i0, hi0, hun0⟩ := hun
    have hheads := hheads0 listed i0 inv hi0 hun0
    refine ⟨fun hnil => ?_, fun i hi => ?_⟩
    · exfalso
      have first : ∀ i o, i < n → ops[i]? = some o → listed.getD i false = false → (∀ j, j < i → listed.getD j false = true ∨ (ms0.contains i = false ∧ ms0.contains j = true)) → False := by
        intro i o hi ho hl hall
        have : i ∈ Region.ready .any ops listed := mem_ready.2 ⟨getD_in (by rw [inv.size]; omega) hl, o, ho, fun e he hb => by
          have h1 := edgeOf i o hi ho e he hb
          rcases hall e.on h1 with h3 | ⟨h3, h4⟩
          · exact h3
          · rw [edgeEM i o hi ho h3 e he hb] at h4; cases h4⟩
        rw [hnil] at this; cases this
      cases es with
      | cons p es =>
        obtain ⟨h1, h2, h3⟩ := hes p (List.mem_cons_self ..)
        refine first p.1 p.2 h1 h2 ((hmem p.1 h1).2 (.inl (by simp))) fun j hj => ?_
        cases hl : listed.getD j false with
        | true => exact .inl rfl
        | false =>
          refine .inr ⟨h3, ?_⟩
          rcases (hmem j (by omega)).1 hl with h4 | h4
          · simp only [List.map_cons, List.mem_cons] at h4
            simp only [List.map_cons, List.pairwise_cons] at hse
            rcases h4 with h4 | h4
            · omega
            · have := hse.1 j h4; omega
          · obtain ⟨q, hq, rfl⟩ := List.mem_map.1 h4
            exact (hms q hq).2.2
      | nil =>
        cases ms with
        | nil => simp at hc
        | cons p ms =>
          obtain ⟨h1, h2, h3⟩ := hms p (List.mem_cons_self ..)
          refine first p.1 p.2 h1 h2 ((hmem p.1 h1).2 (.inr (by simp))) fun j hj => ?_
          cases hl : listed.getD j false with
          | true => exact .inl rfl
          | false =>
            rcases (hmem j (by omega)).1 hl with h4 | h4
            · simp at h4
            · simp only [List.map_cons, List.mem_cons] at h4
              simp only [List.map_cons, List.pairwise_cons] at hsm
              rcases h4 with h4 | h4
              · omega
              · have := hsm.1 j h4; omega
    · have hin := hheads i hi
      have hl : listed.getD i false = false := getD_both (mem_ready.1 hi).1
      have inv' := inv.set hi hin
      have set_mem : ∀ j, j < n → j ≠ i → ((listed.setIfInBounds i true).getD j false = false ↔ listed.getD j false = false) := fun j hj hji => by rw [getD_set_ne false (Ne.symm hji)]
      have set_self : (listed.setIfInBounds i true).getD i false = true := by
        have : i < listed.size := by rw [inv.size]; omega
        simp [this]
      rcases (hmem i hin).1 hl with hie | him
      · obtain ⟨p, hp, rfl⟩ := List.mem_map.1 hie
        obtain ⟨l1, l2, rfl⟩ := List.append_of_mem hp
        obtain ⟨h1, h2, h3⟩ := hes p hp
        have hsort := hse
        simp only [List.map_append, List.map_cons, List.pairwise_append, List.pairwise_cons] at hsort
        have hap1 : ∀ y ∈ l1.map (·.2), p.2.apart ops y = true ∧ ∀ cs b, y.op ≠ .select cs b := by
          intro y hy
          obtain ⟨q, hq, rfl⟩ := List.mem_map.1 hy
          obtain ⟨g1, g2, g3⟩ := hes q (by simp [hq])
          refine ⟨?_, fun cs b => hsp q.1 q.2 cs b g2⟩
          have hlt : q.1 < p.1 := hsort.2.2 q.1 (List.mem_map.2 ⟨q, hq, rfl⟩) p.1 (by simp)
          rcases pairOf q.1 p.1 q.2 p.2 hlt h1 g2 h2 with hw | ha
          · exact (unwait listed p.1 q.1 hi ((hmem q.1 g1).2 (.inl (by simp; exact .inl ⟨_, hq⟩))) hw).elim
          · exact apart_symm _ _ ha
        rw [List.map_append, List.map_cons] at h
        obtain ⟨v, hy, h'⟩ := calm_front (fun cs b => hsp p.1 p.2 cs b h2) _ a hap1 h
        have hrest : ∀ W', W.grows W' → wpAny P .any ops Q (cnt + (ops.size - n)) (listed.setIfInBounds p.1 true) (a.put p.2.dst v) W' := by
          intro W' hg
          refine ih (l1 ++ l2) ms _ _ W' (by simp at hc ⊢; omega) inv' (fun j hj => ?_) (fun q hq => hes q (by simp at hq ⊢; rcases hq with h | h <;> simp [h])) hms ?_ hsm hsw (hgW.trans hg) (by rw [List.map_append]; exact wpCalm_mono (fun a' h => wpChain_grow hg h) _ _ h')
          · by_cases hji : j = p.1
            · subst hji
              rw [set_self]
              simp only [Bool.true_eq_false, false_iff]
              rintro (hh | hh)
              · obtain ⟨q, hq, he⟩ := List.mem_map.1 hh
                rcases List.mem_append.1 hq with hq | hq
                · have := hsort.2.2 q.1 (List.mem_map.2 ⟨q, hq, rfl⟩) p.1 (by simp); omega
                · have := hsort.2.1.1 q.1 (List.mem_map.2 ⟨q, hq, rfl⟩); omega
              · obtain ⟨q, hq, he⟩ := List.mem_map.1 hh
                have := (hms q hq).2.2
                rw [he, h3] at this; cases this
            · rw [set_mem j hj hji, hmem j hj]
              simp only [List.map_append, List.map_cons, List.mem_append, List.mem_cons]
              constructor
              · rintro ((h | h | h) | h)
                · exact .inl (.inl h)
                · exact absurd h hji
                · exact .inl (.inr h)
                · exact .inr h
              · rintro ((h | h) | h)
                · exact .inl (.inl h)
                · exact .inl (.inr (.inr h))
                · exact .inr h
          · rw [List.map_append, List.pairwise_append]
            exact ⟨hsort.1, hsort.2.1.2, fun x hx y hy => hsort.2.2 x hx y (List.mem_cons_of_mem _ hy)⟩
        unfold wpOp
        simp only [h2]
        rcases hy with ⟨hw, hv⟩ | ⟨hw, rfl⟩
        · rw [if_pos hw]
          obtain ⟨n', x, rfl⟩ := World.plus_of hgW
          have hv' := hv n' x
          unfold Oper.calmAt at hv'
          refine .inl ?_
          unfold Oper.wp
          generalize (execOp a.eval p.2).run P (w0.plus n' x) = r at *
          cases r with
          | halt z w' => simp only [Oper.calmUpon] at hv'
          | ok nx w' =>
            cases nx <;> simp only [Oper.calmUpon] at hv' <;> simp only [Oper.upon]
            case value u => obtain ⟨rfl, rfl⟩ := hv'; exact hrest _ (World.grows.refl _)
            case skip => obtain ⟨rfl, rfl⟩ := hv'; exact hrest _ (World.grows.refl _)
            case enter f args =>
              obtain ⟨rfl, hcall⟩ := hv'
              refine hcall.mono fun e w'' ⟨he, hg⟩ => ?_
              subst he
              exact hrest _ hg
        · rw [if_neg (by rw [hw]; exact Bool.false_ne_true)]
          exact hrest _ (World.grows.refl _)
      · -- the next of the chain
        cases ms with
        | nil => simp at him
        | cons m ms =>
        have hhead : i = m.1 := by
          rcases List.mem_cons.1 (by simpa using him : i ∈ m.1 :: ms.map (·.1)) with h1 | h1
          · exact h1
          · exfalso
            obtain ⟨q, hq, rfl⟩ := List.mem_map.1 h1
            obtain ⟨l1, l2, rfl⟩ := List.append_of_mem hq
            rcases List.eq_nil_or_concat l1 with rfl | ⟨l0, z, rfl⟩
            · exact unwait listed q.1 m.1 hi ((hmem m.1 (hms m (List.mem_cons_self ..)).1).2 (.inr (by simp))) (hsw m q [] l2 (by simp))
            · exact unwait listed q.1 z.1 hi ((hmem z.1 (hms z (by simp)).1).2 (.inr (by simp))) (hsw z q (m :: l0) l2 (by simp))
        subst hhead
        obtain ⟨h1, h2, h3⟩ := hms m (List.mem_cons_self ..)
        have hape : ∀ y ∈ es.map (·.2), m.2.apart ops y = true ∧ ∀ cs b, y.op ≠ .select cs b := by
          intro y hy
          obtain ⟨q, hq, rfl⟩ := List.mem_map.1 hy
          obtain ⟨g1, g2, g3⟩ := hes q hq
          refine ⟨?_, fun cs b => hsp q.1 q.2 cs b g2⟩
          have hql : listed.getD q.1 false = false := (hmem q.1 g1).2 (.inl (List.mem_map.2 ⟨q, hq, rfl⟩))
          rcases Nat.lt_trichotomy q.1 m.1 with hlt | heq | hgt
          · rcases pairOf q.1 m.1 q.2 m.2 hlt h1 g2 h2 with hw | ha
            · exact (unwait listed m.1 q.1 hi hql hw).elim
            · exact apart_symm _ _ ha
          · rw [heq, h3] at g3; cases g3
          · rcases pairOf m.1 q.1 m.2 q.2 hgt g1 h2 g2 with hw | ha
            · exfalso
              obtain ⟨oq, hoq, e, he, hb, hon⟩ := Region.waitsFor_spec hw
              have := edgeEM q.1 oq g1 hoq g3 e he hb
              rw [hon, h3] at this; cases this
            · exact ha
        have h' := chain_front (Φ := fun _ a'' W'' => wpChain P ops w0 K (ms.map (·.2)) a'' W'') (fun cs b => hsp m.1 m.2 cs b h2) _ a hape (wpCalm_mono (fun a' h => h W (World.grows.refl _) hgW) _ _ h)
        have hrest : ∀ v W', w0.grows W' → wpCalm P ops w0 (fun a'' => wpChain P ops w0 K (ms.map (·.2)) a'' W') (es.map (·.2)) (a.put m.2.dst v) → wpAny P .any ops Q (cnt + (ops.size - n)) (listed.setIfInBounds m.1 true) (a.put m.2.dst v) W' := by
          intro v W' hg hh
          have hsm' : m.1 ∉ ms.map (·.1) := by
            simp only [List.map_cons, List.pairwise_cons] at hsm
            intro hx
            have := hsm.1 m.1 hx
            omega
          refine ih es ms _ _ W' (by simp at hc ⊢; omega) inv' (fun j hj => ?_) hes (fun q hq => hms q (List.mem_cons_of_mem _ hq)) hse ?_ (fun p q l1 l2 he => hsw p q (m :: l1) l2 (by rw [he]; rfl)) hg hh
          · by_cases hji : j = m.1
            · subst hji
              rw [set_self]
              simp only [Bool.true_eq_false, false_iff]
              rintro (hh | hh)
              · obtain ⟨q, hq, he⟩ := List.mem_map.1 hh
                have := (hes q hq).2.2
                rw [he, h3] at this; cases this
              · exact hsm' hh
            · rw [set_mem j hj hji, hmem j hj]
              simp only [List.map_cons, List.mem_cons]
              constructor
              · rintro (h | h | h)
                · exact .inl h
                · exact absurd h hji
                · exact .inr h
              · rintro (h | h)
                · exact .inl h
                · exact .inr (.inr h)
          · simp only [List.map_cons, List.pairwise_cons] at hsm
            exact hsm.2
        unfold wpOp
        simp only [h2]
        by_cases hw : Region.wanted m.2 (yielded ops a.tmps) = true
        · rw [if_pos hw] at h' ⊢
          unfold Oper.goesO at h'
          refine .inl ?_
          unfold Oper.wp
          generalize (execOp a.eval m.2).run P W = r at *
          cases r with
          | halt z w' => simp only [goesUponO] at h'
          | ok nx w' =>
            cases nx <;> simp only [goesUponO] at h' <;> simp only [Oper.upon]
            case value u => exact hrest _ _ h'.1 h'.2
            case skip => exact hrest _ _ h'.1 h'.2
            case enter f args =>
              obtain ⟨rfl, hcall⟩ := h'
              refine hcall.mono fun e w'' ⟨v, he, hg, hp⟩ => ?_
              subst he
              exact hrest _ _ hg hp
        · rw [if_neg hw] at h' ⊢
          exact hrest _ _ hgW h'

theorem zip_next : ∀ (l : List Nat) (f : Nat → Nat → Bool), (l.zip (l.drop 1)).all (fun p => f p.1 p.2) = true → ∀ (i j : Nat) (l1 l2 : List Nat), l = l1 ++ i :: j :: l2 → f i j = true
  | l, f, h, i, j, l1, l2, he => by
    subst he
    refine List.all_eq_true.1 h (i, j) ?_
    rw [List.mem_iff_getElem?]
    refine ⟨l1.length, ?_⟩
    rw [List.getElem?_zip_eq_some]
    simp [List.getElem?_append_right, List.getElem?_drop]

/-- reads and calls in any order, beside a chain (numbers ms), a tail in order from n on -/
theorem wp_region_chain {id : Nat} {Q : Exit → Act → World → Prop} {a : Act} {w : World} {l : List Oper} (n : Nat) (ms : List Nat) (hm : P.follows .mixedOrders = true)
    (hB : (Region.chainPlanB l.toArray n ms && decide (((withNo 0 (l.take n)).filter fun p => ms.contains p.1).map (·.1) = ms)) = true) (hn : n ≤ l.length)
    (h : wpCalm P l.toArray w (fun a' => wpChain P l.toArray w (fun a'' W => wpList P l.toArray Q (l.drop n) a'' W) (only l n ms) a' w) (without l n ms) a) : (Code.region id l.toArray true).wp P Q a w := by
  simp only [Region.chainPlanB, Bool.and_eq_true, Bool.or_eq_true, decide_eq_true_eq] at hB
  obtain ⟨⟨⟨hch, hplan⟩, hseq⟩, hms⟩ := hB
  have hch0 := hch
  have hnle : n ≤ l.toArray.size := by simpa using hn
  refine wp_region_any hm ?_
  obtain ⟨n0, x0, h0⟩ := World.more_drew w
  rw [h0]
  have hat : ∀ p ∈ withNo 0 (l.take n), p.1 < n ∧ l.toArray[p.1]? = some p.2 := fun p hp => by
    have h2 := ((withNo_mem 0 _ p).1 hp).2
    rw [Nat.sub_zero, List.getElem?_take] at h2
    split at h2
    · rename_i hlt; exact ⟨by omega, by simpa using h2⟩
    · cases h2
  have hsorted : ((withNo 0 (l.take n)).map (·.1)).Pairwise (· < ·) := by rw [withNo_fst]; exact List.pairwise_lt_range'
  have hfilt : ∀ (q : Nat × Oper → Bool), (((withNo 0 (l.take n)).filter q).map (·.1)).Pairwise (· < ·) := fun q => by
    have : ((withNo 0 (l.take n)).filter q).Sublist (withNo 0 (l.take n)) := List.filter_sublist
    exact hsorted.sublist (this.map _)
  have hlen : ((withNo 0 (l.take n)).filter fun p => !ms.contains p.1).length + ((withNo 0 (l.take n)).filter fun p => ms.contains p.1).length = n := by
    have e1 : (withNo 0 (l.take n)).length = n := by
      have := congrArg List.length (withNo_snd 0 (l.take n))
      simp at this
      omega
    have := filt_len (fun p : Nat × Oper => ms.contains p.1) (withNo 0 (l.take n))
    omega
  have key := wpAny_of_chain (P := P) (ops := l.toArray) (w0 := w) (Q := Q) (n := n) (ms0 := ms) hch 
    (fun listed i0 inv hi0 hun0 => by
      rcases hplan with h | ⟨⟨h1, h2⟩, h3⟩
      · subst h; exact heads_of_all listed
      · exact heads_of_tail h1 h2 h3 listed i0 inv hi0 hun0)
    (K := fun a'' W => wpList P l.toArray Q (l.drop n) a'' W)
    (fun a W hK listed inv hall => by
      have hl := seq_listed inv hnle hall
      subst hl
      have hd : (l.drop n).length = l.toArray.size - n := by simp
      have := wpAny_of_seq (md := .any) (Q' := Q) (l.drop n) n _ a W (fun j => by simp [List.getElem?_drop]) (by rw [hd]; exact hseq) hK
      rwa [hd] at this)
    n ((withNo 0 (l.take n)).filter fun p => !ms.contains p.1) ((withNo 0 (l.take n)).filter fun p => ms.contains p.1) (Array.replicate l.toArray.size false) a (w.plus n0 x0) hlen (headInv_start n)
    (fun i hi => by
      simp only [getD_replicate_false, true_iff, List.mem_map, List.mem_filter]
      have hil : i < (l.take n).length := by simp; omega
      have hi2 : (i, (l.take n)[i]) ∈ withNo 0 (l.take n) := (withNo_mem 0 _ _).2 ⟨Nat.zero_le _, by rw [Nat.sub_zero]; exact List.getElem?_eq_getElem hil⟩
      cases hc : ms.contains i with
      | true => exact .inr ⟨_, ⟨hi2, hc⟩, rfl⟩
      | false => exact .inl ⟨_, ⟨hi2, by simpa using hc⟩, rfl⟩)
    (fun p hp => by
      obtain ⟨h1, h2⟩ := List.mem_filter.1 hp
      exact ⟨(hat p h1).1, (hat p h1).2, by simpa using h2⟩)
    (fun p hp => by
      obtain ⟨h1, h2⟩ := List.mem_filter.1 hp
      exact ⟨(hat p h1).1, (hat p h1).2, h2⟩)
    (hfilt _) (hfilt _)
    (fun p q l1 l2 he => by
      simp only [Region.chainsB, Bool.and_eq_true] at hch0
      have hz := hch0.1.2
      have := zip_next ms (fun i j => decide (i < j) && Region.waitsFor .any l.toArray j i) hz p.1 q.1 (l1.map (·.1)) (l2.map (·.1)) (by rw [← hms, he]; simp)
      simp only [Bool.and_eq_true] at this
      exact this.2)
    (World.grows_plus _ _ _)
    (wpCalm_mono (fun a' h => wpChain_grow (World.grows_plus _ _ _) h) _ _ h)
  rw [show n + (l.toArray.size - n) = l.toArray.size by omega] at key
  exact key
end

end Go

/-
  What is proved: as Chain: reads in any order beside a chain, where what the reads lean on is any property of worlds that stays when memory is made, and that the chain keeps: so the chain may change what is there.
-/
namespace Go
open Go.RowKit

section
variable {P : Program} {ops : Array Oper} {I : World → Prop}

def Oper.calmJ (P : Program) (o : Oper) (a : Act) (I : World → Prop) (K : Act → Prop) : Prop := ∃ v, (∀ W, I W → o.calmAt P a W v) ∧ K (a.put o.dst v)
def wpCalmJ (P : Program) (ops : Array Oper) (I : World → Prop) (K : Act → Prop) : List Oper → Act → Prop
  | [], a => K a
  | o :: r, a => if Region.wanted o (yielded ops a.tmps) then o.calmJ P a I (wpCalmJ P ops I K r) else wpCalmJ P ops I K r (a.put o.dst undef)

attribute [go_sem] Oper.calmJ
theorem wpCalm_nilJ {K : Act → Prop} {a : Act} (h : K a) : wpCalmJ P ops I K [] a := h
theorem wpCalm_stepJ {Q : Act → Prop} {a : Act} {o : Oper} {r : List Oper}
    (h : ∀ K : Act → Prop, (∀ a, wpCalmJ P ops I Q r a → K a) → if Region.wanted o (yielded ops a.tmps) then o.calmJ P a I K else K (a.put o.dst undef)) : wpCalmJ P ops I Q (o :: r) a :=
  h _ (fun _ h => h)

/-- the value of an operation at this frame, in every world that has grown out of I -/
def YieldsCJ (P : Program) (ops : Array Oper) (I : World → Prop) (o : Oper) (v : Value) (a : Act) : Prop :=
  (Region.wanted o (yielded ops a.tmps) = true ∧ ∀ W, I W → o.calmAt P a W v) ∨
  (Region.wanted o (yielded ops a.tmps) = false ∧ v = undef)

theorem wpCalm_consJ {K : Act → Prop} {a : Act} {o : Oper} {r : List Oper} : wpCalmJ P ops I K (o :: r) a ↔ ∃ v, YieldsCJ P ops I o v a ∧ wpCalmJ P ops I K r (a.put o.dst v) := by
  simp only [wpCalmJ]
  by_cases hw : Region.wanted o (yielded ops a.tmps) = true
  · simp only [hw, if_true, Oper.calmJ, YieldsCJ, true_and, Bool.true_eq_false, false_and, or_false]
  · have hw' : Region.wanted o (yielded ops a.tmps) = false := by simpa using hw
    simp only [hw', if_false, YieldsCJ, Bool.false_eq_true, false_and, true_and, false_or, exists_eq_left]

theorem wpCalm_monoJ {K K' : Act → Prop} (hK : ∀ a, K a → K' a) : ∀ (l : List Oper) (a : Act), wpCalmJ P ops I K l a → wpCalmJ P ops I K' l a
  | [], a, h => hK a h
  | o :: l, a, h => by
    obtain ⟨v, hv, h'⟩ := wpCalm_consJ.1 h
    exact wpCalm_consJ.2 ⟨v, hv, wpCalm_monoJ hK l _ h'⟩

theorem YieldsCJ.of_same {o : Oper} {v : Value} {a a' : Act} (hy : YieldsCJ P ops I o v a) (he : execOp a'.eval o = execOp a.eval o)
    (hw : Region.wanted o (yielded ops a'.tmps) = Region.wanted o (yielded ops a.tmps)) : YieldsCJ P ops I o v a' := by
  unfold YieldsCJ Oper.calmAt at *
  rw [he, hw]
  exact hy

theorem YieldsCJ.put {x y : Oper} {v u : Value} {a : Act} (hs : ∀ cs b, x.op ≠ .select cs b) (hd : ∀ d, y.dst = some d → d ∉ x.looksAt ops) :
    YieldsCJ P ops I x v (a.put y.dst u) ↔ YieldsCJ P ops I x v a :=
  ⟨fun h => h.of_same (execOp_put x hs a y.dst u hd).symm (wanted_put x a y.dst u hd).symm, fun h => h.of_same (execOp_put x hs a y.dst u hd) (wanted_put x a y.dst u hd)⟩

theorem calm_frontJ {K : Act → Prop} {o : Oper} {l2 : List Oper} (hso : ∀ cs b, o.op ≠ .select cs b) : ∀ (l1 : List Oper) (a : Act),
    (∀ y ∈ l1, o.apart ops y = true ∧ ∀ cs b, y.op ≠ .select cs b) → wpCalmJ P ops I K (l1 ++ o :: l2) a →
    ∃ v, YieldsCJ P ops I o v a ∧ wpCalmJ P ops I K (l1 ++ l2) (a.put o.dst v)
  | [], a, _, h => wpCalm_consJ.1 h
  | y :: l1, a, hap, h => by
    obtain ⟨u, hy, h'⟩ := wpCalm_consJ.1 h
    obtain ⟨v, hv, h''⟩ := calm_frontJ hso l1 _ (fun z hz => hap z (List.mem_cons_of_mem _ hz)) h'
    obtain ⟨ha, hsy⟩ := hap y (List.mem_cons_self ..)
    obtain ⟨h1, h2, h3⟩ := Oper.apart_spec ha
    refine ⟨v, (YieldsCJ.put hso h3).1 hv, ?_⟩
    rw [List.cons_append]
    refine wpCalm_consJ.2 ⟨u, (YieldsCJ.put hsy h1).2 hy, ?_⟩
    rw [Act.put_comm a v u h2]
    exact h''

theorem wpCalmJ_go {Qc : Act → Prop} {r : List Oper} {o : Oper} {a : Act} (hgd : o.guard = none) (v : Value) (h1 : ∀ W, I W → o.calmAt P a W v) (h : wpCalmJ P ops I Qc r (a.put o.dst v)) : wpCalmJ P ops I Qc (o :: r) a :=
  wpCalm_stepJ fun K hK => by
    rw [if_pos (by simp [Region.wanted, hgd])]
    exact ⟨v, h1, hK _ h⟩
end
def goesUponOJ (P : Program) (I : World → Prop) (W : World) (post : Value → World → Prop) : Result Next → Prop
  | .ok (.value u) W' => I W' ∧ post u W'
  | .ok .skip W' => I W' ∧ post undef W'
  | .ok (.enter f args) W' => W' = W ∧ Calls P f args W (fun e W'' => ∃ v, e = .returned v ∧ I W'' ∧ post v W'')
  | _ => False
def Oper.goesOJ (P : Program) (o : Oper) (a : Act) (I : World → Prop) (W : World) (post : Value → World → Prop) : Prop := goesUponOJ P I W post ((execOp a.eval o).run P W)
attribute [go_sem] goesUponOJ Oper.goesOJ
theorem goesUponO_monoJ {P : Program} {I : World → Prop} {W : World} {p q : Value → World → Prop} (h : ∀ v W', I W' → p v W' → q v W') (r : Result Next) (h1 : goesUponOJ P I W p r) : goesUponOJ P I W q r := by
  cases r with
  | halt z w' => simp only [goesUponOJ] at h1
  | ok nx w' =>
    cases nx <;> simp only [goesUponOJ] at h1 ⊢
    case value u => exact ⟨h1.1, h _ _ h1.1 h1.2⟩
    case skip => exact ⟨h1.1, h _ _ h1.1 h1.2⟩
    case enter f args => exact ⟨h1.1, h1.2.mono fun e W'' ⟨v, he, hg, hp⟩ => ⟨v, he, hg, h _ _ hg hp⟩⟩

section
variable {P : Program} {ops : Array Oper}

/-- the chain, with room between its operations -/
def wpChainJ (P : Program) (ops : Array Oper) (I : World → Prop) (K : Act → World → Prop) : List Oper → Act → World → Prop
  | [], a, W => ∀ W', W.grows W' → K a W'
  | o :: r, a, W => ∀ W', W.grows W' → I W' → if Region.wanted o (yielded ops a.tmps) then o.goesOJ P a I W' (fun v W'' => wpChainJ P ops I K r (a.put o.dst v) W'') else wpChainJ P ops I K r (a.put o.dst undef) W'
theorem wpChain_nilJ {I : World → Prop} {K : Act → World → Prop} {a : Act} {W : World} (h : ∀ n x, K a (W.plus n x)) : wpChainJ P ops I K [] a W := fun W' hg => by obtain ⟨n, x, rfl⟩ := World.plus_of hg; exact h n x

/-- a step that may write into what came behind I -/
theorem wpChain_stepOJ {I : World → Prop} {Q : Act → World → Prop} {a : Act} {o : Oper} {r : List Oper} {W : World}
    (h : ∀ K : Act → World → Prop, (∀ a W, wpChainJ P ops I Q r a W → K a W) → ∀ n x, I (W.plus n x) → if Region.wanted o (yielded ops a.tmps) then o.goesOJ P a I (W.plus n x) (fun v W'' => K (a.put o.dst v) W'') else K (a.put o.dst undef) (W.plus n x)) : wpChainJ P ops I Q (o :: r) a W :=
  fun W' hg hg0 => by obtain ⟨n, x, rfl⟩ := World.plus_of hg; exact h _ (fun _ _ h => h) n x hg0
theorem wpChain_growJ {I : World → Prop} {K : Act → World → Prop} {a : Act} : ∀ {l : List Oper} {W W' : World}, W.grows W' → wpChainJ P ops I K l a W → wpChainJ P ops I K l a W'
  | [], _, _, g, h => fun W'' g' => h W'' (g.trans g')
  | _ :: _, _, _, g, h => fun W'' g' g0 => h W'' (g.trans g') g0

theorem chain_frontJ {I : World → Prop} {Φ : Value → Act → World → Prop} {o : Oper} (hso : ∀ cs b, o.op ≠ .select cs b) {W : World} : ∀ (es : List Oper) (a : Act),
    (∀ y ∈ es, o.apart ops y = true ∧ ∀ cs b, y.op ≠ .select cs b) →
    wpCalmJ P ops I (fun a' => if Region.wanted o (yielded ops a'.tmps) then o.goesOJ P a' I W (fun v W'' => Φ v (a'.put o.dst v) W'') else Φ undef (a'.put o.dst undef) W) es a →
    if Region.wanted o (yielded ops a.tmps) then o.goesOJ P a I W (fun v W'' => wpCalmJ P ops I (fun a'' => Φ v a'' W'') es (a.put o.dst v)) else wpCalmJ P ops I (fun a'' => Φ undef a'' W) es (a.put o.dst undef)
  | [], a, _, h => h
  | y :: es, a, hap, h => by
    obtain ⟨u, hy, h'⟩ := wpCalm_consJ.1 h
    have h'' := chain_frontJ hso es _ (fun z hz => hap z (List.mem_cons_of_mem _ hz)) h'
    obtain ⟨ha, hsy⟩ := hap y (List.mem_cons_self ..)
    obtain ⟨h1, h2, h3⟩ := Oper.apart_spec ha
    rw [wanted_put o a y.dst u h3] at h''
    split
    · rename_i hw
      rw [if_pos hw] at h''
      unfold Oper.goesOJ at h'' ⊢
      rw [execOp_put o hso a y.dst u h3] at h''
      refine goesUponO_monoJ (fun v W' _ hp => wpCalm_consJ.2 ⟨u, (YieldsCJ.put hsy h1).2 hy, ?_⟩) _ h''
      rw [Act.put_comm a v u h2]
      exact hp
    · rename_i hw
      rw [if_neg hw] at h''
      refine wpCalm_consJ.2 ⟨u, (YieldsCJ.put hsy h1).2 hy, ?_⟩
      rw [Act.put_comm a undef u h2]
      exact h''

end
section
variable {P : Program} {ops : Array Oper} {I : World → Prop}

theorem wpAny_of_chainJ {Q : Exit → Act → World → Prop} {n : Nat} {ms0 : List Nat}
    (hB : Region.chainsB ops n ms0 = true)
    (hI : ∀ W W', I W → W.grows W' → I W') (hheads0 : ∀ (listed : Array Bool) (i0 : Nat), HeadInv .any ops n listed → i0 < n → listed.getD i0 true = false → ∀ t ∈ Region.ready .any ops listed, t < n)
    {K : Act → World → Prop}
    (hK : ∀ a W, K a W → ∀ listed, HeadInv .any ops n listed → (∀ i, i < n → listed.getD i false = true) → wpAny P .any ops Q (ops.size - n) listed a W) :
    ∀ (cnt : Nat) (es ms : List (Nat × Oper)) (listed : Array Bool) (a : Act) (W : World),
      es.length + ms.length = cnt → HeadInv .any ops n listed →
      (∀ i, i < n → (listed.getD i false = false ↔ i ∈ es.map (·.1) ∨ i ∈ ms.map (·.1))) →
      (∀ p ∈ es, p.1 < n ∧ ops[p.1]? = some p.2 ∧ ms0.contains p.1 = false) → (∀ p ∈ ms, p.1 < n ∧ ops[p.1]? = some p.2 ∧ ms0.contains p.1 = true) →
      (es.map (·.1)).Pairwise (· < ·) → (ms.map (·.1)).Pairwise (fun i j => i < j) → (∀ p q : Nat × Oper, ∀ l1 l2, ms = l1 ++ p :: q :: l2 → Region.waitsFor .any ops q.1 p.1 = true) →
      I W → wpCalmJ P ops I (fun a' => wpChainJ P ops I K (ms.map (·.2)) a' W) (es.map (·.2)) a →
      wpAny P .any ops Q (cnt + (ops.size - n)) listed a W := by
  simp only [Region.chainsB, Bool.and_eq_true] at hB
  obtain ⟨⟨⟨hmix, hEM⟩, _⟩, _⟩ := hB
  simp only [Region.mixB, Bool.and_eq_true, decide_eq_true_eq] at hmix
  obtain ⟨⟨⟨hsel, hnle⟩, hpair⟩, hedge⟩ := hmix
  have hsp := Region.noSelect_spec hsel
  have pairOf : ∀ i j oi oj, i < j → j < n → ops[i]? = some oi → ops[j]? = some oj → Region.waitsFor .any ops j i = true ∨ oi.apart ops oj = true := by
    intro i j oi oj hij hj hi hoj
    have h1 := List.all_eq_true.1 (List.all_eq_true.1 hpair i (List.mem_range.2 (by omega))) j (List.mem_range.2 hj)
    simp only [Bool.or_eq_true, decide_eq_true_eq, Region.pairB, hi, hoj] at h1
    rcases h1 with h1 | h1
    · omega
    · exact h1
  have apart_symm : ∀ x y : Oper, x.apart ops y = true → y.apart ops x = true := by
    intro x y h
    unfold Oper.apart at *
    cases hx : x.dst <;> cases hy : y.dst <;> simp [hx, hy] at h ⊢
    · exact h
    · exact h
    · exact ⟨⟨h.2, fun e => h.1.2 e.symm⟩, h.1.1⟩
  have edgeOf : ∀ i o, i < n → ops[i]? = some o → ∀ e ∈ o.after, Region.binds .any e = true → e.on < i := by
    intro i o hi ho e he hb
    have h1 := List.all_eq_true.1 hedge i (List.mem_range.2 hi)
    simp only [ho, Bool.and_eq_true] at h1
    have h2 := Array.all_eq_true_iff_forall_mem.1 h1.1 e he
    simpa only [hb, Bool.not_true, Bool.false_or, decide_eq_true_eq] using h2
  have edgeEM : ∀ i o, i < n → ops[i]? = some o → ms0.contains i = false → ∀ e ∈ o.after, Region.binds .any e = true → ms0.contains e.on = false := by
    intro i o hi ho h3 e he hb
    have h1 := List.all_eq_true.1 hEM i (List.mem_range.2 hi)
    simp only [ho, h3, Bool.false_or] at h1
    have h2 := Array.all_eq_true_iff_forall_mem.1 h1 e he
    simpa [hb] using h2
  have unwait : ∀ (listed : Array Bool) (i j : Nat), i ∈ Region.ready .any ops listed → listed.getD j false = false → Region.waitsFor .any ops i j = true → False := by
    intro listed i j hi hj hw
    obtain ⟨oi, hoi, e, he, hb, hon⟩ := Region.waitsFor_spec hw
    obtain ⟨_, o', ho', hall⟩ := mem_ready.1 hi
    rw [hoi] at ho'; cases ho'
    have := hall e he hb
    rw [hon, hj] at this; cases this
  intro cnt
  induction cnt with
  | zero =>
    intro es ms listed a W hc inv hmem hes hms _ _ _ hgW h
    have he : es = [] := List.eq_nil_of_length_eq_zero (by omega)
    have ha : ms = [] := List.eq_nil_of_length_eq_zero (by omega)
    subst he; subst ha
    rw [Nat.zero_add]
    refine hK a W (h W (World.grows.refl _)) listed inv fun i hi => ?_
    have := hmem i hi
    simp only [List.map_nil, List.not_mem_nil, or_self, iff_false, Bool.not_eq_false] at this
    exact this
  | succ cnt ih =>
    intro es ms listed a W hc inv hmem hes hms hse hsm hsw hgW h
    rw [show cnt + 1 + (ops.size - n) = (cnt + (ops.size - n)) + 1 by omega]
    have hun : ∃ i, i < n ∧ listed.getD i true = false := by
      cases es with
      | cons p es =>
        have h1 := hes p (List.mem_cons_self ..)
        refine ⟨p.1, h1.1, getD_in (by rw [inv.size]; omega) ((hmem p.1 h1.1).2 (.inl (by simp)))⟩
      | nil =>
        cases ms with
        | nil => simp at hc
        | cons p ms =>
          have h1 := hms p (List.mem_cons_self ..)
          exact ⟨p.1, h1.1, getD_in (by rw [inv.size]; omega) ((hmem p.1 h1.1).2 (.inr (by simp)))⟩
    obtain ⟨i0, hi0, hun0⟩ := hun
    have hheads := hheads0 listed i0 inv hi0 hun0
    refine ⟨fun hnil => ?_, fun i hi => ?_⟩
    · exfalso
      have first : ∀ i o, i < n → ops[i]? = some o → listed.getD i false = false → (∀ j, j < i → listed.getD j false = true ∨ (ms0.contains i = false ∧ ms0.contains j = true)) → False := by
        intro i o hi ho hl hall
        have : i ∈ Region.ready .any ops listed := mem_ready.2 ⟨getD_in (by rw [inv.size]; omega) hl, o, ho, fun e he hb => by
          have h1 := edgeOf i o hi ho e he hb
          rcases hall e.on h1 with h3 | ⟨h3, h4⟩
          · exact h3
          · rw [edgeEM i o hi ho h3 e he hb] at h4; cases h4⟩
        rw [hnil] at this; cases this
      cases es with
      | cons p es =>
        obtain ⟨h1, h2, h3⟩ := hes p (List.mem_cons_self ..)
        refine first p.1 p.2 h1 h2 ((hmem p.1 h1).2 (.inl (by simp))) fun j hj => ?_
        cases hl : listed.getD j false with
        | true => exact .inl rfl
        | false =>
          refine .inr ⟨h3, ?_⟩
          rcases (hmem j (by omega)).1 hl with h4 | h4
          · simp only [List.map_cons, List.mem_cons] at h4
            simp only [List.map_cons, List.pairwise_cons] at hse
            rcases h4 with h4 | h4
            · omega
            · have := hse.1 j h4; omega
          · obtain ⟨q, hq, rfl⟩ := List.mem_map.1 h4
            exact (hms q hq).2.2
      | nil =>
        cases ms with
        | nil => simp at hc
        | cons p ms =>
          obtain ⟨h1, h2, h3⟩ := hms p (List.mem_cons_self ..)
          refine first p.1 p.2 h1 h2 ((hmem p.1 h1).2 (.inr (by simp))) fun j hj => ?_
          cases hl : listed.getD j false with
          | true => exact .inl rfl
          | false =>
            rcases (hmem j (by omega)).1 hl with h4 | h4
            · simp at h4
            · simp only [List.map_cons, List.mem_cons] at h4
              simp only [List.map_cons, List.pairwise_cons] at hsm
              rcases h4 with h4 | h4
              · omega
              · have := hsm.1 j h4; omega
    · have hin := hheads i hi
      have hl : listed.getD i false = false := getD_both (mem_ready.1 hi).1
      have inv' := inv.set hi hin
      have set_mem : ∀ j, j < n → j ≠ i → ((listed.setIfInBounds i true).getD j false = false ↔ listed.getD j false = false) := fun j hj hji => by rw [getD_set_ne false (Ne.symm hji)]
      have set_self : (listed.setIfInBounds i true).getD i false = true := by
        have : i < listed.size := by rw [inv.size]; omega
        simp [this]
      rcases (hmem i hin).1 hl with hie | him
      · obtain ⟨p, hp, rfl⟩ := List.mem_map.1 hie
        obtain ⟨l1, l2, rfl⟩ := List.append_of_mem hp
        obtain ⟨h1, h2, h3⟩ := hes p hp
        have hsort := hse
        simp only [List.map_append, List.map_cons, List.pairwise_append, List.pairwise_cons] at hsort
        have hap1 : ∀ y ∈ l1.map (·.2), p.2.apart ops y = true ∧ ∀ cs b, y.op ≠ .select cs b := by
          intro y hy
          obtain ⟨q, hq, rfl⟩ := List.mem_map.1 hy
          obtain ⟨g1, g2, g3⟩ := hes q (by simp [hq])
          refine ⟨?_, fun cs b => hsp q.1 q.2 cs b g2⟩
          have hlt : q.1 < p.1 := hsort.2.2 q.1 (List.mem_map.2 ⟨q, hq, rfl⟩) p.1 (by simp)
          rcases pairOf q.1 p.1 q.2 p.2 hlt h1 g2 h2 with hw | ha
          · exact (unwait listed p.1 q.1 hi ((hmem q.1 g1).2 (.inl (by simp; exact .inl ⟨_, hq⟩))) hw).elim
          · exact apart_symm _ _ ha
        rw [List.map_append, List.map_cons] at h
        obtain ⟨v, hy, h'⟩ := calm_frontJ (fun cs b => hsp p.1 p.2 cs b h2) _ a hap1 h
        have hrest : ∀ W', W.grows W' → wpAny P .any ops Q (cnt + (ops.size - n)) (listed.setIfInBounds p.1 true) (a.put p.2.dst v) W' := by
          intro W' hg
          refine ih (l1 ++ l2) ms _ _ W' (by simp at hc ⊢; omega) inv' (fun j hj => ?_) (fun q hq => hes q (by simp at hq ⊢; rcases hq with h | h <;> simp [h])) hms ?_ hsm hsw (hI _ _ hgW hg) (by rw [List.map_append]; exact wpCalm_monoJ (fun a' h => wpChain_growJ hg h) _ _ h')
          · by_cases hji : j = p.1
            · subst hji
              rw [set_self]
              simp only [Bool.true_eq_false, false_iff]
              rintro (hh | hh)
              · obtain ⟨q, hq, he⟩ := List.mem_map.1 hh
                rcases List.mem_append.1 hq with hq | hq
                · have := hsort.2.2 q.1 (List.mem_map.2 ⟨q, hq, rfl⟩) p.1 (by simp); omega
                · have := hsort.2.1.1 q.1 (List.mem_map.2 ⟨q, hq, rfl⟩); omega
              · obtain ⟨q, hq, he⟩ := List.mem_map.1 hh
                have := (hms q hq).2.2
                rw [he, h3] at this; cases this
            · rw [set_mem j hj hji, hmem j hj]
              simp only [List.map_append, List.map_cons, List.mem_append, List.mem_cons]
              constructor
              · rintro ((h | h | h) | h)
                · exact .inl (.inl h)
                · exact absurd h hji
                · exact .inl (.inr h)
                · exact .inr h
              · rintro ((h | h) | h)
                · exact .inl (.inl h)
                · exact .inl (.inr (.inr h))
                · exact .inr h
          · rw [List.map_append, List.pairwise_append]
            exact ⟨hsort.1, hsort.2.1.2, fun x hx y hy => hsort.2.2 x hx y (List.mem_cons_of_mem _ hy)⟩
        unfold wpOp
        simp only [h2]
        rcases hy with ⟨hw, hv⟩ | ⟨hw, rfl⟩
        · rw [if_pos hw]
          have hv' := hv _ hgW
          unfold Oper.calmAt at hv'
          refine .inl ?_
          unfold Oper.wp
          generalize (execOp a.eval p.2).run P W = r at *
          cases r with
          | halt z w' => simp only [Oper.calmUpon] at hv'
          | ok nx w' =>
            cases nx <;> simp only [Oper.calmUpon] at hv' <;> simp only [Oper.upon]
            case value u => obtain ⟨rfl, rfl⟩ := hv'; exact hrest _ (World.grows.refl _)
            case skip => obtain ⟨rfl, rfl⟩ := hv'; exact hrest _ (World.grows.refl _)
            case enter f args =>
              obtain ⟨rfl, hcall⟩ := hv'
              refine hcall.mono fun e w'' ⟨he, hg⟩ => ?_
              subst he
              exact hrest _ hg
        · rw [if_neg (by rw [hw]; exact Bool.false_ne_true)]
          exact hrest _ (World.grows.refl _)
      · -- the next of the chain
        cases ms with
        | nil => simp at him
        | cons m ms =>
        have hhead : i = m.1 := by
          rcases List.mem_cons.1 (by simpa using him : i ∈ m.1 :: ms.map (·.1)) with h1 | h1
          · exact h1
          · exfalso
            obtain ⟨q, hq, rfl⟩ := List.mem_map.1 h1
            obtain ⟨l1, l2, rfl⟩ := List.append_of_mem hq
            rcases List.eq_nil_or_concat l1 with rfl | ⟨l0, z, rfl⟩
            · exact unwait listed q.1 m.1 hi ((hmem m.1 (hms m (List.mem_cons_self ..)).1).2 (.inr (by simp))) (hsw m q [] l2 (by simp))
            · exact unwait listed q.1 z.1 hi ((hmem z.1 (hms z (by simp)).1).2 (.inr (by simp))) (hsw z q (m :: l0) l2 (by simp))
        subst hhead
        obtain ⟨h1, h2, h3⟩ := hms m (List.mem_cons_self ..)
        have hape : ∀ y ∈ es.map (·.2), m.2.apart ops y = true ∧ ∀ cs b, y.op ≠ .select cs b := by
          intro y hy
          obtain ⟨q, hq, rfl⟩ := List.mem_map.1 hy
          obtain ⟨g1, g2, g3⟩ := hes q hq
          refine ⟨?_, fun cs b => hsp q.1 q.2 cs b g2⟩
          have hql : listed.getD q.1 false = false := (hmem q.1 g1).2 (.inl (List.mem_map.2 ⟨q, hq, rfl⟩))
          rcases Nat.lt_trichotomy q.1 m.1 with hlt | heq | hgt
          · rcases pairOf q.1 m.1 q.2 m.2 hlt h1 g2 h2 with hw | ha
            · exact (unwait listed m.1 q.1 hi hql hw).elim
            · exact apart_symm _ _ ha
          · rw [heq, h3] at g3; cases g3
          · rcases pairOf m.1 q.1 m.2 q.2 hgt g1 h2 g2 with hw | ha
            · exfalso
              obtain ⟨oq, hoq, e, he, hb, hon⟩ := Region.waitsFor_spec hw
              have := edgeEM q.1 oq g1 hoq g3 e he hb
              rw [hon, h3] at this; cases this
            · exact ha
        have h' := chain_frontJ (Φ := fun _ a'' W'' => wpChainJ P ops I K (ms.map (·.2)) a'' W'') (fun cs b => hsp m.1 m.2 cs b h2) _ a hape (wpCalm_monoJ (fun a' h => h W (World.grows.refl _) hgW) _ _ h)
        have hrest : ∀ v W', I W' → wpCalmJ P ops I (fun a'' => wpChainJ P ops I K (ms.map (·.2)) a'' W') (es.map (·.2)) (a.put m.2.dst v) → wpAny P .any ops Q (cnt + (ops.size - n)) (listed.setIfInBounds m.1 true) (a.put m.2.dst v) W' := by
          intro v W' hg hh
          have hsm' : m.1 ∉ ms.map (·.1) := by
            simp only [List.map_cons, List.pairwise_cons] at hsm
            intro hx
            have := hsm.1 m.1 hx
            omega
          refine ih es ms _ _ W' (by simp at hc ⊢; omega) inv' (fun j hj => ?_) hes (fun q hq => hms q (List.mem_cons_of_mem _ hq)) hse ?_ (fun p q l1 l2 he => hsw p q (m :: l1) l2 (by rw [he]; rfl)) hg hh
          · by_cases hji : j = m.1
            · subst hji
              rw [set_self]
              simp only [Bool.true_eq_false, false_iff]
              rintro (hh | hh)
              · obtain ⟨q, hq, he⟩ := List.mem_map.1 hh
                have := (hes q hq).2.2
                rw [he, h3] at this; cases this
              · exact hsm' hh
            · rw [set_mem j hj hji, hmem j hj]
              simp only [List.map_cons, List.mem_cons]
              constructor
              · rintro (h | h | h)
                · exact .inl h
                · exact absurd h hji
                · exact .inr h
              · rintro (h | h)
                · exact .inl h
                · exact .inr (.inr h)
          · simp only [List.map_cons, List.pairwise_cons] at hsm
            exact hsm.2
        unfold wpOp
        simp only [h2]
        by_cases hw : Region.wanted m.2 (yielded ops a.tmps) = true
        · rw [if_pos hw] at h' ⊢
          unfold Oper.goesOJ at h'
          refine .inl ?_
          unfold Oper.wp
          generalize (execOp a.eval m.2).run P W = r at *
          cases r with
          | halt z w' => simp only [goesUponOJ] at h'
          | ok nx w' =>
            cases nx <;> simp only [goesUponOJ] at h' <;> simp only [Oper.upon]
            case value u => exact hrest _ _ h'.1 h'.2
            case skip => exact hrest _ _ h'.1 h'.2
            case enter f args =>
              obtain ⟨rfl, hcall⟩ := h'
              refine hcall.mono fun e w'' ⟨v, he, hg, hp⟩ => ?_
              subst he
              exact hrest _ _ hg hp
        · rw [if_neg hw] at h' ⊢
          exact hrest _ _ hgW h'

theorem wp_region_chainJ {id : Nat} {Q : Exit → Act → World → Prop} {a : Act} {w : World} {l : List Oper} (n : Nat) (ms : List Nat) (I : World → Prop) (hI : ∀ W W', I W → W.grows W' → I W') (hIw : I w) (hm : P.follows .mixedOrders = true)
    (hB : (Region.chainPlanB l.toArray n ms && decide (((withNo 0 (l.take n)).filter fun p => ms.contains p.1).map (·.1) = ms)) = true) (hn : n ≤ l.length)
    (h : wpCalmJ P l.toArray I (fun a' => wpChainJ P l.toArray I (fun a'' W => wpList P l.toArray Q (l.drop n) a'' W) (only l n ms) a' w) (without l n ms) a) : (Code.region id l.toArray true).wp P Q a w := by
  simp only [Region.chainPlanB, Bool.and_eq_true, Bool.or_eq_true, decide_eq_true_eq] at hB
  obtain ⟨⟨⟨hch, hplan⟩, hseq⟩, hms⟩ := hB
  have hch0 := hch
  have hnle : n ≤ l.toArray.size := by simpa using hn
  refine wp_region_any hm ?_
  obtain ⟨n0, x0, h0⟩ := World.more_drew w
  rw [h0]
  have hat : ∀ p ∈ withNo 0 (l.take n), p.1 < n ∧ l.toArray[p.1]? = some p.2 := fun p hp => by
    have h2 := ((withNo_mem 0 _ p).1 hp).2
    rw [Nat.sub_zero, List.getElem?_take] at h2
    split at h2
    · rename_i hlt; exact ⟨by omega, by simpa using h2⟩
    · cases h2
  have hsorted : ((withNo 0 (l.take n)).map (·.1)).Pairwise (· < ·) := by rw [withNo_fst]; exact List.pairwise_lt_range'
  have hfilt : ∀ (q : Nat × Oper → Bool), (((withNo 0 (l.take n)).filter q).map (·.1)).Pairwise (· < ·) := fun q => by
    have : ((withNo 0 (l.take n)).filter q).Sublist (withNo 0 (l.take n)) := List.filter_sublist
    exact hsorted.sublist (this.map _)
  have hlen : ((withNo 0 (l.take n)).filter fun p => !ms.contains p.1).length + ((withNo 0 (l.take n)).filter fun p => ms.contains p.1).length = n := by
    have e1 : (withNo 0 (l.take n)).length = n := by
      have := congrArg List.length (withNo_snd 0 (l.take n))
      simp at this
      omega
    have := filt_len (fun p : Nat × Oper => ms.contains p.1) (withNo 0 (l.take n))
    omega
  have key := wpAny_of_chainJ (P := P) (ops := l.toArray) (I := I) (Q := Q) (n := n) (ms0 := ms) hch hI 
    (fun listed i0 inv hi0 hun0 => by
      rcases hplan with h | ⟨⟨h1, h2⟩, h3⟩
      · subst h; exact heads_of_all listed
      · exact heads_of_tail h1 h2 h3 listed i0 inv hi0 hun0)
    (K := fun a'' W => wpList P l.toArray Q (l.drop n) a'' W)
    (fun a W hK listed inv hall => by
      have hl := seq_listed inv hnle hall
      subst hl
      have hd : (l.drop n).length = l.toArray.size - n := by simp
      have := wpAny_of_seq (md := .any) (Q' := Q) (l.drop n) n _ a W (fun j => by simp [List.getElem?_drop]) (by rw [hd]; exact hseq) hK
      rwa [hd] at this)
    n ((withNo 0 (l.take n)).filter fun p => !ms.contains p.1) ((withNo 0 (l.take n)).filter fun p => ms.contains p.1) (Array.replicate l.toArray.size false) a (w.plus n0 x0) hlen (headInv_start n)
    (fun i hi => by
      simp only [getD_replicate_false, true_iff, List.mem_map, List.mem_filter]
      have hil : i < (l.take n).length := by simp; omega
      have hi2 : (i, (l.take n)[i]) ∈ withNo 0 (l.take n) := (withNo_mem 0 _ _).2 ⟨Nat.zero_le _, by rw [Nat.sub_zero]; exact List.getElem?_eq_getElem hil⟩
      cases hc : ms.contains i with
      | true => exact .inr ⟨_, ⟨hi2, hc⟩, rfl⟩
      | false => exact .inl ⟨_, ⟨hi2, by simpa using hc⟩, rfl⟩)
    (fun p hp => by
      obtain ⟨h1, h2⟩ := List.mem_filter.1 hp
      exact ⟨(hat p h1).1, (hat p h1).2, by simpa using h2⟩)
    (fun p hp => by
      obtain ⟨h1, h2⟩ := List.mem_filter.1 hp
      exact ⟨(hat p h1).1, (hat p h1).2, h2⟩)
    (hfilt _) (hfilt _)
    (fun p q l1 l2 he => by
      simp only [Region.chainsB, Bool.and_eq_true] at hch0
      have hz := hch0.1.2
      have := zip_next ms (fun i j => decide (i < j) && Region.waitsFor .any l.toArray j i) hz p.1 q.1 (l1.map (·.1)) (l2.map (·.1)) (by rw [← hms, he]; simp)
      simp only [Bool.and_eq_true] at this
      exact this.2)
    (hI _ _ hIw (World.grows_plus _ _ _))
    (wpCalm_monoJ (fun a' h => wpChain_growJ (World.grows_plus _ _ _) h) _ _ h)
  rw [show n + (l.toArray.size - n) = l.toArray.size by omega] at key
  exact key
end
section
variable {P : Program} {ops : Array Oper} {I : World → Prop}
theorem wpChainJ_append {rest : List Oper} {o : Oper} {a : Act} {Q : Act → World → Prop} {W : World} (hgd : o.guard = none) (s x : Operand) (t : TypeId)
    (ho : o.op = .call { callee := .builtin .append, args := #[s, x], argTypes := #[t, t] })
    (base : Nat) (e : TypeId) (z : Value) (size bytes : Nat) (ht : P.underlying t = some (.slice e)) (hi : P.knows e z size bytes) (hzs : z.cells.size = size) (hsz : 0 < size)
    (v : Value) (n : Nat) (xs : List Value) (hs : a.eval s = v) (hown : W.ownsRow base e size v n xs)
    (xv : Value) (hx : a.eval x = xv) (m : Nat) (news : List Value) (hsrc : ∀ W0, W.grows W0 → SrcAt W0 xv m size news) (h1 : ∀ u ∈ news, u.oneCell' = true)
    (h63 : n + m ≤ maxLen) (hbytes : (n + m) * bytes ≤ 140737488355328) (hbase : base ≤ W.heap.size)
    (h : ∀ W0 v' w', W.grows W0 → I W0 → w'.ownsRow base e size v' (n + m) (xs ++ news) → W0.grownBy w' v.ownBlock → I w' ∧ wpChainJ P ops I Q rest (a.put o.dst v') w') :
    wpChainJ P ops I Q (o :: rest) a W := by
  intro W0 hg hI0
  obtain ⟨i, hi, hz, hsize, hby⟩ := hi
  rw [if_pos (by simp [Region.wanted, hgd])]
  obtain ⟨v', w', hr, h2, h3⟩ := run_append_g (P := P) W0 base t o.type e i z size bytes ht hi hz hsize hby hzs hsz v n xs (hown.grow hg) xv m news (hsrc W0 hg) h1 h63 hbytes (Nat.le_trans hbase hg.size)
  unfold Oper.goesOJ execOp
  simp only [ho, resolve, invoke, builtin, Sem.run_bind, Sem.run_pure, Result.andThen_ok, List.map_toArray, List.map_cons, List.map_nil, hs, hx, hr]
  exact h W0 v' w' hg hI0 h2 h3
end
end Go

