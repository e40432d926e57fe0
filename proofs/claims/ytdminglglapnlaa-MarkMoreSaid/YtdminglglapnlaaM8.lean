/-
  What is proved: maps whose keys are numbers, their values whatever, as lists of keys, values and stamps.
-/
import Derived.Test.YtdminglglapnlaaM5
import Derived.MapKept
import Derived.Test.YtdminglglapnlaaM7
import Derived.Test.YtdminglglapnlaaM2
import Derived.Test.YtdminglglapnlaaM6
set_option linter.all false
namespace Go
open Go.RowKit

structure VM where
  l : List (Nat × Value × Nat)
  clock : Nat
def VM.ents (l : List (Nat × Value × Nat)) : List MapEntry := l.map fun x => ⟨.int .i64 (x.1 : Nat), x.2.1, x.2.2⟩
def VM.obj (m : VM) : Obj := .map (VM.ents m.l).toArray m.clock
def VM.empty : VM := ⟨[], 0⟩
def VM.fnd : List (Nat × Value × Nat) → Nat → Nat → Option (Nat × Value)
  | [], _, _ => none
  | x :: r, k, i => if k = x.1 then some (i, x.2.1) else VM.fnd r k (i + 1)
def VM.get (m : VM) (k : Nat) : Option Value := (VM.fnd m.l k 0).map (·.2)
def VM.put : List (Nat × Value × Nat) → Nat → Value → List (Nat × Value × Nat)
  | [], _, _ => []
  | x :: r, k, v => if k = x.1 then (x.1, v, x.2.2) :: r else x :: VM.put r k v
def VM.set (m : VM) (k : Nat) (v : Value) : VM :=
  if (m.get k).isSome then ⟨VM.put m.l k v, m.clock⟩ else ⟨m.l ++ [(k, v, m.clock)], m.clock + 1⟩
def VM.cut : List (Nat × Value × Nat) → Nat → List (Nat × Value × Nat)
  | [], _ => []
  | x :: r, k => if k = x.1 then r else x :: VM.cut r k
def VM.del (m : VM) (k : Nat) : VM := ⟨VM.cut m.l k, m.clock⟩
def VM.Ok (m : VM) : Prop := (m.l.map (·.1)).Nodup

section
variable {P : Program} {kT T eT : TypeId}
theorem findNow_vm (k : Nat) : ∀ (l : List (Nat × Value × Nat)) (i : Nat), Instr.findNow (.int .i64) (.int .i64 (k : Nat)) (VM.ents l) i = some (VM.fnd l k i)
  | [], i => rfl
  | x :: r, i => by
    have ih := findNow_vm k r (i + 1)
    simp only [VM.ents, List.map_cons, Instr.findNow, Instr.sameNow, if_true, VM.fnd] at ih ⊢
    by_cases h : k = x.1
    · subst h; simp
    · have hb : (((k : Nat) : Int) == ((x.1 : Nat) : Int)) = false := beq_eq_false_iff_ne.2 (by omega)
      rw [hb, if_neg h]
      exact ih
theorem run_findKey_vm (hk : P.underlying kT = some (.int .i64)) (k : Nat) (w : World) (l : List (Nat × Value × Nat)) :
    (Instr.findKey kT (.int .i64 (k : Nat)) (VM.ents l)).run P w = .ok (VM.fnd l k 0) w := by
  simp [Instr.findKey, run_underlying hk, Result.andThen, findNow_vm]
theorem run_chk_vm (hk : P.underlying kT = some (.int .i64)) (em : Bool) (k : Int) (w : World) : (Instr.checkKey em 10000 kT (.int .i64 k)).run P w = .ok () w := by
  show (Instr.checkKey em (9999 + 1) kT (.int .i64 k)).run P w = .ok () w
  unfold Instr.checkKey
  simp [run_underlying hk, Result.andThen]
theorem bits_vm (k : Nat) : Instr.sameBits 10000 (.int .i64 (k : Nat)) (.int .i64 (k : Nat)) = true := by
  show Instr.sameBits (9999 + 1) _ _ = true
  unfold Instr.sameBits
  simp
theorem run_lookup_vm (hk : P.underlying kT = some (.int .i64)) (hT : P.underlying T = some (.map kT eT)) {z : Value} (hz : ∀ w, (zeroValue eT).run P w = .ok z w) (m : VM) (b : Nat) (w : World)
    (hb : w.heap[b]? = some m.obj) (k : Nat) : (Instr.lookup T (.map (some b)) (.int .i64 (k : Nat)) false).run P w = .ok ((m.get k).getD z) w := by
  have hb' : w.heap[b]? = some (.map (VM.ents m.l).toArray m.clock) := hb
  simp only [Instr.lookup, Sem.run_bind, run_underlying hT, Result.andThen, MapKept.run_getObj_map hb', Sem.run_pure, run_chk_vm hk, run_findKey_vm hk]
  unfold VM.get
  cases VM.fnd m.l k 0 with
  | none => simp [hz]
  | some p => simp
theorem run_lookup_ok_vm (hk : P.underlying kT = some (.int .i64)) (hT : P.underlying T = some (.map kT eT)) {z : Value} (hz : ∀ w, (zeroValue eT).run P w = .ok z w) (m : VM) (b : Nat) (w : World)
    (hb : w.heap[b]? = some m.obj) (k : Nat) : (Instr.lookup T (.map (some b)) (.int .i64 (k : Nat)) true).run P w = .ok (.tuple #[(m.get k).getD z, .bool (m.get k).isSome]) w := by
  have hb' : w.heap[b]? = some (.map (VM.ents m.l).toArray m.clock) := hb
  simp only [Instr.lookup, Sem.run_bind, run_underlying hT, Result.andThen, MapKept.run_getObj_map hb', Sem.run_pure, run_chk_vm hk, run_findKey_vm hk]
  unfold VM.get
  cases VM.fnd m.l k 0 with
  | none => simp [hz]
  | some p => simp

theorem VM.fnd_spec : ∀ (l : List (Nat × Value × Nat)) (k : Nat) (i j : Nat) (v : Value), VM.fnd l k i = some (j, v) → i ≤ j ∧ ∃ b, l[j - i]? = some (k, v, b)
  | [], _, _, _, _, h => by simp [VM.fnd] at h
  | x :: r, k, i, j, v, h => by
    simp only [VM.fnd] at h
    split at h
    · rename_i hk
      simp only [Option.some.injEq, Prod.mk.injEq] at h
      obtain ⟨rfl, rfl⟩ := h
      subst hk
      exact ⟨Nat.le_refl _, x.2.2, by simp⟩
    · obtain ⟨h1, b, h2⟩ := VM.fnd_spec r k (i + 1) j v h
      refine ⟨by omega, b, ?_⟩
      rw [show j - i = (j - (i + 1)) + 1 by omega, List.getElem?_cons_succ]
      exact h2

theorem VM.put_modify (v : Value) : ∀ (l : List (Nat × Value × Nat)) (k : Nat) (i j : Nat) (u : Value), VM.fnd l k i = some (j, u) →
    (VM.ents l).modify (j - i) (fun e => { e with key := .int .i64 (k : Nat), val := v }) = VM.ents (VM.put l k v)
  | [], _, _, _, _, h => by simp [VM.fnd] at h
  | x :: r, k, i, j, u, h => by
    have hs := VM.fnd_spec (x :: r) k i j u h
    simp only [VM.fnd] at h
    split at h
    · rename_i hk
      simp only [Option.some.injEq, Prod.mk.injEq] at h
      obtain ⟨rfl, rfl⟩ := h
      simp [VM.put, hk, VM.ents]
    · rename_i hk
      have h1 := (VM.fnd_spec r k (i + 1) j u h).1
      have ih := VM.put_modify v r k (i + 1) j u h
      rw [show j - i = (j - (i + 1)) + 1 by omega]
      simp only [VM.put, hk, if_false, VM.ents, List.map_cons, List.modify_succ_cons] at ih ⊢
      rw [ih]

theorem run_mapUpdate_vm (hk : P.underlying kT = some (.int .i64)) (hT : P.underlying T = some (.map kT eT)) (m : VM) (b : Nat) (w : World)
    (hb : w.heap[b]? = some (m.obj)) (k : Nat) (v : Value) : (Instr.mapUpdate T (.map (some b)) (.int .i64 (k : Nat)) v).run P w = .ok () (w.putObj b ((m.set k v).obj)) := by
  have hb' : w.heap[b]? = some (.map (VM.ents m.l).toArray m.clock) := hb
  have hset : ∀ o, (setObj b o).run P w = .ok () (w.putObj b o) := fun o => by simp [setObj, Sem.run, hb', World.putObj]
  simp only [Instr.mapUpdate, Sem.run_bind, run_underlying hT, Result.andThen, MapKept.run_getObj_map hb', run_chk_vm hk, run_findKey_vm hk]
  cases hf : VM.fnd m.l k 0 with
  | none =>
    have hg : (m.get k).isSome = false := by simp [VM.get, hf]
    simp only [Option.map_none, hset, VM.set, hg, Bool.false_eq_true, if_false, VM.obj, VM.ents, List.map_append, List.map_cons, List.map_nil]
    simp
  | some p =>
    obtain ⟨j, u⟩ := p
    have hg : (m.get k).isSome = true := by simp [VM.get, hf]
    obtain ⟨_, bn, hat⟩ := VM.fnd_spec m.l k 0 j u hf
    rw [Nat.sub_zero] at hat
    have hk0 : (((VM.ents m.l).toArray)[j]?.map (·.key)).getD (.int .i64 (k : Nat)) = .int .i64 (k : Nat) := by simp [VM.ents, hat]
    have hm := VM.put_modify v m.l k 0 j u hf
    rw [Nat.sub_zero] at hm
    simp only [Option.map_some, Instr.keyThatStays, hk0, bits_vm k, if_true, Sem.run_pure, Sem.run_bind, Result.andThen, hset, VM.set, hg, VM.obj]
    rw [List.modify_toArray, hm]

theorem VM.cut_erase : ∀ (l : List (Nat × Value × Nat)) (k : Nat) (i j : Nat) (u : Value), VM.fnd l k i = some (j, u) → (VM.ents l).eraseIdx (j - i) = VM.ents (VM.cut l k)
  | [], _, _, _, _, h => by simp [VM.fnd] at h
  | x :: r, k, i, j, u, h => by
    simp only [VM.fnd] at h
    split at h
    · rename_i hk
      simp only [Option.some.injEq, Prod.mk.injEq] at h
      obtain ⟨rfl, rfl⟩ := h
      simp [VM.cut, hk, VM.ents]
    · rename_i hk
      have h1 := (VM.fnd_spec r k (i + 1) j u h).1
      have ih := VM.cut_erase r k (i + 1) j u h
      rw [show j - i = (j - (i + 1)) + 1 by omega]
      simp only [VM.cut, hk, if_false, VM.ents, List.map_cons, List.eraseIdx_cons_succ] at ih ⊢
      rw [ih]
theorem VM.cut_none : ∀ (l : List (Nat × Value × Nat)) (k : Nat) (i : Nat), VM.fnd l k i = none → VM.cut l k = l
  | [], _, _, _ => rfl
  | x :: r, k, i, h => by
    simp only [VM.fnd] at h
    split at h
    · cases h
    · rename_i hk; simp [VM.cut, hk, VM.cut_none r k (i + 1) h]

theorem run_delete_vm (hk : P.underlying kT = some (.int .i64)) (hT : P.underlying T = some (.map kT eT)) (m : VM) (b : Nat) (w : World) (ty T2 : TypeId)
    (hb : w.heap[b]? = some (m.obj)) (k : Nat) : (Builtin.delete_ #[T, T2] ty #[.map (some b), .int .i64 (k : Nat)]).run P w = .ok (.tuple #[]) (w.putObj b ((m.del k).obj)) := by
  have hb' : w.heap[b]? = some (.map (VM.ents m.l).toArray m.clock) := hb
  have hset : ∀ o, (setObj b o).run P w = .ok () (w.putObj b o) := fun o => by simp [setObj, Sem.run, hb', World.putObj]
  simp only [Builtin.delete_, List.getElem?_toArray, List.getElem?_cons_zero, List.getElem?_cons_succ, Sem.run_bind, run_underlying hT, Result.andThen, MapKept.run_getObj_map hb', run_chk_vm hk, run_findKey_vm hk]
  cases hf : VM.fnd m.l k 0 with
  | none =>
    simp only [Option.map_none, hset, VM.del, VM.obj, VM.cut_none m.l k 0 hf, Sem.run_bind, Result.andThen, Sem.run_pure]
  | some p =>
    obtain ⟨j, u⟩ := p
    obtain ⟨_, bn, hat⟩ := VM.fnd_spec m.l k 0 j u hf
    rw [Nat.sub_zero] at hat
    have hlt : j < (VM.ents m.l).length := by
      have := (List.getElem?_eq_some_iff.1 hat).1
      simpa [VM.ents] using this
    have hc := VM.cut_erase m.l k 0 j u hf
    rw [Nat.sub_zero] at hc
    simp only [Option.map_some, hset, VM.del, VM.obj, Sem.run_bind, Result.andThen, Sem.run_pure, Array.eraseIdxIfInBounds, List.size_toArray, hlt, dif_pos, List.eraseIdx_toArray, hc]



theorem run_clear_vm (hT : P.underlying T = some (.map kT eT)) (m : VM) (b : Nat) (w : World) (ty : TypeId)
    (hb : w.heap[b]? = some m.obj) : (Builtin.clear_ #[T] ty #[.map (some b)]).run P w = .ok (.tuple #[]) (w.putObj b (VM.obj ⟨[], m.clock⟩)) := by
  have hb' : w.heap[b]? = some (.map (VM.ents m.l).toArray m.clock) := hb
  have hset : ∀ o, (setObj b o).run P w = .ok () (w.putObj b o) := fun o => by simp [setObj, Sem.run, hb', World.putObj]
  simp only [Builtin.clear_, List.getElem?_toArray, List.getElem?_cons_zero, Sem.run_bind, run_underlying hT, Result.andThen, MapKept.run_getObj_map hb', hset, Sem.run_pure]
  rfl
end

theorem VM.fnd_none_iff : ∀ (l : List (Nat × Value × Nat)) (k : Nat) (i : Nat), VM.fnd l k i = none ↔ k ∉ l.map (·.1)
  | [], _, _ => by simp [VM.fnd]
  | x :: r, k, i => by
    simp only [VM.fnd]
    by_cases h : k = x.1
    · simp [h]
    · simp only [h, if_false, List.map_cons, List.mem_cons, false_or]
      exact VM.fnd_none_iff r k (i + 1)
theorem VM.fnd_shift : ∀ (l : List (Nat × Value × Nat)) (k : Nat) (i j : Nat), (VM.fnd l k i).map (·.2) = (VM.fnd l k j).map (·.2)
  | [], _, _, _ => rfl
  | x :: r, k, i, j => by
    simp only [VM.fnd]
    by_cases h : k = x.1
    · simp [h]
    · simp only [h, if_false]
      exact VM.fnd_shift r k _ _
theorem VM.fnd_append : ∀ (l r : List (Nat × Value × Nat)) (k : Nat) (i : Nat), VM.fnd (l ++ r) k i = match VM.fnd l k i with | some p => some p | none => VM.fnd r k (i + l.length)
  | [], r, k, i => by simp [VM.fnd]
  | x :: l, r, k, i => by
    simp only [List.cons_append, VM.fnd]
    by_cases h : k = x.1
    · simp [h]
    · simp only [h, if_false]
      rw [VM.fnd_append l r k (i + 1), List.length_cons, show i + 1 + l.length = i + (l.length + 1) by omega]
theorem VM.fnd_put (v : Value) : ∀ (l : List (Nat × Value × Nat)) (k j : Nat) (i : Nat), (VM.fnd (VM.put l k v) j i).map (·.2) = if j = k ∧ (VM.fnd l k i).isSome then some v else (VM.fnd l j i).map (·.2)
  | [], k, j, i => by simp [VM.put, VM.fnd]
  | x :: r, k, j, i => by
    have ih := VM.fnd_put v r k j (i + 1)
    simp only [VM.put, VM.fnd]
    by_cases h : k = x.1
    · subst h
      by_cases h2 : j = x.1
      · subst h2; simp [VM.fnd]
      · simp [VM.fnd, h2]
    · simp only [h, if_false, VM.fnd]
      by_cases h2 : j = x.1
      · subst h2
        simp [Ne.symm h]
      · simp only [h2, if_false]
        exact ih

theorem VM.get_set (m : VM) (k j : Nat) (v : Value) : (m.set k v).get j = if j = k then some v else m.get j := by
  unfold VM.set
  split
  · rename_i h
    have h' : (VM.fnd m.l k 0).isSome = true := by simpa [VM.get] using h
    have := VM.fnd_put v m.l k j 0
    simp only [VM.get, this, h', and_true]
  · rename_i h
    have h' : VM.fnd m.l k 0 = none := by
      cases hf : VM.fnd m.l k 0 with
      | none => rfl
      | some p => simp [VM.get, hf] at h
    simp only [VM.get, VM.fnd_append]
    by_cases hj : j = k
    · subst hj
      rw [h']
      simp [VM.fnd]
    · rw [if_neg hj]
      cases VM.fnd m.l j 0 with
      | none => simp [VM.fnd, hj]
      | some p => rfl
theorem VM.get_empty (k : Nat) : VM.empty.get k = none := rfl
theorem VM.put_keys (v : Value) : ∀ (l : List (Nat × Value × Nat)) (k : Nat), (VM.put l k v).map (·.1) = l.map (·.1)
  | [], _ => rfl
  | x :: r, k => by
    simp only [VM.put]
    split
    · rfl
    · simp [VM.put_keys v r k]

theorem VM.Ok.empty : VM.empty.Ok := List.nodup_nil
theorem VM.Ok.set {m : VM} (h : m.Ok) (k : Nat) (v : Value) : (m.set k v).Ok := by
  unfold VM.set VM.Ok
  split
  · show ((VM.put m.l k v).map (·.1)).Nodup
    rw [VM.put_keys]; exact h
  · rename_i hn
    have h1 : VM.fnd m.l k 0 = none := by
      cases hf : VM.fnd m.l k 0 with
      | none => rfl
      | some p => exact absurd (by simp [VM.get, hf]) hn
    have h2 := (VM.fnd_none_iff m.l k 0).1 h1
    show ((m.l ++ [(k, v, m.clock)]).map (·.1)).Nodup
    rw [List.map_append, List.nodup_append]
    refine ⟨h, by simp, fun a ha b hb => ?_⟩
    simp at hb
    subst hb
    rintro rfl
    exact h2 ha
theorem VM.cut_keys : ∀ (l : List (Nat × Value × Nat)) (k : Nat), ((VM.cut l k).map (·.1)).Sublist (l.map (·.1))
  | [], _ => List.Sublist.refl _
  | x :: r, k => by
    simp only [VM.cut]
    split
    · simp
    · simp only [List.map_cons]
      exact (VM.cut_keys r k).cons_cons _
theorem VM.Ok.del {m : VM} (h : m.Ok) (k : Nat) : (m.del k).Ok := List.Sublist.nodup (VM.cut_keys m.l k) h
theorem VM.fnd_cut : ∀ (l : List (Nat × Value × Nat)) (k j : Nat) (i : Nat), (l.map (·.1)).Nodup → (VM.fnd (VM.cut l k) j i).map (·.2) = if j = k then none else (VM.fnd l j i).map (·.2)
  | [], k, j, i, _ => by simp [VM.cut, VM.fnd]
  | x :: r, k, j, i, h => by
    simp only [List.map_cons, List.nodup_cons] at h
    have ih := VM.fnd_cut r k j (i + 1) h.2
    simp only [VM.cut]
    by_cases h1 : k = x.1
    · rw [if_pos h1]
      by_cases h2 : j = k
      · rw [if_pos h2]
        have : VM.fnd r j i = none := (VM.fnd_none_iff r j i).2 (by rw [h2, h1]; exact h.1)
        rw [this]; rfl
      · rw [if_neg h2]
        simp only [VM.fnd]
        rw [if_neg (by rw [← h1]; exact h2)]
        exact VM.fnd_shift r j _ _
    · rw [if_neg h1]
      simp only [VM.fnd]
      by_cases h2 : j = x.1
      · subst h2
        rw [if_pos rfl, if_neg (fun e => h1 e.symm), if_pos rfl]
      · rw [if_neg h2, ih, if_neg h2]
theorem VM.get_del {m : VM} (h : m.Ok) (k j : Nat) : (m.del k).get j = if j = k then none else m.get j := VM.fnd_cut m.l k j 0 h
end Go

/-
  What is proved: what an empty desk, and no prices, hold.
-/
namespace Go.Proofs.Ytdminglglapnlaa
open Go.RowKit

theorem z105 : (Try.prog.info? 105).bind (·.zero) = some (.agg (#[.slice none 0 0, .slice none 0 0] ++ Array.replicate 1024 (.int .i64 0) ++ #[.map none])) := by kernel_rfl
theorem z102 : (Try.prog.info? 102).bind (·.zero) = some (.agg (Array.replicate 1024 (.int .i64 0))) := by kernel_rfl
theorem s105 : (Try.prog.info? 105).map (·.size) = some 1027 := by kernel_rfl
theorem s102 : (Try.prog.info? 102).map (·.size) = some 1024 := by kernel_rfl
theorem places105 : ∃ fields, Try.prog.underlying 105 = some (.struct fields) ∧ fields.toList.mapM (fun f => (Try.prog.info? f.type).map fun i => (f.offset, i.size)) = some [(0, 2), (2, 1024), (1026, 1)] :=
  ⟨_, Try.underlying105, by kernel_rfl⟩
end Go.Proofs.Ytdminglglapnlaa

/-
  What is proved: the program's desk in memory, how it is made (68), and the set of all marks (63).
-/
namespace Go.Proofs.Ytdminglglapnlaa
open Go.RowKit

theorem rowI_zero (n : Nat) : Array.replicate n (Value.int .i64 0) = rowI n (fun _ => 0) := by rw [← rowA_zero]; rfl
attribute [local irreducible] rowI
/-- a desk's cells: marks, costs, what the sets cost, the looks -/
def deskN (n : Nat) (mv cv : Value) (f : Nat → Int) (mb : Nat) : Array Value := #[mv, cv] ++ rowI n f ++ #[.map (some mb)]
def deskA (mv cv : Value) (f : Nat → Int) (mb : Nat) : Array Value := deskN 1024 mv cv f mb
theorem deskN_size (n : Nat) (mv cv : Value) (f : Nat → Int) (mb : Nat) : (deskN n mv cv f mb).size = n + 3 := by
  unfold deskN
  rw [Array.size_append, Array.size_append, rowI_size]
  simp; omega
theorem deskN_0 (n : Nat) (mv cv : Value) (f : Nat → Int) (mb : Nat) : (deskN n mv cv f mb)[0]? = some mv := by
  unfold deskN
  rw [Array.getElem?_append_left (by rw [Array.size_append, rowI_size]; simp; omega), Array.getElem?_append_left (by simp)]; rfl
theorem deskN_1 (n : Nat) (mv cv : Value) (f : Nat → Int) (mb : Nat) : (deskN n mv cv f mb)[1]? = some cv := by
  unfold deskN
  rw [Array.getElem?_append_left (by rw [Array.size_append, rowI_size]; simp; omega), Array.getElem?_append_left (by simp)]; rfl
theorem deskN_c (n : Nat) (mv cv : Value) (f : Nat → Int) (mb : Nat) {s : Nat} (h : s < n) : (deskN n mv cv f mb)[2 + s]? = some (.int .i64 (f s)) := by
  unfold deskN
  rw [Array.getElem?_append_left (by rw [Array.size_append, rowI_size]; simp; omega), Array.getElem?_append_right (by simp)]
  simp only [List.size_toArray, List.length_cons, List.length_nil]
  rw [show 2 + s - (0 + 1 + 1) = s by omega]
  exact rowI_get n f s h
theorem deskN_m (n : Nat) (mv cv : Value) (f : Nat → Int) (mb : Nat) : (deskN n mv cv f mb)[n + 2]? = some (.map (some mb)) := by
  unfold deskN
  rw [Array.getElem?_append_right (by rw [Array.size_append, rowI_size]; simp; omega), Array.size_append, rowI_size]
  simp only [List.size_toArray, List.length_cons, List.length_nil]
  rw [show n + 2 - (0 + 1 + 1 + n) = 0 by omega]
  rfl
theorem deskN_set (n : Nat) (mv cv : Value) (f : Nat → Int) (mb : Nat) {s : Nat} (h : s < n) (x : Int) : (deskN n mv cv f mb).setIfInBounds (2 + s) (.int .i64 x) = deskN n mv cv (updI f s x) mb := by
  apply Array.ext_getElem?
  intro i
  rw [Array.getElem?_setIfInBounds]
  have key : ∀ g, (deskN n mv cv g mb)[i]? = if i = 0 then some mv else if i = 1 then some cv else if i < n + 2 then some (.int .i64 (g (i - 2))) else if i = n + 2 then some (.map (some mb)) else none := fun g => by
    by_cases h0 : i = 0
    · subst h0; exact deskN_0 n mv cv g mb
    · by_cases h1 : i = 1
      · subst h1; exact deskN_1 n mv cv g mb
      · by_cases h2 : i < n + 2
        · rw [if_neg h0, if_neg h1, if_pos h2]
          have := deskN_c n mv cv g mb (s := i - 2) (by omega)
          rwa [show 2 + (i - 2) = i by omega] at this
        · by_cases h3 : i = n + 2
          · subst h3
            rw [if_neg h0, if_neg h1, if_neg h2, if_pos rfl]
            exact deskN_m n mv cv g mb
          · rw [if_neg h0, if_neg h1, if_neg h2, if_neg h3]
            rw [Array.getElem?_eq_none]
            rw [deskN_size]; omega
  rw [key, key]
  by_cases hi : 2 + s = i
  · subst hi
    rw [if_pos rfl, if_pos (by rw [deskN_size]; omega), if_neg (by omega), if_neg (by omega), if_pos (by omega)]
    simp [updI]
  · rw [if_neg hi]
    by_cases h0 : i = 0
    · rw [if_pos h0, if_pos h0]
    · by_cases h1 : i = 1
      · rw [if_neg h0, if_neg h0, if_pos h1, if_pos h1]
      · rw [if_neg h0, if_neg h0, if_neg h1, if_neg h1]
        by_cases h2 : i < n + 2
        · rw [if_pos h2, if_pos h2]
          congr 2
          unfold updI
          rw [if_neg (by omega)]
        · rw [if_neg h2, if_neg h2]
theorem deskA_size (mv cv : Value) (f : Nat → Int) (mb : Nat) : (deskA mv cv f mb).size = 1027 := deskN_size 1024 mv cv f mb
theorem deskA_0 (mv cv : Value) (f : Nat → Int) (mb : Nat) : (deskA mv cv f mb)[0]? = some mv := deskN_0 1024 mv cv f mb
theorem deskA_1 (mv cv : Value) (f : Nat → Int) (mb : Nat) : (deskA mv cv f mb)[1]? = some cv := deskN_1 1024 mv cv f mb
theorem deskA_c (mv cv : Value) (f : Nat → Int) (mb : Nat) {s : Nat} (h : s < 1024) : (deskA mv cv f mb)[2 + s]? = some (.int .i64 (f s)) := deskN_c 1024 mv cv f mb h
theorem deskA_m (mv cv : Value) (f : Nat → Int) (mb : Nat) : (deskA mv cv f mb)[1026]? = some (.map (some mb)) := deskN_m 1024 mv cv f mb
theorem deskA_set (mv cv : Value) (f : Nat → Int) (mb : Nat) {s : Nat} (h : s < 1024) (x : Int) : (deskA mv cv f mb).setIfInBounds (2 + s) (.int .i64 x) = deskA mv cv (updI f s x) mb := deskN_set 1024 mv cv f mb h x
attribute [local irreducible] deskA

structure DeskAt (w : World) (db mb : Nat) (mv cv : Value) (f : Nat → Int) (m : VM) : Prop where
  desk : w.heap[db]? = some (.cells (deskA mv cv f mb) 105)
  map : w.heap[mb]? = some m.obj
  ne : db ≠ mb
variable {w w' : World} {db mb : Nat} {mrk cst : Value} {f : Nat → Int} {m : VM}
theorem DeskAt.mono (h : DeskAt w db mb mrk cst f m) (g : w.grows w') : DeskAt w' db mb mrk cst f m :=
  ⟨by rw [g.heap (by rw [h.desk]; rfl)]; exact h.desk, by rw [g.heap (by rw [h.map]; rfl)]; exact h.map, h.ne⟩
theorem cell_of_heap {b i : Nat} {A : Array Value} {t : TypeId} {v : Value} (h : w.heap[b]? = some (.cells A t)) (hA : A[i]? = some v) : w.cell? ⟨b, i, none⟩ = some v := by
  unfold World.cell?
  simp only [h]
  exact hA
theorem frozen_of_heap {b : Nat} {A : Array Value} {t : TypeId} (h : w.heap[b]? = some (.cells A t)) (i : Nat) : w.frozen? ⟨b, i, none⟩ = false := by
  unfold World.frozen?
  simp only [h]
  simp
theorem store_of_heap {b : Nat} {A : Array Value} {t : TypeId} (h : w.heap[b]? = some (.cells A t)) (i : Nat) (v : Value) : (w.setCell ⟨b, i, none⟩ v).heap[b]? = some (.cells (A.setIfInBounds i v) t) := by
  unfold World.setCell
  simp only [Array.getElem?_modify, h, if_true, Option.map_some]
  simp
theorem DeskAt.mv (h : DeskAt w db mb mrk cst f m) : w.cell? ⟨db, 0, none⟩ = some mrk := cell_of_heap h.desk (deskA_0 mrk cst f mb)
theorem DeskAt.cv (h : DeskAt w db mb mrk cst f m) : w.cell? ⟨db, 1, none⟩ = some cst := cell_of_heap h.desk (deskA_1 mrk cst f mb)
theorem DeskAt.cost (h : DeskAt w db mb mrk cst f m) {s : Nat} (hs : s < 1024) : w.cell? ⟨db, 2 + s, none⟩ = some (.int .i64 (f s)) := cell_of_heap h.desk (deskA_c mrk cst f mb hs)
theorem DeskAt.best (h : DeskAt w db mb mrk cst f m) : w.cell? ⟨db, 1026, none⟩ = some (.map (some mb)) := cell_of_heap h.desk (deskA_m mrk cst f mb)
theorem DeskAt.frozen (h : DeskAt w db mb mrk cst f m) (i : Nat) : w.frozen? ⟨db, i, none⟩ = false := frozen_of_heap h.desk i
theorem DeskAt.store (h : DeskAt w db mb mrk cst f m) {s : Nat} (hs : s < 1024) (x : Int) : DeskAt (w.setCell ⟨db, 2 + s, none⟩ (.int .i64 x)) db mb mrk cst (updI f s x) m := by
  refine ⟨?_, ?_, h.ne⟩
  · rw [store_of_heap h.desk, deskA_set mrk cst f mb hs]
  · rw [World.heap_setCell_map _ _ _ _ h.ne]
    exact h.map
theorem DeskAt.put (h : DeskAt w db mb mrk cst f m) (m' : VM) : DeskAt (w.putObj mb m'.obj) db mb mrk cst f m' := by
  have hlt := World.lt_of_block h.map
  refine ⟨?_, ?_, h.ne⟩
  · unfold World.putObj
    simp only [Array.getElem?_setIfInBounds]
    rw [if_neg (fun e => h.ne e.symm)]
    exact h.desk
  · unfold World.putObj
    simp only [Array.getElem?_setIfInBounds, if_true]
    rw [if_pos hlt]

theorem opt_get {o : Option TypeInfo} {z : Value} {n : Nat} (h1 : o.bind (·.zero) = some z) (h2 : o.map (·.size) = some n) : ∃ it, o = some it ∧ it.zero = some z ∧ it.size = n := by
  cases o with
  | none => cases h1
  | some it => exact ⟨it, rfl, by simpa using h1, by simpa using h2⟩
theorem zero105 : ∃ it, Try.prog.info? 105 = some it ∧ it.zero = some (.agg (#[.slice none 0 0, .slice none 0 0] ++ Array.replicate 1024 (.int .i64 0) ++ #[.map none])) ∧ it.size = 1027 := opt_get z105 s105
theorem zero102 : ∃ it, Try.prog.info? 102 = some it ∧ it.zero = some (.agg (Array.replicate 1024 (.int .i64 0))) ∧ it.size = 1024 := opt_get z102 s102
theorem set_last (A : Array Value) (x y : Value) {k : Nat} (hk : A.size = k) : (A ++ #[x]).setIfInBounds k y = A ++ #[y] := by
  subst hk
  apply Array.ext_getElem?
  intro i
  rw [Array.getElem?_setIfInBounds]
  by_cases hi : A.size = i
  · subst hi
    rw [if_pos rfl, if_pos (by simp), Array.getElem?_append_right (Nat.le_refl _)]
    simp
  · rw [if_neg hi]
    by_cases h3 : i < A.size
    · rw [Array.getElem?_append_left h3, Array.getElem?_append_left h3]
    · rw [Array.getElem?_eq_none (by simp; omega), Array.getElem?_eq_none (by simp; omega)]
theorem fill_desk (R : Array Value) (hR : R.size = 1024) (mv cv m : Value) (hm : m.cells = #[m]) :
    Instr.fill (#[(0, 2), (2, 1024), (1026, 1)][·]?) (#[Value.slice none 0 0, Value.slice none 0 0] ++ R ++ #[Value.map none]) [(0, .agg #[mv, cv]), (2, m)] = some (#[mv, cv] ++ R ++ #[m]) := by
  have e1 : Value.cells (.agg #[mv, cv]) = #[mv, cv] := rfl
  have hs : (#[Value.slice none 0 0, Value.slice none 0 0] ++ R ++ #[Value.map none]).size = 1027 := by simp [hR]
  have h1 : ((#[Value.slice none 0 0, Value.slice none 0 0] ++ R ++ #[Value.map none]).setIfInBounds 0 mv).setIfInBounds 1 cv = #[mv, cv] ++ R ++ #[Value.map none] := by
    apply Array.ext_getElem?
    intro i
    simp only [Array.getElem?_setIfInBounds, Array.size_setIfInBounds, hs]
    rcases i with _ | _ | i
    · simp [Array.getElem?_append, hR]
    · simp [Array.getElem?_append, hR]
    · simp [Array.getElem?_append, hR]
  have h2 : (#[mv, cv] ++ R ++ #[Value.map none]).setIfInBounds 1026 m = #[mv, cv] ++ R ++ #[m] := set_last _ _ _ (by simp [hR])
  have z1 : (Array.zipIdx #[mv, cv]).foldl (fun cs (x : Value × Nat) => cs.setIfInBounds (0 + x.2) x.1) (#[Value.slice none 0 0, Value.slice none 0 0] ++ R ++ #[Value.map none]) = #[mv, cv] ++ R ++ #[Value.map none] := by
    rw [← h1]; rfl
  have z2 : (Array.zipIdx #[m]).foldl (fun cs (x : Value × Nat) => cs.setIfInBounds (1026 + x.2) x.1) (#[mv, cv] ++ R ++ #[Value.map none]) = #[mv, cv] ++ R ++ #[m] := by
    rw [← h2]; rfl
  have hs2 : (#[mv, cv] ++ R ++ #[Value.map none]).size = 1027 := by simp [hR]
  simp only [Instr.fill, e1, hm, hs, z1, z2, hs2, List.getElem?_toArray, List.getElem?_cons_zero, List.getElem?_cons_succ]
  simp
theorem built105 (mv cv : Value) (b : Nat) : Try.prog.built 105 [(0, .agg #[mv, cv]), (2, .map (some b))] = some (deskA mv cv (fun _ => 0) b) := by
  obtain ⟨it, h1, h2, h3⟩ := zero105
  obtain ⟨fields, h4, h5⟩ := places105
  unfold Program.built
  simp only [h1, h4, h2, h5]
  rw [rowI_zero]
  unfold deskA deskN
  exact fill_desk (rowI 1024 fun _ => 0) (rowI_size _ _) mv cv (.map (some b)) rfl
end Go.Proofs.Ytdminglglapnlaa

/-
  What is proved: no look (98), the order of looks (101), the first cheapest look of a list (100), in the program.
-/
namespace Go.Proofs.Ytdminglglapnlaa
open Go.RowKit
attribute [local irreducible] Go.wpCalm deskA rowI

/-- a look's value -/
def lookV (x : Int × Int) : Value := .agg #[.int .i64 x.1, .int .i64 x.2]
def noLook : Int × Int := (-1, 1099511627776)
set_option maxHeartbeats 1000000 in
theorem nothing_c (w : World) : Calls Try.prog 98 #[] w fun e w' => e = .returned (.agg #[.int .i64 (-1), .int .i64 1099511627776]) ∧ w.grows w' := by
  go_enter Try.func98, Try.ntmps98
  go_wp2
  (refine bodyPost_ret (v := .agg #[.int .i64 (-1), .int .i64 1099511627776]) (by simp [results, Try.results98, go_sem]) rfl ?_)
  exact ⟨rfl, by (repeat (first | exact World.grows.refl _ | assumption | refine World.grows.alloc ?_ _ | refine World.grows.plus ?_ _ _ | refine World.grows.drew ?_))⟩
set_option maxHeartbeats 1000000 in
theorem cheaper_c (w : World) (a b c d : Int) : Calls Try.prog 101 #[.agg #[.int .i64 a, .int .i64 b], .agg #[.int .i64 c, .int .i64 d]] w fun e w' => e = .returned (.bool (decide (b < d))) ∧ w.grows w' := by
  go_enter Try.func101, Try.ntmps101
  go_wp2
  (refine bodyPost_ret (v := .bool (decide (b < d))) (by simp [results, Try.results101, go_sem]) rfl ?_)
  exact ⟨rfl, by (repeat (first | exact World.grows.refl _ | assumption | refine World.grows.alloc ?_ _ | refine World.grows.plus ?_ _ _ | refine World.grows.drew ?_))⟩

/-- looks' cells -/
def kcell (F C : Nat → Int) (i j : Nat) : Value := if j = 0 then .int .i64 (F i) else .int .i64 (C i)
/-- the first cheapest of the looks 0 .. k -/
def lst (F C : Nat → Int) : Nat → Int × Int
  | 0 => (F 0, C 0)
  | k + 1 => if C (k + 1) < (lst F C k).2 then (F (k + 1), C (k + 1)) else lst F C k

set_option maxHeartbeats 2000000 in
theorem least_c (w : World) (lv : Value) (n : Nat) (F C : Nat → Int) (hv : SliceAt w lv (n + 1) 2 (kcell F C)) :
    Calls Try.prog 100 #[lv, .func (.func 101) #[] #[]] w fun e w' => e = .returned (lookV (lst F C n)) ∧ w.grows w' := by
  unfold lookV
  obtain ⟨la, lc, rfl, l1, l2, hc⟩ := hv
  have Hc := Lib.hid hc
  unfold maxLen at l2
  obtain ⟨b, o, rfl, h0⟩ := hc 0 0 (by omega) (by omega)
  obtain ⟨_, _, e1, h1⟩ := hc 0 1 (by omega) (by omega)
  cases e1
  simp only [Nat.zero_mul, Nat.add_zero, kcell, if_true, if_false, Nat.one_ne_zero] at h0 h1
  clear hc
  go_enter Try.func100, Try.ntmps100
  by_cases hl : lc = 1
  · have hn : n = 0 := by omega
    subst hl
    subst hn
    go_wp2
    go_loopw [14] (fun i wr => i = .int .i64 0 ∧ ((w.alloc (.cells #[.int .i64 0, .int .i64 0] 115)).alloc (.cells #[.int .i64 (F 0), .int .i64 (C 0)] 115)).grows wr) (fun i _ => 0)
    case atStart => exact ⟨rfl, by (repeat (first | exact World.grows.refl _ | assumption | refine World.grows.alloc ?_ _ | refine World.grows.plus ?_ _ _ | refine World.grows.drew ?_))⟩
    case round =>
      obtain ⟨rfl, hg⟩ := hrel
      obtain ⟨n1, x1, rfl⟩ := World.plus_of hg
      go_wp2
      (refine bodyPost_ret (v := .agg #[.int .i64 (F 0), .int .i64 (C 0)]) (by simp [results, Try.results100, go_sem]) rfl ?_)
      exact ⟨rfl, by (repeat (first | exact World.grows.refl _ | assumption | refine World.grows.alloc ?_ _ | refine World.grows.plus ?_ _ _ | refine World.grows.drew ?_))⟩
  · have hl2 : 1 < lc := by omega
    go_wp2
    go_loopw [14] (fun i wr => ∃ k : Nat, k ≤ n ∧ i = .int .i64 k ∧ ((w.alloc (.cells #[.int .i64 0, .int .i64 0] 115)).alloc (.cells #[.int .i64 (lst F C k).1, .int .i64 (lst F C k).2] 115)).grows wr) (fun i _ => n - (intOf i).toNat)
    case atStart => exact ⟨0, by omega, rfl, by (repeat (first | exact World.grows.refl _ | assumption | refine World.grows.alloc ?_ _ | refine World.grows.plus ?_ _ _ | refine World.grows.drew ?_))⟩
    case round =>
      obtain ⟨k, hk, rfl, hg⟩ := hrel
      obtain ⟨n1, x1, rfl⟩ := World.plus_of hg
      have hls : Hid (lst F C (k + 1) = if C (k + 1) < (lst F C k).2 then (F (k + 1), C (k + 1)) else lst F C k) := Lib.hid rfl
      obtain ⟨T, hT⟩ : ∃ T, lst F C k = T := ⟨_, rfl⟩
      rw [hT] at hls ⊢
      obtain ⟨A, B⟩ := T
      dsimp only at hls ⊢
      have HT := Lib.hid hT
      clear hT
      by_cases hlt : k < n
      · obtain ⟨_, _, e1, p0⟩ := Hc.out (k + 1) 0 (by omega) (by omega)
        cases e1
        obtain ⟨_, _, e1, p1⟩ := Hc.out (k + 1) 1 (by omega) (by omega)
        cases e1
        rw [show o + (k + 1) * 2 + 0 = o + 2 + k * 2 by omega] at p0
        rw [show o + (k + 1) * 2 + 1 = o + 2 + k * 2 + 1 by omega] at p1
        simp only [kcell, if_true, if_false, Nat.one_ne_zero] at p0 p1
        by_cases hb : C (k + 1) < B
        · rw [if_pos hb] at hls
          go_wp2_with (go_at_call 101; refine (cheaper_c _ _ _ _ _).mono ?_; rintro e w' ⟨rfl, hg2⟩; obtain ⟨n2, x2, rfl⟩ := World.plus_of hg2)
          go_roundw
          case rel => exact ⟨k + 1, by omega, by go_num, by rw [hls.out]; (repeat (first | exact World.grows.refl _ | assumption | refine World.grows.alloc ?_ _ | refine World.grows.plus ?_ _ _ | refine World.grows.drew ?_))⟩
          case measure => simp [intOf]; omega
        · rw [if_neg hb] at hls
          go_wp2_with (go_at_call 101; refine (cheaper_c _ _ _ _ _).mono ?_; rintro e w' ⟨rfl, hg2⟩; obtain ⟨n2, x2, rfl⟩ := World.plus_of hg2)
          go_roundw
          case rel => exact ⟨k + 1, by omega, by go_num, by rw [hls.out]; (repeat (first | exact World.grows.refl _ | assumption | refine World.grows.alloc ?_ _ | refine World.grows.plus ?_ _ _ | refine World.grows.drew ?_))⟩
          case measure => simp [intOf]; omega
      · have hke : k = n := by omega
        subst hke
        go_wp2
        (refine bodyPost_ret (v := .agg #[.int .i64 A, .int .i64 B]) (by simp [results, Try.results100, go_sem]) rfl ?_)
        exact ⟨by rw [HT.out], by (repeat (first | exact World.grows.refl _ | assumption | refine World.grows.alloc ?_ _ | refine World.grows.plus ?_ _ _ | refine World.grows.drew ?_))⟩
end Go.Proofs.Ytdminglglapnlaa

/-
  What is proved: the cheapest look at some marks, as the first cheapest of a list, in plain words.
-/
namespace Go.Proofs.Ytdminglglapnlaa

/-- the cheapest look at some marks by the first n features, with what it costs -/
def Reg.lookR (r : Reg) (c : Nat → Int) (s : Nat) : Nat → Int × Int
  | 0 => (-1, 1099511627776)
  | f + 1 => if r.parted s f = true then (if r.cost f + r.mostR c s f 10 < (r.lookR c s f).2 then ((f : Int), r.cost f + r.mostR c s f 10) else r.lookR c s f) else r.lookR c s f
theorem Reg.lookR_snd (r : Reg) (c : Nat → Int) (s : Nat) : ∀ n, (r.lookR c s n).2 = r.looksR c s n
  | 0 => rfl
  | f + 1 => by
    have ih := r.lookR_snd c s f
    simp only [Reg.lookR, Reg.looksR]
    by_cases hp : r.parted s f = true
    · rw [if_pos hp, if_pos hp]
      by_cases h : r.cost f + r.mostR c s f 10 < (r.lookR c s f).2
      · rw [if_pos h]; dsimp only; omega
      · rw [if_neg h]; omega
    · rw [if_neg hp, if_neg hp]; exact ih
/-- the looks that the program lists -/
def Reg.lookL (r : Reg) (c : Nat → Int) (s : Nat) : Nat → List (Int × Int)
  | 0 => [(-1, 1099511627776)]
  | f + 1 => if r.parted s f = true then r.lookL c s f ++ [((f : Int), r.cost f + r.mostR c s f 10)] else r.lookL c s f
theorem Reg.lookL_len (r : Reg) (c : Nat → Int) (s : Nat) : ∀ n, 1 ≤ (r.lookL c s n).length ∧ (r.lookL c s n).length ≤ n + 1
  | 0 => by simp [Reg.lookL]
  | f + 1 => by
    have ih := r.lookL_len c s f
    simp only [Reg.lookL]
    split
    · simp; omega
    · omega
theorem lst_congr {F C F' C' : Nat → Int} : ∀ n, (∀ i, i ≤ n → F i = F' i ∧ C i = C' i) → lst F C n = lst F' C' n
  | 0, h => by simp only [lst]; rw [(h 0 (by omega)).1, (h 0 (by omega)).2]
  | n + 1, h => by
    simp only [lst]
    rw [lst_congr n (fun i hi => h i (by omega)), (h (n + 1) (by omega)).1, (h (n + 1) (by omega)).2]
def fstL (K : List (Int × Int)) (i : Nat) : Int := (K.getD i (0, 0)).1
def sndL (K : List (Int × Int)) (i : Nat) : Int := (K.getD i (0, 0)).2
theorem lst_snoc (K : List (Int × Int)) (y : Int × Int) {n : Nat} (hn : K.length = n + 1) :
    lst (fstL (K ++ [y])) (sndL (K ++ [y])) (n + 1) = if y.2 < (lst (fstL K) (sndL K) n).2 then y else lst (fstL K) (sndL K) n := by
  have e : lst (fstL (K ++ [y])) (sndL (K ++ [y])) n = lst (fstL K) (sndL K) n := lst_congr n fun i hi => by
    unfold fstL sndL
    have : (K ++ [y]).getD i (0, 0) = K.getD i (0, 0) := by
      rw [List.getD_eq_getElem?_getD, List.getD_eq_getElem?_getD, List.getElem?_append_left (by omega)]
    rw [this]; exact ⟨rfl, rfl⟩
  have e2 : (K ++ [y]).getD (n + 1) (0, 0) = y := by
    rw [List.getD_eq_getElem?_getD, List.getElem?_append_right (by omega), hn]; simp
  simp only [lst]
  rw [e]
  unfold fstL sndL
  rw [e2]
theorem Reg.lst_lookL (r : Reg) (c : Nat → Int) (s : Nat) : ∀ f, lst (fstL (r.lookL c s f)) (sndL (r.lookL c s f)) ((r.lookL c s f).length - 1) = r.lookR c s f
  | 0 => rfl
  | f + 1 => by
    have ih := r.lst_lookL c s f
    have hl := r.lookL_len c s f
    simp only [Reg.lookL, Reg.lookR]
    by_cases hp : r.parted s f = true
    · rw [if_pos hp, if_pos hp]
      rw [show (r.lookL c s f ++ [((f : Int), r.cost f + r.mostR c s f 10)]).length - 1 = ((r.lookL c s f).length - 1) + 1 by simp; omega]
      rw [lst_snoc _ _ (n := (r.lookL c s f).length - 1) (by omega), ih]
    · rw [if_neg hp, if_neg hp]; exact ih
end Go.Proofs.Ytdminglglapnlaa

/-
  What is proved: plain words on the tree that is grown: what its nodes say of the marks, and that it costs no more than they cost at least.
-/
namespace Go.Proofs.Ytdminglglapnlaa

/-- a tree, its nodes as a list -/
def Tr.ofL (root : Int) (L : List (Int × List (Int × Int))) : Tr where
  n := L.length
  root := root
  feat := fun i => (L.getD i (0, [])).1
  nb := fun i => (L.getD i (0, [])).2.length
  bv := fun i => fstL (L.getD i (0, [])).2
  bt := fun i => sndL (L.getD i (0, [])).2

/-- how many of the first n numbers q holds of -/
def cntB (q : Nat → Bool) : Nat → Nat
  | 0 => 0
  | n + 1 => cntB q n + if q n = true then 1 else 0
theorem cntB_congr {q p : Nat → Bool} : ∀ n, (∀ i, i < n → q i = p i) → cntB q n = cntB p n
  | 0, _ => rfl
  | n + 1, h => by simp only [cntB]; rw [cntB_congr n (fun i hi => h i (by omega)), h n (by omega)]
theorem cntB_add {q p t : Nat → Bool} : ∀ n, (∀ i, i < n → (q i = true ↔ p i = true ∨ t i = true) ∧ ¬ (p i = true ∧ t i = true)) → cntB q n = cntB p n + cntB t n
  | 0, _ => rfl
  | n + 1, h => by
    simp only [cntB]
    rw [cntB_add n (fun i hi => h i (by omega))]
    have := h n (by omega)
    by_cases h1 : p n = true
    · have h2 : ¬ t n = true := fun e => this.2 ⟨h1, e⟩
      rw [if_pos h1, if_neg h2, if_pos (this.1.2 (.inl h1))]; omega
    · by_cases h2 : t n = true
      · rw [if_neg h1, if_pos h2, if_pos (this.1.2 (.inr h2))]; omega
      · rw [if_neg h1, if_neg h2, if_neg (fun e => by rcases this.1.1 e with e | e <;> contradiction)]; omega
theorem cntB_pos {q : Nat → Bool} : ∀ {n i : Nat}, i < n → q i = true → 1 ≤ cntB q n
  | 0, i, h, _ => absurd h (by omega)
  | n + 1, i, h, hq => by
    simp only [cntB]
    rcases Nat.lt_or_ge i n with h1 | h1
    · have := cntB_pos h1 hq; omega
    · have : i = n := by omega
      subst this
      rw [if_pos hq]; omega
theorem cntB_le (q : Nat → Bool) : ∀ n, cntB q n ≤ n
  | 0 => Nat.le_refl _
  | n + 1 => by have := cntB_le q n; simp only [cntB]; split <;> omega
/-- how many marks a set has -/
def Reg.cnt (r : Reg) (s : Nat) : Nat := cntB (fun m => s.testBit m) r.nm
/-- how many of them have a value below v -/
def Reg.cntV (r : Reg) (s f v : Nat) : Nat := cntB (fun m => s.testBit m && decide (r.val m f < (v : Int))) r.nm
theorem Reg.cntV_succ (r : Reg) (s f v : Nat) : r.cntV s f (v + 1) = r.cntV s f v + r.cnt (r.part s f (v : Nat)) := by
  unfold Reg.cntV Reg.cnt
  refine cntB_add _ fun i hi => ?_
  rw [r.testBit_part]
  simp only [Bool.and_eq_true, decide_eq_true_eq]
  constructor
  · constructor
    · rintro ⟨h1, h2⟩
      by_cases h : r.val i f < (v : Int)
      · exact .inl ⟨h1, h⟩
      · exact .inr ⟨hi, h1, by omega⟩
    · rintro (⟨h1, h2⟩ | ⟨_, h1, h2⟩)
      · exact ⟨h1, by omega⟩
      · exact ⟨h1, by omega⟩
  · rintro ⟨⟨_, h1⟩, _, _, h2⟩; omega
theorem Reg.cntV_zero (r : Reg) (s f : Nat) (h : ∀ m, m < r.nm → 0 ≤ r.val m f) : r.cntV s f 0 = 0 := by
  unfold Reg.cntV
  have : ∀ n, n ≤ r.nm → cntB (fun m => s.testBit m && decide (r.val m f < ((0 : Nat) : Int))) n = 0 := by
    intro n
    induction n with
    | zero => intro _; rfl
    | succ n ih =>
      intro hn
      simp only [cntB]
      rw [ih (by omega), if_neg]
      have := h n (by omega)
      simp
      intro _; omega
  exact this _ (Nat.le_refl _)
theorem Reg.cntV_ten (r : Reg) (hr : r.Ok) (s f : Nat) (hf : f < r.nc) : r.cntV s f 10 = r.cnt s := by
  unfold Reg.cntV Reg.cnt
  refine cntB_congr _ fun i hi => ?_
  have := hr.val i f hi hf
  have h : decide (r.val i f < ((10 : Nat) : Int)) = true := by simp; omega
  rw [h, Bool.and_true]
theorem cntB_mono {q p : Nat → Bool} : ∀ n, (∀ j, j < n → q j = true → p j = true) → cntB q n ≤ cntB p n
  | 0, _ => Nat.le_refl _
  | n + 1, h => by
    have := cntB_mono n (fun j hj => h j (by omega))
    simp only [cntB]
    by_cases h1 : q n = true
    · rw [if_pos h1, if_pos (h n (by omega) h1)]; omega
    · rw [if_neg h1]; split <;> omega
theorem Reg.cntV_le (r : Reg) (s f v : Nat) : r.cntV s f v ≤ r.cnt s := cntB_mono _ fun j _ h => by simp at h; exact h.1
theorem Reg.cnt_pos (r : Reg) {s : Nat} (hs : s < 2 ^ r.nm) (h0 : s ≠ 0) : 1 ≤ r.cnt s := by
  obtain ⟨m, hm⟩ := Nat.exists_testBit_of_ne_zero h0
  have hmn : m < r.nm := by
    rcases Nat.lt_or_ge m r.nm with h1 | h1
    · exact h1
    · rw [Nat.testBit_lt_two_pow (Nat.lt_of_lt_of_le hs (Nat.pow_le_pow_right (by omega) h1))] at hm; cases hm
  exact cntB_pos hmn hm

/-- nodes that have been added behind base others for some marks; `to` leads there -/
structure Reg.Good (r : Reg) (s base : Nat) (l : List (Int × List (Int × Int))) (dz : Int) : Prop where
  dest : (-1001 ≤ dz ∧ dz ≤ -1) ∨ ((base : Int) ≤ dz ∧ dz < (base : Int) + l.length)
  feat : ∀ (i : Nat) (x : Int × List (Int × Int)), l[i]? = some x → 0 ≤ x.1 ∧ x.1 < r.nc
  val : ∀ (i : Nat) (x : Int × List (Int × Int)) (b : Nat) (y : Int × Int), l[i]? = some x → x.2[b]? = some y → 0 ≤ y.1 ∧ y.1 ≤ 9
  up : ∀ (i : Nat) (x : Int × List (Int × Int)) (b : Nat) (y : Int × Int) b' (y' : Int × Int), l[i]? = some x → x.2[b]? = some y → b' < b → x.2[b']? = some y' → y'.1 < y.1
  nxt : ∀ (i : Nat) (x : Int × List (Int × Int)) (b : Nat) (y : Int × Int), l[i]? = some x → x.2[b]? = some y → (-1001 ≤ y.2 ∧ y.2 ≤ -1) ∨ ((base : Int) + i < y.2 ∧ y.2 < (base : Int) + l.length)
  cnt : l.length + 1 ≤ r.cnt s
  way : ∀ pre post root, pre.length = base → ∀ m, m < r.nm → s.testBit m = true → ∃ c, c ≤ r.cst s ∧ ∀ k, l.length ≤ k → (Tr.ofL root (pre ++ l ++ post)).go r.cost (r.val m) k dz = some (-1 - r.who m, c)
theorem Reg.Good.leaf {r : Reg} (hr : r.Ok) {s : Nat} (hs : s < 2 ^ r.nm) (hm : r.mixed s = false) {m0 : Nat} (h0 : m0 < r.nm) (hb : s.testBit m0 = true) (base : Nat) : r.Good s base [] (-1 - r.who m0) where
  dest := by have := hr.who m0 h0; left; omega
  feat := fun i x h => by simp at h
  val := fun i x b y h => by simp at h
  up := fun i x b y b' y' h => by simp at h
  nxt := fun i x b y h => by simp at h
  cnt := by
    have : s ≠ 0 := by rintro rfl; simp at hb
    have := r.cnt_pos hs this
    simpa using this
  way := fun pre post root hp m hmn hmb => by
    have he : r.who m = r.who m0 := by
      rcases Classical.em (r.who m = r.who m0) with h | h
      · exact h
      · have := (r.mixed_iff s).2 ⟨m, m0, hmn, h0, hmb, hb, h⟩
        rw [hm] at this; cases this
    refine ⟨0, r.cst_nonneg (fun f hf => by have := hr.cost f hf; omega) hs, fun k _ => ?_⟩
    rw [he]
    have := hr.who m0 h0
    exact Tr.go_end _ _ _ _ (by omega)

/-- the nodes that have been added for the parts by the values below v -/
structure Reg.Some' (r : Reg) (s f base v : Nat) (l : List (Int × List (Int × Int))) (nx : List (Int × Int)) : Prop where
  feat : ∀ (i : Nat) (x : Int × List (Int × Int)), l[i]? = some x → 0 ≤ x.1 ∧ x.1 < r.nc
  val : ∀ (i : Nat) (x : Int × List (Int × Int)) (b : Nat) (y : Int × Int), l[i]? = some x → x.2[b]? = some y → 0 ≤ y.1 ∧ y.1 ≤ 9
  up : ∀ (i : Nat) (x : Int × List (Int × Int)) (b : Nat) (y : Int × Int) b' (y' : Int × Int), l[i]? = some x → x.2[b]? = some y → b' < b → x.2[b']? = some y' → y'.1 < y.1
  nxt : ∀ (i : Nat) (x : Int × List (Int × Int)) (b : Nat) (y : Int × Int), l[i]? = some x → x.2[b]? = some y → (-1001 ≤ y.2 ∧ y.2 ≤ -1) ∨ ((base : Int) + 1 + i < y.2 ∧ y.2 < (base : Int) + 1 + l.length)
  nval : ∀ (b : Nat) (y : Int × Int), nx[b]? = some y → 0 ≤ y.1 ∧ y.1 < v
  nup : ∀ (b : Nat) (y : Int × Int) b' (y' : Int × Int), nx[b]? = some y → b' < b → nx[b']? = some y' → y'.1 < y.1
  nto : ∀ (b : Nat) (y : Int × Int), nx[b]? = some y → (-1001 ≤ y.2 ∧ y.2 ≤ -1) ∨ ((base : Int) < y.2 ∧ y.2 < (base : Int) + 1 + l.length)
  cnt : l.length + nx.length ≤ r.cntV s f v
  nil : nx = [] → l = []
  way : ∀ pre post root, pre.length = base + 1 → ∀ m, m < r.nm → s.testBit m = true → r.val m f < v → ∃ (b : Nat) (y : Int × Int) (c : Int), nx[b]? = some y ∧ y.1 = r.val m f ∧ c ≤ r.cst (r.part s f (r.val m f)) ∧ ∀ k, l.length ≤ k → (Tr.ofL root (pre ++ l ++ post)).go r.cost (r.val m) k y.2 = some (-1 - r.who m, c)
theorem Reg.Some'.zero {r : Reg} (hr : r.Ok) {s f : Nat} (hf : f < r.nc) (base : Nat) : r.Some' s f base 0 [] [] where
  feat := fun i x h => by simp at h
  val := fun i x b y h => by simp at h
  up := fun i x b y b' y' h => by simp at h
  nxt := fun i x b y h => by simp at h
  nval := fun b y h => by simp at h
  nup := fun b y b' y' h => by simp at h
  nto := fun b y h => by simp at h
  cnt := by simp
  nil := fun _ => rfl
  way := fun pre post root hp m hm hs hv => by have := hr.val m f hm hf; omega
theorem Reg.Some'.skip {r : Reg} {s f base v : Nat} {l : List (Int × List (Int × Int))} {nx : List (Int × Int)} (h : r.Some' s f base v l nx) (h0 : r.part s f (v : Nat) = 0) : r.Some' s f base (v + 1) l nx where
  feat := h.feat
  val := h.val
  up := h.up
  nxt := h.nxt
  nval := fun b y hy => by have := h.nval b y hy; omega
  nup := h.nup
  nto := h.nto
  cnt := by have := h.cnt; rw [r.cntV_succ]; omega
  nil := h.nil
  way := fun pre post root hp m hm hs hv => by
    refine h.way pre post root hp m hm hs ?_
    rcases Int.lt_or_le (r.val m f) v with h1 | h1
    · exact h1
    · exfalso
      have h2 := r.testBit_part s f (v : Nat) m
      rw [h0] at h2
      have : r.val m f = ((v : Nat) : Int) := by omega
      simp [hm, hs, this] at h2
theorem get_app {α : Type} {l l' : List α} {i : Nat} {x : α} (h : (l ++ l')[i]? = some x) : l[i]? = some x ∧ i < l.length ∨ ∃ j, i = l.length + j ∧ l'[j]? = some x := by
  rcases Nat.lt_or_ge i l.length with hi | hi
  · rw [List.getElem?_append_left hi] at h
    exact .inl ⟨h, hi⟩
  · rw [List.getElem?_append_right hi] at h
    exact .inr ⟨i - l.length, by omega, h⟩
theorem get_lt {α : Type} {l : List α} {i : Nat} {x : α} (h : l[i]? = some x) : i < l.length := (List.getElem?_eq_some_iff.1 h).1
theorem Reg.Some'.step {r : Reg} {s f base v : Nat} {l l' : List (Int × List (Int × Int))} {nx : List (Int × Int)} {dz : Int} (h : r.Some' s f base v l nx) (hv : v < 10)
    (hg : r.Good (r.part s f (v : Nat)) (base + 1 + l.length) l' dz) : r.Some' s f base (v + 1) (l ++ l') (nx ++ [((v : Int), dz)]) where
  feat := fun i x hx => by
    rcases get_app hx with ⟨hx, _⟩ | ⟨j, rfl, hj⟩
    · exact h.feat i x hx
    · exact hg.feat j x hj
  val := fun i x b y hx hy => by
    rcases get_app hx with ⟨hx, _⟩ | ⟨j, rfl, hj⟩
    · exact h.val i x b y hx hy
    · exact hg.val j x b y hj hy
  up := fun i x b y b' y' hx hy hb hy' => by
    rcases get_app hx with ⟨hx, _⟩ | ⟨j, rfl, hj⟩
    · exact h.up i x b y b' y' hx hy hb hy'
    · exact hg.up j x b y b' y' hj hy hb hy'
  nxt := fun i x b y hx hy => by
    rw [List.length_append]
    rcases get_app hx with ⟨hx, _⟩ | ⟨j, rfl, hj⟩
    · have := h.nxt i x b y hx hy; omega
    · have := hg.nxt j x b y hj hy; omega
  nval := fun b y hy => by
    rcases get_app hy with ⟨hy, _⟩ | ⟨j, rfl, hy⟩
    · have := h.nval b y hy; omega
    · cases j with
      | zero => simp at hy; subst hy; dsimp only; omega
      | succ j => simp at hy
  nup := fun b y b' y' hy hb hy' => by
    rcases get_app hy with ⟨hy, hl⟩ | ⟨j, rfl, hy⟩
    · rw [List.getElem?_append_left (by omega)] at hy'
      exact h.nup b y b' y' hy hb hy'
    · cases j with
      | zero =>
        rw [List.getElem?_append_left (by omega)] at hy'
        have := h.nval b' y' hy'
        simp at hy; subst hy; dsimp only; omega
      | succ j => simp at hy
  nto := fun b y hy => by
    rw [List.length_append]
    rcases get_app hy with ⟨hy, _⟩ | ⟨j, rfl, hy⟩
    · have := h.nto b y hy; omega
    · cases j with
      | zero =>
        simp at hy; subst hy
        have := hg.dest
        dsimp only; omega
      | succ j => simp at hy
  nil := fun h => by simp at h
  cnt := by
    have h1 := h.cnt
    have h2 := hg.cnt
    rw [r.cntV_succ, List.length_append, List.length_append]
    simp only [List.length_cons, List.length_nil]
    omega
  way := fun pre post root hp m hm hs hvm => by
    by_cases h1 : r.val m f < v
    · obtain ⟨b, y, c, e1, e2, e3, e4⟩ := h.way pre (l' ++ post) root hp m hm hs h1
      refine ⟨b, y, c, by rw [List.getElem?_append_left (get_lt e1)]; exact e1, e2, e3, fun k hk => ?_⟩
      have := e4 k (by rw [List.length_append] at hk; omega)
      rw [← List.append_assoc] at this
      rw [← List.append_assoc]
      exact this
    · have h2 : r.val m f = (v : Nat) := by omega
      have hb : (r.part s f (v : Nat)).testBit m = true := by rw [r.testBit_part]; simp [hm, hs, h2]
      obtain ⟨c, e3, e4⟩ := hg.way (pre ++ l) post root (by rw [List.length_append, hp]) m hm hb
      refine ⟨nx.length, ((v : Int), dz), c, by simp, h2.symm, by rw [h2]; exact e3, fun k hk => ?_⟩
      have := e4 k (by rw [List.length_append] at hk; omega)
      rw [← List.append_assoc]
      exact this
theorem Reg.Some'.jump {r : Reg} {s f base v v' : Nat} {l : List (Int × List (Int × Int))} {nx : List (Int × Int)} (h : r.Some' s f base v l nx) (hv : v ≤ v') (h0 : ∀ i, v ≤ i → i < v' → r.part s f (i : Nat) = 0) : r.Some' s f base v' l nx := by
  obtain ⟨d, rfl⟩ : ∃ d, v' = v + d := ⟨v' - v, by omega⟩
  induction d with
  | zero => exact h
  | succ d ih => exact (ih (by omega) fun i h1 h2 => h0 i h1 (by omega)).skip (h0 _ (by omega) (by omega))
theorem ofL_at (root : Int) (pre post : List (Int × List (Int × Int))) (x : Int × List (Int × Int)) : ((pre ++ x :: post).getD pre.length (0, [])) = x := by simp
theorem snd_at {nx : List (Int × Int)} {b : Nat} {y : Int × Int} (h : nx[b]? = some y) : sndL nx b = y.2 := by
  unfold sndL; rw [List.getD_eq_getElem?_getD, h]; rfl
theorem fst_at {nx : List (Int × Int)} {b : Nat} {y : Int × Int} (h : nx[b]? = some y) : fstL nx b = y.1 := by
  unfold fstL; rw [List.getD_eq_getElem?_getD, h]; rfl
theorem Reg.Some'.node {r : Reg} (hr : r.Ok) {s f base : Nat} {l : List (Int × List (Int × Int))} {nx : List (Int × Int)} (h : r.Some' s f base 10 l nx) (hf : f < r.nc) (h2 : 2 ≤ nx.length) 
    (hw : ∀ v : Nat, v < 10 → r.cost f + r.cst (r.part s f (v : Nat)) ≤ r.cst s) : r.Good s base (((f : Int), nx) :: l) base where
  dest := by right; simp only [List.length_cons]; omega
  feat := fun i x hx => by
    cases i with
    | zero => simp at hx; subst hx; dsimp only; omega
    | succ i => simp at hx; exact h.feat i x hx
  val := fun i x b y hx hy => by
    cases i with
    | zero => simp at hx; subst hx; have := h.nval b y hy; omega
    | succ i => simp at hx; exact h.val i x b y hx hy
  up := fun i x b y b' y' hx hy hb hy' => by
    cases i with
    | zero => simp at hx; subst hx; exact h.nup b y b' y' hy hb hy'
    | succ i => simp at hx; exact h.up i x b y b' y' hx hy hb hy'
  nxt := fun i x b y hx hy => by
    simp only [List.length_cons]
    cases i with
    | zero => simp at hx; subst hx; have := h.nto b y hy; omega
    | succ i => simp at hx; have := h.nxt i x b y hx hy; omega
  cnt := by
    have := h.cnt
    rw [r.cntV_ten hr s f hf] at this
    simp only [List.length_cons]; omega
  way := fun pre post root hp m hm hs => by
    have hv := hr.val m f hm hf
    obtain ⟨v, hvv⟩ : ∃ v : Nat, r.val m f = v := ⟨(r.val m f).toNat, by omega⟩
    obtain ⟨b, y, c, e1, e2, e3, e4⟩ := h.way (pre ++ [((f : Int), nx)]) post root (by simp [hp]) m hm hs (by omega)
    have hw' := hw v (by omega)
    rw [hvv] at e3
    refine ⟨r.cost f + c, by omega, fun k hk => ?_⟩
    cases k with
    | zero => simp at hk
    | succ k =>
      have hg := e4 k (by simp at hk; omega)
      have eL : pre ++ [((f : Int), nx)] ++ l ++ post = pre ++ ((f : Int), nx) :: l ++ post := by simp
      rw [eL] at hg
      obtain ⟨t, ht⟩ : ∃ t, Tr.ofL root (pre ++ ((f : Int), nx) :: l ++ post) = t := ⟨_, rfl⟩
      have hx : (pre ++ ((f : Int), nx) :: l ++ post).getD base (0, []) = ((f : Int), nx) := by
        rw [← hp]; simp
      have t1 : t.feat base = f := by rw [← ht]; show ((pre ++ ((f : Int), nx) :: l ++ post).getD base (0, [])).1 = _; rw [hx]
      have t2 : t.nb base = nx.length := by rw [← ht]; show ((pre ++ ((f : Int), nx) :: l ++ post).getD base (0, [])).2.length = _; rw [hx]
      have t3 : t.bv base = fstL nx := by rw [← ht]; show fstL ((pre ++ ((f : Int), nx) :: l ++ post).getD base (0, [])).2 = _; rw [hx]
      have t4 : t.bt base = sndL nx := by rw [← ht]; show sndL ((pre ++ ((f : Int), nx) :: l ++ post).getD base (0, [])).2 = _; rw [hx]
      rw [ht] at hg ⊢
      have hbl := get_lt e1
      have hbr : t.branch base (r.val m f) = some b := by
        unfold Tr.branch
        rw [t2, t3, List.find?_range_eq_some]
        refine ⟨by rw [fst_at e1, e2]; simp, by simpa using hbl, fun j hj => ?_⟩
        have hjl : j < nx.length := by omega
        have := h.nup b y j _ e1 hj (List.getElem?_eq_getElem hjl)
        rw [fst_at (List.getElem?_eq_getElem hjl), ← e2]
        simp; omega
      simp only [Tr.go]
      rw [if_neg (by omega)]
      simp only [Int.toNat_natCast, t1, hbr, t4, snd_at e1, hg, Option.map_some]
theorem cntB_lt {q p : Nat → Bool} : ∀ {n i : Nat}, (∀ j, j < n → q j = true → p j = true) → i < n → p i = true → ¬ q i = true → cntB q n < cntB p n
  | 0, i, _, h, _, _ => absurd h (by omega)
  | n + 1, i, hm, hi, hp, hq => by
    have mono : ∀ n, (∀ j, j < n → q j = true → p j = true) → cntB q n ≤ cntB p n := by
      intro n
      induction n with
      | zero => intro _; exact Nat.le_refl _
      | succ n ih =>
        intro h
        have := ih (fun j hj => h j (by omega))
        simp only [cntB]
        by_cases h1 : q n = true
        · rw [if_pos h1, if_pos (h n (by omega) h1)]; omega
        · rw [if_neg h1]; split <;> omega
    simp only [cntB]
    rcases Nat.lt_or_ge i n with h1 | h1
    · have := cntB_lt (fun j hj => hm j (by omega)) h1 hp hq
      by_cases h2 : q n = true
      · rw [if_pos h2, if_pos (hm n (by omega) h2)]; omega
      · rw [if_neg h2]; split <;> omega
    · have : i = n := by omega
      subst this
      rw [if_neg hq, if_pos hp]
      have := mono i (fun j hj => hm j (by omega))
      omega
theorem Reg.cnt_part (r : Reg) {s f : Nat} {v : Int} (hs : s < 2 ^ r.nm) (hne : r.part s f v ≠ s) : r.cnt (r.part s f v) < r.cnt s := by
  have : ∃ m, m < r.nm ∧ s.testBit m = true ∧ ¬ r.val m f = v := by
    refine Classical.byContradiction fun hc => hne ?_
    apply Nat.eq_of_testBit_eq
    intro m
    rw [r.testBit_part]
    by_cases hm : m < r.nm
    · by_cases hb : s.testBit m = true
      · have : r.val m f = v := Classical.byContradiction fun h => hc ⟨m, hm, hb, h⟩
        simp [hm, hb, this]
      · simp [hb]
    · have : s < 2 ^ m := Nat.lt_of_lt_of_le hs (Nat.pow_le_pow_right (by omega) (by omega))
      simp [hm, Nat.testBit_lt_two_pow this]
  obtain ⟨m, hm, hb, hv⟩ := this
  refine cntB_lt (i := m) (fun j hj h => ?_) hm hb (by rw [r.testBit_part]; simp [hv])
  rw [r.testBit_part] at h
  simp at h
  exact h.2.1
theorem Reg.Some'.two {r : Reg} (hr : r.Ok) {s f base : Nat} {l : List (Int × List (Int × Int))} {nx : List (Int × Int)} (h : r.Some' s f base 10 l nx) (hf : f < r.nc) (hs : s < 2 ^ r.nm) (h0 : s ≠ 0) (hp : r.parted s f = true) : 2 ≤ nx.length := by
  have hw := h.way (List.replicate (base + 1) (0, [])) [] 0 (by simp)
  obtain ⟨m0, hm0⟩ := Nat.exists_testBit_of_ne_zero h0
  have hmn : ∀ m, s.testBit m = true → m < r.nm := fun m hm => by
    rcases Nat.lt_or_ge m r.nm with h1 | h1
    · exact h1
    · rw [Nat.testBit_lt_two_pow (Nat.lt_of_lt_of_le hs (Nat.pow_le_pow_right (by omega) h1))] at hm; cases hm
  refine Classical.byContradiction fun hc => ?_
  have hv0 := hr.val m0 f (hmn m0 hm0) hf
  obtain ⟨b0, y0, _, e0, v0, _⟩ := hw m0 (hmn m0 hm0) hm0 (by omega)
  have hb0 := get_lt e0
  obtain ⟨v, hv⟩ : ∃ v : Nat, r.val m0 f = v := ⟨(r.val m0 f).toNat, by omega⟩
  refine (r.parted_iff s f).1 hp v (by omega) ?_
  apply Nat.eq_of_testBit_eq
  intro m
  rw [r.testBit_part]
  by_cases hb : s.testBit m = true
  · have hm := hmn m hb
    have hvm := hr.val m f hm hf
    obtain ⟨b, y, _, e1, v1, _⟩ := hw m hm hb (by omega)
    have hbl := get_lt e1
    have : b = b0 := by omega
    subst this
    rw [e0] at e1
    cases e1
    have : r.val m f = (v : Int) := by rw [← v1, v0, hv]
    simp [hm, hb, this]
  · simp [hb]
end Go.Proofs.Ytdminglglapnlaa

/-
  What is proved: plain words on the table of costs that is filled: the look that is kept for marks of different makers.
-/
namespace Go.Proofs.Ytdminglglapnlaa

theorem Reg.lookR_congr (r : Reg) {c c' : Nat → Int} {s : Nat} (h : ∀ f v, r.parted s f = true → v < 10 → c (r.part s f (v : Nat)) = c' (r.part s f (v : Nat))) : ∀ n, r.lookR c s n = r.lookR c' s n
  | 0 => rfl
  | n + 1 => by
    simp only [Reg.lookR]
    rw [r.lookR_congr h n]
    split
    · rename_i hp
      rw [r.mostR_congr 10 fun v hv => h n v hp hv]
    · rfl
theorem Reg.lookR_at (r : Reg) (c : Nat → Int) (s : Nat) : ∀ n, r.lookR c s n = (-1, 1099511627776) ∨ ∃ f, f < n ∧ r.parted s f = true ∧ r.lookR c s n = ((f : Int), r.cost f + r.mostR c s f 10)
  | 0 => .inl rfl
  | n + 1 => by
    have up : (r.lookR c s n = (-1, 1099511627776) ∨ ∃ f, f < n ∧ r.parted s f = true ∧ r.lookR c s n = ((f : Int), r.cost f + r.mostR c s f 10)) → (r.lookR c s n = (-1, 1099511627776) ∨ ∃ f, f < n + 1 ∧ r.parted s f = true ∧ r.lookR c s n = ((f : Int), r.cost f + r.mostR c s f 10)) := by
      rintro (h | ⟨f, h1, h2⟩)
      · exact .inl h
      · exact .inr ⟨f, by omega, h2⟩
    have ih := up (r.lookR_at c s n)
    simp only [Reg.lookR]
    split
    · rename_i hp
      split
      · exact .inr ⟨n, by omega, hp, rfl⟩
      · exact ih
    · exact ih
theorem Reg.cst_bd {r : Reg} (hr : r.Ok) (ht : r.NoTwins) {s : Nat} (hs : s < 2 ^ r.nm) : 0 ≤ r.cst s ∧ r.cst s ≤ 8000 := by
  refine ⟨r.cst_nonneg (fun f hf => by have := hr.cost f hf; omega) hs, ?_⟩
  have h1 := r.cst_le_price (fun f hf => by have := hr.cost f hf; omega) hr.val (List.range r.nc) (fun f hf => List.mem_range.1 hf) s hs (r.tellB_tells _ s ht.tell)
  have h2 := costSum_bd hr.cost (List.range r.nc) (fun f hf => List.mem_range.1 hf)
  rw [r.price_eq] at h1
  have h3 := hr.c8
  simp at h2
  omega
theorem Reg.look_some {r : Reg} (hr : r.Ok) (ht : r.NoTwins) {s : Nat} (hs : s < 2 ^ r.nm) (hm : r.mixed s = true) : ∃ f, f < r.nc ∧ r.parted s f = true ∧ r.lookR r.cst s r.nc = ((f : Int), r.cst s) ∧ r.cst s = r.cost f + r.mostR r.cst s f 10 := by
  have h1 := r.lookR_snd r.cst s r.nc
  have h2 := r.cst_eq hs
  rw [if_pos hm] at h2
  have h3 := Reg.cst_bd hr ht hs
  rcases r.lookR_at r.cst s r.nc with h | ⟨f, hf, hp, h⟩
  · rw [h] at h1; dsimp only at h1; omega
  · rw [h] at h1
    dsimp only at h1
    exact ⟨f, hf, hp, by rw [h, h1, ← h2], by rw [h2, ← h1]⟩
theorem Reg.cst_pos {r : Reg} (hr : r.Ok) (ht : r.NoTwins) {s : Nat} (hs : s < 2 ^ r.nm) (hm : r.mixed s = true) : 1 ≤ r.cst s := by
  obtain ⟨f, hf, hp, _, h⟩ := Reg.look_some hr ht hs hm
  have := hr.cost f hf
  have := r.mostR_nonneg r.cst s f 10
  omega
/-- what the sets below k cost -/
def Reg.cstTo (r : Reg) (k x : Nat) : Int := if x < k then r.cst x else 0
theorem Reg.cstTo_bd {r : Reg} (hr : r.Ok) (ht : r.NoTwins) (k x : Nat) (hx : x < 2 ^ r.nm) : 0 ≤ r.cstTo k x ∧ r.cstTo k x ≤ 1099511627776 := by
  unfold Reg.cstTo
  split
  · have := Reg.cst_bd hr ht hx; omega
  · omega
theorem Reg.mixed_zero (r : Reg) : r.mixed 0 = false := by
  cases h : r.mixed 0 with
  | false => rfl
  | true =>
    obtain ⟨a, b, _, _, h1, _⟩ := (r.mixed_iff 0).1 h
    simp at h1
theorem Reg.cstTo_zero {r : Reg} (k : Nat) : r.cstTo k 0 = 0 := by
  unfold Reg.cstTo
  split
  · exact r.cst_not (Nat.two_pow_pos _) r.mixed_zero
  · rfl
theorem Reg.cstTo_look {r : Reg} {k : Nat} (hk : k < 2 ^ r.nm) : r.lookR (r.cstTo k) k r.nc = r.lookR r.cst k r.nc := by
  refine r.lookR_congr (fun f v hp hv => ?_) _
  unfold Reg.cstTo
  rw [if_pos (r.part_less hk hp hv)]
end Go.Proofs.Ytdminglglapnlaa

/-
  What is proved: plain words: the tree that is grown for all marks is right, tells them, and costs what they cost at least.
-/
namespace Go.Proofs.Ytdminglglapnlaa

theorem all_bit {n m : Nat} (h : m < n) : (2 ^ n - 1).testBit m = true := by
  rw [Nat.testBit_two_pow_sub_one]; simpa using h
theorem Reg.Good.ok {r : Reg} (hr : r.Ok) {L : List (Int × List (Int × Int))} {root : Int} (h : r.Good (2 ^ r.nm - 1) 0 L root) : (Tr.ofL root L).Ok r.nc where
  n := by
    have h1 := h.cnt
    have h2 := cntB_le (fun m => (2 ^ r.nm - 1).testBit m) r.nm
    have h3 := hr.m10
    unfold Reg.cnt at h1
    show L.length ≤ 100
    omega
  feat := fun i hi => by
    have hi : i < L.length := hi
    have := h.feat i L[i] (List.getElem?_eq_getElem hi)
    show 0 ≤ (L.getD i (0, [])).1 ∧ (L.getD i (0, [])).1 < r.nc
    rw [List.getD_eq_getElem?_getD, List.getElem?_eq_getElem hi]
    exact this
  bv := fun i b hi hb => by
    have hi : i < L.length := hi
    have e : L.getD i (0, []) = L[i] := by rw [List.getD_eq_getElem?_getD, List.getElem?_eq_getElem hi]; rfl
    have hb : b < (L.getD i (0, [])).2.length := hb
    show 0 ≤ fstL (L.getD i (0, [])).2 b ∧ fstL (L.getD i (0, [])).2 b ≤ 9
    rw [e] at hb ⊢
    rw [fst_at (List.getElem?_eq_getElem hb)]
    exact h.val i L[i] b _ (List.getElem?_eq_getElem hi) (List.getElem?_eq_getElem hb)
  up := fun i b hi hb => by
    have hi : i < L.length := hi
    have e : L.getD i (0, []) = L[i] := by rw [List.getD_eq_getElem?_getD, List.getElem?_eq_getElem hi]; rfl
    have hb : b + 1 < (L.getD i (0, [])).2.length := hb
    show fstL (L.getD i (0, [])).2 b < fstL (L.getD i (0, [])).2 (b + 1)
    rw [e] at hb ⊢
    have hb0 : b < L[i].2.length := by omega
    rw [fst_at (List.getElem?_eq_getElem hb), fst_at (List.getElem?_eq_getElem hb0)]
    exact h.up i L[i] (b + 1) _ b _ (List.getElem?_eq_getElem hi) (List.getElem?_eq_getElem hb) (by omega) (List.getElem?_eq_getElem hb0)
  bt := fun i b hi hb => by
    have hi : i < L.length := hi
    have e : L.getD i (0, []) = L[i] := by rw [List.getD_eq_getElem?_getD, List.getElem?_eq_getElem hi]; rfl
    have hb : b < (L.getD i (0, [])).2.length := hb
    show ((i : Int) < sndL (L.getD i (0, [])).2 b ∧ sndL (L.getD i (0, [])).2 b < L.length) ∨ (-1001 ≤ sndL (L.getD i (0, [])).2 b ∧ sndL (L.getD i (0, [])).2 b ≤ -1)
    rw [e] at hb ⊢
    rw [snd_at (List.getElem?_eq_getElem hb)]
    have := h.nxt i L[i] b _ (List.getElem?_eq_getElem hi) (List.getElem?_eq_getElem hb)
    omega
  root := by
    have := h.dest
    show (0 ≤ root ∧ root < L.length) ∨ (-1001 ≤ root ∧ root ≤ -1)
    omega
theorem Reg.Good.says {r : Reg} {L : List (Int × List (Int × Int))} {root : Int} (h : r.Good (2 ^ r.nm - 1) 0 L root) {m : Nat} (hm : m < r.nm) : ∃ c, c ≤ r.cst (2 ^ r.nm - 1) ∧ (Tr.ofL root L).say r (r.val m) = some (-1 - r.who m, c) := by
  obtain ⟨c, h1, h2⟩ := h.way [] [] root rfl m hm (all_bit hm)
  refine ⟨c, h1, ?_⟩
  have := h2 (L.length + 1) (by omega)
  simp only [List.nil_append, List.append_nil] at this
  exact this
theorem Reg.Good.treeE {r : Reg} (hr : r.Ok) {L : List (Int × List (Int × Int))} {root : Int} (h : r.Good (2 ^ r.nm - 1) 0 L root) : (Tr.ofL root L).treeE r = 0 := by
  unfold Tr.treeE
  rw [if_pos ((Tr.ok_iff _ r).2 ⟨hr.check, h.ok hr⟩), if_pos]
  rw [List.all_eq_true]
  intro m hm
  obtain ⟨c, h1, h2⟩ := h.says (List.mem_range.1 hm)
  unfold Tr.tellsB
  rw [h2]
  simp
  omega
/-- no tree that tells the marks costs less than they do -/
theorem Reg.cst_le_treeA {r : Reg} {t : Tr} (h : t.treeE r = 0) : r.cst (2 ^ r.nm - 1) ≤ t.treeA r := by
  unfold Tr.treeA
  rw [if_pos h]
  unfold Tr.treeE at h
  by_cases hc : t.check r = 0
  · rw [if_pos hc] at h
    obtain ⟨hr0, ho⟩ := (Tr.ok_iff _ r).1 hc
    have hr := Reg.ok_of hr0
    by_cases ha : (List.range r.nm).all (t.tellsB r) = true
    · rw [List.all_eq_true] at ha
      refine r.cst_le_tree (fun f hf => by have := hr.cost f hf; omega) hr.val (t := t) (fun i hi => ho.feat i hi) (fun i b hi hb => by have := ho.bt i b hi hb; omega) (t.n + 1) t.root _ _ (by have := ho.root; omega) (by have := Nat.two_pow_pos r.nm; omega) (mx_nonneg _ _) fun m hm _ => ?_
      have h1 := ha m (List.mem_range.2 hm)
      have h2 := le_mx (t.costAt r) hm
      unfold Tr.tellsB at h1
      unfold Tr.costAt at h2
      cases hs : t.say r (r.val m) with
      | none => rw [hs] at h1; cases h1
      | some x =>
        rw [hs] at h1 h2
        simp at h1 h2
        refine ⟨x.2, ?_, h2⟩
        unfold Tr.say at hs
        rw [hs]
        have : x.1 = -1 - r.who m := by omega
        rw [← this]
    · rw [if_neg ha] at h; cases h
  · rw [if_neg hc] at h; exact absurd h hc
theorem Reg.Good.treeA {r : Reg} (hr : r.Ok) {L : List (Int × List (Int × Int))} {root : Int} (h : r.Good (2 ^ r.nm - 1) 0 L root) : (Tr.ofL root L).treeA r = r.cst (2 ^ r.nm - 1) := by
  have h1 := Reg.cst_le_treeA (h.treeE hr)
  have h2 : (Tr.ofL root L).treeA r ≤ r.cst (2 ^ r.nm - 1) := by
    unfold Tr.treeA
    rw [if_pos (h.treeE hr)]
    refine (mx_le _ _ _).2 ⟨r.cst_nonneg (fun f hf => by have := hr.cost f hf; omega) (by have := Nat.two_pow_pos r.nm; omega), fun m hm => ?_⟩
    obtain ⟨c, h1, h2⟩ := h.says hm
    unfold Tr.costAt
    rw [h2]
    exact h1
  omega
end Go.Proofs.Ytdminglglapnlaa

/-
  What is proved: plain words: the table of all sets that cost something proves what a best tree costs.
-/
namespace Go.Proofs.Ytdminglglapnlaa

/-- a table of sets, each with what it costs -/
def Reg.tab (r : Reg) (SL : List Nat) : Bn where
  n := SL.length
  len := fun i => (bitsL r.nm (SL.getD i 0)).length
  el := fun i j => ((bitsL r.nm (SL.getD i 0)).getD j 0 : Nat)
  cost := fun i => r.cst (SL.getD i 0)
def Reg.setB (r : Reg) (s : Nat) : Bool := decide (0 < s) && decide (0 < r.cst s)
/-- the sets of the table that the program makes -/
def Reg.sets (r : Reg) : List Nat := (List.range (2 ^ r.nm - 1)).filter r.setB ++ [2 ^ r.nm - 1]
theorem bitsL_rise (n s : Nat) : Rise (fun j => ((bitsL n s).getD j 0 : Nat)) (bitsL n s).length n := by
  have hp : (bitsL n s).Pairwise (· < ·) := List.pairwise_lt_range.filter _
  have hlt : ∀ i, i < (bitsL n s).length → (bitsL n s).getD i 0 < n := fun i hi =>
    (mem_bitsL.1 (show (bitsL n s).getD i 0 ∈ bitsL n s by rw [List.getD_eq_getElem?_getD, List.getElem?_eq_getElem hi]; exact List.getElem_mem hi)).1
  constructor
  · intro i hi
    omega
  · intro i hi
    have := hlt i hi
    omega
  · intro i hi
    have h0 : i < (bitsL n s).length := by omega
    have := List.pairwise_iff_getElem.1 hp i (i + 1) h0 hi (by omega)
    rw [List.getD_eq_getElem?_getD, List.getD_eq_getElem?_getD, List.getElem?_eq_getElem hi, List.getElem?_eq_getElem h0]
    simpa using this
theorem setN_bits {n s : Nat} (hs : s < 2 ^ n) : setN (fun j => ((bitsL n s).getD j 0 : Nat)) (bitsL n s).length = s := by
  apply Nat.eq_of_testBit_eq
  intro m
  unfold setN
  rw [testBit_bitsN, Bool.eq_iff_iff]
  simp only [List.any_eq_true, List.mem_range, decide_eq_true_eq, Int.toNat_natCast]
  constructor
  · rintro ⟨i, hi, rfl⟩
    exact (mem_bitsL.1 (show (bitsL n s).getD i 0 ∈ bitsL n s by rw [List.getD_eq_getElem?_getD, List.getElem?_eq_getElem hi]; exact List.getElem_mem hi)).2
  · intro hm
    have hmn : m < n := by
      rcases Nat.lt_or_ge m n with h1 | h1
      · exact h1
      · rw [Nat.testBit_lt_two_pow (Nat.lt_of_lt_of_le hs (Nat.pow_le_pow_right (by omega) h1))] at hm; cases hm
    obtain ⟨i, hi, e⟩ := List.getElem_of_mem (mem_bitsL.2 ⟨hmn, hm⟩)
    exact ⟨i, hi, by simp [hi, e]⟩
theorem Reg.sets_pw (r : Reg) : r.sets.Pairwise (· < ·) := by
  unfold Reg.sets
  rw [List.pairwise_append]
  refine ⟨List.pairwise_lt_range.filter _, by simp, fun a ha b hb => ?_⟩
  simp at hb
  subst hb
  exact List.mem_range.1 (List.mem_filter.1 ha).1
theorem Reg.sets_lt (r : Reg) {i : Nat} (hi : i < r.sets.length) : r.sets.getD i 0 < 2 ^ r.nm := by
  have hm : r.sets.getD i 0 ∈ r.sets := by rw [List.getD_eq_getElem?_getD, List.getElem?_eq_getElem hi]; exact List.getElem_mem hi
  have := Nat.two_pow_pos r.nm
  unfold Reg.sets at hm
  rcases List.mem_append.1 hm with h | h
  · have := List.mem_range.1 (List.mem_filter.1 h).1
    unfold Reg.sets; omega
  · simp at h
    unfold Reg.sets; simp; omega
theorem Reg.sets_pos (r : Reg) (hr : r.Ok) {i : Nat} (hi : i < r.sets.length) : r.sets.getD i 0 ≠ 0 := by
  have hm : r.sets.getD i 0 ∈ r.sets := by rw [List.getD_eq_getElem?_getD, List.getElem?_eq_getElem hi]; exact List.getElem_mem hi
  have hpos : 2 ≤ 2 ^ r.nm := by
    have := hr.m1
    calc 2 = 2 ^ 1 := rfl
      _ ≤ 2 ^ r.nm := Nat.pow_le_pow_right (by omega) this
  intro h0
  rw [h0] at hm
  unfold Reg.sets at hm
  rcases List.mem_append.1 hm with h | h
  · have := (List.mem_filter.1 h).2
    simp [Reg.setB] at this
  · simp at h; omega
theorem Reg.sets_before (r : Reg) {i p : Nat} (hi : i < r.sets.length) (hp : p < r.sets.getD i 0) (hq : r.setB p = true) : ∃ j, j < i ∧ r.sets.getD j 0 = p := by
  have h1 := r.sets_lt hi
  have hm : p ∈ r.sets := by
    unfold Reg.sets
    refine List.mem_append.2 (.inl (List.mem_filter.2 ⟨List.mem_range.2 (by omega), hq⟩))
  obtain ⟨j, hj, e⟩ := List.getElem_of_mem hm
  have ej : r.sets.getD j 0 = p := by rw [List.getD_eq_getElem?_getD, List.getElem?_eq_getElem hj]; exact e
  refine ⟨j, ?_, ej⟩
  rcases Nat.lt_trichotomy j i with h | h | h
  · exact h
  · subst h; omega
  · have := List.pairwise_iff_getElem.1 r.sets_pw i j hi hj h
    rw [List.getD_eq_getElem?_getD, List.getElem?_eq_getElem hi] at hp
    simp only [Option.getD_some] at hp
    omega
theorem Bn.le_top (b : Bn) {s : Nat} : ∀ {k j : Nat}, j < k → b.set j = s → b.cost j ≤ b.top k s
  | 0, _, h, _ => absurd h (by omega)
  | k + 1, j, h, e => by
    simp only [Bn.top]
    rcases Nat.lt_or_ge j k with h1 | h1
    · have := Bn.le_top b h1 e
      split <;> omega
    · have : j = k := by omega
      subst this
      rw [if_pos e.symm]; omega
theorem Reg.tab_err {r : Reg} (hr : r.Ok) (ht : r.NoTwins) : (r.tab r.sets).err r = 0 ∧ (r.tab r.sets).ans r = r.cst (2 ^ r.nm - 1) := by
  have hlen : r.sets.length ≤ 1024 := by
    have h1 : ((List.range (2 ^ r.nm - 1)).filter r.setB).length ≤ (List.range (2 ^ r.nm - 1)).length := List.length_filter_le _ _
    have h2 : 2 ^ r.nm ≤ 2 ^ 10 := Nat.pow_le_pow_right (by omega) hr.m10
    have := Nat.two_pow_pos r.nm
    unfold Reg.sets
    rw [List.length_append, List.length_singleton]
    rw [List.length_range] at h1
    omega
  have hl1 : 1 ≤ r.sets.length := by unfold Reg.sets; simp
  have hlast : r.sets.getD (r.sets.length - 1) 0 = 2 ^ r.nm - 1 := by unfold Reg.sets; simp
  have hset : ∀ i, i < r.sets.length → (r.tab r.sets).set i = r.sets.getD i 0 := fun i hi => setN_bits (r.sets_lt hi)
  have hok : (r.tab r.sets).Ok r := by
    refine ⟨hl1, (show r.sets.length ≤ 1100 by omega), fun i hi => ?_, fun i hi => bitsL_rise _ _, fun i hi => ?_, ?_, fun i hi => ?_⟩
    · have hi : i < r.sets.length := hi
      have h0 := r.sets_pos hr hi
      have hs := r.sets_lt hi
      obtain ⟨m, hm⟩ := Nat.exists_testBit_of_ne_zero h0
      have hmn : m < r.nm := by
        rcases Nat.lt_or_ge m r.nm with h1 | h1
        · exact h1
        · rw [Nat.testBit_lt_two_pow (Nat.lt_of_lt_of_le hs (Nat.pow_le_pow_right (by omega) h1))] at hm; cases hm
      exact List.length_pos_of_mem (mem_bitsL.2 ⟨hmn, hm⟩)
    · have hi : i < r.sets.length := hi
      have := Reg.cst_bd hr ht (r.sets_lt hi)
      show 0 ≤ r.cst (r.sets.getD i 0) ∧ r.cst (r.sets.getD i 0) ≤ 100000
      omega
    · show (bitsL r.nm (r.sets.getD (r.sets.length - 1) 0)).length = r.nm
      rw [hlast]
      have : bitsL r.nm (2 ^ r.nm - 1) = List.range r.nm := by
        unfold bitsL
        rw [List.filter_eq_self]
        intro a ha
        exact all_bit (List.mem_range.1 ha)
      rw [this]; simp
    · have hi : i < r.sets.length := hi
      unfold Bn.rightB
      rw [hset i hi]
      show (decide (r.cst (r.sets.getD i 0) ≤ 0) || (r.mixed (r.sets.getD i 0) && decide (r.cst (r.sets.getD i 0) ≤ _))) = true
      have hs := r.sets_lt hi
      have hbef : ∀ p, p < r.sets.getD i 0 → r.setB p = true → ∃ j, j < i ∧ r.sets.getD j 0 = p := fun p h1 h2 => r.sets_before hi h1 h2
      obtain ⟨s, hse⟩ : ∃ s, r.sets.getD i 0 = s := ⟨_, rfl⟩
      rw [hse] at hs hbef ⊢
      by_cases h0 : r.cst s ≤ 0
      · simp [h0]
      · have hm : r.mixed s = true := by
          cases hm : r.mixed s with
          | true => rfl
          | false => rw [r.cst_not hs hm] at h0; omega
        have hle : r.cst s ≤ r.looksR ((r.tab r.sets).top i) s r.nc := by
          rw [r.le_looksR]
          have hc := Reg.cst_bd hr ht hs
          refine ⟨by omega, fun f hf hp => ?_⟩
          have h1 := (r.looksR_le r.cst s r.nc).2 f hf hp
          have h2 := r.cst_eq hs
          rw [if_pos hm] at h2
          have h3 : r.mostR r.cst s f 10 ≤ r.mostR ((r.tab r.sets).top i) s f 10 := by
            rw [r.mostR_le]
            refine ⟨r.mostR_nonneg _ _ _ _, fun v hv => ?_⟩
            refine Int.le_trans ?_ (r.le_mostR _ s f hv)
            have hpl := r.part_less hs hp hv
            have hpp := Reg.cst_bd hr ht (r.part_lt s f (v : Nat))
            by_cases hz : r.setB (r.part s f (v : Nat)) = true
            · obtain ⟨j, hj, e⟩ := hbef _ hpl hz
              have := Bn.le_top (r.tab r.sets) (k := i) hj (by rw [hset j (by omega), e])
              have e2 : (r.tab r.sets).cost j = r.cst (r.part s f (v : Nat)) := by show r.cst (r.sets.getD j 0) = _; rw [e]
              rw [e2] at this
              exact this
            · have ht0 := (r.tab r.sets).top_nonneg i (r.part s f (v : Nat))
              have : r.cst (r.part s f (v : Nat)) ≤ 0 := by
                rcases Nat.eq_zero_or_pos (r.part s f (v : Nat)) with hz0 | hz0
                · rw [hz0, r.cst_not (Nat.two_pow_pos _) r.mixed_zero]; omega
                · simp [Reg.setB] at hz
                  exact hz hz0
              omega
          omega
        simp [hm, hle]
  have he := (Bn.ok_iff _ r).2 ⟨hr.check, hok⟩
  refine ⟨he, ?_⟩
  unfold Bn.ans
  rw [if_pos he]
  show r.cst (r.sets.getD (r.sets.length - 1) 0) = _
  rw [hlast]
end Go.Proofs.Ytdminglglapnlaa

/-
  What is proved: plain values of the chapter's example.
-/
namespace Go.Proofs.Ytdminglglapnlaa

def exVal (m f : Nat) : Int := (([[0, 0, 0], [1, 0, 0], [0, 1, 0], [1, 1, 1], [1, 0, 1]] : List (List Int)).getD m []).getD f 0
def exWho (m : Nat) : Int := ([7, 7, 8, 8, 9] : List Int).getD m 0
def exVal2 (m f : Nat) : Int := (([[0, 0, 0], [1, 0, 0], [0, 1, 0], [1, 1, 1], [1, 0, 0]] : List (List Int)).getD m []).getD f 0
def exCost (f : Nat) : Int := ([1, 2, 10] : List Int).getD f 0
/-- the register of the examples -/
def exR : Reg where
  nm := 5
  who := exWho
  nv := fun _ => 3
  val := exVal
  nc := 3
  cost := exCost
/-- the same, with twins -/
def exR2 : Reg where
  nm := 5
  who := exWho
  nv := fun _ => 3
  val := exVal2
  nc := 3
  cost := exCost
def exT : Tr where
  n := 2
  feat := fun i => if i = 0 then 1 else 2
  nb := fun _ => 2
  bv := fun _ b => b
  bt := fun i b => if i = 0 then (if b = 0 then 1 else -9) else if b = 0 then -8 else -10
  root := 0
def exLen (i : Nat) : Nat := ([2, 2, 3, 3, 5] : List Nat).getD i 0
def exEl (i j : Nat) : Int := (([[1, 4], [3, 4], [0, 1, 4], [1, 3, 4], [0, 1, 2, 3, 4]] : List (List Int)).getD i []).getD j 0
def exB (x : Int) : Bn where
  n := 5
  len := exLen
  el := exEl
  cost := fun i => ([10, 2, 10, 12, x] : List Int).getD i 0
theorem exR_check : exR.check = 0 := by decide +kernel
theorem exR_solvE : exR.solvE = 0 := by decide +kernel
theorem exT_A : exT.treeA exR = 12 ∧ exT.treeE exR = 0 := by decide +kernel
theorem exB_12 : (exB 12).ans exR = 12 ∧ (exB 12).err exR = 0 := by decide +kernel
theorem exB_13 : (exB 13).err exR = 14 ∧ (exB 13).ans exR = 0 := by decide +kernel
theorem exR_cst : exR.cst (2 ^ exR.nm - 1) = 12 := by
  have h1 := Reg.cst_le_treeA (r := exR) (t := exT) exT_A.2
  have h2 := Bn.ans_le (b := exB 12) (r := exR) exB_12.2
  rw [exT_A.1] at h1
  rw [exB_12.1] at h2
  omega
theorem exT_follow : exT.followA exR 3 (fun i => if i = 0 then 1 else 0) = 7 ∧ exT.followC exR 3 (fun i => if i = 0 then 1 else 0) = 12 ∧ exT.followE exR 3 (fun i => if i = 0 then 1 else 0) = 0 := by decide +kernel
theorem exT_follow5 : exT.followE exR 3 (fun i => if i = 1 then 2 else 0) = 5 := by decide +kernel
theorem exR2_first : exR2.First 1 4 where
  lt := by decide
  nm := by decide
  is := by decide +kernel
  out := fun i k hi hk hn => by
    have : i = 0 := by omega
    subst this
    have hn : k < 5 := hn
    have hk' : k = 1 ∨ k = 2 ∨ k = 3 ∨ k = 4 := by omega
    rcases hk' with rfl | rfl | rfl | rfl <;> decide +kernel
  out2 := fun k hk hn => by
    have hk' : k = 2 ∨ k = 3 := by omega
    rcases hk' with rfl | rfl <;> decide +kernel
theorem exR2_check : exR2.check = 0 := by decide +kernel
theorem ex_fix : bitsL 8 exR.fix = [1, 2] ∧ exR.price (bitsL 8 exR.fix) = 12 := by decide +kernel
theorem ex_must : exR.mustL = [1, 2] := by decide +kernel
theorem ex_fix01 : exR.fixE 2 (fun i => i) = 24 := by decide +kernel
end Go.Proofs.Ytdminglglapnlaa

/-
  What is proved: the register (45), a node (47), the tree (46) and a table (49) of the chapter's examples.
-/
namespace Go.Proofs.Ytdminglglapnlaa
open Go.RowKit
attribute [local irreducible] Go.wpCalm

theorem cells_at {w : World} (xs : Array Value) (t : Nat) (b n size : Nat) (f : Nat → Nat → Value) (hb : b = w.heap.size) (hn : n ≤ maxLen) (h : ∀ i j, i < n → j < size → xs[i * size + j]? = some (f i j)) :
    SliceAt (w.alloc (.cells xs t)) (.slice (some ⟨b, 0, none⟩) n n) n size f := by
  subst hb
  refine ⟨_, _, rfl, Nat.le_refl _, hn, fun i j hi hj => ⟨_, _, rfl, ?_⟩⟩
  rw [Nat.zero_add]
  exact cell_of_heap (heap_alloc_new w _) (h i j hi hj)
theorem SliceAt.putN {w : World} {b o n c sz : Nat} {f : Nat → Nat → Value} (h : SliceAt w (.slice (some ⟨b, o, none⟩) n c) n sz f) {bx : Nat} (hb : bx ≠ b) (i0 i1 : Nat) (u v : Value) :
    SliceAt ((w.setCell ⟨bx, i0, none⟩ u).setCell ⟨bx, i1, none⟩ v) (.slice (some ⟨b, o, none⟩) n c) n sz f := by
  obtain ⟨a, cap, e, h2, h3, h4⟩ := h
  cases e
  refine ⟨_, _, rfl, h2, h3, fun i j hi hj => ?_⟩
  obtain ⟨b', o', e', h5⟩ := h4 i j hi hj
  cases e'
  refine ⟨_, _, rfl, ?_⟩
  have : b ≠ bx := fun e => hb e.symm
  simp [go_sem, h5, hb, this]
theorem SliceAt.put2 {w : World} {b o n c sz : Nat} {f : Nat → Nat → Value} (h : SliceAt w (.slice (some ⟨b, o, none⟩) n c) n sz f) {bx : Nat} (hb : bx ≠ b) (u v : Value) :
    SliceAt ((w.setCell ⟨bx, 0, none⟩ u).setCell ⟨bx, 1, none⟩ v) (.slice (some ⟨b, o, none⟩) n c) n sz f := SliceAt.putN h hb 0 1 u v
/-- the register of the examples, opened -/
structure RegX (w : World) (mb cb : Nat) (rb : Nat → Nat) (val : Nat → Nat → Int) (who : Nat → Int) : Prop where
  ne : mb ≠ cb
  nr : ∀ m, m < 5 → mb ≠ rb m
  heap : w.heap[mb]? = some (.cells #[.int .i64 (who 0), .slice (some ⟨rb 0, 0, none⟩) 3 3, .int .i64 (who 1), .slice (some ⟨rb 1, 0, none⟩) 3 3, .int .i64 (who 2), .slice (some ⟨rb 2, 0, none⟩) 3 3, .int .i64 (who 3), .slice (some ⟨rb 3, 0, none⟩) 3 3, .int .i64 (who 4), .slice (some ⟨rb 4, 0, none⟩) 3 3] 65)
  cost : SliceAt w (.slice (some ⟨cb, 0, none⟩) 3 3) 3 1 (fun i _ => .int .i64 (exCost i))
  row : ∀ m, m < 5 → SliceAt w (.slice (some ⟨rb m, 0, none⟩) 3 3) 3 1 (fun i _ => .int .i64 (val m i))
theorem RegX.mono {w w' : World} {mb cb : Nat} {rb : Nat → Nat} {val : Nat → Nat → Int} {who : Nat → Int} (h : RegX w mb cb rb val who) (g : w.grows w') : RegX w' mb cb rb val who :=
  ⟨h.ne, h.nr, g.heap_of h.heap, h.cost.mono g, fun m hm => (h.row m hm).mono g⟩
theorem five {P : Nat → Prop} (h0 : P 0) (h1 : P 1) (h2 : P 2) (h3 : P 3) (h4 : P 4) : ∀ m, m < 5 → P m := fun m hm => by
  have : m = 0 ∨ m = 1 ∨ m = 2 ∨ m = 3 ∨ m = 4 := by omega
  rcases this with rfl | rfl | rfl | rfl | rfl <;> assumption
set_option maxHeartbeats 2000000 in
theorem exRegX_c (w : World) : Calls Try.prog 45 #[] w fun e w' => ∃ mb cb rb, e = .returned (.agg #[.slice (some ⟨mb, 0, none⟩) 5 5, .slice (some ⟨cb, 0, none⟩) 3 3]) ∧ RegX w' mb cb rb exVal exWho ∧ w.grows w' ∧ w.heap.size ≤ mb := by
  go_enter Try.func45, Try.ntmps45
  go_wp2_with (go_at_call 44; fail)
  refine (mark_s _ _ _ _ _).mono ?_
  rintro e W1 ⟨rfl, g⟩
  have C0 : Hid (W1.heap[w.heap.size]? = some (.cells #[.slice none 0 0, .slice none 0 0] 25)) := Lib.hid (g.heap_of (World.grows.heap_of (by (repeat (first | exact World.grows.refl _ | assumption | refine World.grows.alloc ?_ _ | refine World.grows.plus ?_ _ _ | refine World.grows.drew ?_))) (World.heap_at _ _ _ rfl)))
  have Q0 := Lib.hid ((((cells_at _ _ _ 3 1 (fun i _ => .int .i64 (exCost i)) rfl (by decide) (fun i j hi hj => by have hj' : j = 0 := (by omega); have hi' : i = 0 ∨ i = 1 ∨ i = 2 ∨ i = 3 ∨ i = 4 := (by omega); subst hj'; rcases hi' with rfl | rfl | rfl | rfl | rfl <;> first | rfl | omega)).mono (World.grows.alloc (World.grows.refl _) _)).mono g))
  have R1 := Lib.hid ((cells_at _ _ (w.heap.size + 1 + 1) 3 1 (fun i _ => .int .i64 (exVal 0 i)) (by simp) (by decide) (fun i j hi hj => by have hj' : j = 0 := (by omega); have hi' : i = 0 ∨ i = 1 ∨ i = 2 ∨ i = 3 ∨ i = 4 := (by omega); subst hj'; rcases hi' with rfl | rfl | rfl | rfl | rfl <;> first | rfl | omega)).mono g)
  have G1 : Hid (w.grows W1) := Lib.hid (World.grows.trans (by (repeat (first | exact World.grows.refl _ | assumption | refine World.grows.alloc ?_ _ | refine World.grows.plus ?_ _ _ | refine World.grows.drew ?_))) g)
  have Hs2 := Lib.hid (show w.heap.size + 1 + 1 < W1.heap.size by have := g.size; simp at this; omega)
  have hs1 : w.heap.size < W1.heap.size := World.lt_of_block C0.out
  clear g
  go_wp2_with (go_at_call 44; fail)
  refine (mark_s _ _ _ _ _).mono ?_; rintro e W2 ⟨rfl, g⟩; have R2 := Lib.hid ((cells_at _ _ _ 3 1 (fun i _ => .int .i64 (exVal 1 i)) rfl (by decide) (fun i j hi hj => by have hj' : j = 0 := (by omega); have hi' : i = 0 ∨ i = 1 ∨ i = 2 ∨ i = 3 ∨ i = 4 := (by omega); subst hj'; rcases hi' with rfl | rfl | rfl | rfl | rfl <;> first | rfl | omega)).mono g); have H2 := Lib.hid (show W1.heap.size < W2.heap.size by have := g.size; simp at this; omega); have G2 : Hid (W1.grows W2) := Lib.hid (World.grows.trans (by (repeat (first | exact World.grows.refl _ | assumption | refine World.grows.alloc ?_ _ | refine World.grows.plus ?_ _ _ | refine World.grows.drew ?_))) g); clear g
  go_wp2_with (go_at_call 44; fail)
  refine (mark_s _ _ _ _ _).mono ?_; rintro e W3 ⟨rfl, g⟩; have R3 := Lib.hid ((cells_at _ _ _ 3 1 (fun i _ => .int .i64 (exVal 2 i)) rfl (by decide) (fun i j hi hj => by have hj' : j = 0 := (by omega); have hi' : i = 0 ∨ i = 1 ∨ i = 2 ∨ i = 3 ∨ i = 4 := (by omega); subst hj'; rcases hi' with rfl | rfl | rfl | rfl | rfl <;> first | rfl | omega)).mono g); have H3 := Lib.hid (show W2.heap.size < W3.heap.size by have := g.size; simp at this; omega); have G3 : Hid (W2.grows W3) := Lib.hid (World.grows.trans (by (repeat (first | exact World.grows.refl _ | assumption | refine World.grows.alloc ?_ _ | refine World.grows.plus ?_ _ _ | refine World.grows.drew ?_))) g); clear g
  go_wp2_with (go_at_call 44; fail)
  refine (mark_s _ _ _ _ _).mono ?_; rintro e W4 ⟨rfl, g⟩; have R4 := Lib.hid ((cells_at _ _ _ 3 1 (fun i _ => .int .i64 (exVal 3 i)) rfl (by decide) (fun i j hi hj => by have hj' : j = 0 := (by omega); have hi' : i = 0 ∨ i = 1 ∨ i = 2 ∨ i = 3 ∨ i = 4 := (by omega); subst hj'; rcases hi' with rfl | rfl | rfl | rfl | rfl <;> first | rfl | omega)).mono g); have H4 := Lib.hid (show W3.heap.size < W4.heap.size by have := g.size; simp at this; omega); have G4 : Hid (W3.grows W4) := Lib.hid (World.grows.trans (by (repeat (first | exact World.grows.refl _ | assumption | refine World.grows.alloc ?_ _ | refine World.grows.plus ?_ _ _ | refine World.grows.drew ?_))) g); clear g
  go_wp2_with (go_at_call 44; fail)
  refine (mark_s _ _ _ _ _).mono ?_; rintro e W5 ⟨rfl, g⟩; have R5 := Lib.hid ((cells_at _ _ _ 3 1 (fun i _ => .int .i64 (exVal 4 i)) rfl (by decide) (fun i j hi hj => by have hj' : j = 0 := (by omega); have hi' : i = 0 ∨ i = 1 ∨ i = 2 ∨ i = 3 ∨ i = 4 := (by omega); subst hj'; rcases hi' with rfl | rfl | rfl | rfl | rfl <;> first | rfl | omega)).mono g); have H5 := Lib.hid (show W4.heap.size < W5.heap.size by have := g.size; simp at this; omega); have G5 : Hid (W4.grows W5) := Lib.hid (World.grows.trans (by (repeat (first | exact World.grows.refl _ | assumption | refine World.grows.alloc ?_ _ | refine World.grows.plus ?_ _ _ | refine World.grows.drew ?_))) g); clear g
  have g15 := Lib.hid (G2.out.trans (G3.out.trans (G4.out.trans G5.out)))
  have c5 := World.grows.heap_of g15.out C0.out
  have c50 := cell_of_heap c5 (i := 0) rfl
  have c51 := cell_of_heap c5 (i := 1) rfl
  have f50 := frozen_of_heap c5 0
  have f51 := frozen_of_heap c5 1
  have hs5 : w.heap.size < W5.heap.size := World.lt_of_block c5
  have C5 := Lib.hid c5
  clear c5
  go_wp2
  generalize hU : World.alloc _ _ = U
  have c7 : U.heap[w.heap.size]? = some (.cells #[.slice (some ⟨W5.heap.size, 0, none⟩) 5 5, .slice (some ⟨w.heap.size + 1, 0, none⟩) 3 3] 25) := by rw [← hU]; exact (World.grows.heap_of (World.grows.alloc (World.grows.refl _) _) (store_of_heap (store_of_heap C5.out 0 _) 1 _)).trans rfl
  have x0 : U.cell? ⟨w.heap.size, 0, none⟩ = some (.slice (some ⟨W5.heap.size, 0, none⟩) 5 5) := cell_of_heap c7 rfl
  have x1 : U.cell? ⟨w.heap.size, 1, none⟩ = some (.slice (some ⟨w.heap.size + 1, 0, none⟩) 3 3) := cell_of_heap c7 rfl
  refine bodyPost_ret (v := .agg #[.slice (some ⟨W5.heap.size, 0, none⟩) 5 5, .slice (some ⟨w.heap.size + 1, 0, none⟩) 3 3]) (by simp [results, Try.results45, go_sem, x0, x1]) rfl ?_
  have hl2 := G2.out.size
  have hl3 := G3.out.size
  have hl4 := G4.out.size
  have hl5 := G5.out.size
  rw [← hU]
  refine ⟨W5.heap.size, w.heap.size + 1, fun m => ([w.heap.size + 1 + 1, W1.heap.size, W2.heap.size, W3.heap.size, W4.heap.size] : List Nat).getD m 0, rfl, ⟨by have := Hs2.out; omega, ?_, ?_, ?_, ?_⟩, World.grows.alloc (World.grows.setCell (World.grows.setCell (G1.out.trans g15.out) (by simp) _) (by simp) _) _, by omega⟩
  · refine five ?_ ?_ ?_ ?_ ?_
    · show W5.heap.size ≠ w.heap.size + 1 + 1
      have := Hs2.out; omega
    · show W5.heap.size ≠ W1.heap.size
      have := H2.out; omega
    · show W5.heap.size ≠ W2.heap.size
      have := H3.out; omega
    · show W5.heap.size ≠ W3.heap.size
      have := H4.out; omega
    · show W5.heap.size ≠ W4.heap.size
      have := H5.out; omega
  · exact World.heap_at _ _ _ (by simp)
  · refine SliceAt.mono (SliceAt.put2 (b := w.heap.size + 1) (by have := Q0.out.mono g15.out; rw [World.size_alloc] at this; exact this) (by omega) _ _) (World.grows.alloc (World.grows.refl _) _)
  · refine five ?_ ?_ ?_ ?_ ?_
    · exact SliceAt.mono (SliceAt.put2 (R1.out.mono g15.out) (by omega) _ _) (World.grows.alloc (World.grows.refl _) _)
    · exact SliceAt.mono (SliceAt.put2 (R2.out.mono (G3.out.trans (G4.out.trans G5.out))) (by omega) _ _) (World.grows.alloc (World.grows.refl _) _)
    · exact SliceAt.mono (SliceAt.put2 (R3.out.mono (G4.out.trans G5.out)) (by omega) _ _) (World.grows.alloc (World.grows.refl _) _)
    · exact SliceAt.mono (SliceAt.put2 (R4.out.mono G5.out) (by omega) _ _) (World.grows.alloc (World.grows.refl _) _)
    · exact SliceAt.mono (SliceAt.put2 R5.out (by omega) _ _) (World.grows.alloc (World.grows.refl _) _)
theorem RegX.at1 {w : World} {mb cb : Nat} {rb : Nat → Nat} (h : RegX w mb cb rb exVal exWho) : RegAt w (.agg #[.slice (some ⟨mb, 0, none⟩) 5 5, .slice (some ⟨cb, 0, none⟩) 3 3]) exR :=
  ⟨_, _, fun m => .slice (some ⟨rb m, 0, none⟩) 3 3, rfl, ⟨_, _, rfl, Nat.le_refl _, by decide, fun i j hi hj => ⟨_, _, rfl, by
    rw [Nat.zero_add]
    refine cell_of_heap h.heap ?_
    have hi : i < 5 := hi
    have hj' : j = 0 ∨ j = 1 := (by omega)
    have hi' : i = 0 ∨ i = 1 ∨ i = 2 ∨ i = 3 ∨ i = 4 := (by omega)
    rcases hi' with rfl | rfl | rfl | rfl | rfl <;> rcases hj' with rfl | rfl <;> rfl⟩⟩, h.cost, h.row⟩
theorem RegX.at2 {w : World} {mb cb : Nat} {rb : Nat → Nat} (h : RegX w mb cb rb exVal2 exWho) : RegAt w (.agg #[.slice (some ⟨mb, 0, none⟩) 5 5, .slice (some ⟨cb, 0, none⟩) 3 3]) exR2 :=
  ⟨_, _, fun m => .slice (some ⟨rb m, 0, none⟩) 3 3, rfl, ⟨_, _, rfl, Nat.le_refl _, by decide, fun i j hi hj => ⟨_, _, rfl, by
    rw [Nat.zero_add]
    refine cell_of_heap h.heap ?_
    have hi : i < 5 := hi
    have hj' : j = 0 ∨ j = 1 := (by omega)
    have hi' : i = 0 ∨ i = 1 ∨ i = 2 ∨ i = 3 ∨ i = 4 := (by omega)
    rcases hi' with rfl | rfl | rfl | rfl | rfl <;> rcases hj' with rfl | rfl <;> rfl⟩⟩, h.cost, h.row⟩
/-- the last mark of the register is changed -/
theorem RegX.put {w : World} {mb cb : Nat} {rb : Nat → Nat} (h : RegX w mb cb rb exVal exWho) {b : Nat} (hb : mb ≠ b) (hr : SliceAt w (.slice (some ⟨b, 0, none⟩) 3 3) 3 1 (fun i _ => .int .i64 (exVal2 4 i))) :
    RegX ((w.setCell ⟨mb, 8, none⟩ (.int .i64 9)).setCell ⟨mb, 9, none⟩ (.slice (some ⟨b, 0, none⟩) 3 3)) mb cb (fun m => if m = 4 then b else rb m) exVal2 exWho where
  ne := h.ne
  nr := fun m hm => by
    split
    · exact hb
    · exact h.nr m hm
  heap := (store_of_heap (store_of_heap h.heap 8 _) 9 _).trans rfl
  cost := SliceAt.putN h.cost h.ne _ _ _ _
  row := fun m hm => by
    have hm' : m = 0 ∨ m = 1 ∨ m = 2 ∨ m = 3 ∨ m = 4 := (by omega)
    rcases hm' with rfl | rfl | rfl | rfl | rfl
    · exact SliceAt.putN (h.row 0 (by omega)) (h.nr 0 (by omega)) _ _ _ _
    · exact SliceAt.putN (h.row 1 (by omega)) (h.nr 1 (by omega)) _ _ _ _
    · exact SliceAt.putN (h.row 2 (by omega)) (h.nr 2 (by omega)) _ _ _ _
    · exact SliceAt.putN (h.row 3 (by omega)) (h.nr 3 (by omega)) _ _ _ _
    · exact SliceAt.putN hr hb _ _ _ _
theorem exReg_c (w : World) : Calls Try.prog 45 #[] w fun e w' => ∃ v, e = .returned v ∧ RegAt w' v exR ∧ w.grows w' :=
  (exRegX_c w).mono (by
    rintro e w' ⟨mb, cb, rb, rfl, h, hg, -⟩
    exact ⟨_, rfl, h.at1, hg⟩)
end Go.Proofs.Ytdminglglapnlaa

/-
  What is proved: a feature parts some marks just if some part that is not empty is not all of them.
-/
namespace Go.Proofs.Ytdminglglapnlaa

theorem Reg.parted_some (r : Reg) (hr : r.Ok) {s f : Nat} (hs : s < 2 ^ r.nm) (hf : f < r.nc) : r.parted s f = (List.range 10).any fun v => decide (r.part s f (v : Nat) ≠ 0) && decide (r.part s f (v : Nat) ≠ s) := by
  rw [Bool.eq_iff_iff, r.parted_iff]
  simp only [List.any_eq_true, List.mem_range, Bool.and_eq_true, decide_eq_true_eq]
  have bit : ∀ x, x ≠ 0 → ∃ m, x.testBit m = true := fun x hx => Nat.exists_testBit_of_ne_zero hx
  constructor
  · intro h
    by_cases h0 : s = 0
    · exfalso
      have h1 := h 0 (by omega)
      apply h1
      have h2 := r.part_le hs f ((0 : Nat) : Int)
      omega
    · obtain ⟨m, hm⟩ := bit s h0
      have hmn : m < r.nm := by
        rcases Nat.lt_or_ge m r.nm with h1 | h1
        · exact h1
        · rw [Nat.testBit_lt_two_pow (Nat.lt_of_lt_of_le hs (Nat.pow_le_pow_right (by omega) h1))] at hm; cases hm
      have hv := hr.val m f hmn hf
      refine ⟨(r.val m f).toNat, by omega, ?_, h _ (by omega)⟩
      intro he
      have h2 := r.testBit_part s f (((r.val m f).toNat : Nat) : Int) m
      rw [he] at h2
      simp [hmn, hm] at h2
      omega
  · rintro ⟨v, hv, h1, h2⟩ v' hv' he
    obtain ⟨m, hm⟩ := bit _ h1
    have hm1 := hm
    rw [r.testBit_part] at hm1
    simp at hm1
    have hm2 : (r.part s f (v' : Nat)).testBit m = true := by rw [he]; exact hm1.2.1
    rw [r.testBit_part] at hm2
    simp at hm2
    have : v = v' := by have := hm1.2.2; have := hm2.2.2; omega
    subst this
    exact h2 he
theorem Reg.mostR_skip {r : Reg} {c : Nat → Int} (h0 : c 0 = 0) {s f v : Nat} (h : r.part s f (v : Nat) = 0) : r.mostR c s f (v + 1) = r.mostR c s f v := by
  simp only [Reg.mostR]
  rw [h, h0]
  have := r.mostR_nonneg c s f v
  omega
end Go.Proofs.Ytdminglglapnlaa

/-
  What is proved: twins in the reference (39, 16).
-/
namespace Go.Proofs.Ytdminglglapnlaa
open Go.RowKit
attribute [local irreducible] Go.wpCalm

theorem Reg.twin_of {r : Reg} {a b : Nat} (h1 : r.who a ≠ r.who b) (h2 : ∀ f, f < r.nc → r.val a f = r.val b f) : r.twin a b = true := (r.twin_iff a b).2 ⟨h1, h2⟩
theorem Reg.twin_who {r : Reg} {a b : Nat} (h : r.who a = r.who b) : r.twin a b = false := by
  cases ht : r.twin a b with
  | false => rfl
  | true => exact absurd h ((r.twin_iff a b).1 ht).1
theorem Reg.twin_val {r : Reg} {a b f : Nat} (hf : f < r.nc) (h : r.val a f ≠ r.val b f) : r.twin a b = false := by
  cases ht : r.twin a b with
  | false => rfl
  | true => exact absurd (((r.twin_iff a b).1 ht).2 f hf) h

set_option maxHeartbeats 1000000 in
theorem isTwins_c (w : World) (v : Value) (r : Reg) (hv : RegOk w v r) (a b : Nat) (ha : a < r.nm) (hb : b < r.nm) :
    Calls Try.prog 39 #[v, .int .i64 a, .int .i64 b] w fun e w' => e = .returned (.bool (r.twin a b)) ∧ w.grows w' := by
  obtain ⟨mb, mo, mc, cb, co, cc, rb, ro, rc, rfl, hm1, hm2, hc1, hc2, hR⟩ := hv
  have h1 := hR.who a ha
  have h2 := hR.who b hb
  have k1 := hR.row a ha
  have k2 := hR.row b hb
  obtain ⟨ac1, ac2⟩ := hR.cap a ha
  obtain ⟨bc1, bc2⟩ := hR.cap b hb
  have HR := Lib.hid hR
  unfold maxLen at hm2 hc2 ac2 bc2
  clear hR
  go_enter Try.func39, Try.ntmps39
  by_cases hw : r.who a = r.who b
  · have ht := Lib.hid (Reg.twin_who hw)
    rw [hw] at h1
    clear hw
    go_wp2
    (refine wp_region_calm (by kernel_rfl) (by kernel_rfl) ?_; (repeat (refine wpCalm_step (fun K hK => ?_); go_simp; first | (refine hK _ ?_; clear hK K) | (apply Exists.intro; refine ⟨fun n' x' => ?_, hK _ ?_⟩; (fail); clear hK K))); refine wpCalm_nil ?_; intro nq xq)
    go_wp2
    (refine bodyPost_ret (v := .bool false) (by simp [results, Try.results39, go_sem]) rfl ?_)
    exact ⟨by rw [ht.out], by (repeat (first | exact World.grows.refl _ | assumption | refine World.grows.alloc ?_ _ | refine World.grows.plus ?_ _ _ | refine World.grows.drew ?_))⟩
  · have hwb : (r.who a == r.who b) = false := beq_eq_false_iff_ne.2 hw
    have Hw := Lib.hid hw
    go_wp2
    (refine wp_region_calm (by kernel_rfl) (by kernel_rfl) ?_; (repeat (refine wpCalm_step (fun K hK => ?_); go_simp; first | (refine hK _ ?_; clear hK K) | (apply Exists.intro; refine ⟨fun n' x' => ?_, hK _ ?_⟩; (fail); clear hK K))); refine wpCalm_nil ?_; intro nq xq)
    go_wp2
    clear hw hwb h1 h2
    go_loopw [7] (fun i wr => ∃ k : Nat, k ≤ r.nc ∧ i = .int .i64 k ∧ Hid (∀ j, j < k → r.val a j = r.val b j) ∧ (w.alloc (.cells #[.slice (some ⟨mb, mo, none⟩) r.nm mc, .slice (some ⟨cb, co, none⟩) r.nc cc] 25)).grows wr) (fun i _ => r.nc - (intOf i).toNat)
    case atStart => exact ⟨0, by omega, rfl, Lib.hid fun j hj => by omega, by (repeat (first | exact World.grows.refl _ | assumption | refine World.grows.alloc ?_ _ | refine World.grows.plus ?_ _ _ | refine World.grows.drew ?_))⟩
    case round =>
      obtain ⟨k, hk, rfl, hl, hg⟩ := hrel
      obtain ⟨n1, x1, rfl⟩ := World.plus_of hg
      by_cases hlt : k < r.nc
      · have h3 := HR.out.val a k ha hlt
        have h4 := HR.out.val b k hb hlt
        by_cases he : r.val a k = r.val b k
        · have hnx := Lib.hid (upto_succ hl.out he)
          rw [he] at h3
          clear he
          go_wp2
          (refine wp_region_calm (by kernel_rfl) (by kernel_rfl) ?_; (repeat (refine wpCalm_step (fun K hK => ?_); go_simp; first | (refine hK _ ?_; clear hK K) | (apply Exists.intro; refine ⟨fun n' x' => ?_, hK _ ?_⟩; (fail); clear hK K))); refine wpCalm_nil ?_; intro nq xq)
          go_wp2
          go_roundw
          case rel => exact ⟨k + 1, by omega, by go_num, hnx, by (repeat (first | exact World.grows.refl _ | assumption | refine World.grows.alloc ?_ _ | refine World.grows.plus ?_ _ _ | refine World.grows.drew ?_))⟩
          case measure => simp [intOf]; omega
        · have ht := Lib.hid (Reg.twin_val hlt he)
          have hwb : (r.val a k == r.val b k) = false := beq_eq_false_iff_ne.2 he
          go_wp2
          (refine wp_region_calm (by kernel_rfl) (by kernel_rfl) ?_; (repeat (refine wpCalm_step (fun K hK => ?_); go_simp; first | (refine hK _ ?_; clear hK K) | (apply Exists.intro; refine ⟨fun n' x' => ?_, hK _ ?_⟩; (fail); clear hK K))); refine wpCalm_nil ?_; intro nq xq)
          go_wp2
          (refine bodyPost_ret (v := .bool false) (by simp [results, Try.results39, go_sem]) rfl ?_)
          exact ⟨by rw [ht.out], by (repeat (first | exact World.grows.refl _ | assumption | refine World.grows.alloc ?_ _ | refine World.grows.plus ?_ _ _ | refine World.grows.drew ?_))⟩
      · have hke : k = r.nc := by omega
        have ht := Lib.hid (Reg.twin_of Hw.out (by rw [← hke]; exact hl.out))
        subst hke
        go_wp2
        (refine bodyPost_ret (v := .bool true) (by simp [results, Try.results39, go_sem]) rfl ?_)
        exact ⟨by rw [ht.out], by (repeat (first | exact World.grows.refl _ | assumption | refine World.grows.alloc ?_ _ | refine World.grows.plus ?_ _ _ | refine World.grows.drew ?_))⟩

set_option maxHeartbeats 1000000 in
theorem rtwins_c (w : World) (v : Value) (r : Reg) (hv : RegAt w v r) :
    Calls Try.prog 16 #[v] w fun e w' => ∃ x y z, e = .returned (.tuple #[.int .i64 x, .int .i64 y, .int .i64 z]) ∧ r.TwinIs x y z ∧ w.grows w' := by
  have Hv := Lib.hid hv
  obtain ⟨mv, cv, row, rfl, hmv, hcv, -⟩ := hv
  have h22 := fun W h => rcheck_c W (.agg #[mv, cv]) r h
  go_enter Try.func16, Try.ntmps16
  by_cases hc : r.check = 0
  · have Hok := Lib.hid (Hv.out.ok (Reg.ok_of hc))
    rw [hc] at h22
    have Hc := Lib.hid hc
    have hm10 := (Reg.ok_of hc).m10
    obtain ⟨mb, mo, mc, cb, co, cc, rb, ro, rc, he, hm1, hm2, hc1, hc2, -⟩ := Hok.out
    simp only [Value.agg.injEq, Array.mk.injEq, List.cons.injEq, and_true] at he
    obtain ⟨rfl, rfl⟩ := he
    unfold maxLen at hm2 hc2
    have h39 := fun W h a b ha hb => isTwins_c W (.agg #[.slice (some ⟨mb, mo, none⟩) r.nm mc, .slice (some ⟨cb, co, none⟩) r.nc cc]) r h a b ha hb
    clear hc hmv hcv
    go_wp2_with (go_at_call 22; refine (h22 _ (Hv.out.mono (by (repeat (first | exact World.grows.refl _ | assumption | refine World.grows.alloc ?_ _ | refine World.grows.plus ?_ _ _ | refine World.grows.drew ?_))))).mono ?_; rintro e w' ⟨rfl, hg⟩; obtain ⟨n2, x2, rfl⟩ := World.plus_of hg)
    go_loopw [5] (fun i wr => ∃ a : Nat, a ≤ r.nm ∧ i = .int .i64 a ∧ Hid (∀ x, x < a → ∀ y, x < y → y < r.nm → r.twin x y = false) ∧ (w.alloc (.cells #[.slice (some ⟨mb, mo, none⟩) r.nm mc, .slice (some ⟨cb, co, none⟩) r.nc cc] 25)).grows wr) (fun i _ => r.nm - (intOf i).toNat)
    case atStart => exact ⟨0, by omega, rfl, Lib.hid fun j hj => by omega, by (repeat (first | exact World.grows.refl _ | assumption | refine World.grows.alloc ?_ _ | refine World.grows.plus ?_ _ _ | refine World.grows.drew ?_))⟩
    case round =>
      obtain ⟨a, ha, rfl, hl, hg⟩ := hrel
      obtain ⟨n1, x1, rfl⟩ := World.plus_of hg
      by_cases hlt : a < r.nm
      · go_wp2
        go_loopw [6] (fun i wr => ∃ b : Nat, a < b ∧ b ≤ r.nm ∧ i = .int .i64 b ∧ Hid (∀ y, y < b → a < y → r.twin a y = false) ∧ (w.alloc (.cells #[.slice (some ⟨mb, mo, none⟩) r.nm mc, .slice (some ⟨cb, co, none⟩) r.nc cc] 25)).grows wr) (fun i _ => r.nm - (intOf i).toNat)
        case atStart => exact ⟨a + 1, by omega, by omega, rfl, Lib.hid fun j hj => by omega, by (repeat (first | exact World.grows.refl _ | assumption | refine World.grows.alloc ?_ _ | refine World.grows.plus ?_ _ _ | refine World.grows.drew ?_))⟩
        case round =>
          obtain ⟨b, hab, hb, rfl, hl2, hg2⟩ := hrel
          obtain ⟨n3, x3, rfl⟩ := World.plus_of hg2
          by_cases hlt2 : b < r.nm
          · cases ht : r.twin a b with
            | true =>
              have h9 := fun W h => h39 W h a b hlt hlt2
              rw [ht] at h9
              have hT : Hid (r.TwinIs a b 0) := Lib.hid (.some a b Hc.out ⟨hab, hlt2, ht, fun i' k' h1 h2 h3 => hl.out i' h1 k' h2 h3, fun k' h1 h2 => hl2.out k' h2 h1⟩)
              clear ht h39
              go_wp2_with (go_at_call 39; refine (h9 _ (Hok.out.mono (by (repeat (first | exact World.grows.refl _ | assumption | refine World.grows.alloc ?_ _ | refine World.grows.plus ?_ _ _ | refine World.grows.drew ?_))))).mono ?_; rintro e w' ⟨rfl, hg2⟩; obtain ⟨n4, x4, rfl⟩ := World.plus_of hg2)
              (refine bodyPost_ret (v := .tuple #[.int .i64 a, .int .i64 b, .int .i64 0]) (by simp [results, Try.results16, go_sem]) rfl ?_)
              exact ⟨_, _, _, rfl, hT.out, by (repeat (first | exact World.grows.refl _ | assumption | refine World.grows.alloc ?_ _ | refine World.grows.plus ?_ _ _ | refine World.grows.drew ?_))⟩
            | false =>
              have h9 := fun W h => h39 W h a b hlt hlt2
              rw [ht] at h9
              have hnx := Lib.hid (upto_succ hl2.out (fun _ => ht))
              clear ht h39
              go_wp2_with (go_at_call 39; refine (h9 _ (Hok.out.mono (by (repeat (first | exact World.grows.refl _ | assumption | refine World.grows.alloc ?_ _ | refine World.grows.plus ?_ _ _ | refine World.grows.drew ?_))))).mono ?_; rintro e w' ⟨rfl, hg2⟩; obtain ⟨n4, x4, rfl⟩ := World.plus_of hg2)
              go_roundw
              case rel => exact ⟨b + 1, by omega, by omega, by go_num, hnx, by (repeat (first | exact World.grows.refl _ | assumption | refine World.grows.alloc ?_ _ | refine World.grows.plus ?_ _ _ | refine World.grows.drew ?_))⟩
              case measure => simp [intOf]; omega
          · have hbe : b = r.nm := by omega
            have hnx := Lib.hid (upto_succ hl.out (fun y h1 h2 => hl2.out y (by omega) h1))
            subst hbe
            go_wp2
            go_roundw
            case rel => exact ⟨a + 1, by omega, by go_num, hnx, by (repeat (first | exact World.grows.refl _ | assumption | refine World.grows.alloc ?_ _ | refine World.grows.plus ?_ _ _ | refine World.grows.drew ?_))⟩
            case measure => simp [intOf]; omega
      · have hae : a = r.nm := by omega
        have hT : Hid (r.TwinIs 0 0 5) := Lib.hid (.none Hc.out fun i k h1 h2 => hl.out i (by omega) k h1 h2)
        subst hae
        go_wp2
        (refine bodyPost_ret (v := .tuple #[.int .i64 0, .int .i64 0, .int .i64 5]) (by simp [results, Try.results16, go_sem]) rfl ?_)
        exact ⟨_, _, _, rfl, hT.out, by (repeat (first | exact World.grows.refl _ | assumption | refine World.grows.alloc ?_ _ | refine World.grows.plus ?_ _ _ | refine World.grows.drew ?_))⟩
  · have hT : Hid (r.TwinIs 0 0 r.check) := Lib.hid (.bad hc)
    go_wp2_with (go_at_call 22; refine (h22 _ (Hv.out.mono (by (repeat (first | exact World.grows.refl _ | assumption | refine World.grows.alloc ?_ _ | refine World.grows.plus ?_ _ _ | refine World.grows.drew ?_))))).mono ?_; rintro e w' ⟨rfl, hg⟩; obtain ⟨n2, x2, rfl⟩ := World.plus_of hg)
    (refine bodyPost_ret (v := .tuple #[.int .i64 0, .int .i64 0, .int .i64 r.check]) (by simp [results, Try.results16, go_sem]) rfl ?_)
    exact ⟨_, _, _, rfl, hT.out, by (repeat (first | exact World.grows.refl _ | assumption | refine World.grows.alloc ?_ _ | refine World.grows.plus ?_ _ _ | refine World.grows.drew ?_))⟩
end Go.Proofs.Ytdminglglapnlaa

