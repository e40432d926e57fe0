/-
  What is proved: the entry of a map that is read, changed and stored ('m[k] += v'); plain laws of the lists that maps are.
-/
import Derived.Test.YtjpccfpmhmddjaaM2
import Derived.Test.YtjpccfpmhmddjaaM3
import Derived.Lib.Hide
set_option linter.all false
namespace Go
open Go.RowKit

section
variable {K : Type} [DecidableEq K]

theorem PM.fnd_none_iff : ∀ (l : List (K × Int × Nat)) (k : K) (i : Nat), PM.fnd l k i = none ↔ k ∉ l.map (·.1)
  | [], _, _ => by simp [PM.fnd]
  | x :: r, k, i => by
    simp only [PM.fnd]
    by_cases h : k = x.1
    · simp [h]
    · simp only [h, if_false, List.map_cons, List.mem_cons, false_or]
      exact PM.fnd_none_iff r k (i + 1)
theorem PM.fnd_shift : ∀ (l : List (K × Int × Nat)) (k : K) (i j : Nat), (PM.fnd l k i).map (·.2) = (PM.fnd l k j).map (·.2)
  | [], _, _, _ => rfl
  | x :: r, k, i, j => by
    simp only [PM.fnd]
    by_cases h : k = x.1
    · simp [h]
    · simp only [h, if_false]
      exact PM.fnd_shift r k _ _
theorem PM.fnd_append : ∀ (l r : List (K × Int × Nat)) (k : K) (i : Nat), PM.fnd (l ++ r) k i = match PM.fnd l k i with | some p => some p | none => PM.fnd r k (i + l.length)
  | [], r, k, i => by simp [PM.fnd]
  | x :: l, r, k, i => by
    simp only [List.cons_append, PM.fnd]
    by_cases h : k = x.1
    · simp [h]
    · simp only [h, if_false]
      rw [PM.fnd_append l r k (i + 1), List.length_cons, show i + 1 + l.length = i + (l.length + 1) by omega]
theorem PM.fnd_put (v : Int) : ∀ (l : List (K × Int × Nat)) (k j : K) (i : Nat), (PM.fnd (PM.put l k v) j i).map (·.2) = if j = k ∧ (PM.fnd l k i).isSome then some v else (PM.fnd l j i).map (·.2)
  | [], k, j, i => by simp [PM.put, PM.fnd]
  | x :: r, k, j, i => by
    have ih := PM.fnd_put v r k j (i + 1)
    simp only [PM.put, PM.fnd]
    by_cases h : k = x.1
    · subst h
      by_cases h2 : j = x.1
      · subst h2; simp [PM.fnd]
      · simp [PM.fnd, h2]
    · simp only [h, if_false, PM.fnd]
      by_cases h2 : j = x.1
      · subst h2
        simp [Ne.symm h]
      · simp only [h2, if_false]
        exact ih

theorem PM.get_set (m : PM K) (k j : K) (v : Int) : (m.set k v).get j = if j = k then some v else m.get j := by
  unfold PM.set
  split
  · rename_i h
    have h' : (PM.fnd m.l k 0).isSome = true := by simpa [PM.get] using h
    have := PM.fnd_put v m.l k j 0
    simp only [PM.get, this, h', and_true]
  · rename_i h
    have h' : PM.fnd m.l k 0 = none := by
      cases hf : PM.fnd m.l k 0 with
      | none => rfl
      | some p => simp [PM.get, hf] at h
    simp only [PM.get, PM.fnd_append]
    by_cases hj : j = k
    · subst hj
      rw [h']
      simp [PM.fnd]
    · rw [if_neg hj]
      cases PM.fnd m.l j 0 with
      | none => simp [PM.fnd, hj]
      | some p => rfl
theorem PM.getD_set (m : PM K) (k j : K) (v : Int) : (m.set k v).getD j = if j = k then v else m.getD j := by
  unfold PM.getD
  rw [PM.get_set]
  split <;> rfl
theorem PM.get_empty (k : K) : (PM.empty K).get k = none := rfl
theorem PM.getD_empty (k : K) : (PM.empty K).getD k = 0 := rfl

theorem PM.put_keys (v : Int) : ∀ (l : List (K × Int × Nat)) (k : K), (PM.put l k v).map (·.1) = l.map (·.1)
  | [], _ => rfl
  | x :: r, k => by
    simp only [PM.put]
    split
    · rfl
    · simp [PM.put_keys v r k]
theorem PM.put_born (v : Int) : ∀ (l : List (K × Int × Nat)) (k : K), (PM.put l k v).map (·.2.2) = l.map (·.2.2)
  | [], _ => rfl
  | x :: r, k => by
    simp only [PM.put]
    split
    · rfl
    · simp [PM.put_born v r k]
theorem PM.Ok.lt {m : PM K} (h : m.Ok) : ∀ b ∈ m.l.map (·.2.2), b < m.clock := by
  intro b hb
  obtain ⟨x, hx, rfl⟩ := List.mem_map.1 hb
  exact h.clock x hx
theorem PM.Ok.of {m : PM K} (h1 : (m.l.map (·.1)).Nodup) (h2 : (m.l.map (·.2.2)).Pairwise (· < ·)) (h3 : ∀ b ∈ m.l.map (·.2.2), b < m.clock) : m.Ok :=
  ⟨h1, h2, fun x hx => h3 _ (List.mem_map.2 ⟨x, hx, rfl⟩)⟩
theorem PM.Ok.empty : (PM.empty K).Ok := ⟨List.nodup_nil, List.Pairwise.nil, fun _ h => absurd h (by simp [PM.empty])⟩
theorem PM.Ok.set {m : PM K} (h : m.Ok) (k : K) (v : Int) : (m.set k v).Ok := by
  unfold PM.set
  split
  · exact PM.Ok.of (by rw [PM.put_keys]; exact h.keys) (by rw [PM.put_born]; exact h.born) (by rw [PM.put_born]; exact h.lt)
  · rename_i hn
    have h' : PM.fnd m.l k 0 = none := by
      cases hf : PM.fnd m.l k 0 with
      | none => rfl
      | some p => simp [PM.get, hf] at hn
    have hk := (PM.fnd_none_iff m.l k 0).1 h'
    refine PM.Ok.of ?_ ?_ ?_
    · simp only [List.map_append, List.map_cons, List.map_nil]
      rw [List.nodup_append]
      refine ⟨h.keys, by simp, fun a ha b hb => ?_⟩
      simp at hb
      subst hb
      intro he
      subst he
      exact hk ha
    · simp only [List.map_append, List.map_cons, List.map_nil, List.pairwise_append]
      refine ⟨h.born, by simp, fun a ha b hb => ?_⟩
      simp at hb
      subst hb
      exact h.lt a ha
    · intro b hb
      simp only [List.map_append, List.map_cons, List.map_nil, List.mem_append, List.mem_singleton] at hb
      rcases hb with hb | rfl
      · have := h.lt b hb
        show b < m.clock + 1
        omega
      · show m.clock < m.clock + 1
        omega

/-- the map with an entry for k -/
def PM.touch (m : PM K) (k : K) : PM K := if (m.get k).isSome then m else m.set k 0
/-- the stamp of k's entry -/
def PM.stamp (m : PM K) (k : K) : Nat := match PM.fnd m.l k 0 with | some p => ((m.l[p.1]?).map (·.2.2)).getD 0 | none => m.clock
theorem PM.Ok.touch {m : PM K} (h : m.Ok) (k : K) : (m.touch k).Ok := by
  unfold PM.touch
  split
  · exact h
  · exact h.set k 0
theorem PM.touch_set (m : PM K) (k : K) (v : Int) : (m.touch k).set k v = m.set k v := by
  unfold PM.touch
  split
  · rfl
  · rename_i h
    have h' : PM.fnd m.l k 0 = none := by
      cases hf : PM.fnd m.l k 0 with
      | none => rfl
      | some p => simp [PM.get, hf] at h
    have hs : ((m.set k 0).get k).isSome = true := by rw [PM.get_set, if_pos rfl]; rfl
    have e1 : m.set k 0 = ⟨m.l ++ [(k, 0, m.clock)], m.clock + 1⟩ := by unfold PM.set; rw [if_neg h]
    have e2 : m.set k v = ⟨m.l ++ [(k, v, m.clock)], m.clock + 1⟩ := by unfold PM.set; rw [if_neg h]
    rw [e2, PM.set, if_pos hs, e1]
    have hk := (PM.fnd_none_iff m.l k 0).1 h'
    have : ∀ (l : List (K × Int × Nat)), k ∉ l.map (·.1) → PM.put (l ++ [(k, 0, m.clock)]) k v = l ++ [(k, v, m.clock)] := by
      intro l
      induction l with
      | nil => intro _; simp [PM.put]
      | cons x r ih =>
        intro hn
        simp only [List.map_cons, List.mem_cons, not_or] at hn
        simp only [List.cons_append, PM.put, hn.1, if_false]
        rw [ih hn.2]
    rw [this m.l hk]
theorem PM.touch_getD (m : PM K) (k j : K) : (m.touch k).getD j = m.getD j := by
  unfold PM.touch
  split
  · rfl
  · rename_i h
    rw [PM.getD_set]
    split
    · rename_i hj
      subst hj
      have : m.get j = none := by
        cases hg : m.get j with
        | none => rfl
        | some v => rw [hg] at h; simp at h
      simp [PM.getD, this]
    · rfl

variable {P : Program} {kT T eT : TypeId} {eK : K → Value}

theorem run_mapEntry_pm (hk : KeyOk P kT eK) (hT : P.underlying T = some (.map kT eT)) (hz : ∀ w, (zeroValue eT).run P w = .ok (.int .i64 0) w) (m : PM K) (b : Nat) (w : World)
    (hb : w.heap[b]? = some (m.obj eK)) (k : K) : (Instr.mapEntry T (.map (some b)) (eK k)).run P w = .ok (.tuple #[.int .i64 (m.getD k), goInt (m.stamp k)]) (w.putObj b ((m.touch k).obj eK)) := by
  have hb' : w.heap[b]? = some (.map (PM.ents eK m.l).toArray m.clock) := hb
  have hset : ∀ o, (setObj b o).run P w = .ok () (w.putObj b o) := fun o => by simp [setObj, Sem.run, hb', World.putObj]
  simp only [Instr.mapEntry, Sem.run_bind, run_underlying hT, Result.andThen, MapKept.run_getObj_map hb', hk.chk, run_findKey_pm hk]
  cases hf : PM.fnd m.l k 0 with
  | none =>
    have hg : (m.get k).isSome = false := by simp [PM.get, hf]
    have hgn : m.get k = none := by simp [PM.get, hf]
    simp only [Option.map_none, Sem.run_bind, hz, Result.andThen, hset, Sem.run_pure, PM.touch, PM.set, hg, Bool.false_eq_true, if_false, PM.obj, PM.ents, List.map_append, List.map_cons, List.map_nil, PM.stamp, hf, PM.getD, hgn]
    simp
  | some p =>
    obtain ⟨j, u⟩ := p
    have hg : (m.get k).isSome = true := by simp [PM.get, hf]
    have hgs : m.get k = some u := by simp [PM.get, hf]
    obtain ⟨_, bn, hat⟩ := PM.fnd_spec m.l k 0 j u hf
    rw [Nat.sub_zero] at hat
    have hk0 : (((PM.ents eK m.l).toArray)[j]?.map (·.key)).getD (eK k) = eK k := by simp [PM.ents, hat]
    have hb0 : (((PM.ents eK m.l).toArray)[j]?.map (·.born)).getD 0 = bn := by simp [PM.ents, hat]
    have hm : (PM.ents eK m.l).modify j (fun e => { e with key := eK k }) = PM.ents eK m.l := by
      apply List.ext_getElem?
      intro i
      rw [List.getElem?_modify]
      by_cases hij : j = i
      · subst hij; simp [PM.ents, hat]
      · simp [hij]
    simp only [Option.map_some, Instr.keyThatStays, hk0, hk.bits, if_true, Sem.run_pure, Sem.run_bind, Result.andThen, hset, PM.touch, hg, PM.obj, hb0, PM.stamp, hf, PM.getD, hgs, hat]
    rw [List.modify_toArray, hm]
    simp [PM.ents, hat]

theorem PM.stamp_touch (m : PM K) (k : K) : (m.touch k).stamp k = m.stamp k ∧ ∃ j u, PM.fnd (m.touch k).l k 0 = some (j, u) ∧ ∃ x, (m.touch k).l[j]? = some (k, x, m.stamp k) := by
  unfold PM.touch
  split
  · rename_i h
    refine ⟨rfl, ?_⟩
    cases hf : PM.fnd m.l k 0 with
    | none => simp [PM.get, hf] at h
    | some p =>
      obtain ⟨j, u⟩ := p
      obtain ⟨_, bn, hat⟩ := PM.fnd_spec m.l k 0 j u hf
      rw [Nat.sub_zero] at hat
      refine ⟨j, u, rfl, u, ?_⟩
      simp [PM.stamp, hf, hat]
  · rename_i h
    have h' : PM.fnd m.l k 0 = none := by
      cases hf : PM.fnd m.l k 0 with
      | none => rfl
      | some p => simp [PM.get, hf] at h
    have e1 : m.set k 0 = ⟨m.l ++ [(k, 0, m.clock)], m.clock + 1⟩ := by unfold PM.set; rw [if_neg h]
    have hf : PM.fnd (m.l ++ [(k, 0, m.clock)]) k 0 = some (m.l.length, 0) := by rw [PM.fnd_append, h']; simp [PM.fnd]
    rw [e1]
    refine ⟨?_, m.l.length, 0, hf, 0, ?_⟩
    · simp [PM.stamp, hf, h']
    · simp [PM.stamp, h']

theorem run_entryStore_pm (m : PM K) (hm : m.Ok) (k : K) (b : Nat) (w : World) (T : TypeId) (hb : w.heap[b]? = some ((m.touch k).obj eK)) (v : Int) :
    (Instr.entryStore T (.map (some b)) (goInt (m.stamp k)) (.int .i64 v)).run P w = .ok () (w.putObj b ((m.set k v).obj eK)) := by
  have hb' : w.heap[b]? = some (.map (PM.ents eK (m.touch k).l).toArray (m.touch k).clock) := hb
  have hset : ∀ o, (setObj b o).run P w = .ok () (w.putObj b o) := fun o => by simp [setObj, Sem.run, hb', World.putObj]
  obtain ⟨_, j, u, hf, x, hat⟩ := PM.stamp_touch m k
  have hok := hm.touch k
  have hidx : (PM.ents eK (m.touch k).l).findIdx? (fun e => (e.born : Int) == (m.stamp k : Int)) = some j := by
    rw [List.findIdx?_eq_some_iff_getElem]
    have hlt : j < (PM.ents eK (m.touch k).l).length := by
      have := (List.getElem?_eq_some_iff.1 hat).1
      simpa [PM.ents] using this
    refine ⟨hlt, ?_, fun i hij => ?_⟩
    · obtain ⟨h1, h2⟩ := List.getElem?_eq_some_iff.1 hat
      simp [PM.ents, h2]
    · have hp := hok.born
      rw [List.pairwise_iff_getElem] at hp
      have hj := (List.getElem?_eq_some_iff.1 hat)
      have := hp i j (by simp; have := hj.1; omega) (by simpa using hj.1) hij
      simp only [List.getElem_map] at this
      simp only [PM.ents, List.getElem_map, beq_iff_eq]
      have h2 := hj.2
      rw [h2] at this
      simp only at this
      omega
  have hput := PM.put_modify (eK := eK) v (m.touch k).l k 0 j u hf
  rw [Nat.sub_zero] at hput
  have hkey : (PM.ents eK (m.touch k).l).modify j (fun e => { e with val := .int .i64 v }) = (PM.ents eK (m.touch k).l).modify j (fun e => { e with key := eK k, val := .int .i64 v }) := by
    apply List.ext_getElem?
    intro i
    rw [List.getElem?_modify, List.getElem?_modify]
    by_cases hij : j = i
    · subst hij; simp [PM.ents, hat]
    · simp [hij]
  have hgs : ((m.touch k).get k).isSome = true := by simp [PM.get, hf]
  have hcl : m.set k v = ⟨PM.put (m.touch k).l k v, (m.touch k).clock⟩ := by rw [← PM.touch_set, PM.set, if_pos hgs]
  rw [hcl]
  simp only [Instr.entryStore, Sem.run_bind, MapKept.run_getObj_map hb', Result.andThen, asInt, asIntOf, goInt, Sem.run_pure, List.findIdx?_toArray, hidx, hset, PM.obj, List.modify_toArray]
  rw [hkey, hput]
end
end Go

/-
  What is proved: the marks of ranges over functions among the deferred calls are taken off at the return; a world in which a map has been changed.
-/
namespace Go
open Go.RowKit

/-- marks of ranges over functions, each at a block of its own, not below B -/
def Marks (B : Nat) : List Deferred → World → Prop
  | [], _ => True
  | d :: ds, w => (∃ D, d.target = .collected D ∧ B ≤ D ∧ w.heap[D]? = some (.deferred (some [])) ∧ ∀ d' ∈ ds, d'.target ≠ .collected D) ∧ Marks B ds w

theorem Marks.keep {B : Nat} {w w' : World} (h : ∀ D : Nat, w.heap[D]? = some (.deferred (some [])) → w'.heap[D]? = some (.deferred (some []))) : ∀ {ds : List Deferred}, Marks B ds w → Marks B ds w'
  | [], _ => trivial
  | _ :: _, ⟨⟨D, h1, h2, h3, h4⟩, hr⟩ => ⟨⟨D, h1, h2, h D h3, h4⟩, Marks.keep h hr⟩
theorem Marks.mono {B : Nat} {w w' : World} (g : w.grows w') {ds : List Deferred} (h : Marks B ds w) : Marks B ds w' :=
  h.keep fun D hD => by rw [g.heap (by rw [hD]; rfl)]; exact hD
theorem Marks.put {B : Nat} {w : World} {b : Nat} {o : Obj} (hb : ∀ c, w.heap[b]? ≠ some (.deferred c)) {ds : List Deferred} (h : Marks B ds w) : Marks B ds (w.putObj b o) :=
  h.keep fun D hD => by
    by_cases hDb : D = b
    · subst hDb; exact absurd hD (hb _)
    · rw [World.putObj_heap_other hDb]; exact hD
theorem Marks.lt {B : Nat} {w : World} : ∀ {ds : List Deferred}, Marks B ds w → ∀ d ∈ ds, ∀ D, d.target = .collected D → D < w.heap.size
  | [], _, _, hd, _, _ => absurd hd (by simp)
  | d :: ds, ⟨⟨D, h1, _, h3, _⟩, hr⟩, d', hd, D', hD' => by
    rcases List.mem_cons.1 hd with rfl | hd
    · rw [h1] at hD'; cases hD'; exact World.lt_of_block h3
    · exact hr.lt d' hd D' hD'
theorem Marks.push {B : Nat} {w w' : World} {ds : List Deferred} (h : Marks B ds w) (g : (w.alloc (.deferred (some []))).grows w') (hB : B ≤ w.heap.size) :
    Marks B ({ target := .collected w.heap.size, args := #[] } :: ds) w' := by
  refine ⟨⟨w.heap.size, rfl, hB, by rw [g.heap (by rw [heap_alloc_new]; rfl)]; exact heap_alloc_new w _, fun d' hd he => ?_⟩, h.mono ((World.grows.alloc (World.grows.refl _) _).trans g)⟩
  have := h.lt d' hd _ he
  omega

theorem Marks.leaves {F : Fence} {n : Nat} {P : Program} {fn : Func} {tmps : Array Value} {R : Ending → World → Prop} {B : Nat} (Inv : World → Prop)
    (hI : ∀ w D, Inv w → B ≤ D → w.heap[D]? = some (.deferred (some [])) → Inv (w.putObj D (.deferred none)))
    (hend : ∀ w, Inv w → ∃ v, (results fn tmps).run P w = .ok v w ∧ R (.returned v) w) : ∀ (ds : List Deferred) (w : World), Marks B ds w → Inv w → LeavesInM F n P fn tmps R ds .returning w
  | [], w, _, h => hend w h
  | d :: ds, w, ⟨⟨D, h1, h2, h3, h4⟩, hr⟩, h => by
    refine ⟨by simp, .inl ⟨D, _, h1, run_takeDeferred h3, Marks.leaves Inv hI hend ds _ ?_ (hI w D h h2 h3)⟩⟩
    have : ∀ (ds : List Deferred), (∀ d' ∈ ds, d'.target ≠ .collected D) → Marks B ds w → Marks B ds (w.putObj D (.deferred none)) := by
      intro ds
      induction ds with
      | nil => intro _ _; trivial
      | cons d' ds ih =>
        rintro h5 ⟨⟨D', g1, g2, g3, g4⟩, gr⟩
        refine ⟨⟨D', g1, g2, ?_, g4⟩, ih (fun x hx => h5 x (List.mem_cons_of_mem _ hx)) gr⟩
        have : D' ≠ D := fun e => h5 d' (List.mem_cons_self ..) (e ▸ g1)
        rw [World.putObj_heap_other this]; exact g3
    exact this ds h4 hr

/-- cells that are there are there still -/
def World.cellsub (w w' : World) : Prop := ∀ a v, w.cell? a = some v → w'.cell? a = some v
theorem World.grows.cellsub {w w' : World} (g : w.grows w') : w.cellsub w' := fun a v h => by rw [g.cell (by rw [h]; rfl)]; exact h
theorem World.cellsub.trans {a b c : World} (h : a.cellsub b) (k : b.cellsub c) : a.cellsub c := fun x v hx => k x v (h x v hx)
theorem World.putObj_cellsub {w : World} {b : Nat} {o : Obj} (hb : ∀ a v, a.block = b → w.cell? a ≠ some v) : w.cellsub (w.putObj b o) := fun a v h => by
  by_cases hab : a.block = b
  · exact absurd h (hb a v hab)
  · have e : (w.putObj b o).cell? a = w.cell? a := by
      unfold World.cell?
      rw [World.putObj_heap_other hab]
    rw [e]; exact h
theorem World.no_cell_of_map {w : World} {b : Nat} {es : Array MapEntry} {c : Nat} (h : w.heap[b]? = some (.map es c)) (a : Addr) (v : Value) (ha : a.block = b) : w.cell? a ≠ some v := by
  unfold World.cell?
  rw [ha, h]
  simp
theorem World.no_cell_of_deferred {w : World} {b : Nat} {c : Option (List Deferred)} (h : w.heap[b]? = some (.deferred c)) (a : Addr) (v : Value) (ha : a.block = b) : w.cell? a ≠ some v := by
  unfold World.cell?
  rw [ha, h]
  simp
theorem World.putObj_map_cell {w : World} {b : Nat} {es es' : Array MapEntry} {c c' : Nat} (h : w.heap[b]? = some (.map es c)) (a : Addr) : (w.putObj b (.map es' c')).cell? a = w.cell? a := by
  by_cases hab : a.block = b
  · have h1 := World.no_cell_of_map h a
    have h2 : (w.putObj b (.map es' c')).heap[b]? = some (.map es' c') := World.putObj_heap_same (World.lt_of_block h)
    have h3 := World.no_cell_of_map h2 a
    cases hc : w.cell? a with
    | none =>
      cases hc' : (w.putObj b (.map es' c')).cell? a with
      | none => rfl
      | some v => exact absurd hc' (h3 v hab)
    | some v => exact absurd hc (h1 v hab)
  · unfold World.cell?
    rw [World.putObj_heap_other hab]
theorem World.putObj_putObj (w : World) (b : Nat) (o o' : Obj) : (w.putObj b o).putObj b o' = w.putObj b o' := by
  unfold World.putObj
  simp
theorem World.putObj_self {w : World} {b : Nat} {o : Obj} (h : w.heap[b]? = some o) : w.putObj b o = w := by
  have hlt := World.lt_of_block h
  unfold World.putObj
  have : w.heap.setIfInBounds b o = w.heap := by
    apply Array.ext_getElem?
    intro k
    rw [Array.getElem?_setIfInBounds]
    by_cases hk : b = k
    · subst hk; rw [if_pos rfl, if_pos hlt, h]
    · rw [if_neg hk]
  rw [this]
/-- a change of a block that is there, of worlds of which one has grown out of the other -/
theorem World.grows.putObj {w w' : World} (g : w.grows w') {b : Nat} (o : Obj) (hb : b < w.heap.size) : (w.putObj b o).grows (w'.putObj b o) :=
  ⟨g.os, g.tape, g.output, by simpa using g.size, fun k hk => by
    have hk' : k < w.heap.size := by simpa using hk
    by_cases hkb : k = b
    · subst hkb
      rw [World.putObj_heap_same (by have := g.size; omega), World.putObj_heap_same hk']
    · rw [World.putObj_heap_other hkb, World.putObj_heap_other hkb]; exact g.block k hk'⟩


/-- wp_rangeFunc_seq for the walk: the ends are variables -/
theorem wp_rangeFunc_walk {P : Program} {g : Operand} {ps : Array Tmp} {assign body : Code} {Q : Exit → Act → World → Prop} {a : Act} {w : World} {f : Nat} {lb : Array Value} {xs : List (Array Value)} {Ro : World → Prop}
    (hg : a.eval g = .func (.func f) #[] lb) (eg : ∀ args w, (callFunc f args).run P w = .ok (.enter f args) w)
    (hseq : SeqC P f lb xs Ro) (hps : ∀ x ∈ xs, x.size = ps.size)
    (B : Nat → World → Prop) (X : Code → World → Prop) (hB : ∀ k V, B k V → V.heap.size = w.heap.size) (hX : ∀ c V, X c V → V.heap.size = w.heap.size)
    (hR : ∀ k V, B k V → ∀ W, V.grows W → Ro W) (h0 : B 0 w)
    (hround : ∀ (k : Nat) (x : Array Value) (V : World) (lo : Obj) (n : Nat) (y : World), xs[k]? = some x → B k V → ∀ K0 : Act → World → Prop,
      Hid (∀ a1 W1, ((V.alloc (.deferred (some []))).alloc lo).grows W1 →
        (∀ (lo' : Obj) (K1 : Exit → Act → World → Prop), Hid (∀ e a' W', roundEnd B X k lo' e a' W' → K1 e a' W') → body.wpIn (Fence.wide.inRound (w.heap.size + 1)) 0 P K1 a1 (W1.putObj (w.heap.size + 1) lo')) → K0 a1 W1) →
      assign.wpIn (Fence.wide.inRound (w.heap.size + 1)) 0 P (Exit.then K0 (fun _ _ _ => False))
        { tmps := (ps.zip x).foldl (fun t (p, v) => t.setIfInBounds p v) a.tmps, defers := [] } (((V.alloc (.deferred (some []))).alloc lo).plus n y))
    (hdone : ∀ V n y, B xs.length V → Q .normal { a with defers := { target := .collected w.heap.size, args := #[] } :: a.defers } ((V.alloc (.deferred (some []))).plus n y))
    (hstop : ∀ c V n y, X c V → c.wp P Q { a with defers := { target := .collected w.heap.size, args := #[] } :: a.defers } ((V.alloc (.deferred (some []))).plus n y)) :
    (Code.rangeFunc g ps assign body).wp P Q a w :=
  wp_rangeFunc_seq hg eg hseq hps B X hB hX hR h0 (fun k x V lo n y hx hV => by
    refine hround k x V lo n y hx hV _ (Lib.hid fun a1 W1 h1 h2 => ⟨h1, fun lo' => h2 lo' _ (Lib.hid fun e a' W' h => h)⟩)) hdone hstop
theorem zip_one (t : Array Value) (p : Tmp) (v : Value) : Array.foldl (fun t x => match x with | (p, v) => t.setIfInBounds p v) t (#[p].zip #[v]) = t.setIfInBounds p v := by
  have : #[p].zip #[v] = #[(p, v)] := by simp
  rw [this]
  simp

theorem Oper.stirs_of {P : Program} {o : Oper} {a : Act} {w : World} {b : Nat} {ob : Obj} {v : Value} (hb : b < w.heap.size) (h : ∀ n x, (execOp a.eval o).run P (w.plus n x) = .ok (.value v) ((w.plus n x).putObj b ob)) :
    o.stirs P a w (w.putObj b ob) v := fun n x => ⟨_, h n x, (World.grows_plus w n x).putObj ob hb⟩
theorem World.grows.heap_of {w w' : World} (g : w.grows w') {b : Nat} {o : Obj} (h : w.heap[b]? = some o) : w'.heap[b]? = some o := by rw [g.heap (by rw [h]; rfl)]; exact h
theorem World.grows.cell_of {w w' : World} (g : w.grows w') {a : Addr} {v : Value} (h : w.cell? a = some v) : w'.cell? a = some v := by rw [g.cell (by rw [h]; rfl)]; exact h
theorem World.plus_ex {w x : World} {p : Prop} (g : w.grows x) (hp : p) : ∃ n y, x = w.plus n y ∧ p := by
  obtain ⟨n, y, h⟩ := World.plus_of g
  exact ⟨n, y, h, hp⟩
theorem bodyPostM_ret {F : Fence} {n : Nat} {P : Program} {fn : Func} {R : Ending → World → Prop} {t : Array Value} {w : World} {v : Value} (h1 : (results fn t).run P w = .ok v w) (h2 : R (.returned v) w) : bodyPostM F n P fn R .ret ⟨t, []⟩ w := ⟨v, h1, h2⟩
theorem Marks.setCell {B : Nat} {w : World} {a : Addr} {v : Value} {ds : List Deferred} (h : Marks B ds w) : Marks B ds (w.setCell a v) :=
  h.keep fun D hD => by
    unfold World.setCell
    simp only [Array.getElem?_modify]
    by_cases he : a.block = D
    · rw [if_pos he, hD]; rfl
    · rw [if_neg he]; exact hD
end Go

/-
  What is proved: a job's value and its box in a world that grows.
-/
namespace Go.Proofs.Ytjpccfpmhmddjaa
open Go.RowKit

/-- what is known of a world in which a job lies, and its box: two cells -/
def BoxAt (w W : World) (jb : Nat) (rv : Value) (J : Job) : Prop := RawAt W (.agg #[.int .i64 J.start, rv]) J ∧ w.grows W ∧ W.cell? ⟨jb, 0, none⟩ = some (.int .i64 J.start) ∧ W.cell? ⟨jb, 1, none⟩ = some rv
theorem BoxAt.mono {w W W' : World} {jb : Nat} {rv : Value} {J : Job} (h : BoxAt w W jb rv J) (g : W.grows W') : BoxAt w W' jb rv J :=
  ⟨h.1.mono g, h.2.1.trans g, World.grows.cell_of g h.2.2.1, World.grows.cell_of g h.2.2.2⟩
theorem BoxAt.start {w : World} {rv : Value} {J : Job} (hv : RawAt w (.agg #[.int .i64 J.start, rv]) J) : BoxAt w (w.alloc (.cells #[.int .i64 J.start, rv] 24)) w.heap.size rv J :=
  ⟨hv.mono (by (repeat (first | exact World.grows.refl _ | assumption | refine World.grows.alloc ?_ _ | refine World.grows.plus ?_ _ _ | refine World.grows.drew ?_))), by (repeat (first | exact World.grows.refl _ | assumption | refine World.grows.alloc ?_ _ | refine World.grows.plus ?_ _ _ | refine World.grows.drew ?_)), by simp [go_sem], by simp [go_sem]⟩
end Go.Proofs.Ytjpccfpmhmddjaa

/-
  What is proved: which jobs the statements take: great, wide, fine.
-/
namespace Go.Proofs.Ytjpccfpmhmddjaa
open Go.RowKit

def Job.big (J : Job) : Bool := decide (6 < J.n) || (List.range J.n).any fun i => decide (10 < J.len i)
theorem Job.big_n {J : Job} (h : 6 < J.n) : J.big = true := by simp [Job.big, h]
theorem Job.big_len {J : Job} {i : Nat} (hi : i < J.n) (h : 10 < J.len i) : J.big = true := by
  unfold Job.big
  rw [Bool.or_eq_true]
  exact .inr (List.any_eq_true.2 ⟨i, by simpa using hi, by simpa using h⟩)
theorem Job.big_not {J : Job} (h : ¬ 6 < J.n) (hl : ∀ i, i < J.n → ¬ 10 < J.len i) : J.big = false := by
  unfold Job.big
  rw [Bool.or_eq_false_iff]
  refine ⟨by simpa using h, ?_⟩
  simp only [List.any_eq_false, List.mem_range]
  intro i hi
  simpa using hl i hi
theorem Job.small_of {J : Job} (h : J.big = false) : J.n ≤ 6 ∧ ∀ i, i < J.n → J.len i ≤ 10 := by
  refine ⟨Nat.le_of_not_lt fun h' => (by rw [Job.big_n h'] at h; cases h), fun i hi => Nat.le_of_not_lt fun h' => (by rw [Job.big_len hi h'] at h; cases h)⟩
theorem Job.Ok.small {J : Job} (h : J.Ok) : J.big = false :=
  Job.big_not (by have := h.n4; omega) fun i hi => by have := h.l6 i hi; omega

/-- how many positions there are of the first k edges -/
def prodTo (f : Nat → Nat) : Nat → Nat
  | 0 => 1
  | k + 1 => prodTo f k * (f k + 1)
theorem prodTo_bd (f : Nat → Nat) (c : Nat) : ∀ k, (∀ i, i < k → f i ≤ c) → prodTo f k ≤ (c + 1) ^ k
  | 0, _ => by simp [prodTo]
  | k + 1, h => by
    have h1 := prodTo_bd f c k fun i hi => h i (by omega)
    have h2 := h k (by omega)
    rw [prodTo, Nat.pow_succ]
    exact Nat.mul_le_mul h1 (by omega)
theorem prodTo_pos (f : Nat → Nat) : ∀ k, 1 ≤ prodTo f k
  | 0 => by simp [prodTo]
  | k + 1 => by
    have := prodTo_pos f k
    rw [prodTo]
    exact Nat.mul_pos this (by omega)

set_option maxHeartbeats 1000000 in
theorem great_c (w : World) (v : Value) (J : Job) (hv : RawAt w v J) :
    Calls Try.prog 14 #[v] w fun e w' => e = .returned (.bool J.big) ∧ w.grows w' := by
  obtain ⟨rv, row, rfl, ⟨ra, rcap, rfl, hrc1, hrc2, hr⟩, hrow⟩ := hv
  unfold maxLen at hrc2
  go_enter Try.func14, Try.ntmps14
  by_cases hn : 6 < J.n
  · have hcn := Lib.hid (Job.big_n hn)
    go_wp2
    (refine bodyPost_ret (v := .bool true) (by simp [results, Try.results14, go_sem]) rfl ?_)
    exact ⟨by rw [hcn.out], by (repeat (first | exact World.grows.refl _ | assumption | refine World.grows.alloc ?_ _ | refine World.grows.plus ?_ _ _ | refine World.grows.drew ?_))⟩
  go_wp2
  go_loop [3] (fun i => ∃ k : Nat, k ≤ J.n ∧ i = .int .i64 k ∧ Hid (∀ j, j < k → ¬ 10 < J.len j)) (fun i => J.n - (intOf i).toNat)
  case atStart => exact ⟨0, by omega, rfl, Lib.hid fun j hj => by omega⟩
  case round =>
    obtain ⟨k, hk, rfl, hl⟩ := hrel
    by_cases hlt : k < J.n
    · obtain ⟨b, o, rfl, h0⟩ := hr k 0 hlt (by omega)
      simp only [Nat.mul_one, Nat.add_zero] at h0
      obtain ⟨a1, cap1, hrk, hc1, hc2, hcell⟩ := hrow k hlt
      rw [hrk] at h0
      unfold maxLen at hc2
      by_cases hbad : 10 < J.len k
      · have hcn := Lib.hid (Job.big_len hlt hbad)
        go_wp2
        (refine bodyPost_ret (v := .bool true) (by simp [results, Try.results14, go_sem]) rfl ?_)
        exact ⟨by rw [hcn.out], by (repeat (first | exact World.grows.refl _ | assumption | refine World.grows.alloc ?_ _ | refine World.grows.plus ?_ _ _ | refine World.grows.drew ?_))⟩
      · go_wp2
        go_round
        case rel => exact ⟨k + 1, by omega, by go_num, Lib.hid fun j hj => (by rcases Nat.lt_or_ge j k with h | h; exact hl.out j h; have hjk : j = k := (by omega); subst hjk; exact hbad)⟩
        case measure => simp [intOf]; omega
    · have hke : k = J.n := by omega
      subst hke
      have hcn := Lib.hid (Job.big_not hn hl.out)
      clear hl
      go_wp2
      (refine bodyPost_ret (v := .bool false) (by simp [results, Try.results14, go_sem]) rfl ?_)
      exact ⟨by rw [hcn.out], by (repeat (first | exact World.grows.refl _ | assumption | refine World.grows.alloc ?_ _ | refine World.grows.plus ?_ _ _ | refine World.grows.drew ?_))⟩

set_option maxHeartbeats 1000000 in
theorem wide_c (w : World) (v : Value) (J : Job) (hv : RawAt w v J) (hb : J.big = false) :
    Calls Try.prog 24 #[v] w fun e w' => e = .returned (.bool (decide (J.check = 0) && decide (200 < prodTo J.len J.n))) ∧ w.grows w' := by
  have hv0 := Lib.hid hv
  obtain ⟨hn6, hl10⟩ := Job.small_of hb
  clear hb
  obtain ⟨rv, row, rfl, ⟨ra, rcap, rfl, hrc1, hrc2, hr⟩, hrow⟩ := hv
  unfold maxLen at hrc2
  have hpb : ∀ k, k ≤ J.n → prodTo J.len k ≤ 2000000 := fun k hk => by
    have h1 := prodTo_bd J.len 10 k fun i hi => hl10 i (by omega)
    have h2 : (10 + 1) ^ k ≤ (10 + 1) ^ 6 := Nat.pow_le_pow_right (by omega) (by omega)
    omega
  have hpb' := Lib.hid hpb
  clear hpb
  go_enter Try.func24, Try.ntmps24
  go_wp2
  go_loop [3, 4] (fun p i => ∃ k : Nat, k ≤ J.n ∧ i = .int .i64 k ∧ p = .int .i64 (prodTo J.len k)) (fun _ i => J.n - (intOf i).toNat)
  case atStart => exact ⟨0, by omega, rfl, rfl⟩
  case round =>
    obtain ⟨k, hk, rfl, rfl⟩ := hrel
    have hpk := hpb'.out k hk
    by_cases hlt : k < J.n
    · obtain ⟨b, o, rfl, h0⟩ := hr k 0 hlt (by omega)
      simp only [Nat.mul_one, Nat.add_zero] at h0
      obtain ⟨a1, cap1, hrk, hc1, hc2, hcell⟩ := hrow k hlt
      rw [hrk] at h0
      unfold maxLen at hc2
      have hlk := hl10 k hlt
      have hpk1 := hpb'.out (k + 1) hlt
      rw [prodTo] at hpk1
      have hm1 : ((prodTo J.len k : Nat) : Int) * ((J.len k : Nat) + 1 : Int) ≤ 2000000 := by
        have : ((prodTo J.len k * (J.len k + 1) : Nat) : Int) ≤ 2000000 := by omega
        simpa using this
      have hm2 : 0 ≤ ((prodTo J.len k : Nat) : Int) * ((J.len k : Nat) + 1 : Int) := Int.mul_nonneg (by omega) (by omega)
      clear hpk1
      go_wp2
      go_round
      case rel => exact ⟨k + 1, by omega, by go_num, by rw [prodTo]; go_num⟩
      case measure => simp [intOf]; omega
    · have hke : k = J.n := by omega
      subst hke
      by_cases hc : J.check = 0
      · by_cases hp : 200 < prodTo J.len J.n
        all_goals
          go_wp2_with (refine (rcheck_c _ _ J (hv0.out.mono (by (repeat (first | exact World.grows.refl _ | assumption | refine World.grows.alloc ?_ _ | refine World.grows.plus ?_ _ _ | refine World.grows.drew ?_))))).mono ?_; rintro e w' ⟨rfl, hg⟩; obtain ⟨n2, x2, rfl⟩ := World.plus_of hg)
          (refine bodyPost_ret (v := .bool (decide ((200 : Int) < (prodTo J.len J.n : Nat)))) (by simp [results, Try.results24, go_sem]) rfl ?_)
          have hii : (200 : Int) < (prodTo J.len J.n : Nat) ↔ 200 < prodTo J.len J.n := by omega
          exact ⟨by simp [hc, hii], by (repeat (first | exact World.grows.refl _ | assumption | refine World.grows.alloc ?_ _ | refine World.grows.plus ?_ _ _ | refine World.grows.drew ?_))⟩
      · go_wp2_with (refine (rcheck_c _ _ J (hv0.out.mono (by (repeat (first | exact World.grows.refl _ | assumption | refine World.grows.alloc ?_ _ | refine World.grows.plus ?_ _ _ | refine World.grows.drew ?_))))).mono ?_; rintro e w' ⟨rfl, hg⟩; obtain ⟨n2, x2, rfl⟩ := World.plus_of hg)
        (refine bodyPost_ret (v := .bool false) (by simp [results, Try.results24, go_sem]) rfl ?_)
        exact ⟨by simp [hc], by (repeat (first | exact World.grows.refl _ | assumption | refine World.grows.alloc ?_ _ | refine World.grows.plus ?_ _ _ | refine World.grows.drew ?_))⟩

set_option maxHeartbeats 1000000 in
theorem fine_c (w : World) (v : Value) (J : Job) (hv : RawAt w v J) :
    Calls Try.prog 38 #[v] w fun e w' => e = .returned (.bool (decide (J.check = 0))) ∧ w.grows w' := by
  have hv0 := Lib.hid hv
  obtain ⟨rv, row, rfl, ⟨ra, rcap, rfl, hrc1, hrc2, hr⟩, hrow⟩ := hv
  clear hr hrow
  have hs := Lib.hid (Job.Ok_iff J)
  go_enter Try.func38, Try.ntmps38
  by_cases hb : J.big = true
  · have hG := fun W h => great_c W (.agg #[.int .i64 J.start, .slice ra J.n rcap]) J h
    rw [hb] at hG
    have Hb := Lib.hid hb
    clear hb
    go_wp2_with (first | (refine (hG _ (hv0.out.mono (by (repeat (first | exact World.grows.refl _ | assumption | refine World.grows.alloc ?_ _ | refine World.grows.plus ?_ _ _ | refine World.grows.drew ?_))))).mono ?_; rintro e w' ⟨rfl, hg⟩; obtain ⟨n2, x2, rfl⟩ := World.plus_of hg))
    (refine bodyPost_ret (v := .bool false) (by simp [results, Try.results38, go_sem]) rfl ?_)
    refine ⟨?_, by (repeat (first | exact World.grows.refl _ | assumption | refine World.grows.alloc ?_ _ | refine World.grows.plus ?_ _ _ | refine World.grows.drew ?_))⟩
    have : ¬ J.check = 0 := fun h => by
      have := ((hs.out).2 h).small
      rw [Hb.out] at this; cases this
    simp [this]
  · have hb' : J.big = false := by simpa using hb
    have hG := fun W h => great_c W (.agg #[.int .i64 J.start, .slice ra J.n rcap]) J h
    rw [hb'] at hG
    clear hb hb'
    go_wp2_with (first
      | (go_at_call 14; refine (hG _ (hv0.out.mono (by (repeat (first | exact World.grows.refl _ | assumption | refine World.grows.alloc ?_ _ | refine World.grows.plus ?_ _ _ | refine World.grows.drew ?_))))).mono ?_; rintro e w' ⟨rfl, hg⟩; obtain ⟨n2, x2, rfl⟩ := World.plus_of hg)
      | (go_at_call 23; refine (rcheck_c _ _ J (hv0.out.mono (by (repeat (first | exact World.grows.refl _ | assumption | refine World.grows.alloc ?_ _ | refine World.grows.plus ?_ _ _ | refine World.grows.drew ?_))))).mono ?_; rintro e w' ⟨rfl, hg⟩; obtain ⟨n3, x3, rfl⟩ := World.plus_of hg))
    (refine bodyPost_ret (v := .bool (J.check == 0)) (by simp [results, Try.results38, go_sem]) rfl ?_)
    exact ⟨by congr 2, by (repeat (first | exact World.grows.refl _ | assumption | refine World.grows.alloc ?_ _ | refine World.grows.plus ?_ _ _ | refine World.grows.drew ?_))⟩

end Go.Proofs.Ytjpccfpmhmddjaa

/-
  What is proved: whether numbers are within bounds, as the program asks it of one number.
-/
namespace Go.Proofs.Ytjpccfpmhmddjaa
open Go.RowKit

set_option maxHeartbeats 1000000 in
theorem c78 (w : World) (b0 b1 : Nat) (lo hi n : Int) (h0 : w.cell? ⟨b0, 0, none⟩ = some (.int .i64 lo)) (h1 : w.cell? ⟨b1, 0, none⟩ = some (.int .i64 hi)) :
    Calls Try.prog 78 #[.int .i64 n, .pointer (some ⟨b0, 0, none⟩), .pointer (some ⟨b1, 0, none⟩)] w fun e w' => e = .returned (.bool (decide (n < lo) || decide (hi < n))) ∧ w.grows w' := by
  go_enter Try.func78, Try.ntmps78
  by_cases hl : n < lo
  · go_wp2
    go_ret
    exact ⟨by simp [hl], by (repeat (first | exact World.grows.refl _ | assumption | refine World.grows.alloc ?_ _ | refine World.grows.plus ?_ _ _ | refine World.grows.drew ?_))⟩
  · by_cases hh : hi < n
    · go_wp2
      go_ret
      exact ⟨by simp [hh], by (repeat (first | exact World.grows.refl _ | assumption | refine World.grows.alloc ?_ _ | refine World.grows.plus ?_ _ _ | refine World.grows.drew ?_))⟩
    · go_wp2
      go_ret
      exact ⟨by simp [hh, hl], by (repeat (first | exact World.grows.refl _ | assumption | refine World.grows.alloc ?_ _ | refine World.grows.plus ?_ _ _ | refine World.grows.drew ?_))⟩

/-- a slice of one number that a call has made -/
theorem one_slice (w : World) (v : Value) (t b : Nat) (hb : b = w.heap.size) : SliceAt (w.alloc (.cells #[v] t)) (.slice (some ⟨b, 0, none⟩) 1 1) 1 1 (fun _ _ => v) := by
  subst hb
  refine ⟨_, _, rfl, by omega, by unfold maxLen; omega, fun i j hi hj => ⟨_, _, rfl, ?_⟩⟩
  have hi0 : i = 0 := by omega
  have hj0 : j = 0 := by omega
  subst hi0; subst hj0
  simp [go_sem]

set_option maxHeartbeats 1000000 in
theorem c56 (w : World) (lo hi n : Int) (sv : Value) (hs : SliceAt w sv 1 1 (fun _ _ => .int .i64 n)) :
    Calls Try.prog 56 #[.int .i64 lo, .int .i64 hi, sv] w fun e w' => e = .returned (.bool (decide (lo ≤ n) && decide (n ≤ hi))) ∧ w.grows w' := by
  have h78 : ∀ W : World, ((w.alloc (.cells #[.int .i64 lo] 2)).alloc (.cells #[.int .i64 hi] 2)).grows W → Calls Try.prog 78 (#[.int .i64 n] ++ #[.pointer (some ⟨w.heap.size, 0, none⟩), .pointer (some ⟨w.heap.size + 1, 0, none⟩)]) W fun e W' => e = .returned (.bool (decide (n < lo) || decide (hi < n))) ∧ W.grows W' := by
    intro W hW
    have e0 : ((w.alloc (.cells #[.int .i64 lo] 2)).alloc (.cells #[.int .i64 hi] 2)).cell? ⟨w.heap.size, 0, none⟩ = some (.int .i64 lo) := by simp [go_sem]
    have e1 : ((w.alloc (.cells #[.int .i64 lo] 2)).alloc (.cells #[.int .i64 hi] 2)).cell? ⟨w.heap.size + 1, 0, none⟩ = some (.int .i64 hi) := by simp [go_sem]
    exact c78 W _ _ lo hi n (by rw [hW.cell (by rw [e0]; rfl), e0]) (by rw [hW.cell (by rw [e1]; rfl), e1])
  have H78 := Lib.hid h78
  clear h78
  have hh : (List.range 1).any (fun _ => decide (n < lo) || decide (hi < n)) = (decide (n < lo) || decide (hi < n)) := by simp
  have Hs := Lib.hid hs
  go_enter Try.func56, Try.ntmps56
  go_wp2_with (refine (has77 _ _ 1 (fun _ _ => .int .i64 n) 78 _ (fun _ => decide (n < lo) || decide (hi < n)) (Hs.out.mono (by (repeat (first | exact World.grows.refl _ | assumption | refine World.grows.alloc ?_ _ | refine World.grows.plus ?_ _ _ | refine World.grows.drew ?_)))) (fun args w => (by simp [go_sem])) (fun i hi' W hW => H78.out W hW)).mono ?_; rintro e w' ⟨rfl, hg⟩; obtain ⟨n2, x2, rfl⟩ := World.plus_of hg)
  go_ret
  refine ⟨?_, by (repeat (first | exact World.grows.refl _ | assumption | refine World.grows.alloc ?_ _ | refine World.grows.plus ?_ _ _ | refine World.grows.drew ?_))⟩
  simp [← decide_not, Int.not_lt]

set_option maxHeartbeats 1000000 in
theorem c54 (w : World) (a : Option Addr) (m cap : Nat) (h1 : m ≤ cap) (h2 : cap ≤ maxLen) :
    Calls Try.prog 54 #[.slice a m cap] w fun e w' => e = .returned (.bool (decide (m < 1) || decide (6 < m))) ∧ w.grows w' := by
  unfold maxLen at h2
  go_enter Try.func54, Try.ntmps54
  by_cases h0 : m = 0
  · subst h0
    go_wp2
    go_ret
    exact ⟨by simp, by (repeat (first | exact World.grows.refl _ | assumption | refine World.grows.alloc ?_ _ | refine World.grows.plus ?_ _ _ | refine World.grows.drew ?_))⟩
  · have h0' : 1 ≤ m := by omega
    by_cases h6 : 6 < m
    · go_wp2
      go_ret
      exact ⟨by simp [h6]; omega, by (repeat (first | exact World.grows.refl _ | assumption | refine World.grows.alloc ?_ _ | refine World.grows.plus ?_ _ _ | refine World.grows.drew ?_))⟩
    · go_wp2
      go_ret
      exact ⟨by simp [h6, h0]; omega, by (repeat (first | exact World.grows.refl _ | assumption | refine World.grows.alloc ?_ _ | refine World.grows.plus ?_ _ _ | refine World.grows.drew ?_))⟩

set_option maxHeartbeats 1000000 in
theorem c55 (w : World) (pk lv : Int) :
    Calls Try.prog 55 #[.agg #[.int .i64 pk, .int .i64 lv]] w fun e w' => e = .returned (.bool (decide (pk < 0) || decide (1000 < pk) || decide (lv < -1000) || decide (pk < lv))) ∧ w.grows w' := by
  go_enter Try.func55, Try.ntmps55
  rcases (by omega : pk < 0 ∨ 0 ≤ pk) with h1 | h1
  · have h1' : ¬ 0 ≤ pk := by omega
    go_wp2_with (go_at_call 56; (refine (c56 _ _ _ _ _ (one_slice _ _ _ _ (by simp))).mono ?_; rintro e w' ⟨rfl, hg⟩; obtain ⟨n2, x2, rfl⟩ := World.plus_of hg))
    go_ret
    exact ⟨by simp [h1], by (repeat (first | exact World.grows.refl _ | assumption | refine World.grows.alloc ?_ _ | refine World.grows.plus ?_ _ _ | refine World.grows.drew ?_))⟩
  rcases (by omega : 1000 < pk ∨ pk ≤ 1000) with h2 | h2
  · have h2' : ¬ pk ≤ 1000 := by omega
    go_wp2_with (go_at_call 56; (refine (c56 _ _ _ _ _ (one_slice _ _ _ _ (by simp))).mono ?_; rintro e w' ⟨rfl, hg⟩; obtain ⟨n2, x2, rfl⟩ := World.plus_of hg))
    go_ret
    exact ⟨by simp [h2], by (repeat (first | exact World.grows.refl _ | assumption | refine World.grows.alloc ?_ _ | refine World.grows.plus ?_ _ _ | refine World.grows.drew ?_))⟩
  have h1' : ¬ pk < 0 := by omega
  have h2' : ¬ 1000 < pk := by omega
  by_cases h3 : lv < -1000
  · have h3' : ¬ -1000 ≤ lv := by omega
    go_wp2_with (go_at_call 56; (refine (c56 _ _ _ _ _ (one_slice _ _ _ _ (by simp))).mono ?_; rintro e w' ⟨rfl, hg⟩; obtain ⟨n2, x2, rfl⟩ := World.plus_of hg))
    go_ret
    exact ⟨by simp [h3], by (repeat (first | exact World.grows.refl _ | assumption | refine World.grows.alloc ?_ _ | refine World.grows.plus ?_ _ _ | refine World.grows.drew ?_))⟩
  have h3' : -1000 ≤ lv := by omega
  by_cases h4 : pk < lv
  · have h4' : ¬ lv ≤ pk := by omega
    go_wp2_with (go_at_call 56; (refine (c56 _ _ _ _ _ (one_slice _ _ _ _ (by simp))).mono ?_; rintro e w' ⟨rfl, hg⟩; obtain ⟨n2, x2, rfl⟩ := World.plus_of hg))
    go_ret
    exact ⟨by simp [h4], by (repeat (first | exact World.grows.refl _ | assumption | refine World.grows.alloc ?_ _ | refine World.grows.plus ?_ _ _ | refine World.grows.drew ?_))⟩
  have h4' : lv ≤ pk := by omega
  go_wp2_with (go_at_call 56; (refine (c56 _ _ _ _ _ (one_slice _ _ _ _ (by simp))).mono ?_; rintro e w' ⟨rfl, hg⟩; obtain ⟨n2, x2, rfl⟩ := World.plus_of hg))
  go_ret
  exact ⟨by simp [h3, h4, h1', h2'], by (repeat (first | exact World.grows.refl _ | assumption | refine World.grows.alloc ?_ _ | refine World.grows.plus ?_ _ _ | refine World.grows.drew ?_))⟩

end Go.Proofs.Ytjpccfpmhmddjaa

/-
  What is proved: slices.Grow of nil, slices.Concat of a job's rows.
-/
namespace Go.Proofs.Ytjpccfpmhmddjaa
open Go.RowKit

theorem tableL_two (c : Nat → Nat → Value) : ∀ m, tableL m 2 c = (List.range m).flatMap fun i => [c i 0, c i 1]
  | 0 => rfl
  | m + 1 => by
    have ih := tableL_two c m
    unfold tableL at ih ⊢
    rw [show (m + 1) * 2 = m * 2 + 1 + 1 by omega, List.range_succ, List.range_succ, List.range_succ, List.map_append, List.map_append, ih, List.flatMap_append]
    simp only [List.map_cons, List.map_nil, List.flatMap_cons, List.flatMap_nil, List.append_assoc, List.append_nil, List.cons_append, List.nil_append]
    rw [show (m * 2) / 2 = m by omega, show (m * 2) % 2 = 0 by omega, show (m * 2 + 1) / 2 = m by omega, show (m * 2 + 1) % 2 = 1 by omega]
theorem flat2 {α : Type} (f : α → Nat → Value) : ∀ (l : List α) (i j : Nat), j < 2 → (l.flatMap fun p => [f p 0, f p 1])[i * 2 + j]? = l[i]?.map (f · j)
  | [], i, j, _ => by simp
  | p :: l, 0, j, hj => by
    match j, hj with
    | 0, _ => rfl
    | 1, _ => rfl
  | p :: l, i + 1, j, hj => by
    have ih := flat2 f l i j hj
    rw [show (i + 1) * 2 + j = (i * 2 + j) + 1 + 1 by omega, List.flatMap_cons]
    simpa using ih

/-- all passes of the first k edges, in order -/
def Job.prs (J : Job) : Nat → List (Nat × Nat)
  | 0 => []
  | k + 1 => J.prs k ++ (List.range (J.len k)).map fun x => (k, x)
def Job.catL (J : Job) (k : Nat) : List Value := (J.prs k).flatMap fun p => [pas J p.1 p.2 0, pas J p.1 p.2 1]
theorem Job.catL_succ (J : Job) (k : Nat) : J.catL (k + 1) = J.catL k ++ tableL (J.len k) 2 (pas J k) := by
  unfold Job.catL
  rw [Job.prs, List.flatMap_append, tableL_two, List.flatMap_map]
def Job.tot (J : Job) : Nat → Nat
  | 0 => 0
  | k + 1 => J.tot k + J.len k
theorem Job.prs_length (J : Job) : ∀ k, (J.prs k).length = J.tot k
  | 0 => rfl
  | k + 1 => by rw [Job.prs, List.length_append, J.prs_length k, Job.tot]; simp
theorem Job.prs_mem (J : Job) : ∀ (k : Nat) (p : Nat × Nat), p ∈ J.prs k ↔ p.1 < k ∧ p.2 < J.len p.1
  | 0, p => by simp [Job.prs]
  | k + 1, p => by
    rw [Job.prs, List.mem_append, J.prs_mem k p]
    simp only [List.mem_map, List.mem_range]
    constructor
    · rintro (⟨h1, h2⟩ | ⟨x, hx, rfl⟩)
      · exact ⟨by omega, h2⟩
      · exact ⟨by simp, hx⟩
    · rintro ⟨h1, h2⟩
      by_cases h : p.1 = k
      · right; exact ⟨p.2, by rw [← h]; exact h2, by rw [← h]⟩
      · left; exact ⟨by omega, h2⟩
theorem Job.tot_bd (J : Job) (h : ∀ i, i < J.n → J.len i ≤ 6) : ∀ k, k ≤ J.n → J.tot k ≤ 6 * k
  | 0, _ => by simp [Job.tot]
  | k + 1, hk => by
    have := J.tot_bd h k (by omega)
    have := h k (by omega)
    rw [Job.tot]; omega
theorem Job.tot_pos (J : Job) (h : ∀ i, i < J.n → 1 ≤ J.len i) : ∀ k, k ≤ J.n → k ≤ J.tot k
  | 0, _ => by simp
  | k + 1, hk => by
    have := J.tot_pos h k (by omega)
    have := h k (by omega)
    rw [Job.tot]; omega
theorem Job.catL_length (J : Job) (k : Nat) : (J.catL k).length = J.tot k * 2 := by
  rw [← J.prs_length]
  unfold Job.catL
  induction J.prs k with
  | nil => rfl
  | cons p l ih => rw [List.flatMap_cons, List.length_append, ih]; simp; omega

theorem el65 : Try.prog.knows 65 (.agg #[.int .i64 0, .int .i64 0]) 2 16 := Program.knows_of (by kernel_rfl)

set_option maxHeartbeats 1000000 in
theorem c81 (w : World) (m : Nat) (h0 : 0 < m) (hm : m ≤ 1000) :
    Calls Try.prog 81 #[.slice none 0 0, .int .i64 m] w fun e w' => ∃ v, e = .returned v ∧ w.grows w' ∧ w'.ownsRow w.heap.size 65 2 v 0 [] := by
  go_enter Try.func81, Try.ntmps81
  go_wp2_with (at_builtin; refine wpList_append_make _ rfl _ _ _ _ (by rfl) 65 (.agg #[.int .i64 0, .int .i64 0]) .i64 2 16 Try.underlying62 Try.underlying3 el65 (by rfl) (by omega) m h0 (by unfold maxLen; omega) (by omega) (by rfl) (by rfl) ?_; intro cap xs h1 h2 h3)
  go_ret
  exact ⟨_, rfl, by (repeat (first | exact World.grows.refl _ | assumption | refine World.grows.alloc ?_ _ | refine World.grows.plus ?_ _ _ | refine World.grows.drew ?_)), (World.ownsRow_made w xs cap (Nat.le_refl _) h2 h3).grow (World.grows.drew (World.grows.refl _))⟩

theorem pas_one (J : Job) (k m : Nat) : ∀ u ∈ tableL m 2 (pas J k), u.oneCell' = true := by
  intro u hu
  rw [tableL_two] at hu
  obtain ⟨i, _, hu⟩ := List.mem_flatMap.1 hu
  simp only [List.mem_cons, List.not_mem_nil, or_false] at hu
  rcases hu with rfl | rfl <;> rfl

set_option maxHeartbeats 2000000 in
theorem c59 (w : World) (rv : Value) (row : Nat → Value) (J : Job) (hs : J.Shape) (hr : SliceAt w rv J.n 1 (fun i _ => row i)) (hrow : ∀ i, i < J.n → SliceAt w (row i) (J.len i) 2 (pas J i)) :
    Calls Try.prog 59 #[rv] w fun e w' => ∃ v, e = .returned v ∧ w.grows w' ∧ w'.ownsRow w.heap.size 65 2 v (J.tot J.n) (J.catL J.n) := by
  obtain ⟨ra, rcap, rfl, hrc1, hrc2, hr⟩ := hr
  unfold maxLen at hrc2
  have hn1 := hs.n1
  have hn4 := hs.n4
  have HS := Lib.hid hs
  clear hs
  go_enter Try.func59, Try.ntmps59
  go_wp2
  go_loop [3, 11] (fun s i => ∃ k : Nat, k ≤ J.n ∧ i = .int .i64 k ∧ s = .int .i64 (J.tot k)) (fun _ i => J.n - (intOf i).toNat)
  case atStart => exact ⟨0, by omega, rfl, rfl⟩
  case round =>
    obtain ⟨k, hk, rfl, rfl⟩ := hrel
    have htk := J.tot_bd HS.out.l6 k hk
    by_cases hlt : k < J.n
    · obtain ⟨b, o, rfl, h0⟩ := hr k 0 hlt (by omega)
      simp only [Nat.mul_one, Nat.add_zero] at h0
      obtain ⟨a1, cap1, hrk, hc1, hc2, hcell⟩ := hrow k hlt
      rw [hrk] at h0
      unfold maxLen at hc2
      have g6 := HS.out.l6 k hlt
      go_wp2
      go_round
      case rel => exact ⟨k + 1, by omega, by go_num, by rw [Job.tot]; go_num⟩
      case measure => simp [intOf]; omega
    · have hke : k = J.n := by omega
      subst hke
      have htp := J.tot_pos HS.out.l1 J.n (Nat.le_refl _)
      go_wp2_with (go_at_call 81; refine (c81 _ (J.tot J.n) (by omega) (by omega)).mono ?_; rintro e w0 ⟨ov, rfl, hg0, hown0⟩)
      go_loopw [6, 27] (fun s i wr => ∃ k : Nat, k ≤ J.n ∧ i = .int .i64 k ∧ wr.ownsRow w.heap.size 65 2 s (J.tot k) (J.catL k) ∧ w.grows wr) (fun _ i _ => J.n - (intOf i).toNat)
      case atStart => exact ⟨0, by omega, rfl, hown0, hg0⟩
      case round =>
        obtain ⟨k, hk, rfl, hown, hg⟩ := hrel
        have htk := J.tot_bd HS.out.l6 k hk
        by_cases hlt : k < J.n
        · obtain ⟨b, o, rfl, h0⟩ := hr k 0 hlt (by omega)
          simp only [Nat.mul_one, Nat.add_zero] at h0
          have hsl := (hrow k hlt).mono hg
          have h0' := hg.cell (by rw [h0]; rfl)
          rw [h0] at h0'
          have g6 := HS.out.l6 k hlt
          go_wp2_with (at_builtin; refine wpList_append_g _ rfl _ _ _ (by rfl) w.heap.size 65 (.agg #[.int .i64 0, .int .i64 0]) 2 16 Try.underlying62 el65 (by rfl) (by omega) _ _ _ (by rfl) hown (row k) (by rfl) (J.len k) _ (hsl.src (by omega)) (pas_one _ _ _) (by unfold maxLen; omega) (by omega) hg.size ?_; intro v' w1 hown1 hgr)
          go_roundw
          case rel => exact ⟨k + 1, by omega, by go_num, by rw [Job.tot, Job.catL_succ]; exact hown1, hgr w hg (Nat.le_refl _)⟩
          case measure => simp [intOf]; omega
        · have hke : k = J.n := by omega
          subst hke
          go_wp2
          go_ret
          exact ⟨_, rfl, hg, hown⟩

end Go.Proofs.Ytjpccfpmhmddjaa

/-
  What is proved: which jobs are valid, in the program.
-/
namespace Go.Proofs.Ytjpccfpmhmddjaa
open Go.RowKit

theorem any_index {α : Type} (f : α → Bool) (l : List α) : ((List.range l.length).any fun i => (l[i]?.map f).getD false) = l.any f := by
  rw [Bool.eq_iff_iff, List.any_eq_true, List.any_eq_true]
  constructor
  · rintro ⟨i, hi, h⟩
    have hi' : i < l.length := by simpa using hi
    rw [List.getElem?_eq_getElem hi'] at h
    exact ⟨l[i], List.getElem_mem hi', by simpa using h⟩
  · rintro ⟨x, hx, h⟩
    obtain ⟨i, hi, rfl⟩ := List.getElem_of_mem hx
    exact ⟨i, by simpa using hi, by rw [List.getElem?_eq_getElem hi]; simpa using h⟩

theorem Job.prs_any (J : Job) (n : Nat) : (J.prs n).any (fun p => J.badB p.1 p.2) = (List.range n).any fun i => (List.range (J.len i)).any (J.badB i) := by
  rw [Bool.eq_iff_iff, List.any_eq_true, List.any_eq_true]
  constructor
  · rintro ⟨p, hp, h⟩
    obtain ⟨h1, h2⟩ := (J.prs_mem n p).1 hp
    exact ⟨p.1, by simpa using h1, List.any_eq_true.2 ⟨p.2, by simpa using h2, h⟩⟩
  · rintro ⟨i, hi, h⟩
    obtain ⟨k, hk, h⟩ := List.any_eq_true.1 h
    exact ⟨(i, k), (J.prs_mem n _).2 ⟨by simpa using hi, by simpa using hk⟩, h⟩

/-- the passes asked one after another -/
def Job.badAt (J : Job) (i : Nat) : Bool := ((J.prs J.n)[i]?.map fun p => J.badB p.1 p.2).getD false
theorem Job.badAt_any (J : Job) : (List.range (J.tot J.n)).any J.badAt = (List.range J.n).any fun i => (List.range (J.len i)).any (J.badB i) := by
  rw [← Job.prs_any, ← any_index (fun p : Nat × Nat => J.badB p.1 p.2) (J.prs J.n), Job.prs_length]
  rfl
def Job.catC (J : Job) (i j : Nat) : Value := ((J.prs J.n)[i]?.map fun p => pas J p.1 p.2 j).getD (.int .i64 0)
theorem Job.catC_at (J : Job) (i j : Nat) (hi : i < J.tot J.n) (hj : j < 2) : (J.catL J.n)[i * 2 + j]? = some (J.catC i j) := by
  unfold Job.catL Job.catC
  refine (flat2 (fun (p : Nat × Nat) j => pas J p.1 p.2 j) (J.prs J.n) i j hj).trans ?_
  rw [← J.prs_length] at hi
  rw [List.getElem?_eq_getElem hi]
  rfl

theorem bad_c (J : Job) (i : Nat) (hi : i < J.tot J.n) (W : World) :
    Calls Try.prog 55 (#[.agg #[J.catC i 0, J.catC i 1]] ++ #[]) W fun e W' => e = .returned (.bool (J.badAt i)) ∧ W.grows W' := by
  unfold Job.badAt Job.catC
  rw [← J.prs_length] at hi
  rw [List.getElem?_eq_getElem hi]
  exact c55 W _ _

theorem long_c (J : Job) (row : Nat → Value) (w : World) (hrow : ∀ i, i < J.n → SliceAt w (row i) (J.len i) 2 (pas J i)) (i : Nat) (hi : i < J.n) (W : World) :
    Calls Try.prog 54 (#[row i] ++ #[]) W fun e W' => e = .returned (.bool (J.longB i)) ∧ W.grows W' := by
  obtain ⟨a, cap, h, h1, h2, _⟩ := hrow i hi
  rw [h]
  exact c54 W a _ cap h1 h2

theorem Job.shape_of {J : Job} (h1 : 1 ≤ J.n) (h4 : J.n ≤ 4) (h : (List.range J.n).any J.longB = false) : J.Shape := by
  simp only [List.any_eq_false, List.mem_range] at h
  have hl : ∀ i, i < J.n → 1 ≤ J.len i ∧ J.len i ≤ 6 := fun i hi => by
    have := h i hi; simp [Job.longB] at this; omega
  exact ⟨h1, h4, fun i hi => (hl i hi).1, fun i hi => (hl i hi).2⟩

set_option maxHeartbeats 2000000 in
theorem check_c (w : World) (v : Value) (J : Job) (hv : RawAt w v J) :
    Calls Try.prog 22 #[v] w fun e w' => e = .returned (.int .i64 J.check) ∧ w.grows w' := by
  obtain ⟨rv, row, rfl, hr0, hrow⟩ := hv
  have Hr := Lib.hid hr0
  have Hrow := Lib.hid hrow
  obtain ⟨ra, rcap, rfl, hrc1, hrc2, hr⟩ := hr0
  clear hr hrow
  unfold maxLen at hrc2
  go_enter Try.func22, Try.ntmps22
  by_cases hn : J.n < 1 ∨ 4 < J.n
  · have hcn := Lib.hid (Job.check_n hn)
    rcases hn with hn | hn
    · have hn0 : J.n = 0 := by omega
      rw [hn0] at *
      go_wp2
      (refine bodyPost_ret (v := .int .i64 6) (by simp [results, Try.results22, go_sem]) rfl ?_)
      exact ⟨ret_int hcn.out.symm, by (repeat (first | exact World.grows.refl _ | assumption | refine World.grows.alloc ?_ _ | refine World.grows.plus ?_ _ _ | refine World.grows.drew ?_))⟩
    · go_wp2
      (refine bodyPost_ret (v := .int .i64 6) (by simp [results, Try.results22, go_sem]) rfl ?_)
      exact ⟨ret_int hcn.out.symm, by (repeat (first | exact World.grows.refl _ | assumption | refine World.grows.alloc ?_ _ | refine World.grows.plus ?_ _ _ | refine World.grows.drew ?_))⟩
  have hn1 : 1 ≤ J.n := by omega
  have hn4 : J.n ≤ 4 := by omega
  clear hn
  have hn4' : ¬ ((4 : Int) < (J.n : Int)) := by omega
  have hn0' : ¬ J.n = 0 := by omega
  have h57 := fun W hW => has57 W (.slice ra J.n rcap) J.n (fun i _ => row i) 54 #[] J.longB hW (fun args w => (by simp [go_sem])) (fun i hi W' _ => long_c J row w Hrow.out i hi W')
  cases hL : (List.range J.n).any J.longB with
  | true =>
    have hcn : Hid (J.check = 6) := Lib.hid (by unfold Job.check; rw [if_pos (.inr (.inr hL))])
    rw [hL] at h57
    clear hL
    go_wp2_with (go_at_call 57; refine (h57 _ (Hr.out.mono (by (repeat (first | exact World.grows.refl _ | assumption | refine World.grows.alloc ?_ _ | refine World.grows.plus ?_ _ _ | refine World.grows.drew ?_))))).mono ?_; rintro e w' ⟨rfl, hg⟩; obtain ⟨n2, x2, rfl⟩ := World.plus_of hg)
    (refine bodyPost_ret (v := .int .i64 6) (by simp [results, Try.results22, go_sem]) rfl ?_)
    exact ⟨ret_int hcn.out.symm, by (repeat (first | exact World.grows.refl _ | assumption | refine World.grows.alloc ?_ _ | refine World.grows.plus ?_ _ _ | refine World.grows.drew ?_))⟩
  | false =>
    have hsh := Lib.hid (Job.shape_of hn1 hn4 hL)
    rw [hL] at h57
    clear hL
    by_cases hst : J.start < -1000 ∨ 1000 < J.start
    · have hcn := Lib.hid (Job.check_start hsh.out hst)
      have h56 := fun W sv hs => c56 W (-1000) 1000 J.start sv hs
      have hb : (decide (-1000 ≤ J.start) && decide (J.start ≤ 1000)) = false := by simp; omega
      rw [hb] at h56
      clear hb hst
      go_wp2_with (first
        | (go_at_call 57; refine (h57 _ (Hr.out.mono (by (repeat (first | exact World.grows.refl _ | assumption | refine World.grows.alloc ?_ _ | refine World.grows.plus ?_ _ _ | refine World.grows.drew ?_))))).mono ?_; rintro e w' ⟨rfl, hg⟩; obtain ⟨n2, x2, rfl⟩ := World.plus_of hg)
        | (go_at_call 56; refine (h56 _ _ (one_slice _ _ _ _ (by simp))).mono ?_; rintro e w' ⟨rfl, hg'⟩; obtain ⟨n3, x3, rfl⟩ := World.plus_of hg'))
      (refine bodyPost_ret (v := .int .i64 2) (by simp [results, Try.results22, go_sem]) rfl ?_)
      exact ⟨ret_int hcn.out.symm, by (repeat (first | exact World.grows.refl _ | assumption | refine World.grows.alloc ?_ _ | refine World.grows.plus ?_ _ _ | refine World.grows.drew ?_))⟩
    have h56 := fun W sv hs => c56 W (-1000) 1000 J.start sv hs
    have hb : (decide (-1000 ≤ J.start) && decide (J.start ≤ 1000)) = true := by simp; omega
    rw [hb] at h56
    have hst' := Lib.hid hst
    clear hb hst
    have hb := Lib.hid J.badAt_any
    have Hchk : Hid (J.check = if (List.range (J.tot J.n)).any J.badAt = true then 3 else 0) := Lib.hid (by
      rw [hb.out]
      unfold Job.check
      rw [if_neg hsh.out.not, if_neg hst'.out])
    have h58 := fun W v hs => has58 W v (J.tot J.n) J.catC 55 #[] J.badAt hs (fun args w => (by simp [go_sem])) (fun i hi W' _ => bad_c J i hi W')
    cases hB : (List.range (J.tot J.n)).any J.badAt with
    | true =>
      rw [hB] at h58 Hchk
      clear hB
      go_wp2_with (first
        | (go_at_call 57; refine (h57 _ (Hr.out.mono (by (repeat (first | exact World.grows.refl _ | assumption | refine World.grows.alloc ?_ _ | refine World.grows.plus ?_ _ _ | refine World.grows.drew ?_))))).mono ?_; rintro e w' ⟨rfl, hg⟩; obtain ⟨n2, x2, rfl⟩ := World.plus_of hg)
        | (go_at_call 56; refine (h56 _ _ (one_slice _ _ _ _ (by simp))).mono ?_; rintro e w' ⟨rfl, hg'⟩; obtain ⟨n3, x3, rfl⟩ := World.plus_of hg')
        | (go_at_call 59; refine (c59 _ _ row J hsh.out (Hr.out.mono (by (repeat (first | exact World.grows.refl _ | assumption | refine World.grows.alloc ?_ _ | refine World.grows.plus ?_ _ _ | refine World.grows.drew ?_)))) (fun i hi => (Hrow.out i hi).mono (by (repeat (first | exact World.grows.refl _ | assumption | refine World.grows.alloc ?_ _ | refine World.grows.plus ?_ _ _ | refine World.grows.drew ?_))))).mono ?_; rintro e w' ⟨cv, rfl, hg4, hown⟩; have Hown := Lib.hid (hown.sliceAt (J.catC_at)); clear hown; obtain ⟨n4, x4, rfl⟩ := World.plus_of hg4)
        | (go_at_call 58; refine (h58 _ _ (Hown.out.mono (by (repeat (first | exact World.grows.refl _ | assumption | refine World.grows.alloc ?_ _ | refine World.grows.plus ?_ _ _ | refine World.grows.drew ?_))))).mono ?_; rintro e w' ⟨rfl, hg5⟩; obtain ⟨n5, x5, rfl⟩ := World.plus_of hg5))
      (refine bodyPost_ret (v := .int .i64 3) (by simp [results, Try.results22, go_sem]) rfl ?_)
      exact ⟨ret_int Hchk.out.symm, by (repeat (first | exact World.grows.refl _ | assumption | refine World.grows.alloc ?_ _ | refine World.grows.plus ?_ _ _ | refine World.grows.drew ?_))⟩
    | false =>
      rw [hB] at h58 Hchk
      clear hB
      go_wp2_with (first
        | (go_at_call 57; refine (h57 _ (Hr.out.mono (by (repeat (first | exact World.grows.refl _ | assumption | refine World.grows.alloc ?_ _ | refine World.grows.plus ?_ _ _ | refine World.grows.drew ?_))))).mono ?_; rintro e w' ⟨rfl, hg⟩; obtain ⟨n2, x2, rfl⟩ := World.plus_of hg)
        | (go_at_call 56; refine (h56 _ _ (one_slice _ _ _ _ (by simp))).mono ?_; rintro e w' ⟨rfl, hg'⟩; obtain ⟨n3, x3, rfl⟩ := World.plus_of hg')
        | (go_at_call 59; refine (c59 _ _ row J hsh.out (Hr.out.mono (by (repeat (first | exact World.grows.refl _ | assumption | refine World.grows.alloc ?_ _ | refine World.grows.plus ?_ _ _ | refine World.grows.drew ?_)))) (fun i hi => (Hrow.out i hi).mono (by (repeat (first | exact World.grows.refl _ | assumption | refine World.grows.alloc ?_ _ | refine World.grows.plus ?_ _ _ | refine World.grows.drew ?_))))).mono ?_; rintro e w' ⟨cv, rfl, hg4, hown⟩; have Hown := Lib.hid (hown.sliceAt (J.catC_at)); clear hown; obtain ⟨n4, x4, rfl⟩ := World.plus_of hg4)
        | (go_at_call 58; refine (h58 _ _ (Hown.out.mono (by (repeat (first | exact World.grows.refl _ | assumption | refine World.grows.alloc ?_ _ | refine World.grows.plus ?_ _ _ | refine World.grows.drew ?_))))).mono ?_; rintro e w' ⟨rfl, hg5⟩; obtain ⟨n5, x5, rfl⟩ := World.plus_of hg5))
      (refine bodyPost_ret (v := .int .i64 0) (by simp [results, Try.results22, go_sem]) rfl ?_)
      exact ⟨ret_int Hchk.out.symm, by (repeat (first | exact World.grows.refl _ | assumption | refine World.grows.alloc ?_ _ | refine World.grows.plus ?_ _ _ | refine World.grows.drew ?_))⟩

end Go.Proofs.Ytjpccfpmhmddjaa

/-
  What is proved: the plate of a job, and its opening.
-/
namespace Go.Proofs.Ytjpccfpmhmddjaa
open Go.RowKit

theorem RawAt.job {w : World} {v : Value} {J : Job} (h : RawAt w v J) (hJ : J.Ok) : JobAt w v J := by
  obtain ⟨rv, row, rfl, ⟨ra, rcap, rfl, hrc1, hrc2, hr⟩, hrow⟩ := h
  have hch : ∀ i, ∃ x : Nat × Nat × Nat, i < J.n → row i = .slice (some ⟨x.1, x.2.1, none⟩) (J.len i) x.2.2 ∧ J.len i ≤ x.2.2 ∧ x.2.2 ≤ maxLen ∧
      ∀ k, k < J.len i → w.cell? ⟨x.1, x.2.1 + k * 2, none⟩ = some (.int .i64 (J.pk i k)) ∧ w.cell? ⟨x.1, x.2.1 + k * 2 + 1, none⟩ = some (.int .i64 (J.lv i k)) := by
    intro i
    by_cases hi : i < J.n
    · obtain ⟨a, cap, h1, h2, h3, h4⟩ := hrow i hi
      obtain ⟨b, o, rfl, -⟩ := h4 0 0 (by have := hJ.l1 i hi; omega) (by omega)
      refine ⟨(b, o, cap), fun _ => ⟨h1, h2, h3, fun k hk => ?_⟩⟩
      obtain ⟨_, _, e0, c0⟩ := h4 k 0 hk (by omega)
      obtain ⟨_, _, e1, c1⟩ := h4 k 1 hk (by omega)
      cases e0; cases e1
      exact ⟨by simpa [pas] using c0, by simpa [pas] using c1⟩
    · exact ⟨(0, 0, 0), fun h => absurd h hi⟩
  obtain ⟨f, hf⟩ := Classical.axiomOfChoice hch
  obtain ⟨b, o, rfl, -⟩ := hr 0 0 (by have := hJ.n1; omega) (by omega)
  refine ⟨b, o, rcap, fun i => (f i).1, fun i => (f i).2.1, fun i => (f i).2.2, rfl, hrc1, hrc2, ⟨fun i hi => ?_, fun i k hi hk => ((hf i hi).2.2.2 k hk).1, fun i k hi hk => ((hf i hi).2.2.2 k hk).2, fun i hi => ⟨(hf i hi).2.1, (hf i hi).2.2.1⟩⟩⟩
  obtain ⟨_, _, e0, c0⟩ := hr i 0 hi (by omega)
  cases e0
  rw [← (hf i hi).1]
  simpa using c0

theorem JobAt.raw {w : World} {v : Value} {J : Job} (h : JobAt w v J) : RawAt w v J := by
  obtain ⟨b, o, cap, rb, ro, rc, rfl, h2, h3, hrow, hpk, hlv, hc⟩ := h
  refine ⟨_, fun i => .slice (some ⟨rb i, ro i, none⟩) (J.len i) (rc i), rfl, ⟨_, _, rfl, h2, h3, fun i j hi hj => ⟨_, _, rfl, ?_⟩⟩, fun i hi => ⟨_, _, rfl, (hc i hi).1, (hc i hi).2, fun k j hk hj => ⟨_, _, rfl, ?_⟩⟩⟩
  · have : j = 0 := by omega
    subst this
    simpa using hrow i hi
  · match j, hj with
    | 0, _ => simpa [pas] using hpk i k hi hk
    | 1, _ => simpa [pas] using hlv i k hi hk

@[go_sem] theorem plt_setA (a b : Value) (p : Nat → Nat) (i x : Nat) (h : i < 4) :
    (#[a, b, Value.int .i64 ↑(p 0), .int .i64 ↑(p 1), .int .i64 ↑(p 2), .int .i64 ↑(p 3)] : Array Value).setIfInBounds (2 + i) (.int .i64 ↑x) =
      #[a, b, Value.int .i64 ↑(upd p i x 0), .int .i64 ↑(upd p i x 1), .int .i64 ↑(upd p i x 2), .int .i64 ↑(upd p i x 3)] := by
  match i, h with
  | 0, _ => simp [upd]
  | 1, _ => simp [upd]
  | 2, _ => simp [upd]
  | 3, _ => simp [upd]
@[go_sem] theorem plt_setL (a b : Value) (p : Nat → Nat) (i x : Nat) (h : i < 4) :
    [a, b, Value.int .i64 ↑(p 0), .int .i64 ↑(p 1), .int .i64 ↑(p 2), .int .i64 ↑(p 3)].set (2 + i) (.int .i64 ↑x) =
      [a, b, Value.int .i64 ↑(upd p i x 0), .int .i64 ↑(upd p i x 1), .int .i64 ↑(upd p i x 2), .int .i64 ↑(upd p i x 3)] := by
  match i, h with
  | 0, _ => simp [upd]
  | 1, _ => simp [upd]
  | 2, _ => simp [upd]
  | 3, _ => simp [upd]
@[go_sem] theorem plt_get (a b : Value) (p : Nat → Nat) (i : Nat) (h : i < 4) :
    (#[a, b, Value.int .i64 ↑(p 0), .int .i64 ↑(p 1), .int .i64 ↑(p 2), .int .i64 ↑(p 3)] : Array Value)[2 + i]? = some (.int .i64 ↑(p i)) := by
  match i, h with
  | 0, _ => rfl
  | 1, _ => rfl
  | 2, _ => rfl
  | 3, _ => rfl

@[go_sem] theorem plt_getL (a b : Value) (p : Nat → Nat) (i : Nat) (h : i < 4) :
    [a, b, Value.int .i64 ↑(p 0), .int .i64 ↑(p 1), .int .i64 ↑(p 2), .int .i64 ↑(p 3)][2 + i]? = some (.int .i64 ↑(p i)) := by
  match i, h with
  | 0, _ => rfl
  | 1, _ => rfl
  | 2, _ => rfl
  | 3, _ => rfl
@[go_sem] theorem plt_getElem (a b : Value) (p : Nat → Nat) (i : Nat) (h : 2 + i < [a, b, Value.int .i64 ↑(p 0), .int .i64 ↑(p 1), .int .i64 ↑(p 2), .int .i64 ↑(p 3)].length) (hi : i < 4) :
    [a, b, Value.int .i64 ↑(p 0), .int .i64 ↑(p 1), .int .i64 ↑(p 2), .int .i64 ↑(p 3)][2 + i]'h = .int .i64 ↑(p i) := by
  match i, hi with
  | 0, _ => rfl
  | 1, _ => rfl
  | 2, _ => rfl
  | 3, _ => rfl

@[reducible] def plO (s rv : Value) (p : Nat → Nat) : Obj := .cells #[s, rv, .int .i64 (p 0), .int .i64 (p 1), .int .i64 (p 2), .int .i64 (p 3)] 97

/-- the last place as far as the first k edges go -/
def Job.lastTo (J : Job) (k i : Nat) : Nat := if i < k then J.len i else 0
theorem Job.lastTo_succ (J : Job) (k : Nat) : J.lastTo (k + 1) = upd (J.lastTo k) k (J.len k) := by
  funext i
  unfold Job.lastTo upd
  by_cases h : i = k
  · subst h; simp
  · by_cases h' : i < k
    · rw [if_pos (by omega)]; simp [h, h']
    · rw [if_neg (by omega)]; simp [h, h']

set_option maxHeartbeats 1000000 in
theorem newPlate_c (w : World) (v : Value) (J : Job) (hJ : J.Ok) (hv : JobAt w v J) :
    Calls Try.prog 75 #[v] w fun e w' => ∃ p, e = .returned (.pointer (some ⟨p, 0, none⟩)) ∧ w.grows w' ∧ PlateAt w' p J ∧ w.heap.size ≤ p := by
  obtain ⟨b, o, cap, rb, ro, rc, rfl, hcap1, hcap2, hR⟩ := hv
  have HR := Lib.hid hR
  obtain ⟨hrow, hpk, hlv, hrc⟩ := hR
  clear hpk hlv
  unfold maxLen at hcap2
  have hn4 := hJ.n4
  go_enter Try.func75, Try.ntmps75
  go_wp2
  go_loopw [15] (fun i wr => ∃ k : Nat, k ≤ J.n ∧ i = .int .i64 k ∧ wr = (w.alloc (.cells #[.int .i64 J.start, .slice (some ⟨b, o, none⟩) J.n cap] 24)).alloc (plO (.int .i64 J.start) (.slice (some ⟨b, o, none⟩) J.n cap) (J.lastTo k))) (fun i _ => J.n - (intOf i).toNat)
  case atStart => exact ⟨0, by omega, rfl, rfl⟩
  case round =>
    obtain ⟨k, hk, rfl, rfl⟩ := hrel
    by_cases hlt : k < J.n
    · have hrk := hrow k hlt
      have hrck := hrc k hlt
      unfold maxLen at hrck
      have hk4 : k < 4 := by omega
      go_wp2
      go_roundw
      case rel => exact ⟨k + 1, by omega, by go_num, by rw [Job.lastTo_succ]⟩
      case measure => simp [intOf]; omega
    · have hke : k = J.n := by omega
      subst hke
      go_wp2
      go_ret
      refine ⟨w.heap.size + 1, rfl, by (repeat (first | exact World.grows.refl _ | assumption | refine World.grows.alloc ?_ _ | refine World.grows.plus ?_ _ _ | refine World.grows.drew ?_)), ⟨by simp [go_sem], fun i hi => ?_, b, o, cap, rb, ro, rc, by simp [go_sem], hcap1, by unfold maxLen; exact hcap2, HR.out.mono (by (repeat (first | exact World.grows.refl _ | assumption | refine World.grows.alloc ?_ _ | refine World.grows.plus ?_ _ _ | refine World.grows.drew ?_)))⟩, by omega⟩
      have : J.lastTo J.n i = J.last i := rfl
      simp [go_sem, hi]
      rw [← this]

set_option maxHeartbeats 1000000 in
/-- opening a job: either its error, or its plate -/
theorem open_bad (w : World) (v : Value) (J : Job) (hv : RawAt w v J) (h : J.check ≠ 0) :
    Calls Try.prog 44 #[v] w fun e w' => e = .returned (.tuple #[.pointer none, .int .i64 J.check]) ∧ w.grows w' := by
  have Hv := Lib.hid hv
  obtain ⟨rv, row, rfl, -, -⟩ := hv
  go_enter Try.func44, Try.ntmps44
  go_wp2_with (go_at_call 22; refine (check_c _ _ J (Hv.out.mono (by (repeat (first | exact World.grows.refl _ | assumption | refine World.grows.alloc ?_ _ | refine World.grows.plus ?_ _ _ | refine World.grows.drew ?_))))).mono ?_; rintro e w' ⟨rfl, hg⟩; obtain ⟨n2, x2, rfl⟩ := World.plus_of hg)
  (refine bodyPost_ret (v := .tuple #[.pointer none, .int .i64 J.check]) (by simp [results, Try.results44, go_sem]) rfl ?_)
  exact ⟨rfl, by (repeat (first | exact World.grows.refl _ | assumption | refine World.grows.alloc ?_ _ | refine World.grows.plus ?_ _ _ | refine World.grows.drew ?_))⟩

set_option maxHeartbeats 1000000 in
theorem open_c (w : World) (v : Value) (J : Job) (hv : JobAt w v J) (h : J.Ok) :
    Calls Try.prog 44 #[v] w fun e w' => ∃ p, e = .returned (.tuple #[.pointer (some ⟨p, 0, none⟩), .int .i64 0]) ∧ w.grows w' ∧ PlateAt w' p J ∧ w.heap.size ≤ p := by
  have Hv := Lib.hid hv
  obtain ⟨b, o, cap, rb, ro, rc, rfl, hcap1, hcap2, -⟩ := hv
  have h22 := fun W hW => check_c W (.agg #[.int .i64 J.start, .slice (some ⟨b, o, none⟩) J.n cap]) J hW
  rw [(Job.Ok_iff J).1 h] at h22
  go_enter Try.func44, Try.ntmps44
  go_wp2_with (first
    | (go_at_call 22; refine (h22 _ (Hv.out.raw.mono (by (repeat (first | exact World.grows.refl _ | assumption | refine World.grows.alloc ?_ _ | refine World.grows.plus ?_ _ _ | refine World.grows.drew ?_))))).mono ?_; rintro e w' ⟨rfl, hg⟩; obtain ⟨n2, x2, rfl⟩ := World.plus_of hg)
    | (go_at_call 75; refine (newPlate_c _ _ J h (Hv.out.mono (by (repeat (first | exact World.grows.refl _ | assumption | refine World.grows.alloc ?_ _ | refine World.grows.plus ?_ _ _ | refine World.grows.drew ?_))))).mono ?_; rintro e w3 ⟨p, rfl, hg3, hP, hp⟩))
  (refine bodyPost_ret (v := .tuple #[.pointer (some ⟨p, 0, none⟩), .int .i64 0]) (by simp [results, Try.results44, go_sem]) rfl ?_)
  refine ⟨p, rfl, ?_, hP, ?_⟩
  · exact World.grows.trans (by (repeat (first | exact World.grows.refl _ | assumption | refine World.grows.alloc ?_ _ | refine World.grows.plus ?_ _ _ | refine World.grows.drew ?_))) hg3
  · simp at hp; omega

end Go.Proofs.Ytjpccfpmhmddjaa

/-
  What is proved: positions: place of the plate, IsPosition of the reference; Heat of both.
-/
namespace Go.Proofs.Ytjpccfpmhmddjaa
open Go.RowKit

/-- the error of a list of m numbers as a position -/
def Job.posErr (J : Job) (m : Nat) (f : Nat → Int) : Int :=
  if m ≠ J.n then 15 else if (List.range J.n).any (fun i => decide (f i < 0) || decide (J.len i < f i)) = true then 3 else 0
/-- the first k numbers as a place -/
def posTo (f : Nat → Int) (k i : Nat) : Nat := if i < k then (f i).toNat else 0
def Job.posP (J : Job) (m : Nat) (f : Nat → Int) : Nat → Nat := if J.posErr m f = 0 then posTo f J.n else fun _ => 0

theorem posTo_succ (f : Nat → Int) (k : Nat) : posTo f (k + 1) = upd (posTo f k) k (f k).toNat := by
  funext i
  unfold posTo upd
  by_cases h : i = k
  · subst h; simp
  · by_cases h' : i < k
    · rw [if_pos (by omega)]; simp [h, h']
    · rw [if_neg (by omega)]; simp [h, h']
theorem posTo_zero (f : Nat → Int) : posTo f 0 = fun _ => 0 := by
  funext i; simp [posTo]
theorem Job.posErr_len {J : Job} {m : Nat} {f : Nat → Int} (h : m ≠ J.n) : J.posErr m f = 15 := by
  unfold Job.posErr; rw [if_pos h]
theorem Job.posErr_bad {J : Job} {f : Nat → Int} {i : Nat} (hi : i < J.n) (h : f i < 0 ∨ J.len i < f i) : J.posErr J.n f = 3 := by
  unfold Job.posErr
  rw [if_neg (by simp), if_pos]
  exact List.any_eq_true.2 ⟨i, by simpa using hi, by simpa using h⟩
theorem Job.posErr_ok {J : Job} {f : Nat → Int} (h : ∀ i, i < J.n → 0 ≤ f i ∧ f i ≤ J.len i) : J.posErr J.n f = 0 := by
  unfold Job.posErr
  rw [if_neg (by simp), if_neg]
  simp only [Bool.not_eq_true, List.any_eq_false, List.mem_range]
  intro i hi
  have := h i hi
  simp; omega
theorem Job.posErr_zero {J : Job} {m : Nat} {f : Nat → Int} (h : J.posErr m f = 0) : m = J.n ∧ ∀ i, i < J.n → 0 ≤ f i ∧ f i ≤ J.len i := by
  unfold Job.posErr at h
  split at h
  · cases h
  · rename_i hm
    split at h
    · cases h
    · rename_i hb
      simp only [Bool.not_eq_true, List.any_eq_false, List.mem_range] at hb
      refine ⟨by omega, fun i hi => ?_⟩
      have := hb i hi
      simp at this; omega
theorem Job.posP_In {J : Job} {m : Nat} {f : Nat → Int} (h : J.posErr m f = 0) : (∀ i, i < J.n → J.posP m f i ≤ J.len i) ∧ (∀ i, J.n ≤ i → J.posP m f i = 0) ∧ ∀ i, i < J.n → (J.posP m f i : Int) = f i := by
  obtain ⟨hm, hb⟩ := Job.posErr_zero h
  unfold Job.posP posTo
  rw [if_pos h]
  refine ⟨fun i hi => ?_, fun i hi => ?_, fun i hi => ?_⟩
  · have := hb i hi; simp [hi]; omega
  · simp [Nat.not_lt.2 hi]
  · have := hb i hi; simp [hi]; omega

set_option maxHeartbeats 2000000 in
theorem place_c (w : World) (P0 : Nat) (J : Job) (hJ : J.Ok) (hP : PlateAt w P0 J) (pv : Value) (m : Nat) (f : Nat → Int) (hpv : IntsAt w pv m f) :
    Calls Try.prog 45 #[.pointer (some ⟨P0, 0, none⟩), pv] w fun e w' => e = .returned (.tuple #[plc (J.posP m f), .int .i64 (J.posErr m f)]) ∧ w.grows w' := by
  obtain ⟨hstart, hlast, b, o, cap, rb, ro, rc, hrows, hcap, hcap2, hrow, hpk, hlv, hrc⟩ := hP
  clear hpk hlv hrow hrc
  obtain ⟨pa, pcap, rfl, hpc1, hpc2, hpos⟩ := hpv
  unfold maxLen at hcap2 hpc2
  have hn4 := hJ.n4
  go_enter Try.func45, Try.ntmps45
  by_cases hm : m = J.n
  · subst hm
    go_wp2
    go_loopw [21] (fun i wr => ∃ k : Nat, k ≤ J.n ∧ i = .int .i64 k ∧ Hid (∀ j, j < k → 0 ≤ f j ∧ f j ≤ J.len j) ∧ wr = (w.alloc (plcO fun _ => 0)).alloc (plcO (posTo f k))) (fun i _ => J.n - (intOf i).toNat)
    case atStart => exact ⟨0, by omega, rfl, Lib.hid fun j hj => by omega, by rw [posTo_zero]; rfl⟩
    case round =>
      obtain ⟨k, hk, rfl, hl, rfl⟩ := hrel
      by_cases hlt : k < J.n
      · have hk4 : k < 4 := by omega
        have hlk := hlast k hk4
        have hle : J.last k = J.len k := by simp [Job.last, hlt]
        rw [hle] at hlk
        obtain ⟨pb, po, rfl, h0⟩ := hpos k 0 hlt (by omega)
        simp only [Nat.mul_one, Nat.add_zero] at h0
        by_cases h1 : f k < 0
        · have hcn := Lib.hid (Job.posErr_bad hlt (.inl h1))
          go_wp2
          (refine bodyPost_ret (v := .tuple #[plc fun _ => 0, .int .i64 3]) (by simp [results, Try.results45, go_sem]) rfl ?_)
          exact ⟨by rw [hcn.out]; unfold Job.posP; rw [hcn.out]; rfl, by (repeat (first | exact World.grows.refl _ | assumption | refine World.grows.alloc ?_ _ | refine World.grows.plus ?_ _ _ | refine World.grows.drew ?_))⟩
        by_cases h2 : J.len k < f k
        · have hcn := Lib.hid (Job.posErr_bad hlt (.inr h2))
          go_wp2
          (refine bodyPost_ret (v := .tuple #[plc fun _ => 0, .int .i64 3]) (by simp [results, Try.results45, go_sem]) rfl ?_)
          exact ⟨by rw [hcn.out]; unfold Job.posP; rw [hcn.out]; rfl, by (repeat (first | exact World.grows.refl _ | assumption | refine World.grows.alloc ?_ _ | refine World.grows.plus ?_ _ _ | refine World.grows.drew ?_))⟩
        obtain ⟨x, hx⟩ : ∃ x : Nat, f k = x := ⟨(f k).toNat, by omega⟩
        have hs : Hid (posTo f (k + 1) = upd (posTo f k) k x) := Lib.hid (by rw [posTo_succ, hx]; simp)
        have hl' : Hid (0 ≤ f k ∧ f k ≤ J.len k) := Lib.hid ⟨by omega, by omega⟩
        rw [hx] at h0 h1 h2
        clear hx
        go_wp2
        go_roundw
        case rel => exact ⟨k + 1, by omega, by go_num, Lib.hid fun j hj => (by rcases Nat.lt_or_ge j k with h | h; exact hl.out j h; have hjk : j = k := (by omega); subst hjk; exact hl'.out), by rw [hs.out]⟩
        case measure => simp [intOf]; omega
      · have hke : k = J.n := by omega
        subst hke
        have hcn := Lib.hid (Job.posErr_ok hl.out)
        go_wp2
        (refine bodyPost_ret (v := .tuple #[plc (posTo f J.n), .int .i64 0]) (by simp [results, Try.results45, go_sem]) rfl ?_)
        exact ⟨by rw [hcn.out]; unfold Job.posP; rw [hcn.out]; rfl, by (repeat (first | exact World.grows.refl _ | assumption | refine World.grows.alloc ?_ _ | refine World.grows.plus ?_ _ _ | refine World.grows.drew ?_))⟩
  · have hcn := Lib.hid (Job.posErr_len (f := f) hm)
    go_wp2
    (refine bodyPost_ret (v := .tuple #[plc fun _ => 0, .int .i64 15]) (by simp [results, Try.results45, go_sem]) rfl ?_)
    exact ⟨by rw [hcn.out]; unfold Job.posP; rw [hcn.out]; rfl, by (repeat (first | exact World.grows.refl _ | assumption | refine World.grows.alloc ?_ _ | refine World.grows.plus ?_ _ _ | refine World.grows.drew ?_))⟩

end Go.Proofs.Ytjpccfpmhmddjaa

/-
  What is proved: IsPosition of the reference.
-/
namespace Go.Proofs.Ytjpccfpmhmddjaa
open Go.RowKit
attribute [local irreducible] Go.wpCalm

set_option maxHeartbeats 2000000 in
theorem isPos_c (w : World) (v : Value) (J : Job) (hJ : J.Ok) (hv : JobAt w v J) (pv : Value) (m : Nat) (f : Nat → Int) (hpv : IntsAt w pv m f) :
    Calls Try.prog 47 #[v, pv] w fun e w' => e = .returned (.int .i64 (J.posErr m f)) ∧ w.grows w' := by
  obtain ⟨b, o, cap, rb, ro, rc, rfl, hcap, hcap2, hrow, hpk, hlv, hrc⟩ := hv
  clear hpk hlv
  obtain ⟨pa, pcap, rfl, hpc1, hpc2, hpos⟩ := hpv
  unfold maxLen at hcap2 hpc2
  have hn4 := hJ.n4
  go_enter Try.func47, Try.ntmps47
  by_cases hm : m = J.n
  · subst hm
    go_wp2
    go_loopw [5] (fun i wr => ∃ k : Nat, k ≤ J.n ∧ i = .int .i64 k ∧ Hid (∀ j, j < k → 0 ≤ f j ∧ f j ≤ J.len j) ∧ (w.alloc (.cells #[.int .i64 J.start, .slice (some ⟨b, o, none⟩) J.n cap] 24)).grows wr) (fun i _ => J.n - (intOf i).toNat)
    case atStart => exact ⟨0, by omega, rfl, Lib.hid fun j hj => by omega, by (repeat (first | exact World.grows.refl _ | assumption | refine World.grows.alloc ?_ _ | refine World.grows.plus ?_ _ _ | refine World.grows.drew ?_))⟩
    case round =>
      obtain ⟨k, hk, rfl, hl, hg⟩ := hrel
      obtain ⟨n2, x2, rfl⟩ := World.plus_of hg
      by_cases hlt : k < J.n
      · have hrk := hrow k hlt
        have hrck := hrc k hlt
        unfold maxLen at hrck
        have h6 := hJ.l6 k hlt
        obtain ⟨pb, po, rfl, h0⟩ := hpos k 0 hlt (by omega)
        simp only [Nat.mul_one, Nat.add_zero] at h0
        have Hpos := Lib.hid hpos
        have Hrow := Lib.hid hrow
        have Hrc := Lib.hid hrc
        clear hpos hrow hrc
        by_cases h1 : f k < 0
        · have hcn := Lib.hid (Job.posErr_bad hlt (.inl h1))
          have hd : decide (f k < 0) = true := by simpa using h1
          go_wp2
          (refine wp_region_calm (by kernel_rfl) (by kernel_rfl) ?_; (repeat (refine wpCalm_step (fun K hK => ?_); go_simp; first | (refine hK _ ?_; clear hK K) | (apply Exists.intro; refine ⟨fun n' x' => ?_, hK _ ?_⟩; (fail); clear hK K))); refine wpCalm_nil ?_; intro nq xq)
          go_wp2
          (refine bodyPost_ret (v := .int .i64 3) (by simp [results, Try.results47, go_sem]) rfl ?_)
          exact ⟨ret_int hcn.out.symm, by (repeat (first | exact World.grows.refl _ | assumption | refine World.grows.alloc ?_ _ | refine World.grows.plus ?_ _ _ | refine World.grows.drew ?_))⟩
        by_cases h2 : J.len k < f k
        · have hcn := Lib.hid (Job.posErr_bad hlt (.inr h2))
          go_wp2
          (refine wp_region_calm (by kernel_rfl) (by kernel_rfl) ?_; (repeat (refine wpCalm_step (fun K hK => ?_); go_simp; first | (refine hK _ ?_; clear hK K) | (apply Exists.intro; refine ⟨fun n' x' => ?_, hK _ ?_⟩; (fail); clear hK K))); refine wpCalm_nil ?_; intro nq xq)
          go_wp2
          (refine bodyPost_ret (v := .int .i64 3) (by simp [results, Try.results47, go_sem]) rfl ?_)
          exact ⟨ret_int hcn.out.symm, by (repeat (first | exact World.grows.refl _ | assumption | refine World.grows.alloc ?_ _ | refine World.grows.plus ?_ _ _ | refine World.grows.drew ?_))⟩
        have hl' : Hid (0 ≤ f k ∧ f k ≤ J.len k) := Lib.hid ⟨by omega, by omega⟩
        go_wp2
        (refine wp_region_calm (by kernel_rfl) (by kernel_rfl) ?_; (repeat (refine wpCalm_step (fun K hK => ?_); go_simp; first | (refine hK _ ?_; clear hK K) | (apply Exists.intro; refine ⟨fun n' x' => ?_, hK _ ?_⟩; (fail); clear hK K))); refine wpCalm_nil ?_; intro nq xq)
        go_wp2
        go_roundw
        case rel => exact ⟨k + 1, by omega, by go_num, Lib.hid fun j hj => (by rcases Nat.lt_or_ge j k with h | h; exact hl.out j h; have hjk : j = k := (by omega); subst hjk; exact hl'.out), by (repeat (first | exact World.grows.refl _ | assumption | refine World.grows.alloc ?_ _ | refine World.grows.plus ?_ _ _ | refine World.grows.drew ?_))⟩
        case measure => simp [intOf]; omega
      · have hke : k = J.n := by omega
        subst hke
        have hcn := Lib.hid (Job.posErr_ok hl.out)
        go_wp2
        (refine bodyPost_ret (v := .int .i64 0) (by simp [results, Try.results47, go_sem]) rfl ?_)
        exact ⟨ret_int hcn.out.symm, by (repeat (first | exact World.grows.refl _ | assumption | refine World.grows.alloc ?_ _ | refine World.grows.plus ?_ _ _ | refine World.grows.drew ?_))⟩
  · have hcn := Lib.hid (Job.posErr_len (f := f) hm)
    go_wp2
    (refine bodyPost_ret (v := .int .i64 15) (by simp [results, Try.results47, go_sem]) rfl ?_)
    exact ⟨ret_int hcn.out.symm, by (repeat (first | exact World.grows.refl _ | assumption | refine World.grows.alloc ?_ _ | refine World.grows.plus ?_ _ _ | refine World.grows.drew ?_))⟩

end Go.Proofs.Ytjpccfpmhmddjaa

/-
  What is proved: Heat of the program and of the reference.
-/
namespace Go.Proofs.Ytjpccfpmhmddjaa
open Go.RowKit
attribute [local irreducible] Go.wpCalm

/-- what Heat answers: the heat and the error -/
def Job.heatErr (J : Job) (m : Nat) (f : Nat → Int) : Int := if J.check = 0 then J.posErr m f else J.check
def Job.heatAns (J : Job) (m : Nat) (f : Nat → Int) : Int := if J.heatErr m f = 0 then J.heat (J.posP m f) else 0

set_option maxHeartbeats 1000000 in
theorem Heat_c (w : World) (v : Value) (J : Job) (hv : RawAt w v J) (pv : Value) (m : Nat) (f : Nat → Int) (hpv : IntsAt w pv m f) :
    Calls Try.prog 16 #[v, pv] w fun e w' => e = .returned (.tuple #[.int .i64 (J.heatAns m f), .int .i64 (J.heatErr m f)]) ∧ w.grows w' := by
  have Hv := Lib.hid hv
  have Hpv := Lib.hid hpv
  obtain ⟨rv, row, rfl, -, -⟩ := hv
  clear hpv
  go_enter Try.func16, Try.ntmps16
  by_cases hc : J.check = 0
  · have hJ := Lib.hid ((Job.Ok_iff J).2 hc)
    have Hc := Lib.hid hc
    clear hc
    by_cases he : J.posErr m f = 0
    · have hin := Job.posP_In he
      have hE : Hid (J.heatErr m f = 0) := Lib.hid (by unfold Job.heatErr; rw [if_pos Hc.out, he])
      go_wp2_with (first
        | (go_at_call 44; refine (open_c _ _ J ((Hv.out.mono (by (repeat (first | exact World.grows.refl _ | assumption | refine World.grows.alloc ?_ _ | refine World.grows.plus ?_ _ _ | refine World.grows.drew ?_)))).job hJ.out) hJ.out).mono ?_; rintro e w1 ⟨p, rfl, hg1, hP, hp⟩)
        | (go_at_call 45; refine (place_c _ p J hJ.out hP _ m f (Hpv.out.mono (World.grows.trans (by (repeat (first | exact World.grows.refl _ | assumption | refine World.grows.alloc ?_ _ | refine World.grows.plus ?_ _ _ | refine World.grows.drew ?_))) hg1))).mono ?_; rintro e w2 ⟨rfl, hg2⟩; obtain ⟨n2, x2, rfl⟩ := World.plus_of hg2)
        | (go_at_call 46; refine (heat_c _ p J (J.posP m f) (hP.mono (by (repeat (first | exact World.grows.refl _ | assumption | refine World.grows.alloc ?_ _ | refine World.grows.plus ?_ _ _ | refine World.grows.drew ?_)))) hJ.out hin.1).mono ?_; rintro e w3 ⟨rfl, hg3⟩; obtain ⟨n3, x3, rfl⟩ := World.plus_of hg3))
      (refine bodyPost_ret (v := .tuple #[.int .i64 (J.heat (J.posP m f)), .int .i64 0]) (by simp [results, Try.results16, go_sem]) rfl ?_)
      refine ⟨by unfold Job.heatAns; rw [hE.out]; simp, ?_⟩
      exact World.grows.trans (World.grows.trans (by (repeat (first | exact World.grows.refl _ | assumption | refine World.grows.alloc ?_ _ | refine World.grows.plus ?_ _ _ | refine World.grows.drew ?_))) hg1) (by (repeat (first | exact World.grows.refl _ | assumption | refine World.grows.alloc ?_ _ | refine World.grows.plus ?_ _ _ | refine World.grows.drew ?_)))
    · have hE : Hid (J.heatErr m f = J.posErr m f) := Lib.hid (by unfold Job.heatErr; rw [if_pos Hc.out])
      go_wp2_with (first
        | (go_at_call 44; refine (open_c _ _ J ((Hv.out.mono (by (repeat (first | exact World.grows.refl _ | assumption | refine World.grows.alloc ?_ _ | refine World.grows.plus ?_ _ _ | refine World.grows.drew ?_)))).job hJ.out) hJ.out).mono ?_; rintro e w1 ⟨p, rfl, hg1, hP, hp⟩)
        | (go_at_call 45; refine (place_c _ p J hJ.out hP _ m f (Hpv.out.mono (World.grows.trans (by (repeat (first | exact World.grows.refl _ | assumption | refine World.grows.alloc ?_ _ | refine World.grows.plus ?_ _ _ | refine World.grows.drew ?_))) hg1))).mono ?_; rintro e w2 ⟨rfl, hg2⟩; obtain ⟨n2, x2, rfl⟩ := World.plus_of hg2))
      (refine bodyPost_ret (v := .tuple #[.int .i64 0, .int .i64 (J.posErr m f)]) (by simp [results, Try.results16, go_sem]) rfl ?_)
      refine ⟨by unfold Job.heatAns; rw [hE.out, if_neg he], ?_⟩
      exact World.grows.trans (World.grows.trans (by (repeat (first | exact World.grows.refl _ | assumption | refine World.grows.alloc ?_ _ | refine World.grows.plus ?_ _ _ | refine World.grows.drew ?_))) hg1) (by (repeat (first | exact World.grows.refl _ | assumption | refine World.grows.alloc ?_ _ | refine World.grows.plus ?_ _ _ | refine World.grows.drew ?_)))
  · have hE : Hid (J.heatErr m f = J.check) := Lib.hid (by unfold Job.heatErr; rw [if_neg hc])
    go_wp2_with (go_at_call 44; refine (open_bad _ _ J (Hv.out.mono (by (repeat (first | exact World.grows.refl _ | assumption | refine World.grows.alloc ?_ _ | refine World.grows.plus ?_ _ _ | refine World.grows.drew ?_)))) hc).mono ?_; rintro e w' ⟨rfl, hg⟩; obtain ⟨n2, x2, rfl⟩ := World.plus_of hg)
    (refine bodyPost_ret (v := .tuple #[.int .i64 0, .int .i64 J.check]) (by simp [results, Try.results16, go_sem]) rfl ?_)
    exact ⟨by unfold Job.heatAns; rw [hE.out, if_neg hc], by (repeat (first | exact World.grows.refl _ | assumption | refine World.grows.alloc ?_ _ | refine World.grows.plus ?_ _ _ | refine World.grows.drew ?_))⟩

set_option maxHeartbeats 1000000 in
theorem rHeat_c (w : World) (v : Value) (J : Job) (hv : RawAt w v J) (pv : Value) (m : Nat) (f : Nat → Int) (hpv : IntsAt w pv m f) :
    Calls Try.prog 17 #[v, pv] w fun e w' => e = .returned (.tuple #[.int .i64 (J.heatAns m f), .int .i64 (J.heatErr m f)]) ∧ w.grows w' := by
  have Hv := Lib.hid hv
  have Hpv := Lib.hid hpv
  obtain ⟨rv, row, rfl, -, -⟩ := hv
  clear hpv
  go_enter Try.func17, Try.ntmps17
  by_cases hc : J.check = 0
  · have hJ := Lib.hid ((Job.Ok_iff J).2 hc)
    have Hc := Lib.hid hc
    have h23 := fun W hW => rcheck_c W (.agg #[.int .i64 J.start, rv]) J hW
    rw [hc] at h23
    clear hc
    by_cases he : J.posErr m f = 0
    · have hin := Job.posP_In he
      have hE : Hid (J.heatErr m f = 0) := Lib.hid (by unfold Job.heatErr; rw [if_pos Hc.out, he])
      have h47 := fun W hW hp => isPos_c W (.agg #[.int .i64 J.start, rv]) J hJ.out hW pv m f hp
      rw [he] at h47
      have hm := (Job.posErr_zero he).1
      have hpp : Hid (∀ W : World, w.grows W → IntsAt W pv J.n (fun i => J.posP m f i)) := Lib.hid fun W hW => by
        have h := Hpv.out.mono hW
        have h3 := hin.2.2
        generalize J.posP m f = q at h3
        rw [hm] at h
        exact SliceAt.congr h fun i _ hi _ => by show Value.int .i64 (f i) = .int .i64 (q i : Nat); rw [h3 i hi]
      clear he hm
      go_wp2_with (first
        | (go_at_call 23; refine (h23 _ (Hv.out.mono (by (repeat (first | exact World.grows.refl _ | assumption | refine World.grows.alloc ?_ _ | refine World.grows.plus ?_ _ _ | refine World.grows.drew ?_))))).mono ?_; rintro e w1 ⟨rfl, hg1⟩; obtain ⟨n1, x1, rfl⟩ := World.plus_of hg1)
        | (go_at_call 47; refine (h47 _ ((Hv.out.mono (by (repeat (first | exact World.grows.refl _ | assumption | refine World.grows.alloc ?_ _ | refine World.grows.plus ?_ _ _ | refine World.grows.drew ?_)))).job hJ.out) (Hpv.out.mono (by (repeat (first | exact World.grows.refl _ | assumption | refine World.grows.alloc ?_ _ | refine World.grows.plus ?_ _ _ | refine World.grows.drew ?_))))).mono ?_; rintro e w2 ⟨rfl, hg2⟩; obtain ⟨n2, x2, rfl⟩ := World.plus_of hg2)
        | (go_at_call 48; refine (rheat_c _ _ _ J (J.posP m f) ((Hv.out.mono (by (repeat (first | exact World.grows.refl _ | assumption | refine World.grows.alloc ?_ _ | refine World.grows.plus ?_ _ _ | refine World.grows.drew ?_)))).job hJ.out) (hpp.out _ (by (repeat (first | exact World.grows.refl _ | assumption | refine World.grows.alloc ?_ _ | refine World.grows.plus ?_ _ _ | refine World.grows.drew ?_)))) hJ.out hin.1).mono ?_; rintro e w3 ⟨rfl, hg3⟩; obtain ⟨n3, x3, rfl⟩ := World.plus_of hg3))
      (refine bodyPost_ret (v := .tuple #[.int .i64 (J.heat (J.posP m f)), .int .i64 0]) (by simp [results, Try.results17, go_sem]) rfl ?_)
      exact ⟨by unfold Job.heatAns; rw [hE.out]; simp, by (repeat (first | exact World.grows.refl _ | assumption | refine World.grows.alloc ?_ _ | refine World.grows.plus ?_ _ _ | refine World.grows.drew ?_))⟩
    · have hE : Hid (J.heatErr m f = J.posErr m f) := Lib.hid (by unfold Job.heatErr; rw [if_pos Hc.out])
      go_wp2_with (first
        | (go_at_call 23; refine (h23 _ (Hv.out.mono (by (repeat (first | exact World.grows.refl _ | assumption | refine World.grows.alloc ?_ _ | refine World.grows.plus ?_ _ _ | refine World.grows.drew ?_))))).mono ?_; rintro e w1 ⟨rfl, hg1⟩; obtain ⟨n1, x1, rfl⟩ := World.plus_of hg1)
        | (go_at_call 47; refine (isPos_c _ _ J hJ.out ((Hv.out.mono (by (repeat (first | exact World.grows.refl _ | assumption | refine World.grows.alloc ?_ _ | refine World.grows.plus ?_ _ _ | refine World.grows.drew ?_)))).job hJ.out) _ m f (Hpv.out.mono (by (repeat (first | exact World.grows.refl _ | assumption | refine World.grows.alloc ?_ _ | refine World.grows.plus ?_ _ _ | refine World.grows.drew ?_))))).mono ?_; rintro e w2 ⟨rfl, hg2⟩; obtain ⟨n2, x2, rfl⟩ := World.plus_of hg2))
      (refine bodyPost_ret (v := .tuple #[.int .i64 0, .int .i64 (J.posErr m f)]) (by simp [results, Try.results17, go_sem]) rfl ?_)
      exact ⟨by unfold Job.heatAns; rw [hE.out, if_neg he], by (repeat (first | exact World.grows.refl _ | assumption | refine World.grows.alloc ?_ _ | refine World.grows.plus ?_ _ _ | refine World.grows.drew ?_))⟩
  · have hE : Hid (J.heatErr m f = J.check) := Lib.hid (by unfold Job.heatErr; rw [if_neg hc])
    go_wp2_with (go_at_call 23; refine (rcheck_c _ _ J (Hv.out.mono (by (repeat (first | exact World.grows.refl _ | assumption | refine World.grows.alloc ?_ _ | refine World.grows.plus ?_ _ _ | refine World.grows.drew ?_))))).mono ?_; rintro e w' ⟨rfl, hg⟩; obtain ⟨n2, x2, rfl⟩ := World.plus_of hg)
    (refine bodyPost_ret (v := .tuple #[.int .i64 0, .int .i64 J.check]) (by simp [results, Try.results17, go_sem]) rfl ?_)
    exact ⟨by unfold Job.heatAns; rw [hE.out, if_neg hc], by (repeat (first | exact World.grows.refl _ | assumption | refine World.grows.alloc ?_ _ | refine World.grows.plus ?_ _ _ | refine World.grows.drew ?_))⟩

end Go.Proofs.Ytjpccfpmhmddjaa

/-
  What is proved: plain words on orders: the places an order goes through, its error, the heats of its steps.
-/
namespace Go.Proofs.Ytjpccfpmhmddjaa
open Go.RowKit

/-- the place after the first k steps of an order -/
def walkP (g : Nat → Nat) : Nat → Nat → Nat
  | 0 => fun _ => 0
  | k + 1 => upd (walkP g k) (g k) (walkP g k (g k) + 1)
def natOf (f : Nat → Int) (i : Nat) : Nat := (f i).toNat
/-- the error of a list of m numbers as an order -/
def Job.ordErr (J : Job) (m : Nat) (f : Nat → Int) : Int :=
  if (List.range m).any (fun i => decide (f i < 0) || decide ((J.n : Int) ≤ f i)) = true then 3
  else if (List.range J.n).any (fun r => decide (walkP (natOf f) m r ≠ J.len r)) = true then 16 else 0
/-- the heat of a step of an order -/
def Job.hotAt (J : Job) (g : Nat → Nat) (k : Nat) : Int := J.hot (walkP g k) (g k)

theorem walkP_out {g : Nat → Nat} {n : Nat} : ∀ k, (∀ i, i < k → g i < n) → ∀ r, n ≤ r → walkP g k r = 0
  | 0, _, _, _ => rfl
  | k + 1, h, r, hr => by
    have := h k (by omega)
    simp only [walkP, upd]
    rw [if_neg (by omega)]
    exact walkP_out k (fun i hi => h i (by omega)) r hr
theorem walkP_le {g : Nat → Nat} (r : Nat) : ∀ k, walkP g k r ≤ k
  | 0 => by simp [walkP]
  | k + 1 => by
    have h1 := walkP_le (g := g) r k
    simp only [walkP, upd]
    split
    · rename_i h; subst h; omega
    · omega
theorem walkP_mono {g : Nat → Nat} (r : Nat) : ∀ m k, k ≤ m → walkP g k r ≤ walkP g m r
  | 0, k, h => by have : k = 0 := by omega
                  subst this; exact Nat.le_refl _
  | m + 1, k, h => by
    rcases Nat.lt_or_ge k (m + 1) with hk | hk
    · have h1 := walkP_mono (g := g) r m k (by omega)
      simp only [walkP, upd]
      split
      · rename_i h; subst h; omega
      · omega
    · have : k = m + 1 := by omega
      subst this; exact Nat.le_refl _
theorem walkP_lt {g : Nat → Nat} {m k : Nat} (h : k < m) : walkP g k (g k) < walkP g m (g k) := by
  have h1 := walkP_mono (g := g) (g k) m (k + 1) (by omega)
  simp only [walkP, upd, if_true] at h1
  omega
def sumN (f : Nat → Nat) : Nat → Nat
  | 0 => 0
  | k + 1 => sumN f k + f k
theorem sumN_upd (f : Nat → Nat) (r x : Nat) : ∀ n, sumN (upd f r x) n + (if r < n then f r else 0) = sumN f n + (if r < n then x else 0)
  | 0 => by simp [sumN]
  | n + 1 => by
    have ih := sumN_upd f r x n
    have hu : upd f r x n = if n = r then x else f n := rfl
    simp only [sumN]
    rw [hu]
    rcases Nat.lt_trichotomy r n with h | h | h
    · rw [if_pos h, if_pos h] at ih
      rw [if_neg (show ¬ n = r by omega), if_pos (show r < n + 1 by omega), if_pos (show r < n + 1 by omega)]
      omega
    · subst h
      simp at ih ⊢
      omega
    · rw [if_neg (show ¬ r < n by omega), if_neg (show ¬ r < n by omega)] at ih
      rw [if_neg (show ¬ n = r by omega), if_neg (show ¬ r < n + 1 by omega), if_neg (show ¬ r < n + 1 by omega)]
      omega
theorem walkP_sum {g : Nat → Nat} {n : Nat} : ∀ k, (∀ i, i < k → g i < n) → sumN (walkP g k) n = k
  | 0, _ => by
    have : ∀ n, sumN (walkP g 0) n = 0 := fun n => by
      induction n with
      | zero => rfl
      | succ n ih => simp only [sumN, walkP] at ih ⊢; omega
    exact this n
  | k + 1, h => by
    have ih := walkP_sum k fun i hi => h i (by omega)
    have h1 := sumN_upd (walkP g k) (g k) (walkP g k (g k) + 1) n
    have h2 := h k (by omega)
    rw [if_pos h2, if_pos h2, ih] at h1
    simp only [walkP]
    omega
theorem sumN_congr {f g : Nat → Nat} : ∀ n, (∀ i, i < n → f i = g i) → sumN f n = sumN g n
  | 0, _ => rfl
  | n + 1, h => by simp only [sumN]; rw [sumN_congr n fun i hi => h i (by omega), h n (by omega)]
theorem sumN_le {f : Nat → Nat} {c : Nat} : ∀ n, (∀ i, i < n → f i ≤ c) → sumN f n ≤ c * n
  | 0, _ => by simp [sumN]
  | n + 1, h => by
    have h1 := sumN_le n fun i hi => h i (by omega)
    have h2 := h n (by omega)
    simp only [sumN]; rw [Nat.mul_add]; omega
theorem sumN_pos {f : Nat → Nat} : ∀ n, (∀ i, i < n → 1 ≤ f i) → n ≤ sumN f n
  | 0, _ => by simp
  | n + 1, h => by
    have h1 := sumN_pos n fun i hi => h i (by omega)
    have h2 := h n (by omega)
    simp only [sumN]; omega

theorem Job.ordErr_range {J : Job} {m : Nat} {f : Nat → Int} {i : Nat} (hi : i < m) (h : f i < 0 ∨ (J.n : Int) ≤ f i) : J.ordErr m f = 3 := by
  unfold Job.ordErr
  rw [if_pos]
  exact List.any_eq_true.2 ⟨i, by simpa using hi, by simpa using h⟩
theorem Job.ordErr_not {J : Job} {m : Nat} {f : Nat → Int} (h : ∀ i, i < m → 0 ≤ f i ∧ f i < J.n) : ¬ ((List.range m).any (fun i => decide (f i < 0) || decide ((J.n : Int) ≤ f i)) = true) := by
  simp only [Bool.not_eq_true, List.any_eq_false, List.mem_range]
  intro i hi
  have := h i hi
  simp; omega
theorem Job.ordErr_rule {J : Job} {m : Nat} {f : Nat → Int} (h : ∀ i, i < m → 0 ≤ f i ∧ f i < J.n) {r : Nat} (hr : r < J.n) (h2 : walkP (natOf f) m r ≠ J.len r) : J.ordErr m f = 16 := by
  unfold Job.ordErr
  rw [if_neg (Job.ordErr_not h), if_pos]
  exact List.any_eq_true.2 ⟨r, by simpa using hr, by simpa using h2⟩
theorem Job.ordErr_ok {J : Job} {m : Nat} {f : Nat → Int} (h : ∀ i, i < m → 0 ≤ f i ∧ f i < J.n) (h2 : ∀ r, r < J.n → walkP (natOf f) m r = J.len r) : J.ordErr m f = 0 := by
  unfold Job.ordErr
  rw [if_neg (Job.ordErr_not h), if_neg]
  simp only [Bool.not_eq_true, List.any_eq_false, List.mem_range]
  intro r hr
  simpa using h2 r hr
/-- the numbers of an order are those of edges, each as often as it has passes -/
structure Job.OrdOk (J : Job) (m : Nat) (g : Nat → Nat) : Prop where
  lt : ∀ i, i < m → g i < J.n
  all : ∀ r, r < J.n → walkP g m r = J.len r
theorem Job.ordErr_zero {J : Job} {m : Nat} {f : Nat → Int} (h : J.ordErr m f = 0) : (∀ i, i < m → f i = (natOf f i : Int)) ∧ J.OrdOk m (natOf f) := by
  unfold Job.ordErr at h
  split at h
  · cases h
  · rename_i h1
    split at h
    · cases h
    · rename_i h2
      simp only [Bool.not_eq_true, List.any_eq_false, List.mem_range] at h1 h2
      have hb : ∀ i, i < m → 0 ≤ f i ∧ f i < J.n := fun i hi => by have := h1 i hi; simp at this; omega
      refine ⟨fun i hi => ?_, fun i hi => ?_, fun r hr => ?_⟩
      · have := hb i hi; unfold natOf; omega
      · have := hb i hi; unfold natOf; omega
      · have := h2 r hr; simpa using this
theorem Job.OrdOk.lt_len {J : Job} {m : Nat} {g : Nat → Nat} (h : J.OrdOk m g) {k : Nat} (hk : k < m) : walkP g k (g k) < J.len (g k) := by
  rw [← h.all _ (h.lt k hk)]
  exact walkP_lt hk
theorem Job.OrdOk.le_len {J : Job} {m : Nat} {g : Nat → Nat} (h : J.OrdOk m g) {k : Nat} (hk : k ≤ m) {r : Nat} (hr : r < J.n) : walkP g k r ≤ J.len r := by
  rw [← h.all _ hr]
  exact walkP_mono r m k hk
theorem Job.OrdOk.m_eq {J : Job} {m : Nat} {g : Nat → Nat} (h : J.OrdOk m g) : m = sumN J.len J.n := by
  rw [← sumN_congr J.n h.all, walkP_sum m h.lt]
theorem Job.OrdOk.m_bd {J : Job} {m : Nat} {g : Nat → Nat} (h : J.OrdOk m g) (hJ : J.Ok) : 1 ≤ m ∧ m ≤ 24 := by
  have h1 := sumN_le J.n hJ.l6
  have h2 := sumN_pos J.n hJ.l1
  have := h.m_eq
  have := hJ.n1
  have := hJ.n4
  omega

theorem eqPl (p q : Nat → Nat) (w : World) : (Op.equalIn 10000 76 (plc p) (plc q)).run Try.prog w = .ok (decide (p 0 = q 0 ∧ p 1 = q 1 ∧ p 2 = q 2 ∧ p 3 = q 3)) w := by
  have h := eq76 9998 w (p 0, p 1, p 2, p 3) (q 0, q 1, q 2, q 3)
  simp only [Prod.mk.injEq] at h
  exact h
theorem eqPl0 (p : Nat → Nat) (w : World) : (Op.equalIn 10000 76 (plc p) (.agg #[.int .i64 0, .int .i64 0, .int .i64 0, .int .i64 0])).run Try.prog w = .ok (decide (p 0 = 0 ∧ p 1 = 0 ∧ p 2 = 0 ∧ p 3 = 0)) w :=
  eqPl p (fun _ => 0) w

/-- the last place is reached -/
theorem Job.last_iff {J : Job} (hJ : J.Ok) {p : Nat → Nat} (hp : ∀ r, J.n ≤ r → p r = 0) :
    (p 0 = J.last 0 ∧ p 1 = J.last 1 ∧ p 2 = J.last 2 ∧ p 3 = J.last 3) ↔ ∀ r, r < J.n → p r = J.len r := by
  have hn4 := hJ.n4
  have key : ∀ r, (p r = J.last r) ↔ (r < J.n → p r = J.len r) := fun r => by
    unfold Job.last
    by_cases h : r < J.n
    · simp [h]
    · simp [h, hp r (by omega)]
  rw [key, key, key, key]
  constructor
  · rintro ⟨h0, h1, h2, h3⟩ r hr
    match r, hr with
    | 0, hr => exact h0 hr
    | 1, hr => exact h1 hr
    | 2, hr => exact h2 hr
    | 3, hr => exact h3 hr
    | r + 4, hr => omega
  · intro h
    exact ⟨h 0, h 1, h 2, h 3⟩

end Go.Proofs.Ytjpccfpmhmddjaa

/-
  What is proved: follow.
-/
namespace Go.Proofs.Ytjpccfpmhmddjaa
open Go.RowKit
attribute [local irreducible] Go.wpCalm

theorem el2 : Try.prog.knows 2 (.int .i64 0) 1 8 := Program.knows_of (by kernel_rfl)

@[local go_sem] theorem zero4 : (Builtin.zeroCells #[.int .i64 0] 4).toList = [.int .i64 0, .int .i64 0, .int .i64 0, .int .i64 0] := by
  simp [Builtin.zeroCells, List.range_succ]
@[local go_sem ↓] theorem clear4 (w : World) (n : Nat) (x : World) (p : Nat → Nat) (ty : TypeId) :
    (Builtin.clear_ #[25] ty #[.slice (some ⟨w.heap.size, 0, none⟩) 4 4]).run Try.prog ((w.alloc (plcO p)).plus n x) = .ok (.tuple #[]) (((((((w.alloc (plcO p)).plus n x).setCell ⟨w.heap.size, 0, none⟩ (.int .i64 0)).setCell ⟨w.heap.size, 1, none⟩ (.int .i64 0)).setCell ⟨w.heap.size, 2, none⟩ (.int .i64 0)).setCell ⟨w.heap.size, 3, none⟩ (.int .i64 0))) := by
  unfold Builtin.clear_
  simp [go_sem]

set_option maxHeartbeats 4000000 in
theorem follow_ok (w : World) (v : Value) (J : Job) (hv : RawAt w v J) (hJ : J.Ok) (ov : Value) (m : Nat) (f : Nat → Int) (hov : IntsAt w ov m f) :
    Calls Try.prog 49 #[v, ov] w fun e w' => (∃ sv, e = .returned (.tuple #[sv, .int .i64 (J.ordErr m f)]) ∧ (J.ordErr m f = 0 → IntsAt w' sv m (J.hotAt (natOf f))) ∧ (J.ordErr m f ≠ 0 → sv = .slice none 0 0)) ∧ w.grows w' := by
  have Hv := Lib.hid hv
  have hv2 := hv.job hJ
  obtain ⟨b, o, cap, rb, ro, rc, rfl, hcap, hcap2, -⟩ := hv2
  clear hv
  have Hov := Lib.hid hov
  obtain ⟨oa, ocap, rfl, hoc1, hoc2, -⟩ := hov
  unfold maxLen at hoc2
  have hn4 := hJ.n4
  have HJ := Lib.hid hJ
  clear hJ
  go_enter Try.func49, Try.ntmps49
  go_wp2_with (go_at_call 44; refine (open_c _ _ J ((Hv.out.mono (by (repeat (first | exact World.grows.refl _ | assumption | refine World.grows.alloc ?_ _ | refine World.grows.plus ?_ _ _ | refine World.grows.drew ?_)))).job HJ.out) HJ.out).mono ?_)
  rintro e w1 ⟨p, rfl, hg1, hP, hp⟩
  have hgw : w.grows w1 := World.grows.trans (by (repeat (first | exact World.grows.refl _ | assumption | refine World.grows.alloc ?_ _ | refine World.grows.plus ?_ _ _ | refine World.grows.drew ?_))) hg1
  have hbox : w1.cell? ⟨w.heap.size, 1, none⟩ = some (.slice (some ⟨b, o, none⟩) J.n cap) := by rw [hg1.cell (by simp [go_sem])]; simp [go_sem]
  have hord : ∀ k : Nat, k < m → ∃ b o, oa = some ⟨b, o, none⟩ ∧ w1.cell? ⟨b, o + k, none⟩ = some (.int .i64 (f k)) := by
    obtain ⟨_, _, he, _, _, hc⟩ := Hov.out.mono hgw
    cases he
    intro k hk
    obtain ⟨b, o, h1, h2⟩ := hc k 0 hk (by omega)
    exact ⟨b, o, h1, by simpa using h2⟩
  have HP := Lib.hid hP
  obtain ⟨hstart, hlast, hrows⟩ := hP
  clear hrows hg1
  have Hgw := Lib.hid hgw
  clear hgw
  go_wp2
  go_loopw [25] (fun i wr => ∃ k : Nat, k ≤ m ∧ i = .int .i64 k ∧ Hid (∀ j, j < k → 0 ≤ f j ∧ f j < J.n) ∧ wr = w1.alloc (plcO (walkP (natOf f) k))) (fun i _ => m - (intOf i).toNat)
  case atStart => exact ⟨0, by omega, rfl, Lib.hid fun j hj => by omega, rfl⟩
  case round =>
    obtain ⟨k, hk, rfl, hl, rfl⟩ := hrel
    by_cases hlt : k < m
    · obtain ⟨ob, oo, rfl, h0⟩ := hord k hlt
      by_cases h1 : f k < 0
      · have hcn := Lib.hid (Job.ordErr_range (J := J) hlt (.inl h1))
        go_wp2
        (refine bodyPost_ret (v := .tuple #[.slice none 0 0, .int .i64 3]) (by simp [results, Try.results49, go_sem]) rfl ?_)
        exact ⟨⟨_, by rw [hcn.out], by rw [hcn.out]; simp, fun _ => rfl⟩, Hgw.out.trans (by (repeat (first | exact World.grows.refl _ | assumption | refine World.grows.alloc ?_ _ | refine World.grows.plus ?_ _ _ | refine World.grows.drew ?_)))⟩
      by_cases h2 : (J.n : Int) ≤ f k
      · have hcn := Lib.hid (Job.ordErr_range (J := J) hlt (.inr h2))
        go_wp2
        (refine bodyPost_ret (v := .tuple #[.slice none 0 0, .int .i64 3]) (by simp [results, Try.results49, go_sem]) rfl ?_)
        exact ⟨⟨_, by rw [hcn.out], by rw [hcn.out]; simp, fun _ => rfl⟩, Hgw.out.trans (by (repeat (first | exact World.grows.refl _ | assumption | refine World.grows.alloc ?_ _ | refine World.grows.plus ?_ _ _ | refine World.grows.drew ?_)))⟩
      have hb : Hid (0 ≤ f k ∧ f k < J.n) := Lib.hid ⟨by omega, by omega⟩
      obtain ⟨x, hx⟩ : ∃ x : Nat, f k = x := ⟨(f k).toNat, by omega⟩
      have hs : Hid (walkP (natOf f) (k + 1) = upd (walkP (natOf f) k) x (walkP (natOf f) k x + 1)) := Lib.hid (by simp only [walkP, natOf, hx]; simp)
      have hwl := walkP_le (g := natOf f) x k
      rw [hx] at h0 h1 h2
      clear hx
      have hx4 : x < 4 := by omega
      go_wp2
      go_roundw
      case rel => exact ⟨k + 1, by omega, by go_num, Lib.hid fun j hj => (by rcases Nat.lt_or_ge j k with h | h; exact hl.out j h; have hjk : j = k := (by omega); subst hjk; exact hb.out), by rw [hs.out]⟩
      case measure => simp [intOf]; omega
    · have hke : k = m := by omega
      subst hke
      have hlo : ∀ i, i < k → natOf f i < J.n := fun i hi => by have := hl.out i hi; unfold natOf; omega
      have hwo := walkP_out k hlo
      have hiff := Job.last_iff HJ.out hwo
      have l0 : w1.cell? ⟨p, 2, none⟩ = some (.int .i64 (J.last 0)) := hlast 0 (by omega)
      have l1 : w1.cell? ⟨p, 3, none⟩ = some (.int .i64 (J.last 1)) := hlast 1 (by omega)
      have l2 : w1.cell? ⟨p, 4, none⟩ = some (.int .i64 (J.last 2)) := hlast 2 (by omega)
      have l3 : w1.cell? ⟨p, 5, none⟩ = some (.int .i64 (J.last 3)) := hlast 3 (by omega)
      by_cases hq : walkP (natOf f) k 0 = J.last 0 ∧ walkP (natOf f) k 1 = J.last 1 ∧ walkP (natOf f) k 2 = J.last 2 ∧ walkP (natOf f) k 3 = J.last 3
      · have hcn := Lib.hid (Job.ordErr_ok hl.out (hiff.1 hq))
        have hOk := Lib.hid (Job.ordErr_zero hcn.out)
        have hd : ∀ W : World, (Op.equalIn 10000 76 (plc (walkP (natOf f) k)) (plc J.last)).run Try.prog W = .ok true W := fun W => by rw [eqPl]; congr 1; simpa using hq
        clear hq hiff hwo hlo
        go_wp2
        (refine wp_region_calm (by kernel_rfl) (by kernel_rfl) ?_; (repeat (refine wpCalm_step (fun K hK => ?_); go_simp; first | (refine hK _ ?_; clear hK K) | (apply Exists.intro; refine ⟨fun n' x' => ?_, hK _ ?_⟩; (fail); clear hK K))); refine wpCalm_nil ?_; intro nq xq)
        go_wp2
        go_loopw [11, 53] (fun s i wr => ∃ j : Nat, j ≤ k ∧ i = .int .i64 j ∧ IntsAt wr s j (J.hotAt (natOf f)) ∧ (w1.alloc (plcO (walkP (natOf f) j))).grows wr) (fun _ i _ => k - (intOf i).toNat)
        case atStart => exact ⟨0, by omega, rfl, SliceAt.none, by (repeat (first | exact World.grows.refl _ | assumption | refine World.grows.alloc ?_ _ | refine World.grows.plus ?_ _ _ | refine World.grows.drew ?_))⟩
        case round =>
          obtain ⟨j, hj, rfl, hI, hg⟩ := hrel
          have hmb := Lib.hid (hOk.out.2.m_bd HJ.out)
          have hk24 := hmb.out.2
          obtain ⟨sa, scap, rfl, hs1, hs2, -⟩ := id hI
          have HI := Lib.hid hI
          clear hI
          unfold maxLen at hs2
          obtain ⟨n1, x1, rfl⟩ := World.plus_of hg
          by_cases hlt2 : j < k
          · obtain ⟨ob, oo, rfl, h0⟩ := hord j hlt2
            have hfj := hOk.out.1 j hlt2
            rw [hfj] at h0
            have hgl := hOk.out.2.lt j hlt2
            have hll := hOk.out.2.lt_len hlt2
            have hle : Hid (∀ i, i < J.n → walkP (natOf f) j i ≤ J.len i) := Lib.hid fun i hi => hOk.out.2.le_len hj hi
            go_wp2_with (go_at_call 76; refine (step_c _ p J (walkP (natOf f) j) (natOf f j) (HP.out.mono (by (repeat (first | exact World.grows.refl _ | assumption | refine World.grows.alloc ?_ _ | refine World.grows.plus ?_ _ _ | refine World.grows.drew ?_)))) HJ.out hle.out hgl hll).mono ?_; rintro e w2 ⟨rfl, hg2⟩; have HI2 := Lib.hid (HI.out.mono hg2); obtain ⟨n2, x2, rfl⟩ := World.plus_of ((World.grows_plus _ _ _).trans hg2))
            (refine wp_region_made 9 8 _ rfl (by kernel_rfl) (by kernel_rfl) (by decide) (by decide) rfl ?_; simp only [List.take_succ_cons, List.take_zero, List.drop_succ_cons, List.drop_zero, List.take_nil, List.drop_nil, List.append_nil, List.nil_append, List.cons_append, Nat.reduceAdd, Nat.reduceSub]; (repeat (refine wpCalm_step (fun K hK => ?_); go_simp; first | (refine hK _ ?_; clear hK K) | (apply Exists.intro; refine ⟨fun n' x' => ?_, hK _ ?_⟩; (fail); clear hK K))); refine wpCalm_nil ⟨((fun b => .slice (some ⟨b, 0, none⟩) 1 1), _), fun n' x' => (by go_simp; first | exact ⟨rfl, rfl⟩ | rfl), ?_⟩; intro kq x1q mq x2q)
            go_wp2_with (at_builtin; refine wpList_append_cap _ rfl _ _ _ (by rfl) 2 (.int .i64 0) 1 8 Try.underlying71 el2 (by rfl) (by omega) sa j _ (by rfl) ((SliceAt.src (by omega) (HI2.out.mono (by (repeat (first | exact World.grows.refl _ | assumption | refine World.grows.alloc ?_ _ | refine World.grows.plus ?_ _ _ | refine World.grows.drew ?_))))).cap j) (SliceAt.none_zero (by omega) HI.out) _ (by rfl) 1 _ (SliceAt.src (by omega) ((one_slice _ _ _ _ (by simp)).mono (World.grows_plus _ _ _))) (by omega) (by unfold maxLen; omega) (by omega) ?_; intro v' w3 hown hg3; have hI3 : Hid (∀ u0 u1 u2 u3, IntsAt ((((w3.setCell ⟨w1.heap.size, 0, none⟩ u0).setCell ⟨w1.heap.size, 1, none⟩ u1).setCell ⟨w1.heap.size, 2, none⟩ u2).setCell ⟨w1.heap.size, 3, none⟩ u3) v' (j + 1) (J.hotAt (natOf f))) := Lib.hid (fun u0 u1 u2 u3 => IntsAt.push ((((hown.set (by simp; omega) u0).set (by simp; omega) u1).set (by simp; omega) u2).set (by simp; omega) u3) rfl); clear hown; obtain ⟨n3, x3, rfl⟩ := World.plus_of ((((World.grows_plus _ kq x1q).alloc _).plus mq x2q).trans hg3))
            go_roundw
            case rel => exact ⟨j + 1, by omega, by go_num, by simpa [go_sem] using hI3.out (.int .i64 (Job.to (walkP (natOf f) j) (natOf f j) 0)) (.int .i64 (Job.to (walkP (natOf f) j) (natOf f j) 1)) (.int .i64 (Job.to (walkP (natOf f) j) (natOf f j) 2)) (.int .i64 (Job.to (walkP (natOf f) j) (natOf f j) 3)), by (repeat (first | exact World.grows.refl _ | assumption | refine World.grows.alloc ?_ _ | refine World.grows.plus ?_ _ _ | refine World.grows.drew ?_))⟩
            case measure => simp [intOf]; omega
          · have hje : j = k := by omega
            subst hje
            go_wp2
            (refine bodyPost_ret (v := .tuple #[.slice sa j scap, .int .i64 0]) (by simp [results, Try.results49, go_sem]) rfl ?_)
            exact ⟨⟨_, by rw [hcn.out], fun _ => HI.out, by rw [hcn.out]; simp⟩, Hgw.out.trans (by (repeat (first | exact World.grows.refl _ | assumption | refine World.grows.alloc ?_ _ | refine World.grows.plus ?_ _ _ | refine World.grows.drew ?_)))⟩
      · have hcn : Hid (J.ordErr k f = 16) := by
          have h1 := fun h => hq (hiff.2 h)
          obtain ⟨r, hr⟩ := Classical.not_forall.1 h1
          obtain ⟨hr1, hr2⟩ := Classical.not_imp.1 hr
          exact Lib.hid (Job.ordErr_rule hl.out hr1 hr2)
        have hd : ∀ W : World, (Op.equalIn 10000 76 (plc (walkP (natOf f) k)) (plc J.last)).run Try.prog W = .ok false W := fun W => by rw [eqPl]; congr 1; simpa using hq
        clear hq hiff hwo hlo
        go_wp2
        (refine wp_region_calm (by kernel_rfl) (by kernel_rfl) ?_; (repeat (refine wpCalm_step (fun K hK => ?_); go_simp; first | (refine hK _ ?_; clear hK K) | (apply Exists.intro; refine ⟨fun n' x' => ?_, hK _ ?_⟩; (fail); clear hK K))); refine wpCalm_nil ?_; intro nq xq)
        go_wp2
        (refine bodyPost_ret (v := .tuple #[.slice none 0 0, .int .i64 16]) (by simp [results, Try.results49, go_sem]) rfl ?_)
        exact ⟨⟨_, by rw [hcn.out], by rw [hcn.out]; simp, fun _ => rfl⟩, Hgw.out.trans (by (repeat (first | exact World.grows.refl _ | assumption | refine World.grows.alloc ?_ _ | refine World.grows.plus ?_ _ _ | refine World.grows.drew ?_)))⟩

end Go.Proofs.Ytjpccfpmhmddjaa

