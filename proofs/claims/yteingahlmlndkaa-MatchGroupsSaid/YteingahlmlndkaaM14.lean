/-
  What is proved: the library's sort of whole numbers (71), laid at this program.
-/
import Derived.Shelf.Lays
import Derived.Ground.NamesProg
import Derived.Test.YteingahlmlndkaaProg
import Derived.Sort.EveryDepth
import Derived.Shelf.Sort.AssemblyIn
import Derived.Test.YteingahlmlndkaaM13
import Derived.Test.YteingahlmlndkaaM8
import Derived.Test.YteingahlmlndkaaM10
import Derived.Test.YteingahlmlndkaaM5
import Derived.MapKept
import Derived.Test.YteingahlmlndkaaM12
set_option linter.all false
namespace Go.Proofs.Yteingahlmlndkaa
open Go.Shelf
def sortL_ren : Go.Shelf.Ren := ⟨fun | 189 => 71 | 125 => 84 | 257 => 83 | 128 => 97 | 129 => 98 | 294 => 88 | 295 => 89 | 296 => 90 | 297 => 91 | 298 => 92 | 299 => 93 | 216 => 94 | 300 => 95 | 301 => 96 | 328 => 100 | 329 => 101 | 330 => 102 | 331 => 103 | 332 => 104 | 215 => 105 | 343 => 106 | n => n, fun | 28 => 26 | 3 => 3 | 46 => 130 | 0 => 0 | 51 => 74 | 53 => 144 | 4 => 4 | 183 => 135 | 182 => 134 | 131 => 140 | 5 => 5 | 9 => 9 | 218 => 146 | 222 => 150 | 228 => 152 | 229 => 153 | n => n, fun | n => n⟩
theorem sortL : Go.Proofs.Lays.n189 Try.prog sortL_ren := {
  mixed := by kernel_rfl
  f125 := Try.func84.trans (congrArg some (by kernel_rfl))
  f128 := Try.func97.trans (congrArg some (by kernel_rfl))
  f129 := Try.func98.trans (congrArg some (by kernel_rfl))
  f189 := Try.func71.trans (congrArg some (by kernel_rfl))
  f215 := Try.func105.trans (congrArg some (by kernel_rfl))
  f216 := Try.func94.trans (congrArg some (by kernel_rfl))
  f257 := Try.func83.trans (congrArg some (by kernel_rfl))
  f294 := Try.func88.trans (congrArg some (by kernel_rfl))
  f295 := Try.func89.trans (congrArg some (by kernel_rfl))
  f296 := Try.func90.trans (congrArg some (by kernel_rfl))
  f297 := Try.func91.trans (congrArg some (by kernel_rfl))
  f298 := Try.func92.trans (congrArg some (by kernel_rfl))
  f299 := Try.func93.trans (congrArg some (by kernel_rfl))
  f300 := Try.func95.trans (congrArg some (by kernel_rfl))
  f301 := Try.func96.trans (congrArg some (by kernel_rfl))
  f328 := Try.func100.trans (congrArg some (by kernel_rfl))
  f329 := Try.func101.trans (congrArg some (by kernel_rfl))
  f330 := Try.func102.trans (congrArg some (by kernel_rfl))
  f331 := Try.func103.trans (congrArg some (by kernel_rfl))
  f332 := Try.func104.trans (congrArg some (by kernel_rfl))
  f343 := Try.func106.trans (congrArg some (by kernel_rfl))
  t0 := Try.underlying0
  a0 := Try.isAgg0
  z0 := Try.sizeOf0
  v0 := Try.zeroValue0
  t3 := Try.underlying3
  a3 := Try.isAgg3
  z3 := Try.sizeOf3
  v3 := Try.zeroValue3
  t4 := Try.underlying4
  a4 := Try.isAgg4
  z4 := Try.sizeOf4
  v4 := Try.zeroValue4
  t5 := Try.underlying5
  a5 := Try.isAgg5
  z5 := Try.sizeOf5
  v5 := Try.zeroValue5
  t9 := Try.underlying9
  a9 := Try.isAgg9
  z9 := Try.sizeOf9
  v9 := Try.zeroValue9
  t28 := Try.underlying26
  a28 := Try.isAgg26
  z28 := Try.sizeOf26
  v28 := Try.zeroValue26
  t46 := Try.underlying130
  a46 := Try.isAgg130
  z46 := Try.sizeOf130
  v46 := Try.zeroValue130
  t51 := Try.underlying74
  a51 := Try.isAgg74
  z51 := Try.sizeOf74
  v51 := Try.zeroValue74
  t53 := Try.underlying144
  a53 := Try.isAgg144
  z53 := Try.sizeOf144
  v53 := Try.zeroValue144
  t131 := Try.underlying140
  a131 := Try.isAgg140
  z131 := Try.sizeOf140
  v131 := Try.zeroValue140
  t182 := Try.underlying134
  a182 := Try.isAgg134
  z182 := Try.sizeOf134
  v182 := Try.zeroValue134
  t183 := Try.underlying135
  a183 := Try.isAgg135
  z183 := Try.sizeOf135
  v183 := Try.zeroValue135
  t218 := Try.underlying146
  a218 := Try.isAgg146
  z218 := Try.sizeOf146
  v218 := Try.zeroValue146
  t222 := Try.underlying150
  a222 := Try.isAgg150
  z222 := Try.sizeOf150
  v222 := Try.zeroValue150
  t228 := Try.underlying152
  a228 := Try.isAgg152
  z228 := Try.sizeOf152
  v228 := Try.zeroValue152
  t229 := Try.underlying153
  a229 := Try.isAgg153
  z229 := Try.sizeOf153
  v229 := Try.zeroValue153 }
end Go.Proofs.Yteingahlmlndkaa

/-
  What is proved: a row of whole numbers is sorted (71).
-/
namespace Go.Proofs.Yteingahlmlndkaa
open Go.RowKit Go.Shelf Go.Sort
theorem sort71 (blk off cap : Nat) (zs : List Int) (w : World) (hH : Holds (Value.int .i64) w blk off zs.toArray) (hblk : blk < w.heap.size) (hsz : zs.length < 4611686018427387904) :
    Calls Try.prog 71 #[.slice (some ⟨blk, off, none⟩) zs.length cap] w fun e w' =>
      e = .returned (.tuple #[]) ∧ ∃ n os, w' = grow (putRow (Value.int .i64) (Sort.ahead w n) blk off (zs.mergeSort fun x y => decide (x ≤ y)).toArray) os :=
  calls_of_every_depth fun D => AnyS.slices_Sort_int_in sortL D blk off cap zs w hH hblk hsz
theorem s71_size (w : World) (blk off n : Nat) (d : Array Int) (os : Array Obj) : (Sort.grow (putRow (Value.int .i64) (Sort.ahead w n) blk off d) os).heap.size = w.heap.size + os.size := by
  unfold Sort.grow
  show ((Sort.putRow _ (Sort.ahead w n) blk off d).heap ++ os).size = _
  rw [Array.size_append]
  unfold Sort.putRow mapBlock Sort.ahead
  simp
theorem s71_heap (w : World) (blk off n : Nat) (d : Array Int) (os : Array Obj) {k : Nat} (hk : k < w.heap.size) (hne : k ≠ blk) : (Sort.grow (putRow (Value.int .i64) (Sort.ahead w n) blk off d) os).heap[k]? = w.heap[k]? := by
  unfold Sort.grow Sort.putRow mapBlock Sort.ahead
  show ((w.heap.modify blk _) ++ os)[k]? = _
  rw [Array.getElem?_append_left (by simpa using hk), Array.getElem?_modify, if_neg (fun e => hne e.symm)]
theorem s71_at (w : World) (blk off n : Nat) (d : Array Int) (os : Array Obj) {cur : Array Value} {t : TypeId} (h : w.heap[blk]? = some (.cells cur t)) : (Sort.grow (putRow (Value.int .i64) (Sort.ahead w n) blk off d) os).heap[blk]? = some (.cells (putCells (Value.int .i64) off d cur) t) := by
  have hk := World.lt_of_block h
  unfold Sort.grow Sort.putRow mapBlock Sort.ahead
  show ((w.heap.modify blk _) ++ os)[blk]? = _
  rw [Array.getElem?_append_left (by simpa using hk), Array.getElem?_modify, if_pos rfl, h]
  rfl
/-- a queue of numbers is sorted in its place -/
theorem sort_q (w : World) (base : Nat) (v : Value) (l : List Nat) (q : Nat → Bool) (hq : QAt w base 3 v (ilist l)) (hp : l.Perm (filtL q 16)) (hl : l ≠ []) (hl16 : l.length ≤ 16) :
    Calls Try.prog 71 #[v] w fun e w' => e = .returned (.tuple #[]) ∧ ∃ b o cap cur, v = .slice (some ⟨b, o, none⟩) l.length cap ∧ l.length ≤ cap ∧ cap ≤ maxLen ∧ base ≤ b ∧ w'.heap[b]? = some (.cells cur 3) ∧ (∀ i x, (filtL q 16)[i]? = some x → cur[o + i]? = some (.int .i64 (x : Nat))) ∧ Only b w w' := by
  obtain ⟨A, cap, rfl, h1, h2, -, h3⟩ := hq
  have hlen : (ilist l).length = l.length := by simp [ilist]
  rw [hlen] at h1 ⊢
  have hl0 := List.length_pos_iff.2 hl
  obtain ⟨b, o, cur, rfl, h4, h5, h6, h7⟩ := h3 (by omega)
  have hH : Holds (Value.int .i64) w b o (l.map fun x => ((x : Nat) : Int)).toArray := fun j hj => by
    refine ⟨cell_of_heap h5 (h7 j _ ?_), frozen_of_heap h5 _⟩
    have hj' : j < l.length := by simpa using hj
    rw [getElem!_pos _ j hj]
    simp [ilist, hj']
  have h := sort71 b o cap (l.map fun x => ((x : Nat) : Int)) w hH (World.lt_of_block h5) (by simp; omega)
  rw [show (l.map fun x => ((x : Nat) : Int)).length = l.length by simp, sort_perm hp] at h
  refine h.mono ?_
  rintro e w' ⟨rfl, n, os, rfl⟩
  have hpl := hp.length_eq
  refine ⟨rfl, b, o, cap, _, rfl, h1, h2, h4, s71_at w b o n _ os h5, fun i x hx => ?_, ?_⟩
  · have hi := (List.getElem?_eq_some_iff.1 hx).1
    unfold putCells
    rw [Array.getElem?_mapIdx, Array.getElem?_eq_getElem (by omega)]
    simp only [Option.map_some]
    rw [if_pos ⟨by omega, by simp; omega⟩]
    congr 1
    rw [show o + i - o = i by omega, getElem!_pos _ i (by simp; omega)]
    have hx' := (List.getElem?_eq_some_iff.1 hx).2
    simp [hx']
  · refine ⟨by rw [s71_size]; omega, fun k ob hk ho => (s71_heap w b o n _ os (World.lt_of_block ho) hk).trans ho, fun w0 g hb => ⟨g.os, g.tape, g.output, by rw [s71_size]; have := g.size; omega, fun k hk => by rw [s71_heap w b o n _ os (by have := g.size; omega) (by omega)]; exact g.block k hk⟩⟩
end Go.Proofs.Yteingahlmlndkaa

/-
  What is proved: a range over a function within a round of another such loop.
-/
namespace Go
open Go.RowKit
theorem wpIn_rangeFunc_inn {P : Program} {g : Operand} {ps : Array Tmp} {assign body : Code} {Q : Exit → Act → World → Prop} {a : Act} {w : World} {f : Nat} {lb : Array Value} {xs : List (Array Value)} {Ro : World → Prop} {l0 : Nat} {r0 : Loop} (hl0 : w.heap[l0]? = some (.loop r0))
    (hg : a.eval g = .func (.func f) #[] lb) (eg : ∀ args w, (callFunc f args).run P w = .ok (.enter f args) w)
    (hseq : SeqC P f lb xs Ro) (hps : ∀ x ∈ xs, x.size = ps.size)
    (J : Nat → World → Prop) (hJ : ∀ k W W', J k W → W.grows W' → J k W')
    (hput : ∀ k W lo lo', W.heap[w.heap.size]? = some (.loop lo) → J k W → J k (W.putObj (w.heap.size) (.loop lo')))
    (hR : ∀ k W, J k W → Ro W) (h0 : ∀ lo, J 0 (w.alloc lo))
    (hround : ∀ (k : Nat) (x : Array Value) (W : World), xs[k]? = some x → J k W → (∃ lo, W.heap[w.heap.size]? = some (.loop lo)) → ∀ K0 : Act → World → Prop,
      Hid (∀ a1 W1, W.grows W1 →
        (∀ (lo' : Loop) (K1 : Exit → Act → World → Prop), Hid (∀ a' W', J (k + 1) W' → W'.heap[w.heap.size]? = some (.loop lo') → K1 .normal a' W') →
          body.wpIn (Fence.wide.inRound (w.heap.size)) 0 P K1 a1 (W1.putObj (w.heap.size) (.loop lo'))) → K0 a1 W1) →
      assign.wpIn (Fence.wide.inRound (w.heap.size)) 0 P (Exit.then K0 (fun _ _ _ => False))
        { tmps := (ps.zip x).foldl (fun t (p, v) => t.setIfInBounds p v) a.tmps, defers := [] } W)
    (hdone : ∀ W, J xs.length W → Q .normal a W) :
    (Code.rangeFunc g ps assign body).wpIn (Fence.wide.inRound l0) 0 P Q a w := by
  refine wpIn_rangeFunc ?_
  intro fn hfn
  obtain ⟨rec, hrec⟩ : ∃ rec : LoopState → Option Code → Loop, rec = fun st pe => { state := st, pending := pe, fn, tmps := a.tmps, params := ps, assign, body, defers := r0.defers } := ⟨_, rfl⟩
  refine ⟨w.heap.size, [], w.alloc (.loop (rec .ready none)), { target := .fn (.func f) lb, args := #[.func (.yield (w.heap.size)) #[] #[]] }, w.alloc (.loop (rec .ready none)), f,
    #[.func (.yield (w.heap.size)) #[] #[]] ++ lb, w.alloc (.loop (rec .ready none)), ?_, ?_, fun _ _ => trivial, ?_, fun h => (by simp [Fence.wide] at h), ?_⟩
  · rw [hrec]; exact run_enterLoop_inner hl0 _ _ _ _ _
  · simp only [resolve, hg]
    simp [go_sem]
  · simp [invoke, go_sem, eg]
  · have hL0 : (w.alloc (.loop (rec .ready none))).heap[w.heap.size]? = some (.loop (rec .ready none)) := heap_alloc_new w _
    refine (hseq (w.heap.size) (fun k W => J k W ∧ W.heap[w.heap.size]? = some (.loop (rec .ready none))) (fun _ => False) _
      (fun k W W' ⟨h1, h3⟩ h4 => ⟨hJ k W W' h1 h4, h4.heap_of h3⟩) (fun _ _ h _ => h) (fun k W h => hR k W h.1) ?_ ⟨h0 _, hL0⟩).mono ?_
    · rintro k x hx W ⟨hJW, hl⟩
      have hy : ∀ W : World, W.heap[w.heap.size]? = some (.loop (rec .ready none)) → (Instr.yield (w.heap.size) x).run P W = .ok (.round (w.heap.size) fn ((ps.zip x).foldl (fun t (p, v) => t.setIfInBounds p v) a.tmps) assign body) W := fun W hl => by
        have := run_yield (P := P) (args := x) hl (by rw [hrec]; exact hps x (List.mem_of_getElem? hx))
        rw [hrec] at this
        exact this
      refine ⟨fn, _, assign, body, hy _ hl, roundIn_of_wpIn hfn ?_⟩
      refine wpIn_mono (hround k x W hx hJW ⟨_, hl⟩
        (fun a1 W1 => W.grows W1 ∧ ∀ lo', body.wpIn (Fence.wide.inRound (w.heap.size)) 0 P (fun e a' W' => e = .normal ∧ J (k + 1) W' ∧ W'.heap[w.heap.size]? = some (.loop lo')) a1 (W1.putObj (w.heap.size) (.loop lo')))
        (Lib.hid fun a1 W1 hg1 hb => ⟨hg1, fun lo' => hb lo' _ (Lib.hid fun a' W' h1 h3 => ⟨rfl, h1, h3⟩)⟩)) ?_
      rintro e a1 W1 h1
      cases e with
      | normal =>
        obtain ⟨hg1, hb⟩ := h1
        have hl1 := hg1.heap_of hl
        refine ⟨_, run_beginRound hl1 (by rw [hrec]), wpIn_mono (hb _) ?_⟩
        rintro e a3 W3 ⟨rfl, hJ3, hL3⟩
        have fin := run_endRound (P := P) none hL3
        rw [hrec] at fin
        have hsz := World.lt_of_block hL3
        rw [hrec]
        exact ⟨_, _, fin, .inl ⟨rfl, hput _ _ _ _ hL3 hJ3, by rw [World.putObj_heap_same hsz]; rfl⟩⟩
      | exit id => exact h1.elim
      | goto t => exact h1.elim
      | ret => exact h1.elim
      | panic ch => exact h1.elim
      | outgrown => exact h1.elim
    · rintro e W2 ⟨⟨v, rfl⟩, (⟨hJW, hl⟩ | hF)⟩
      · have he := run_endLoop (P := P) hl (by rw [hrec]; simp)
        have hsz := World.lt_of_block hl
        rw [hrec] at he
        exact ⟨none, _, he, hdone _ (hput _ _ _ _ hl hJW)⟩
      · exact hF.elim
end Go

/-
  What is proved: maps whose keys are numbers, their values whatever, as lists of keys, values and stamps.
-/
namespace Go
open Go.RowKit

structure VM where
  l : List (Nat × Value × Nat)
  clock : Nat
def VM.ents (l : List (Nat × Value × Nat)) : List MapEntry := l.map fun x => ⟨.int .i64 (x.1 : Nat), x.2.1, x.2.2⟩
def VM.obj (m : VM) : Obj := .map (VM.ents m.l).toArray m.clock
def VM.empty : VM := ⟨[], 0⟩
def VM.fnd : List (Nat × Value × Nat) → Nat → Nat → Option (Nat × Value)
  | [], _, _ => none
  | x :: r, k, i => if k = x.1 then some (i, x.2.1) else VM.fnd r k (i + 1)
def VM.get (m : VM) (k : Nat) : Option Value := (VM.fnd m.l k 0).map (·.2)
def VM.put : List (Nat × Value × Nat) → Nat → Value → List (Nat × Value × Nat)
  | [], _, _ => []
  | x :: r, k, v => if k = x.1 then (x.1, v, x.2.2) :: r else x :: VM.put r k v
def VM.set (m : VM) (k : Nat) (v : Value) : VM :=
  if (m.get k).isSome then ⟨VM.put m.l k v, m.clock⟩ else ⟨m.l ++ [(k, v, m.clock)], m.clock + 1⟩
def VM.cut : List (Nat × Value × Nat) → Nat → List (Nat × Value × Nat)
  | [], _ => []
  | x :: r, k => if k = x.1 then r else x :: VM.cut r k
def VM.del (m : VM) (k : Nat) : VM := ⟨VM.cut m.l k, m.clock⟩
def VM.Ok (m : VM) : Prop := (m.l.map (·.1)).Nodup

section
variable {P : Program} {kT T eT : TypeId}
theorem findNow_vm (k : Nat) : ∀ (l : List (Nat × Value × Nat)) (i : Nat), Instr.findNow (.int .i64) (.int .i64 (k : Nat)) (VM.ents l) i = some (VM.fnd l k i)
  | [], i => rfl
  | x :: r, i => by
    have ih := findNow_vm k r (i + 1)
    simp only [VM.ents, List.map_cons, Instr.findNow, Instr.sameNow, if_true, VM.fnd] at ih ⊢
    by_cases h : k = x.1
    · subst h; simp
    · have hb : (((k : Nat) : Int) == ((x.1 : Nat) : Int)) = false := beq_eq_false_iff_ne.2 (by omega)
      rw [hb, if_neg h]
      exact ih
theorem run_findKey_vm (hk : P.underlying kT = some (.int .i64)) (k : Nat) (w : World) (l : List (Nat × Value × Nat)) :
    (Instr.findKey kT (.int .i64 (k : Nat)) (VM.ents l)).run P w = .ok (VM.fnd l k 0) w := by
  simp [Instr.findKey, run_underlying hk, Result.andThen, findNow_vm]
theorem run_chk_vm (hk : P.underlying kT = some (.int .i64)) (em : Bool) (k : Int) (w : World) : (Instr.checkKey em 10000 kT (.int .i64 k)).run P w = .ok () w := by
  show (Instr.checkKey em (9999 + 1) kT (.int .i64 k)).run P w = .ok () w
  unfold Instr.checkKey
  simp [run_underlying hk, Result.andThen]
theorem bits_vm (k : Nat) : Instr.sameBits 10000 (.int .i64 (k : Nat)) (.int .i64 (k : Nat)) = true := by
  show Instr.sameBits (9999 + 1) _ _ = true
  unfold Instr.sameBits
  simp
theorem run_lookup_vm (hk : P.underlying kT = some (.int .i64)) (hT : P.underlying T = some (.map kT eT)) {z : Value} (hz : ∀ w, (zeroValue eT).run P w = .ok z w) (m : VM) (b : Nat) (w : World)
    (hb : w.heap[b]? = some m.obj) (k : Nat) : (Instr.lookup T (.map (some b)) (.int .i64 (k : Nat)) false).run P w = .ok ((m.get k).getD z) w := by
  have hb' : w.heap[b]? = some (.map (VM.ents m.l).toArray m.clock) := hb
  simp only [Instr.lookup, Sem.run_bind, run_underlying hT, Result.andThen, MapKept.run_getObj_map hb', Sem.run_pure, run_chk_vm hk, run_findKey_vm hk]
  unfold VM.get
  cases VM.fnd m.l k 0 with
  | none => simp [hz]
  | some p => simp
theorem VM.fnd_spec : ∀ (l : List (Nat × Value × Nat)) (k : Nat) (i j : Nat) (v : Value), VM.fnd l k i = some (j, v) → i ≤ j ∧ ∃ b, l[j - i]? = some (k, v, b)
  | [], _, _, _, _, h => by simp [VM.fnd] at h
  | x :: r, k, i, j, v, h => by
    simp only [VM.fnd] at h
    split at h
    · rename_i hk
      simp only [Option.some.injEq, Prod.mk.injEq] at h
      obtain ⟨rfl, rfl⟩ := h
      subst hk
      exact ⟨Nat.le_refl _, x.2.2, by simp⟩
    · obtain ⟨h1, b, h2⟩ := VM.fnd_spec r k (i + 1) j v h
      refine ⟨by omega, b, ?_⟩
      rw [show j - i = (j - (i + 1)) + 1 by omega, List.getElem?_cons_succ]
      exact h2

theorem VM.put_modify (v : Value) : ∀ (l : List (Nat × Value × Nat)) (k : Nat) (i j : Nat) (u : Value), VM.fnd l k i = some (j, u) →
    (VM.ents l).modify (j - i) (fun e => { e with key := .int .i64 (k : Nat), val := v }) = VM.ents (VM.put l k v)
  | [], _, _, _, _, h => by simp [VM.fnd] at h
  | x :: r, k, i, j, u, h => by
    have hs := VM.fnd_spec (x :: r) k i j u h
    simp only [VM.fnd] at h
    split at h
    · rename_i hk
      simp only [Option.some.injEq, Prod.mk.injEq] at h
      obtain ⟨rfl, rfl⟩ := h
      simp [VM.put, hk, VM.ents]
    · rename_i hk
      have h1 := (VM.fnd_spec r k (i + 1) j u h).1
      have ih := VM.put_modify v r k (i + 1) j u h
      rw [show j - i = (j - (i + 1)) + 1 by omega]
      simp only [VM.put, hk, if_false, VM.ents, List.map_cons, List.modify_succ_cons] at ih ⊢
      rw [ih]

theorem run_mapUpdate_vm (hk : P.underlying kT = some (.int .i64)) (hT : P.underlying T = some (.map kT eT)) (m : VM) (b : Nat) (w : World)
    (hb : w.heap[b]? = some (m.obj)) (k : Nat) (v : Value) : (Instr.mapUpdate T (.map (some b)) (.int .i64 (k : Nat)) v).run P w = .ok () (w.putObj b ((m.set k v).obj)) := by
  have hb' : w.heap[b]? = some (.map (VM.ents m.l).toArray m.clock) := hb
  have hset : ∀ o, (setObj b o).run P w = .ok () (w.putObj b o) := fun o => by simp [setObj, Sem.run, hb', World.putObj]
  simp only [Instr.mapUpdate, Sem.run_bind, run_underlying hT, Result.andThen, MapKept.run_getObj_map hb', run_chk_vm hk, run_findKey_vm hk]
  cases hf : VM.fnd m.l k 0 with
  | none =>
    have hg : (m.get k).isSome = false := by simp [VM.get, hf]
    simp only [Option.map_none, hset, VM.set, hg, Bool.false_eq_true, if_false, VM.obj, VM.ents, List.map_append, List.map_cons, List.map_nil]
    simp
  | some p =>
    obtain ⟨j, u⟩ := p
    have hg : (m.get k).isSome = true := by simp [VM.get, hf]
    obtain ⟨_, bn, hat⟩ := VM.fnd_spec m.l k 0 j u hf
    rw [Nat.sub_zero] at hat
    have hk0 : (((VM.ents m.l).toArray)[j]?.map (·.key)).getD (.int .i64 (k : Nat)) = .int .i64 (k : Nat) := by simp [VM.ents, hat]
    have hm := VM.put_modify v m.l k 0 j u hf
    rw [Nat.sub_zero] at hm
    simp only [Option.map_some, Instr.keyThatStays, hk0, bits_vm k, if_true, Sem.run_pure, Sem.run_bind, Result.andThen, hset, VM.set, hg, VM.obj]
    rw [List.modify_toArray, hm]

theorem VM.cut_erase : ∀ (l : List (Nat × Value × Nat)) (k : Nat) (i j : Nat) (u : Value), VM.fnd l k i = some (j, u) → (VM.ents l).eraseIdx (j - i) = VM.ents (VM.cut l k)
  | [], _, _, _, _, h => by simp [VM.fnd] at h
  | x :: r, k, i, j, u, h => by
    simp only [VM.fnd] at h
    split at h
    · rename_i hk
      simp only [Option.some.injEq, Prod.mk.injEq] at h
      obtain ⟨rfl, rfl⟩ := h
      simp [VM.cut, hk, VM.ents]
    · rename_i hk
      have h1 := (VM.fnd_spec r k (i + 1) j u h).1
      have ih := VM.cut_erase r k (i + 1) j u h
      rw [show j - i = (j - (i + 1)) + 1 by omega]
      simp only [VM.cut, hk, if_false, VM.ents, List.map_cons, List.eraseIdx_cons_succ] at ih ⊢
      rw [ih]
theorem VM.cut_none : ∀ (l : List (Nat × Value × Nat)) (k : Nat) (i : Nat), VM.fnd l k i = none → VM.cut l k = l
  | [], _, _, _ => rfl
  | x :: r, k, i, h => by
    simp only [VM.fnd] at h
    split at h
    · cases h
    · rename_i hk; simp [VM.cut, hk, VM.cut_none r k (i + 1) h]

theorem run_delete_vm (hk : P.underlying kT = some (.int .i64)) (hT : P.underlying T = some (.map kT eT)) (m : VM) (b : Nat) (w : World) (ty T2 : TypeId)
    (hb : w.heap[b]? = some (m.obj)) (k : Nat) : (Builtin.delete_ #[T, T2] ty #[.map (some b), .int .i64 (k : Nat)]).run P w = .ok (.tuple #[]) (w.putObj b ((m.del k).obj)) := by
  have hb' : w.heap[b]? = some (.map (VM.ents m.l).toArray m.clock) := hb
  have hset : ∀ o, (setObj b o).run P w = .ok () (w.putObj b o) := fun o => by simp [setObj, Sem.run, hb', World.putObj]
  simp only [Builtin.delete_, List.getElem?_toArray, List.getElem?_cons_zero, List.getElem?_cons_succ, Sem.run_bind, run_underlying hT, Result.andThen, MapKept.run_getObj_map hb', run_chk_vm hk, run_findKey_vm hk]
  cases hf : VM.fnd m.l k 0 with
  | none =>
    simp only [Option.map_none, hset, VM.del, VM.obj, VM.cut_none m.l k 0 hf, Sem.run_bind, Result.andThen, Sem.run_pure]
  | some p =>
    obtain ⟨j, u⟩ := p
    obtain ⟨_, bn, hat⟩ := VM.fnd_spec m.l k 0 j u hf
    rw [Nat.sub_zero] at hat
    have hlt : j < (VM.ents m.l).length := by
      have := (List.getElem?_eq_some_iff.1 hat).1
      simpa [VM.ents] using this
    have hc := VM.cut_erase m.l k 0 j u hf
    rw [Nat.sub_zero] at hc
    simp only [Option.map_some, hset, VM.del, VM.obj, Sem.run_bind, Result.andThen, Sem.run_pure, Array.eraseIdxIfInBounds, List.size_toArray, hlt, dif_pos, List.eraseIdx_toArray, hc]



end

theorem VM.fnd_none_iff : ∀ (l : List (Nat × Value × Nat)) (k : Nat) (i : Nat), VM.fnd l k i = none ↔ k ∉ l.map (·.1)
  | [], _, _ => by simp [VM.fnd]
  | x :: r, k, i => by
    simp only [VM.fnd]
    by_cases h : k = x.1
    · simp [h]
    · simp only [h, if_false, List.map_cons, List.mem_cons, false_or]
      exact VM.fnd_none_iff r k (i + 1)
theorem VM.fnd_shift : ∀ (l : List (Nat × Value × Nat)) (k : Nat) (i j : Nat), (VM.fnd l k i).map (·.2) = (VM.fnd l k j).map (·.2)
  | [], _, _, _ => rfl
  | x :: r, k, i, j => by
    simp only [VM.fnd]
    by_cases h : k = x.1
    · simp [h]
    · simp only [h, if_false]
      exact VM.fnd_shift r k _ _
theorem VM.fnd_append : ∀ (l r : List (Nat × Value × Nat)) (k : Nat) (i : Nat), VM.fnd (l ++ r) k i = match VM.fnd l k i with | some p => some p | none => VM.fnd r k (i + l.length)
  | [], r, k, i => by simp [VM.fnd]
  | x :: l, r, k, i => by
    simp only [List.cons_append, VM.fnd]
    by_cases h : k = x.1
    · simp [h]
    · simp only [h, if_false]
      rw [VM.fnd_append l r k (i + 1), List.length_cons, show i + 1 + l.length = i + (l.length + 1) by omega]
theorem VM.fnd_put (v : Value) : ∀ (l : List (Nat × Value × Nat)) (k j : Nat) (i : Nat), (VM.fnd (VM.put l k v) j i).map (·.2) = if j = k ∧ (VM.fnd l k i).isSome then some v else (VM.fnd l j i).map (·.2)
  | [], k, j, i => by simp [VM.put, VM.fnd]
  | x :: r, k, j, i => by
    have ih := VM.fnd_put v r k j (i + 1)
    simp only [VM.put, VM.fnd]
    by_cases h : k = x.1
    · subst h
      by_cases h2 : j = x.1
      · subst h2; simp [VM.fnd]
      · simp [VM.fnd, h2]
    · simp only [h, if_false, VM.fnd]
      by_cases h2 : j = x.1
      · subst h2
        simp [Ne.symm h]
      · simp only [h2, if_false]
        exact ih

theorem VM.get_set (m : VM) (k j : Nat) (v : Value) : (m.set k v).get j = if j = k then some v else m.get j := by
  unfold VM.set
  split
  · rename_i h
    have h' : (VM.fnd m.l k 0).isSome = true := by simpa [VM.get] using h
    have := VM.fnd_put v m.l k j 0
    simp only [VM.get, this, h', and_true]
  · rename_i h
    have h' : VM.fnd m.l k 0 = none := by
      cases hf : VM.fnd m.l k 0 with
      | none => rfl
      | some p => simp [VM.get, hf] at h
    simp only [VM.get, VM.fnd_append]
    by_cases hj : j = k
    · subst hj
      rw [h']
      simp [VM.fnd]
    · rw [if_neg hj]
      cases VM.fnd m.l j 0 with
      | none => simp [VM.fnd, hj]
      | some p => rfl
theorem VM.get_empty (k : Nat) : VM.empty.get k = none := rfl
theorem VM.put_keys (v : Value) : ∀ (l : List (Nat × Value × Nat)) (k : Nat), (VM.put l k v).map (·.1) = l.map (·.1)
  | [], _ => rfl
  | x :: r, k => by
    simp only [VM.put]
    split
    · rfl
    · simp [VM.put_keys v r k]

theorem VM.Ok.empty : VM.empty.Ok := List.nodup_nil
theorem VM.Ok.set {m : VM} (h : m.Ok) (k : Nat) (v : Value) : (m.set k v).Ok := by
  unfold VM.set VM.Ok
  split
  · show ((VM.put m.l k v).map (·.1)).Nodup
    rw [VM.put_keys]; exact h
  · rename_i hn
    have h1 : VM.fnd m.l k 0 = none := by
      cases hf : VM.fnd m.l k 0 with
      | none => rfl
      | some p => exact absurd (by simp [VM.get, hf]) hn
    have h2 := (VM.fnd_none_iff m.l k 0).1 h1
    show ((m.l ++ [(k, v, m.clock)]).map (·.1)).Nodup
    rw [List.map_append, List.nodup_append]
    refine ⟨h, by simp, fun a ha b hb => ?_⟩
    simp at hb
    subst hb
    rintro rfl
    exact h2 ha
theorem VM.cut_keys : ∀ (l : List (Nat × Value × Nat)) (k : Nat), ((VM.cut l k).map (·.1)).Sublist (l.map (·.1))
  | [], _ => List.Sublist.refl _
  | x :: r, k => by
    simp only [VM.cut]
    split
    · simp
    · simp only [List.map_cons]
      exact (VM.cut_keys r k).cons_cons _
theorem VM.Ok.del {m : VM} (h : m.Ok) (k : Nat) : (m.del k).Ok := List.Sublist.nodup (VM.cut_keys m.l k) h
theorem VM.fnd_cut : ∀ (l : List (Nat × Value × Nat)) (k j : Nat) (i : Nat), (l.map (·.1)).Nodup → (VM.fnd (VM.cut l k) j i).map (·.2) = if j = k then none else (VM.fnd l j i).map (·.2)
  | [], k, j, i, _ => by simp [VM.cut, VM.fnd]
  | x :: r, k, j, i, h => by
    simp only [List.map_cons, List.nodup_cons] at h
    have ih := VM.fnd_cut r k j (i + 1) h.2
    simp only [VM.cut]
    by_cases h1 : k = x.1
    · rw [if_pos h1]
      by_cases h2 : j = k
      · rw [if_pos h2]
        have : VM.fnd r j i = none := (VM.fnd_none_iff r j i).2 (by rw [h2, h1]; exact h.1)
        rw [this]; rfl
      · rw [if_neg h2]
        simp only [VM.fnd]
        rw [if_neg (by rw [← h1]; exact h2)]
        exact VM.fnd_shift r j _ _
    · rw [if_neg h1]
      simp only [VM.fnd]
      by_cases h2 : j = x.1
      · subst h2
        rw [if_pos rfl, if_neg (fun e => h1 e.symm), if_pos rfl]
      · rw [if_neg h2, ih, if_neg h2]
theorem VM.get_del {m : VM} (h : m.Ok) (k j : Nat) : (m.del k).get j = if j = k then none else m.get j := VM.fnd_cut m.l k j 0 h
end Go

/-
  What is proved: the memory of the groups (51): the map of what is left, the rows that are found, the row that is gathered.
-/
namespace Go.Proofs.Yteingahlmlndkaa
open Go.RowKit
attribute [local irreducible] Go.wpCalm rowV
theorem wpChain_append_cap {P : Program} {ops : Array Oper} {w0 : World} {rest : List Oper} {o : Oper} {a : Act} {Q : Act → World → Prop} {W : World} (hgd : o.guard = none) (s x : Operand) (t : TypeId)
    (ho : o.op = .call { callee := .builtin .append, args := #[s, x], argTypes := #[t, t] })
    (e : TypeId) (z : Value) (size bytes : Nat) (ht : P.underlying t = some (.slice e)) (hi : P.knows e z size bytes) (hzs : z.cells.size = size) (hsz : 0 < size)
    (A : Option Addr) (n : Nat) (xs : List Value) (hs : a.eval s = .slice A n n) (hxs : ∀ W0, W.grows W0 → SrcAt W0 (.slice A n n) n size xs) (hA : A = none → n = 0)
    (xv : Value) (hx : a.eval x = xv) (m : Nat) (news : List Value) (hsrc : ∀ W0, W.grows W0 → SrcAt W0 xv m size news) (h0 : 0 < m) (h63 : n + m ≤ maxLen) (hbytes : (n + m) * bytes ≤ 140737488355328)
    (h : ∀ (W0 : World) v' w', W.grows W0 → w'.ownsRow W0.heap.size e size v' (n + m) (xs ++ news) → W0.grows w' → wpChain P ops w0 Q rest (a.put o.dst v') w') :
    wpChain P ops w0 Q (o :: rest) a W := by
  intro W0 hg hg0
  rw [if_pos (by simp [Region.wanted, hgd])]
  obtain ⟨v', w', hr, h2, h3⟩ := run_append_cap (P := P) W0 t o.type e z size bytes ht hi hzs hsz A n xs (hxs W0 hg) hA xv m news (hsrc W0 hg) h0 h63 hbytes
  unfold Oper.goesO execOp
  simp only [ho, resolve, invoke, builtin, Sem.run_bind, Sem.run_pure, Result.andThen_ok, List.map_toArray, List.map_cons, List.map_nil, hs, hx, hr]
  exact ⟨hg0.trans h3, h W0 v' w' hg h2 h3⟩
theorem key3 : Try.prog.underlying 3 = some (.int .i64) := Try.underlying3
/-- a map that says of which things it holds 1 -/
def LeftIs (m : VM) (p : Nat → Bool) : Prop := m.Ok ∧ ∀ k, m.get k = if p k = true then some (.int .i64 1) else none
theorem LeftIs.empty : LeftIs VM.empty (fun _ => false) := ⟨VM.Ok.empty, fun k => by simp [VM.get_empty]⟩
theorem LeftIs.congr {m : VM} {p q : Nat → Bool} (h : LeftIs m p) (e : ∀ k, q k = p k) : LeftIs m q := ⟨h.1, fun k => by rw [e]; exact h.2 k⟩
theorem LeftIs.add {m : VM} {p : Nat → Bool} (h : LeftIs m p) (t : Nat) : LeftIs (m.set t (.int .i64 1)) (fun v => p v || (v == t)) := ⟨h.1.set _ _, fun k => by
  rw [VM.get_set, h.2]
  by_cases e : k = t
  · simp [e]
  · have : (k == t) = false := by simpa using e
    simp [e, this]⟩
theorem LeftIs.cut {m : VM} {p : Nat → Bool} (h : LeftIs m p) (t : Nat) : LeftIs (m.del t) (fun v => p v && !(v == t)) := ⟨h.1.del _, fun k => by
  rw [VM.get_del h.1, h.2]
  by_cases e : k = t
  · simp [e]
  · have : (k == t) = false := by simpa using e
    simp [e, this]⟩
theorem mk112 (w : World) : (Instr.makeMap 112 none).run Try.prog w = .ok (.map (some w.heap.size)) (w.alloc VM.empty.obj) := rfl
theorem lk112 {m : VM} {p : Nat → Bool} (h : LeftIs m p) (b : Nat) (w : World) (hb : w.heap[b]? = some m.obj) (k : Nat) : (Instr.lookup 112 (.map (some b)) (.int .i64 (k : Nat)) false).run Try.prog w = .ok (.int .i64 (if p k = true then 1 else 0)) w := by
  rw [run_lookup_vm key3 Try.underlying112 zero3 m b w hb k, h.2]
  split <;> rfl
theorem up112 (m : VM) (b : Nat) (w : World) (hb : w.heap[b]? = some m.obj) (k : Nat) (v : Value) : (Instr.mapUpdate 112 (.map (some b)) (.int .i64 (k : Nat)) v).run Try.prog w = .ok () (w.putObj b (m.set k v).obj) :=
  run_mapUpdate_vm key3 Try.underlying112 m b w hb k v
theorem del112 (m : VM) (b : Nat) (w : World) (ty : TypeId) (hb : w.heap[b]? = some m.obj) (k : Nat) : (Builtin.delete_ #[112, 3] ty #[.map (some b), .int .i64 (k : Nat)]).run Try.prog w = .ok (.tuple #[]) (w.putObj b (m.del k).obj) :=
  run_delete_vm key3 Try.underlying112 m b w ty 3 hb k
/-- rows in memory -/
def OutR (U : World) (v : Value) (rs : List (List Nat)) (vals : List Value) : Prop := ∃ (A : Option Addr) (cap : Nat), v = .slice A rs.length cap ∧ rs.length ≤ cap ∧ cap ≤ maxLen ∧ ((A = none → rs.length = 0) ∧ ∀ ad, A = some ad → 0 < rs.length → ad.spot = none) ∧ vals.length = rs.length ∧ SrcAt U v rs.length 1 vals ∧ ∀ (i : Nat) (x : Value), vals[i]? = some x → x.oneCell' = true ∧ ∃ r, rs[i]? = some r ∧ ListAt U x r
/-- rows that lie in these blocks -/
def OutQ (Q : List (Nat × Obj)) (v : Value) (rs : List (List Nat)) (vals : List Value) : Prop := (∀ y ∈ Q, ∃ c e, y.2 = .cells c e ∧ (e = 3 ∨ e = 26)) ∧ ∀ U : World, (∀ y ∈ Q, U.heap[y.1]? = some y.2) → OutR U v rs vals
/-- the k-th row -/
theorem OutR.row {U : World} {A : Option Addr} {n cap : Nat} {rs : List (List Nat)} {vals : List Value} (h : OutR U (.slice A n cap) rs vals) {k : Nat} (hk : k < n) : n = rs.length ∧ ∃ b o x r, A = some ⟨b, o, none⟩ ∧ U.cell? ⟨b, o + k, none⟩ = some x ∧ rs[k]? = some r ∧ ListAt U x r := by
  obtain ⟨A', cap', he, h1, h2, ⟨h3, h3'⟩, h4, ⟨A2, c2, he2, h5, h6⟩, h7⟩ := h
  cases he
  cases he2
  obtain ⟨ad, rfl, h8⟩ := h6 (by omega)
  obtain ⟨b, o, sp⟩ := ad
  have hsp := h3' _ rfl (by omega)
  dsimp only at hsp
  subst hsp
  have hv : vals[k]? = some vals[k] := List.getElem?_eq_getElem (by omega)
  obtain ⟨-, r, h9, h10⟩ := h7 k _ hv
  exact ⟨rfl, b, o, _, r, rfl, by have := h8 k _ hv; rw [add_plain] at this; exact this, h9, h10⟩
theorem OutQ.nil : OutQ [] (.slice none 0 0) [] [] := ⟨fun y hy => absurd hy List.not_mem_nil, fun U _ => ⟨none, 0, rfl, Nat.le_refl _, Nat.zero_le _, ⟨fun _ => rfl, fun ad h => (by cases h)⟩, rfl, ⟨none, 0, rfl, rfl, fun h => by simp at h⟩, fun i x h => by simp at h⟩⟩
/-- a block of numbers holds a list -/
theorem list_block {U : World} {b o cap : Nat} {cur : Array Value} {L : List Nat} (h : U.heap[b]? = some (.cells cur 3)) (h1 : L.length ≤ cap) (h2 : cap ≤ maxLen) (hc : ∀ i x, L[i]? = some x → cur[o + i]? = some (.int .i64 (x : Nat))) : ListAt U (.slice (some ⟨b, o, none⟩) L.length cap) L :=
  ⟨_, cap, rfl, h1, h2, fun i j hi hj => ⟨b, o, rfl, cell_of_heap h (by
    have : j = 0 := by omega
    subst this
    rw [show o + i * 1 + 0 = o + i by omega]
    have := hc i _ (List.getElem?_eq_getElem hi)
    rw [this]
    simp [List.getD_eq_getElem?_getD, hi])⟩⟩
theorem OutQ.push {Q : List (Nat × Obj)} {v : Value} {rs : List (List Nat)} {vals : List Value} (h : OutQ Q v rs vals) {b o cap : Nat} {cur : Array Value} {L : List Nat} (h1 : L.length ≤ cap) (h2 : cap ≤ maxLen) (hc : ∀ i x, L[i]? = some x → cur[o + i]? = some (.int .i64 (x : Nat)))
    {W : World} {base : Nat} {v' : Value}
    (ho : W.ownsRow base 26 1 v' (rs.length + 1) (vals ++ [.slice (some ⟨b, o, none⟩) L.length cap])) : ∃ g c2, base ≤ g ∧ W.heap[g]? = some (.cells c2 26) ∧ OutQ ((g, .cells c2 26) :: (b, .cells cur 3) :: Q) v' (rs ++ [L]) (vals ++ [.slice (some ⟨b, o, none⟩) L.length cap]) := by
  obtain ⟨hl, ⟨rfl, hn⟩ | ⟨g, c, c2, rfl, hg, hh, e1, e2, e3, e4⟩⟩ := ho
  · omega
  refine ⟨g, c2, hg, hh, ⟨fun y hy => ?_, fun V hV => ?_⟩⟩
  · rcases List.mem_cons.1 hy with rfl | hy
    · exact ⟨_, _, rfl, .inr rfl⟩
    · rcases List.mem_cons.1 hy with rfl | hy
      · exact ⟨_, _, rfl, .inl rfl⟩
      · exact h.1 y hy
  · have hV0 := hV _ (List.mem_cons_self ..)
    have hVb := hV _ (List.mem_cons_of_mem _ (List.mem_cons_self ..))
    have hVQ : ∀ y ∈ Q, V.heap[y.1]? = some y.2 := fun y hy => hV y (List.mem_cons_of_mem _ (List.mem_cons_of_mem _ hy))
    obtain ⟨A, cp, rfl, a1, a2, a3, hlv, a5, a6⟩ := h.2 V hVQ
    unfold OutR
    rw [show (rs ++ [L]).length = rs.length + 1 by simp]
    refine ⟨some ⟨g, 0, none⟩, c, rfl, e1, e2, ⟨fun h => absurd h (by simp), fun ad h _ => (by cases h; rfl)⟩, by rw [List.length_append, hlv]; rfl, ?_, ?_⟩
    · refine ⟨_, _, rfl, by simpa using hl, fun _ => ⟨_, rfl, fun j u hu => ?_⟩⟩
      rw [add_plain]
      refine cell_of_heap hV0 ?_
      rw [Nat.zero_add, ← Array.getElem?_toList]
      have hj := (List.getElem?_eq_some_iff.1 hu).1
      rw [← e4, List.getElem?_take] at hu
      split at hu
      · exact hu
      · cases hu
    · intro i x hx
      by_cases hi : i < rs.length
      · rw [List.getElem?_append_left (by omega)] at hx
        obtain ⟨p1, r, p2, p3⟩ := a6 i x hx
        exact ⟨p1, r, by rw [List.getElem?_append_left hi]; exact p2, p3⟩
      · have hi2 := (List.getElem?_eq_some_iff.1 hx).1
        rw [List.length_append] at hi2
        simp at hi2
        have : i = rs.length := by omega
        subst this
        rw [List.getElem?_append_right (by omega)] at hx
        rw [hlv] at hx
        simp at hx
        subst hx
        refine ⟨rfl, L, by simp, list_block hVb h1 h2 hc⟩
end Go.Proofs.Yteingahlmlndkaa

/-
  What is proved: the groups of things (51).
-/
namespace Go.Proofs.Yteingahlmlndkaa
open Go.RowKit
attribute [local irreducible] Go.wpCalm rowV
attribute [local go_sem] Oper.semAt_some
attribute [local go_sem ↓] mk112
theorem KpS.app {w U U' : World} {P : List (Nat × Obj)} {v : Value} (h : KpS w P U) (hg : U.grownBy U' (vblk v)) (hk : ∀ (k : Nat) (o : Obj), U.heap[k]? = some o → (∀ c fr, o ≠ Obj.cells c 3 fr) → U'.heap[k]? = some o) (hb : ∀ b, vblk v = some b → w.heap.size ≤ b) (hP : ∀ y ∈ P, (∀ c fr, y.2 ≠ Obj.cells c 3 fr) ∨ vblk v ≠ some y.1) : KpS w P U' := by
  refine ⟨⟨hg.os.trans h.g.os, hg.tape.trans h.g.tape, hg.output.trans h.g.output, Nat.le_trans h.g.size hg.size, fun k hk' => ?_⟩, fun y hy => ?_⟩
  · rw [hg.block k (Nat.lt_of_lt_of_le hk' h.g.size) (fun e => by have := hb k e.symm; omega)]
    exact h.g.block k hk'
  · rcases hP y hy with h1 | h1
    · exact hk _ _ (h.at_ y hy) h1
    · exact (hg.block y.1 (World.lt_of_block (h.at_ y hy)) (fun e => h1 e.symm)).trans (h.at_ y hy)
theorem left_nb {A : Nat → Nat → Bool} {S : Nat → Bool} (hS : ∀ t, S t = true → t < 16) {k t v : Nat} (h : (filtL S 16)[k]? = some t) (hv : inG A S t v = true) : leftB A S k v = true := by
  unfold inG at hv
  unfold leftB
  rw [Bool.and_eq_true, decide_eq_true_eq] at hv ⊢
  refine ⟨hv.1, ?_⟩
  rw [hv.2, take_mem hS h]
  intro h2
  omega
theorem el26 : Try.prog.knows 26 (.slice none 0 0) 1 24 := Program.knows_of (by kernel_rfl)
theorem take_succ_mem {T : List Nat} {k t : Nat} (h : T[k]? = some t) (v : Nat) : decide (v ∈ T.take (k + 1)) = (decide (v ∈ T.take k) || (v == t)) := by
  rw [List.take_add_one, h]
  by_cases e : v = t
  · simp [e]
  · have : (v == t) = false := by simpa using e
    simp [e, this]
set_option maxRecDepth 100000 in
set_option maxHeartbeats 4000000 in
theorem groups_c (w : World) (b n : Nat) (A : Nat → Nat → Bool) (L : Nat) (hB : BenchOf w b n A) (hA : ∀ a b, A a b = A b a) (hL : L < 65536) :
    Calls Try.prog 51 #[.pointer (some ⟨b, 0, none⟩), .int .u32 (L : Nat)] w fun e w' => ∃ v vals, e = .returned v ∧ OutR w' v (grpL A L.testBit 16) vals ∧ w.grows w' := by
  have HB := Lib.hid hB
  have HA := Lib.hid hA
  have HS16 : Hid (∀ v, L.testBit v = true → v < 16) := Lib.hid fun v hv => bit_lt hL hv
  clear hB hA
  (refine (callsIn_wide (n := 0)).1 (callsIn_of_wp_marks Try.func51 rfl trivial ((wpIn_wide (n := 0)).2 ?_) rfl); simp only [Try.ntmps51, List.size_toArray, List.length_cons, List.length_nil, Nat.reduceAdd, Nat.reduceSub, Array.replicate_succ, Array.replicate_zero, List.push_toArray, List.append_toArray, List.nil_append, List.cons_append])
  go_wp2_with (go_at_call 99; fail)
  refine (things_c _ L).mono ?_
  rintro e W1 ⟨rfl, hW1⟩
  go_wp2
  obtain ⟨x2, hx2⟩ : ∃ x, w.heap.size = x := ⟨_, rfl⟩
  have k1 : KpS w ((x2 + 3, Obj.cells #[.int .u32 (L : Nat)] 75) :: (x2 + 1, VM.empty.obj) :: (x2, Obj.cells #[.pointer (some ⟨b, 0, none⟩)] 71) :: (x2 + 2, Obj.cells #[.map (some (x2 + 1))] 112) :: []) W1 := by
    refine ⟨by rw [hW1]; (repeat (first | exact World.grows.refl _ | assumption | refine World.grows.alloc ?_ _ | refine World.grows.plus ?_ _ _ | refine World.grows.drew ?_)), fun y hy => ?_⟩
    rw [hW1]
    simp only [List.mem_cons, List.not_mem_nil, or_false] at hy
    rcases hy with rfl | rfl | rfl | rfl <;> (try simp only [hx2]) <;> (repeat (first | (refine World.heap_at _ _ _ ?_; simp [hx2]; done) | refine alloc_old ?_))
  have hs1 : W1.heap.size = x2 + 4 := by rw [hW1]; simp [hx2]
  rw [← hW1]
  simp only [hx2, Nat.add_assoc, Nat.reduceAdd]
  have HK1 := Lib.hid k1
  clear hW1 k1
  obtain ⟨D1, hD⟩ : ∃ D, W1.heap.size = D := ⟨_, rfl⟩
  have hbD : x2 + 3 < D1 := by omega
  have hx2w : w.heap.size ≤ x2 := by omega
  refine wp_rangeFunc_own (f := 79) (by rfl) (fun _ _ => rfl) (things_seq (x2 + 3) L hL) (fun x hx => by obtain ⟨r, _, rfl⟩ := List.mem_map.1 hx; rfl)
    (fun k U => ∃ m : VM, Hid (LeftIs m (fun v => decide (v ∈ (filtL L.testBit 16).take k))) ∧ Hid (KpS w ((D1, Obj.deferred (some [])) :: (x2 + 3, Obj.cells #[.int .u32 (L : Nat)] 75) :: (x2 + 1, m.obj) :: (x2, Obj.cells #[.pointer (some ⟨b, 0, none⟩)] 71) :: (x2 + 2, Obj.cells #[.map (some (x2 + 1))] 112) :: []) U))
    ?_ ?_ ?_ ?_ ?_ ?_
  · rintro k U U' ⟨m', h1, h2⟩ g
    exact ⟨m', h1, Lib.hid (h2.out.mono g)⟩
  · rintro k U lo lo' hl ⟨m', h1, h2⟩
    rw [hD] at hl ⊢
    refine ⟨m', h1, Lib.hid (h2.out.putL hl (by omega) ?_)⟩
    intro y hy l
    simp only [List.mem_cons, List.not_mem_nil, or_false] at hy
    rcases hy with rfl | rfl | rfl | rfl | rfl <;> exact fun e => by cases e
  · rintro k U ⟨m', h1, h2⟩
    exact cell_box h2.out.drop.hd
  · intro lo
    have g : W1.grows ((W1.alloc (.deferred (some []))).alloc lo) := by (repeat (first | exact World.grows.refl _ | assumption | refine World.grows.alloc ?_ _ | refine World.grows.plus ?_ _ _ | refine World.grows.drew ?_))
    exact ⟨VM.empty, Lib.hid (LeftIs.empty.congr (fun k => by simp)), Lib.hid ((HK1.out.mono g).add (World.grows.heap_of (by (repeat (first | exact World.grows.refl _ | assumption | refine World.grows.alloc ?_ _ | refine World.grows.plus ?_ _ _ | refine World.grows.drew ?_))) (World.heap_at _ _ _ hD.symm)))⟩
  · rintro k y U hy ⟨m, h1, h2⟩ hDf ⟨lo, hLo⟩ K0 hK0
    rw [hD] at hDf hLo hK0 ⊢
    obtain ⟨u, rfl, hu⟩ : ∃ u, y = stepV u ∧ (filtL L.testBit 16)[k]? = some u := by
      rw [List.getElem?_map] at hy
      cases ht : (filtL L.testBit 16)[k]? with
      | none => rw [ht] at hy; cases hy
      | some t => rw [ht] at hy; exact ⟨t, (Option.some.inj hy).symm, rfl⟩
    have hLl := World.lt_of_block hLo
    dsimp only [stepV]
    rw [zip_one]
    simp only [List.setIfInBounds_toArray, List.set_cons_zero, List.set_cons_succ]
    gi_wp2
    refine hK0.out _ _ (by (repeat (first | exact World.grows.refl _ | assumption | refine World.grows.alloc ?_ _ | refine World.grows.plus ?_ _ _ | refine World.grows.drew ?_))) fun lo' K1 hK1 => ?_
    obtain ⟨U1, hU1⟩ : ∃ U1, U1 = U.putObj (D1 + 1) (.loop lo') := ⟨_, rfl⟩
    have y1 : KpS w ((D1 + 1, .loop lo') :: (D1, Obj.deferred (some [])) :: (x2 + 3, Obj.cells #[.int .u32 (L : Nat)] 75) :: (x2 + 1, m.obj) :: (x2, Obj.cells #[.pointer (some ⟨b, 0, none⟩)] 71) :: (x2 + 2, Obj.cells #[.map (some (x2 + 1))] 112) :: []) U1 := by
      have := h2.out.putL (lo' := lo') hLo (by omega) (by
        intro y hy l
        simp only [List.mem_cons, List.not_mem_nil, or_false] at hy
        rcases hy with rfl | rfl | rfl | rfl | rfl <;> exact fun e => by cases e)
      rw [hU1]
      exact this.add (World.putObj_heap_same hLl)
    rw [← hU1]
    have HU := Lib.hid hu
    have HY := Lib.hid y1
    have HL := Lib.hid h1.out
    clear hU1 hDf hLo hLl h1 h2 hy hu y1 hK0
    have b5 := cell_box HY.out.drop.drop.drop.drop.drop.hd
    have hup := up112 m (x2 + 1) U1 HY.out.drop.drop.drop.hd u (.int .i64 1)
    gi_wp2
    have k2 : KpS w ((x2 + 1, (m.set u (.int .i64 1)).obj) :: (D1 + 1, .loop lo') :: (D1, Obj.deferred (some [])) :: (x2 + 3, Obj.cells #[.int .u32 (L : Nat)] 75) :: (x2, Obj.cells #[.pointer (some ⟨b, 0, none⟩)] 71) :: (x2 + 2, Obj.cells #[.map (some (x2 + 1))] 112) :: []) (U1.putObj (x2 + 1) (m.set u (.int .i64 1)).obj) := by
      have a := HY.out
      have a2 : KpS w ((D1 + 1, .loop lo') :: (D1, Obj.deferred (some [])) :: (x2 + 3, Obj.cells #[.int .u32 (L : Nat)] 75) :: (x2, Obj.cells #[.pointer (some ⟨b, 0, none⟩)] 71) :: (x2 + 2, Obj.cells #[.map (some (x2 + 1))] 112) :: []) U1 := ((a.drop.drop.drop.drop.add a.drop.drop.hd).add a.drop.hd).add a.hd
      refine (a2.obj (b := x2 + 1) (o := (m.set u (.int .i64 1)).obj) (by omega) ?_).add (World.putObj_heap_same (World.lt_of_block a.drop.drop.drop.hd))
      intro y hy
      simp only [List.mem_cons, List.not_mem_nil, or_false] at hy
      rcases hy with rfl | rfl | rfl | rfl | rfl <;> simp only <;> omega
    refine hK1.out _ _ ⟨_, Lib.hid ((HL.out.add u).congr fun v => take_succ_mem HU.out v), Lib.hid ?_⟩ k2.drop.drop.hd k2.drop.hd
    exact (((k2.drop.drop.drop.drop).add k2.hd).add k2.drop.drop.drop.hd).add k2.drop.drop.hd
  · rintro U ⟨m, h1, h2⟩ hDf
    rw [hD]
    rw [List.length_map] at h1
    have HM : Hid (LeftIs m (leftB A L.testBit 0)) := Lib.hid (h1.out.congr fun v => by
      rw [List.take_of_length_le (Nat.le_refl _)]
      unfold leftB filtL
      cases hv : L.testBit v with
      | false => simp [hv]
      | true => simp [hv, HS16.out v hv])
    have HK2 := Lib.hid h2.out
    clear h1 h2 hDf HK1 hs1 hD W1
    go_wp2_with (go_at_call 99; fail)
    refine (things_c _ L).mono ?_
    rintro e W1 ⟨rfl, hW1⟩
    go_wp2
    obtain ⟨x7, hx7⟩ : ∃ x, U.heap.size = x := ⟨_, rfl⟩
    have hx7D : D1 < x7 := by rw [← hx7]; exact World.lt_of_block HK2.out.hd
    have k1 : KpS w ((x7 + 1, Obj.cells #[.int .u32 (L : Nat)] 75) :: (x7, Obj.cells #[.slice none 0 0] 32) :: (x2 + 1, m.obj) :: (D1, Obj.deferred (some [])) :: (x2, Obj.cells #[.pointer (some ⟨b, 0, none⟩)] 71) :: (x2 + 2, Obj.cells #[.map (some (x2 + 1))] 112) :: []) W1 := by
      have a := HK2.out.mono (U' := W1) (by rw [hW1]; (repeat (first | exact World.grows.refl _ | assumption | refine World.grows.alloc ?_ _ | refine World.grows.plus ?_ _ _ | refine World.grows.drew ?_)))
      refine ((((a.drop.drop.drop).add a.hd).add a.drop.drop.hd).add ?_).add ?_
      · rw [hW1]
        refine alloc_old ?_
        exact World.heap_at _ _ _ (by simp [hx7])
      · rw [hW1]
        exact World.heap_at _ _ _ (by simp [hx7])
    rw [← hW1]
    simp only [hx7]
    have HK1 := Lib.hid k1
    clear hW1 k1 HK2 hx7 U
    obtain ⟨D, hD⟩ : ∃ D, W1.heap.size = D := ⟨_, rfl⟩
    have hxD : x7 + 1 < D := by rw [← hD]; exact World.lt_of_block HK1.out.hd
    refine wp_rangeFunc_own (f := 79) (by rfl) (fun _ _ => rfl) (things_seq (x7 + 1) L hL) (fun x hx => by obtain ⟨r, _, rfl⟩ := List.mem_map.1 hx; rfl)
      (fun k U => ∃ (m : VM) (v : Value) (vals : List Value) (Q : List (Nat × Obj)), Hid (LeftIs m (leftB A L.testBit k)) ∧ Hid (OutQ Q v (rowsG A L.testBit k) vals) ∧ Hid (KpS w ((D, Obj.deferred (some [])) :: (x7 + 1, Obj.cells #[.int .u32 (L : Nat)] 75) :: (x7, Obj.cells #[v] 32) :: (x2 + 1, m.obj) :: (D1, Obj.deferred (some [])) :: (x2, Obj.cells #[.pointer (some ⟨b, 0, none⟩)] 71) :: (x2 + 2, Obj.cells #[.map (some (x2 + 1))] 112) :: Q) U))
      ?_ ?_ ?_ ?_ ?_ ?_
    · rintro k U U' ⟨m, v, vals, Q, h1, h2, h3⟩ g
      exact ⟨m, v, vals, Q, h1, h2, Lib.hid (h3.out.mono g)⟩
    · rintro k U lo lo' hl ⟨m, v, vals, Q, h1, h2, h3⟩
      rw [hD] at hl ⊢
      refine ⟨m, v, vals, Q, h1, h2, Lib.hid (h3.out.putL hl (by omega) ?_)⟩
      intro y hy l
      simp only [List.mem_cons] at hy
      rcases hy with rfl | rfl | rfl | rfl | rfl | rfl | rfl | hy
      iterate 7 exact fun e => by cases e
      obtain ⟨c, e, he, -⟩ := h2.out.1 y hy
      rw [he]
      exact fun e => by cases e
    · rintro k U ⟨m, v, vals, Q, h1, h2, h3⟩
      exact cell_box h3.out.drop.hd
    · intro lo
      have g : W1.grows ((W1.alloc (.deferred (some []))).alloc lo) := by (repeat (first | exact World.grows.refl _ | assumption | refine World.grows.alloc ?_ _ | refine World.grows.plus ?_ _ _ | refine World.grows.drew ?_))
      have a := HK1.out.mono g
      exact ⟨m, _, [], [], HM, Lib.hid (by show OutQ [] _ (rowsG A L.testBit 0) []; exact OutQ.nil), Lib.hid (a.add (World.grows.heap_of (by (repeat (first | exact World.grows.refl _ | assumption | refine World.grows.alloc ?_ _ | refine World.grows.plus ?_ _ _ | refine World.grows.drew ?_))) (World.heap_at _ _ _ hD.symm)))⟩
    · rintro k y U hy ⟨m, v, vals, Q, h1, h2, h3⟩ hDf ⟨lo, hLo⟩ K0 hK0
      rw [hD] at hDf hLo hK0 ⊢
      obtain ⟨t, rfl, ht⟩ : ∃ u, y = stepV u ∧ (filtL L.testBit 16)[k]? = some u := by
        rw [List.getElem?_map] at hy
        cases ht : (filtL L.testBit 16)[k]? with
        | none => rw [ht] at hy; cases hy
        | some t => rw [ht] at hy; exact ⟨t, (Option.some.inj hy).symm, rfl⟩
      have hLl := World.lt_of_block hLo
      obtain ⟨htL, ht16⟩ := at_in ht
      dsimp only [stepV]
      rw [zip_one]
      simp only [List.setIfInBounds_toArray, List.set_cons_zero, List.set_cons_succ]
      gi_wp2
      refine hK0.out _ _ (by (repeat (first | exact World.grows.refl _ | assumption | refine World.grows.alloc ?_ _ | refine World.grows.plus ?_ _ _ | refine World.grows.drew ?_))) fun lo' K1 hK1 => ?_
      obtain ⟨U1, hU1⟩ : ∃ U1, U1 = U.putObj (D + 1) (.loop lo') := ⟨_, rfl⟩
      have y1 : KpS w ((D + 1, .loop lo') :: (D, Obj.deferred (some [])) :: (x7 + 1, Obj.cells #[.int .u32 (L : Nat)] 75) :: (x7, Obj.cells #[v] 32) :: (x2 + 1, m.obj) :: (D1, Obj.deferred (some [])) :: (x2, Obj.cells #[.pointer (some ⟨b, 0, none⟩)] 71) :: (x2 + 2, Obj.cells #[.map (some (x2 + 1))] 112) :: Q) U1 := by
        have := h3.out.putL (lo' := lo') hLo (by omega) (by
          intro y hy l
          simp only [List.mem_cons] at hy
          rcases hy with rfl | rfl | rfl | rfl | rfl | rfl | rfl | hy
          iterate 7 exact fun e => by cases e
          obtain ⟨c, e, he, -⟩ := h2.out.1 y hy
          rw [he]
          exact fun e => by cases e)
        rw [hU1]
        exact this.add (World.putObj_heap_same hLl)
      have HFin : Hid (∀ (a' : Act) (U' : World) (m : VM) (v : Value) (vals : List Value) (Q : List (Nat × Obj)), LeftIs m (leftB A L.testBit (k + 1)) → OutQ Q v (rowsG A L.testBit (k + 1)) vals → KpS w ((D + 1, .loop lo') :: (D, Obj.deferred (some [])) :: (x7 + 1, Obj.cells #[.int .u32 (L : Nat)] 75) :: (x7, Obj.cells #[v] 32) :: (x2 + 1, m.obj) :: (D1, Obj.deferred (some [])) :: (x2, Obj.cells #[.pointer (some ⟨b, 0, none⟩)] 71) :: (x2 + 2, Obj.cells #[.map (some (x2 + 1))] 112) :: Q) U' → K1 .normal a' U') := Lib.hid fun a' U' m v vals Q q1 q2 q3 => hK1.out a' U' ⟨m, v, vals, Q, Lib.hid q1, Lib.hid q2, Lib.hid q3.drop⟩ q3.drop.hd q3.hd
      rw [← hU1]
      have Ht := Lib.hid ht
      have HY := Lib.hid y1
      have HL := Lib.hid h1.out
      have HO := Lib.hid h2.out
      clear hU1 hDf hLo hLl h1 h2 h3 hy ht y1 hK0 hK1
      have b5 := cell_box HY.out.drop.drop.drop.drop.drop.drop.drop.hd
      have hlk := lk112 HL.out (x2 + 1) U1 HY.out.drop.drop.drop.drop.hd t
      rw [left_at HS16.out Ht.out] at hlk
      by_cases hn : nm A L.testBit 16 t = t
      · rw [decide_eq_true hn, if_pos rfl] at hlk
        have Hn := Lib.hid hn
        clear hn
        have hdl := del112 m (x2 + 1) U1 0 HY.out.drop.drop.drop.drop.hd t
        obtain ⟨m1, hm1⟩ : ∃ m1, m1 = m.del t := ⟨_, rfl⟩
        rw [← hm1] at hdl
        have HL1 := HL.out.cut t
        rw [← hm1] at HL1
        have HL1 := Lib.hid HL1
        clear hm1
        obtain ⟨c0, hc0⟩ : ∃ c, U1.heap.size = c := ⟨_, rfl⟩
        have hDc : D + 1 < c0 := by rw [← hc0]; exact World.lt_of_block HY.out.hd
        gi_wp2
        have hQ : Hid (∀ y ∈ Q, y.1 < c0) := Lib.hid fun y hy => by
          rw [← hc0]
          exact World.lt_of_block (HY.out.at_ y (by simp [hy]))
        have kR : KpS w ((c0 + 1, Obj.cells #[.slice (some ⟨c0, 0, none⟩) 1 1] 26) :: (x2 + 1, m1.obj) :: (D + 1, .loop lo') :: (D, Obj.deferred (some [])) :: (x7 + 1, Obj.cells #[.int .u32 (L : Nat)] 75) :: (x7, Obj.cells #[v] 32) :: (D1, Obj.deferred (some [])) :: (x2, Obj.cells #[.pointer (some ⟨b, 0, none⟩)] 71) :: (x2 + 2, Obj.cells #[.map (some (x2 + 1))] 112) :: Q) (((U1.putObj (x2 + 1) m1.obj).alloc (Obj.cells #[.int .i64 (t : Nat)] 3)).alloc (Obj.cells #[.slice (some ⟨c0, 0, none⟩) 1 1] 26)) := by
          have a := HY.out
          have a2 : KpS w ((D + 1, .loop lo') :: (D, Obj.deferred (some [])) :: (x7 + 1, Obj.cells #[.int .u32 (L : Nat)] 75) :: (x7, Obj.cells #[v] 32) :: (D1, Obj.deferred (some [])) :: (x2, Obj.cells #[.pointer (some ⟨b, 0, none⟩)] 71) :: (x2 + 2, Obj.cells #[.map (some (x2 + 1))] 112) :: Q) U1 := (((a.drop.drop.drop.drop.drop.add a.drop.drop.drop.hd).add a.drop.drop.hd).add a.drop.hd).add a.hd
          have a3 := (a2.obj (b := x2 + 1) (o := m1.obj) (by omega) (by
            intro y hy
            simp only [List.mem_cons] at hy
            rcases hy with rfl | rfl | rfl | rfl | rfl | rfl | rfl | hy
            iterate 7 (simp only; omega)
            intro e
            obtain ⟨c, e', he, -⟩ := HO.out.1 y hy
            have h1 := a.at_ y (by simp [hy])
            rw [e, a.drop.drop.drop.drop.hd, he] at h1
            cases h1)).add (World.putObj_heap_same (World.lt_of_block a.drop.drop.drop.drop.hd))
          exact (a3.mono (by (repeat (first | exact World.grows.refl _ | assumption | refine World.grows.alloc ?_ _ | refine World.grows.plus ?_ _ _ | refine World.grows.drew ?_)))).add (World.heap_at _ _ _ (by simp [hc0]))
        have qR : QAt (((U1.putObj (x2 + 1) m1.obj).alloc (Obj.cells #[.int .i64 (t : Nat)] 3)).alloc (Obj.cells #[.slice (some ⟨c0, 0, none⟩) 1 1] 26)) c0 3 (.slice (some ⟨c0, 0, none⟩) 1 1) (ilist [t]) :=
          ⟨_, 1, rfl, Nat.le_refl _, by unfold maxLen; omega, fun a ha => by cases ha; exact ⟨Nat.le_refl _, by simp; omega⟩, fun _ => ⟨c0, 0, _, rfl, Nat.le_refl _, alloc_old (World.heap_at _ _ _ (by simp [hc0])), rfl, fun i x hx => by rw [Nat.zero_add]; simpa [ilist] using hx⟩⟩
        generalize ((U1.putObj (x2 + 1) m1.obj).alloc (Obj.cells #[.int .i64 (t : Nat)] 3)).alloc (Obj.cells #[.slice (some ⟨c0, 0, none⟩) 1 1] 26) = U3 at kR qR ⊢
        have HKR := Lib.hid kR
        have HQR := Lib.hid qR
        have Hst : Hid (Bfg A L.testBit t [t] 0) := Lib.hid (Bfg.start htL Hn.out)
        have HwB : Hid (w.grows U1) := Lib.hid HY.out.g
        clear kR qR hlk hdl HY hc0 b5 HL m
        gi_loopw [10] (fun i10 wr => ∃ (i : Nat) (l : List Nat) (mm : VM) (lv : Value), i10 = .int .i64 (i : Nat) ∧ Hid (Bfg A L.testBit t l i) ∧ i ≤ l.length ∧ Hid (LeftIs mm (fun v => leftB A L.testBit k v && !decide (v ∈ l))) ∧ Hid (QAt wr c0 3 lv (ilist l)) ∧ Hid (KpS w ((c0 + 1, Obj.cells #[lv] 26) :: (x2 + 1, mm.obj) :: (D + 1, .loop lo') :: (D, Obj.deferred (some [])) :: (x7 + 1, Obj.cells #[.int .u32 (L : Nat)] 75) :: (x7, Obj.cells #[v] 32) :: (D1, Obj.deferred (some [])) :: (x2, Obj.cells #[.pointer (some ⟨b, 0, none⟩)] 71) :: (x2 + 2, Obj.cells #[.map (some (x2 + 1))] 112) :: Q) wr)) (fun i10 _ => 16 - (intOf i10).toNat)
        case atStart =>
          exact ⟨0, [t], m1, _, rfl, Hst, by simp, Lib.hid (HL1.out.congr fun v => by
            by_cases e : v = t
            · simp [e]
            · have : (v == t) = false := by simpa using e
              simp [e, this]), HQR, HKR⟩
        case round =>
          obtain ⟨i, l, mm, lv, rfl, hF, hil, hLm, hQa, hKp⟩ := hrel
          have hl16 := hF.out.len HS16.out
          have b9 := cell_box hKp.out.hd
          obtain ⟨AA, cp, rfl, hcp1, hcp2⟩ := hQa.out.form
          have hll : (ilist l).length = l.length := ilist_len l
          rw [hll] at b9 hKp hQa
          by_cases hlt : i < l.length
          · have hltI : (i : Int) < l.length := by omega
            obtain ⟨x, hx⟩ : ∃ x, l[i]? = some x := ⟨_, List.getElem?_eq_getElem hlt⟩
            have hxl := List.mem_of_getElem? hx
            have hxG := hF.out.in_ x hxl
            have hx16 : x < 16 := by
              unfold inG at hxG
              rw [Bool.and_eq_true] at hxG
              exact HS16.out x hxG.1
            have hxI : (x : Int) < 16 := by omega
            obtain ⟨ob, oo, rfl, cx⟩ := hQa.out.get (i := i) (x := .int .i64 (x : Nat)) (by unfold ilist; rw [List.getElem?_map, hx]; rfl)
            have b2 := cell_box hKp.out.drop.drop.drop.drop.drop.drop.drop.hd
            obtain ⟨ta, tc, mv, wide, F, hb1, hb2, -, -⟩ := HB.out.grow hKp.out.g
            have c3 := hb1.row hx16
            have hFx := hb2.lt x
            have hFA : ∀ u, (F x).testBit u = A x u := fun u => hb2.bit x u
            obtain ⟨Z, hZ⟩ : ∃ Z, F x = Z := ⟨_, rfl⟩
            rw [hZ] at c3 hFx hFA
            have HFA := Lib.hid hFA
            have HX := Lib.hid hx
            clear hZ hb1 hb2 hFA hx hxl hxG
            gi_wp2
            (refine wpIn_region_chain (Fence.free_round _ _) 10 [9] (by kernel_rfl) (by kernel_rfl) (by kernel_rfl) (by decide) ?_; simp only [without, only, withNo, List.take_succ_cons, List.take_zero, List.drop_succ_cons, List.drop_zero, List.take_nil, List.drop_nil, Nat.reduceAdd, Nat.reduceSub, List.filter, List.contains_cons, List.contains_nil, Nat.reduceBEq, Bool.or_false, Bool.false_or, Bool.true_or, Bool.or_true, Bool.or_self, Bool.not_true, Bool.not_false, List.map_cons, List.map_nil]; (repeat (refine wpCalm_step (fun K hK => ?_); go_simp; first | (refine hK _ ?_; clear hK K) | (apply Exists.intro; refine ⟨fun n' x' => ?_, hK _ ?_⟩; (fail); clear hK K))); refine wpCalm_nil ?_)
            (refine wpChain_step (fun K hK nc xc => ?_); go_simp)
            refine (things_c _ Z).mono ?_
            rintro e W7 ⟨rfl, hW7⟩
            refine ⟨_, rfl, by rw [hW7]; (repeat (first | exact World.grows.refl _ | assumption | refine World.grows.alloc ?_ _ | refine World.grows.plus ?_ _ _ | refine World.grows.drew ?_)), hK _ _ ?_⟩
            clear hK K
            (refine wpChain_nil (fun nc xc => ?_))
            rename_i na xa
            obtain ⟨bx, hbx⟩ : ∃ bx, (wr.plus na xa).heap.size = bx := ⟨_, rfl⟩
            have g8 : wr.grows (W7.plus nc xc) := by rw [hW7]; (repeat (first | exact World.grows.refl _ | assumption | refine World.grows.alloc ?_ _ | refine World.grows.plus ?_ _ _ | refine World.grows.drew ?_))
            have hxb : c0 + 1 < bx := by
              have h1 := World.lt_of_block hKp.out.hd
              have h2 := (World.grows_plus wr na xa).size
              omega
            have k8 := (hKp.out.mono g8).add (b := bx) (o := .cells #[.int .u32 (Z : Nat)] 75) (by rw [hW7]; exact World.grows.heap_of (by (repeat (first | exact World.grows.refl _ | assumption | refine World.grows.alloc ?_ _ | refine World.grows.plus ?_ _ _ | refine World.grows.drew ?_))) (World.heap_at _ _ _ hbx.symm))
            have q8 := hQa.out.mono g8
            simp only [hbx]
            generalize W7.plus nc xc = W8 at k8 q8 ⊢
            obtain ⟨E, hE⟩ : ∃ E, W8.heap.size = E := ⟨_, rfl⟩
            have hbE : bx < E := by rw [← hE]; exact World.lt_of_block k8.hd
            have HK8 := Lib.hid k8
            have HQ8 := Lib.hid q8
            have hl8 : Hid (W8.heap[D + 1]? = some (.loop lo')) := Lib.hid k8.drop.drop.drop.hd
            clear hW7 hbx g8 k8 q8 b9 b2 c3 cx hKp hQa
            gi_wp2
            refine wpIn_rangeFunc_inn hl8.out (f := 79) (by rfl) (fun _ _ => rfl) (things_seq bx Z hFx) (fun x hx => by obtain ⟨r, _, rfl⟩ := List.mem_map.1 hx; rfl)
              (fun r U => ∃ (l2 : List Nat) (m2 : VM) (v2 : Value), Hid (Bfg A L.testBit t l2 i) ∧ Hid (l2[i]? = some x) ∧ Hid (∀ u ∈ (filtL Z.testBit 16).take r, L.testBit u = true → u ∈ l2) ∧ Hid (LeftIs m2 (fun v => leftB A L.testBit k v && !decide (v ∈ l2))) ∧ Hid (QAt U c0 3 v2 (ilist l2)) ∧ Hid (KpS w ((bx, Obj.cells #[.int .u32 (Z : Nat)] 75) :: (c0 + 1, Obj.cells #[v2] 26) :: (x2 + 1, m2.obj) :: (D + 1, .loop lo') :: (D, Obj.deferred (some [])) :: (x7 + 1, Obj.cells #[.int .u32 (L : Nat)] 75) :: (x7, Obj.cells #[v] 32) :: (D1, Obj.deferred (some [])) :: (x2, Obj.cells #[.pointer (some ⟨b, 0, none⟩)] 71) :: (x2 + 2, Obj.cells #[.map (some (x2 + 1))] 112) :: Q) U))
              ?_ ?_ ?_ ?_ ?_ ?_
            · rintro r U U' ⟨l2, m2, v2, h1, h2, h3, h4, h5, h6⟩ g
              exact ⟨l2, m2, v2, h1, h2, h3, h4, Lib.hid (h5.out.mono g), Lib.hid (h6.out.mono g)⟩
            · rintro r U lo lo2 hl ⟨l2, m2, v2, h1, h2, h3, h4, h5, h6⟩
              rw [hE] at hl ⊢
              refine ⟨l2, m2, v2, h1, h2, h3, h4, Lib.hid (h5.out.put (fun c t fr e => by rw [hl] at e; cases e)), Lib.hid (h6.out.obj (by omega) ?_)⟩
              intro y hy e
              have := h6.out.at_ y hy
              simp only [List.mem_cons] at hy
              rcases hy with rfl | rfl | rfl | rfl | rfl | rfl | rfl | rfl | rfl | rfl | hy
              iterate 10 (simp only at e; omega)
              have := hQ.out y hy
              omega
            · rintro r U ⟨l2, m2, v2, h1, h2, h3, h4, h5, h6⟩
              exact cell_box h6.out.hd
            · intro lo
              have g : W8.grows (W8.alloc lo) := by (repeat (first | exact World.grows.refl _ | assumption | refine World.grows.alloc ?_ _ | refine World.grows.plus ?_ _ _ | refine World.grows.drew ?_))
              exact ⟨l, mm, _, hF, HX, Lib.hid (fun u hu => absurd hu (by simp)), hLm, Lib.hid (HQ8.out.mono g), Lib.hid (HK8.out.mono g)⟩
            · rintro r y U hy ⟨l2, m2, v2, h1, h2, h3, h4, h5, h6⟩ ⟨lo2, hLo⟩ K0 hK0
              rw [hE] at hLo hK0 ⊢
              obtain ⟨u, rfl, hu⟩ : ∃ u, y = stepV u ∧ (filtL Z.testBit 16)[r]? = some u := by
                rw [List.getElem?_map] at hy
                cases ht : (filtL Z.testBit 16)[r]? with
                | none => rw [ht] at hy; cases hy
                | some t => rw [ht] at hy; exact ⟨t, (Option.some.inj hy).symm, rfl⟩
              have hLl := World.lt_of_block hLo
              obtain ⟨huZ, hu16⟩ := at_in hu
              rw [HFA.out] at huZ
              dsimp only [stepV]
              rw [zip_one]
              simp only [List.setIfInBounds_toArray, List.set_cons_zero, List.set_cons_succ]
              gi_wp2
              refine hK0.out _ _ (by (repeat (first | exact World.grows.refl _ | assumption | refine World.grows.alloc ?_ _ | refine World.grows.plus ?_ _ _ | refine World.grows.drew ?_))) fun lo3 K2 hK2 => ?_
              obtain ⟨U2, hU2⟩ : ∃ U2, U2 = U.putObj E (.loop lo3) := ⟨_, rfl⟩
              have y1 : KpS w ((E, Obj.loop lo3) :: (bx, Obj.cells #[.int .u32 (Z : Nat)] 75) :: (c0 + 1, Obj.cells #[v2] 26) :: (x2 + 1, m2.obj) :: (D + 1, .loop lo') :: (D, Obj.deferred (some [])) :: (x7 + 1, Obj.cells #[.int .u32 (L : Nat)] 75) :: (x7, Obj.cells #[v] 32) :: (D1, Obj.deferred (some [])) :: (x2, Obj.cells #[.pointer (some ⟨b, 0, none⟩)] 71) :: (x2 + 2, Obj.cells #[.map (some (x2 + 1))] 112) :: Q) U2 := by
                have := h6.out.obj (b := E) (o := .loop lo3) (by omega) (by
                  intro y hy e
                  have := h6.out.at_ y hy
                  simp only [List.mem_cons] at hy
                  rcases hy with rfl | rfl | rfl | rfl | rfl | rfl | rfl | rfl | rfl | rfl | hy
                  iterate 10 (simp only at e; omega)
                  have := hQ.out y hy
                  omega)
                rw [hU2]
                exact this.add (World.putObj_heap_same hLl)
              have q1 : QAt U2 c0 3 v2 (ilist l2) := by rw [hU2]; exact h5.out.put (fun c t fr e => by rw [hLo] at e; cases e)
              have HFin2 : Hid (∀ (a' : Act) (U' : World) (l2 : List Nat) (m2 : VM) (v2 : Value), Bfg A L.testBit t l2 i → l2[i]? = some x → (∀ u ∈ (filtL Z.testBit 16).take (r + 1), L.testBit u = true → u ∈ l2) → LeftIs m2 (fun v => leftB A L.testBit k v && !decide (v ∈ l2)) → QAt U' c0 3 v2 (ilist l2) → KpS w ((E, Obj.loop lo3) :: (bx, Obj.cells #[.int .u32 (Z : Nat)] 75) :: (c0 + 1, Obj.cells #[v2] 26) :: (x2 + 1, m2.obj) :: (D + 1, .loop lo') :: (D, Obj.deferred (some [])) :: (x7 + 1, Obj.cells #[.int .u32 (L : Nat)] 75) :: (x7, Obj.cells #[v] 32) :: (D1, Obj.deferred (some [])) :: (x2, Obj.cells #[.pointer (some ⟨b, 0, none⟩)] 71) :: (x2 + 2, Obj.cells #[.map (some (x2 + 1))] 112) :: Q) U' → K2 .normal a' U') :=
                Lib.hid fun a' U' l2 m2 v2 p1 p2 p3 p4 p5 p6 => hK2.out a' U' ⟨l2, m2, v2, Lib.hid p1, Lib.hid p2, Lib.hid p3, Lib.hid p4, Lib.hid p5, Lib.hid p6.drop⟩ p6.hd
              rw [← hU2]
              have HU := Lib.hid hu
              have HY := Lib.hid y1
              have HQ := Lib.hid q1
              have hl2l := h1.out.len HS16.out
              clear hU2 hLo hLl h5 h6 hy hu y1 q1 hK0 hK2
              have b5 := cell_box HY.out.drop.drop.drop.drop.drop.drop.drop.drop.drop.drop.hd
              have hlk := lk112 h4.out (x2 + 1) U2 HY.out.drop.drop.drop.hd u
              have hnb : L.testBit u = true → leftB A L.testBit k u = true := fun h => left_nb HS16.out Ht.out (h1.out.grp HA.out HS16.out (List.mem_of_getElem? h2.out) huZ h)
              have hleft : leftB A L.testBit k u = true → L.testBit u = true := fun h => by
                unfold leftB at h
                rw [Bool.and_eq_true] at h
                exact h.1
              have htake : (filtL Z.testBit 16).take (r + 1) = (filtL Z.testBit 16).take r ++ [u] := by rw [List.take_add_one, HU.out]; rfl
              by_cases hp : (leftB A L.testBit k u && !decide (u ∈ l2)) = true
              · rw [if_pos hp] at hlk
                rw [Bool.and_eq_true] at hp
                obtain ⟨hp1, hp2⟩ := hp
                have hnl : u ∉ l2 := by simpa using hp2
                have huG := h1.out.grp HA.out HS16.out (List.mem_of_getElem? h2.out) huZ (hleft hp1)
                have hdl := del112 m2 (x2 + 1) U2 0 HY.out.drop.drop.drop.hd u
                obtain ⟨m3, hm3⟩ : ∃ m3, m3 = m2.del u := ⟨_, rfl⟩
                rw [← hm3] at hdl
                have HL3 : Hid (LeftIs m3 (fun v => leftB A L.testBit k v && !decide (v ∈ l2 ++ [u]))) := Lib.hid (by
                  rw [hm3]
                  refine (h4.out.cut u).congr fun v => ?_
                  by_cases e : v = u
                  · simp [e]
                  · have : (v == u) = false := by simpa using e
                    simp [e, this])
                have HF3 : Hid (Bfg A L.testBit t (l2 ++ [u]) i) := Lib.hid (h1.out.put (by have := (List.getElem?_eq_some_iff.1 h2.out).1; omega) huG hnl)
                have HX3 : Hid ((l2 ++ [u])[i]? = some x) := Lib.hid (by rw [List.getElem?_append_left (List.getElem?_eq_some_iff.1 h2.out).1]; exact h2.out)
                have HT3 : Hid (∀ z ∈ (filtL Z.testBit 16).take (r + 1), L.testBit z = true → z ∈ l2 ++ [u]) := Lib.hid (by
                  rw [htake]
                  intro z hz hzL
                  rcases List.mem_append.1 hz with hz | hz
                  · exact List.mem_append_left _ (h3.out z hz hzL)
                  · exact List.mem_append_right _ hz)
                clear hm3 hp1 hp2 hnl huG hnb hleft htake h1 h2 h3 h4 huZ
                have kM : KpS w ((x2 + 1, m3.obj) :: (E, Obj.loop lo3) :: (bx, Obj.cells #[.int .u32 (Z : Nat)] 75) :: (c0 + 1, Obj.cells #[v2] 26) :: (D + 1, .loop lo') :: (D, Obj.deferred (some [])) :: (x7 + 1, Obj.cells #[.int .u32 (L : Nat)] 75) :: (x7, Obj.cells #[v] 32) :: (D1, Obj.deferred (some [])) :: (x2, Obj.cells #[.pointer (some ⟨b, 0, none⟩)] 71) :: (x2 + 2, Obj.cells #[.map (some (x2 + 1))] 112) :: Q) (U2.putObj (x2 + 1) m3.obj) := by
                  have a := HY.out
                  have a2 : KpS w ((E, Obj.loop lo3) :: (bx, Obj.cells #[.int .u32 (Z : Nat)] 75) :: (c0 + 1, Obj.cells #[v2] 26) :: (D + 1, .loop lo') :: (D, Obj.deferred (some [])) :: (x7 + 1, Obj.cells #[.int .u32 (L : Nat)] 75) :: (x7, Obj.cells #[v] 32) :: (D1, Obj.deferred (some [])) :: (x2, Obj.cells #[.pointer (some ⟨b, 0, none⟩)] 71) :: (x2 + 2, Obj.cells #[.map (some (x2 + 1))] 112) :: Q) U2 := ((a.drop.drop.drop.drop.add a.drop.drop.hd).add a.drop.hd).add a.hd
                  refine (a2.obj (b := x2 + 1) (o := m3.obj) (by omega) ?_).add (World.putObj_heap_same (World.lt_of_block a.drop.drop.drop.hd))
                  intro y hy
                  simp only [List.mem_cons] at hy
                  rcases hy with rfl | rfl | rfl | rfl | rfl | rfl | rfl | rfl | rfl | rfl | hy
                  iterate 10 (simp only; omega)
                  intro e
                  obtain ⟨c, e', he, -⟩ := HO.out.1 y hy
                  have h1 := a.at_ y (by simp [hy])
                  rw [e, a.drop.drop.drop.hd, he] at h1
                  cases h1
                have qM : QAt (U2.putObj (x2 + 1) m3.obj) c0 3 v2 (ilist l2) := HQ.out.put (fun c t fr e => by
                  rw [HY.out.drop.drop.drop.hd] at e
                  cases e)
                (iterate 30 gi_step)
                generalize U2.putObj (x2 + 1) m3.obj = U3 at kM qM ⊢
                clear HY HQ hlk hdl b5
                have b9 := cell_box kM.drop.drop.drop.hd
                (iterate 13 gi_step)
                have hc0U : c0 ≤ U3.heap.size := by have := World.lt_of_block kM.drop.drop.drop.hd; omega
                refine wpListIn_append_q _ rfl (.tmp 52) (.tmp 54) 26 (by rfl) c0 3 (.int .i64 0) 8 Try.underlying26 el3 (by rfl) v2 (ilist l2) (by rfl) (qM.mono (show U3.grows (U3.alloc (.cells #[.int .i64 (u : Nat)] 3)) by (repeat (first | exact World.grows.refl _ | assumption | refine World.grows.alloc ?_ _ | refine World.grows.plus ?_ _ _ | refine World.grows.drew ?_)))) ⟨U3.heap.size, 0, none⟩ 1 (.int .i64 (u : Nat)) (by rfl) (by simp [go_sem]) rfl (by rfl) (by rw [ilist_len]; unfold maxLen; omega) (by rw [ilist_len]; omega) (by simp; omega) ?_
                intro v' V8 hq8 hg8 hv8 hk8
                rw [← ilist_snoc] at hq8
                have kA := (kM.mono (show U3.grows (U3.alloc (.cells #[.int .i64 (u : Nat)] 3)) by (repeat (first | exact World.grows.refl _ | assumption | refine World.grows.alloc ?_ _ | refine World.grows.plus ?_ _ _ | refine World.grows.drew ?_)))).app hg8 hk8 (fun b hb => by have := (qM.blk hb).1; omega) (by
                  intro y hy
                  simp only [List.mem_cons] at hy
                  rcases hy with rfl | rfl | rfl | rfl | rfl | rfl | rfl | rfl | rfl | rfl | rfl | hy
                  iterate 11 exact .inl (fun c fr e => by cases e)
                  refine .inr (fun e => ?_)
                  have h1 := (qM.blk e).1
                  have h2 := hQ.out y hy
                  omega)
                have kB : KpS w ((x2 + 1, m3.obj) :: (E, Obj.loop lo3) :: (bx, Obj.cells #[.int .u32 (Z : Nat)] 75) :: (D + 1, .loop lo') :: (D, Obj.deferred (some [])) :: (x7 + 1, Obj.cells #[.int .u32 (L : Nat)] 75) :: (x7, Obj.cells #[v] 32) :: (D1, Obj.deferred (some [])) :: (x2, Obj.cells #[.pointer (some ⟨b, 0, none⟩)] 71) :: (x2 + 2, Obj.cells #[.map (some (x2 + 1))] 112) :: Q) V8 := ((kA.drop.drop.drop.drop.add kA.drop.drop.hd).add kA.drop.hd).add kA.hd
                have hPc : ∀ y ∈ ((x2 + 1, m3.obj) :: (E, Obj.loop lo3) :: (bx, Obj.cells #[.int .u32 (Z : Nat)] 75) :: (D + 1, .loop lo') :: (D, Obj.deferred (some [])) :: (x7 + 1, Obj.cells #[.int .u32 (L : Nat)] 75) :: (x7, Obj.cells #[v] 32) :: (D1, Obj.deferred (some [])) :: (x2, Obj.cells #[.pointer (some ⟨b, 0, none⟩)] 71) :: (x2 + 2, Obj.cells #[.map (some (x2 + 1))] 112) :: Q), y.1 ≠ c0 + 1 := by
                  intro y hy
                  simp only [List.mem_cons] at hy
                  rcases hy with rfl | rfl | rfl | rfl | rfl | rfl | rfl | rfl | rfl | rfl | hy
                  iterate 10 (simp only; omega)
                  have := hQ.out y hy
                  omega
                have kC := fun z : Value => (kB.set (b := c0 + 1) (by omega) hPc 0 z).add (store_of_heap kA.drop.drop.drop.hd 0 z)
                have qC : ∀ z : Value, QAt (V8.setCell ⟨c0 + 1, 0, none⟩ z) c0 3 v' (ilist (l2 ++ [u])) := fun z => hq8.keep (by simp) fun b hb _ => by
                  rw [World.heap_setCell_map _ _ _ _ (fun e => ?_)]
                  obtain ⟨A9, cp9, he9, hl9, -, -, h9⟩ := hq8
                  rw [ilist_len, List.length_append] at hl9
                  obtain ⟨b9, o9, cur9, e1, -, e3, -⟩ := h9 (by simp at hl9; omega)
                  rw [he9, e1] at hb
                  have hb' : b9 = b := by simpa [vblk] using hb
                  rw [hb', ← e, kA.drop.drop.drop.hd] at e3
                  cases e3
                obtain ⟨A8, cap8, rfl, -, -⟩ := hq8.form
                have KC := Lib.hid (kC (.slice A8 (ilist (l2 ++ [u])).length cap8))
                have QC := Lib.hid (qC (.slice A8 (ilist (l2 ++ [u])).length cap8))
                have b9' := cell_box kA.drop.drop.drop.hd
                have f9' := frozen_of_heap kA.drop.drop.drop.hd 0
                clear b9 hg8 hk8 hv8 kA kB kC qC hPc hq8 kM qM
                gi_wp2
                refine HFin2.out _ _ _ m3 _ HF3.out HX3.out HT3.out HL3.out QC.out ?_
                exact (((KC.out.drop.drop.drop.drop.add KC.out.drop.hd).add KC.out.hd).add KC.out.drop.drop.drop.hd).add KC.out.drop.drop.hd
              · rw [if_neg hp] at hlk
                have HT3 : Hid (∀ z ∈ (filtL Z.testBit 16).take (r + 1), L.testBit z = true → z ∈ l2) := Lib.hid (by
                  rw [htake]
                  intro z hz hzL
                  rcases List.mem_append.1 hz with hz | hz
                  · exact h3.out z hz hzL
                  · rw [List.mem_singleton] at hz
                    subst hz
                    rw [hnb hzL, Bool.true_and] at hp
                    simpa using hp)
                clear hp hnb hleft htake h3
                gi_wp2
                exact HFin2.out _ _ l2 m2 v2 h1.out h2.out HT3.out h4.out HQ.out HY.out
            · rintro U ⟨l2, m2, v2, h1, h2, h3, h4, h5, h6⟩
              rw [List.length_map] at h3
              have hcl : ∀ v, A x v = true → L.testBit v = true → v ∈ l2 := fun v hv hvL => h3.out v (by
                rw [List.take_of_length_le (Nat.le_refl _)]
                unfold filtL
                rw [List.mem_filter, List.mem_range]
                exact ⟨HS16.out v hvL, by rw [HFA.out]; exact hv⟩) hvL
              have HN := Lib.hid (h1.out.next h2.out hcl)
              have hil2 : i + 1 ≤ l2.length := (List.getElem?_eq_some_iff.1 h2.out).1
              have hl2l := h1.out.len HS16.out
              clear hcl h3 h1 h2 HFA
              gi_wp2
              case roundEnd =>
                exact ⟨⟨i + 1, l2, m2, v2, by simp, HN, hil2, h4, h5, Lib.hid h6.out.drop⟩, by simp [intOf]; omega⟩
          · have hltI : ¬ (i : Int) < l.length := by omega
            have hp := hF.out.perm HA.out HS16.out (by omega)
            have hlne : l ≠ [] := fun e => by have := hF.out.hd; rw [e] at this; cases this
            obtain ⟨ob, oo, cur0, rfl, hob, hwb⟩ : ∃ ob oo cur0, AA = some ⟨ob, oo, none⟩ ∧ c0 ≤ ob ∧ wr.heap[ob]? = some (.cells cur0 3) := by
              obtain ⟨A9, cp9, he9, hl9, -, -, h9⟩ := hQa.out
              have := List.length_pos_iff.2 hlne
              rw [ilist_len] at hl9 he9
              obtain ⟨b9, o9, cur9, e1, e2, e3, -⟩ := h9 (by omega)
              cases he9
              exact ⟨b9, o9, cur9, e1, e2, e3⟩
            have hPo : ∀ y ∈ ((c0 + 1, Obj.cells #[.slice (some ⟨ob, oo, none⟩) l.length cp] 26) :: (x2 + 1, mm.obj) :: (D + 1, .loop lo') :: (D, Obj.deferred (some [])) :: (x7 + 1, Obj.cells #[.int .u32 (L : Nat)] 75) :: (x7, Obj.cells #[v] 32) :: (D1, Obj.deferred (some [])) :: (x2, Obj.cells #[.pointer (some ⟨b, 0, none⟩)] 71) :: (x2 + 2, Obj.cells #[.map (some (x2 + 1))] 112) :: Q), y.1 ≠ ob := by
              intro y hy e
              have h1 := hKp.out.at_ y hy
              simp only [List.mem_cons] at hy
              rcases hy with rfl | rfl | rfl | rfl | rfl | rfl | rfl | rfl | rfl | hy
              iterate 9 (simp only at e h1; rw [e, hwb] at h1; cases h1)
              have := hQ.out y hy
              omega
            gi_wp2_with (gi_at_call 99; fail)
            refine (Fence.free_round Try.prog _).calls _ _ _ _ _ ((sort_q _ c0 _ l (inG A L.testBit t) hQa.out hp hlne hl16).mono ?_)
            rintro e V ⟨rfl, sb, so, cp2, cur, hv, hcp, hcm, hb, hheap, hcur, hO⟩
            cases hv
            have kV := hKp.out.only hO (by omega) hPo
            have HcL := Lib.hid hcur
            have HLl : Hid (LeftIs mm (leftB A L.testBit (k + 1))) := Lib.hid (hLm.out.congr fun v => by
              rw [left_take Ht.out]
              congr 1
              have : v ∈ l ↔ inG A L.testBit t v = true := by
                rw [hp.mem_iff]
                unfold filtL
                rw [List.mem_filter, List.mem_range]
                refine ⟨fun h => h.2, fun h => ⟨?_, h⟩⟩
                unfold inG at h
                rw [Bool.and_eq_true] at h
                exact HS16.out v h.1
              cases hG : inG A L.testBit t v with
              | true => rw [decide_eq_true (this.2 hG)]
              | false => rw [decide_eq_false (fun h => by rw [this.1 h] at hG; cases hG)])
            have hpl := hp.length_eq
            rw [hpl] at kV hcp
            rw [hpl]
            have HKV := Lib.hid kV
            have Hhp := Lib.hid hheap
            clear hPo hF hLm hQa hKp hO kV hp hcur hheap hwb hlt hltI hil b9
            obtain ⟨A7, c7, rfl, r1, r2, r3, r4, -, -⟩ := HO.out.2 V (fun y hy => HKV.out.at_ y (by simp [hy]))
            have hR16 : (rowsG A L.testBit k).length ≤ 16 := by
              unfold rowsG
              rw [List.length_map]
              refine Nat.le_trans (List.length_filter_le _ _) ?_
              rw [List.length_take]
              have := filtL_len L.testBit 16
              omega
            obtain ⟨nR, hnR⟩ : ∃ n, (rowsG A L.testBit k).length = n := ⟨_, rfl⟩
            rw [hnR] at r1 r3 r4 hR16 HKV HO
            have bt7 := cell_box HKV.out.drop.drop.drop.drop.drop.hd
            have bt9 := cell_box HKV.out.hd
            have r1I : (nR : Int) ≤ c7 := by omega
            gi_wp2_with (gi_at_call 99; fail)
            (refine wpIn_region_chain (Fence.free_round _ _) 9 [7, 8] (by kernel_rfl) (by kernel_rfl) (by kernel_rfl) (by decide) ?_; simp only [without, only, withNo, List.take_succ_cons, List.take_zero, List.drop_succ_cons, List.drop_zero, List.take_nil, List.drop_nil, Nat.reduceAdd, Nat.reduceSub, List.filter, List.contains_cons, List.contains_nil, Nat.reduceBEq, Bool.or_false, Bool.false_or, Bool.true_or, Bool.or_true, Bool.or_self, Bool.not_true, Bool.not_false, List.map_cons, List.map_nil]; (repeat (refine wpCalm_step (fun K hK => ?_); go_simp; first | (refine hK _ ?_; clear hK K) | (apply Exists.intro; refine ⟨fun n' x' => ?_, hK _ ?_⟩; (fail); clear hK K))); refine wpCalm_nil ?_)
            (refine wpChain_step (fun K hK nc xc => ?_); go_simp)
            refine ⟨by (repeat (first | exact World.grows.refl _ | assumption | refine World.grows.alloc ?_ _ | refine World.grows.plus ?_ _ _ | refine World.grows.drew ?_)), hK _ _ ?_⟩
            clear hK K
            refine wpChain_append_cap rfl (.tmp 63) (.tmp 65) 32 (by rfl) 26 (.slice none 0 0) 1 24 Try.underlying32 el26 (by rfl) (by omega) A7 nR vals (by simp [go_sem]) (fun W0 g => by
              obtain ⟨A8, c8, he8, -, -, -, -, hs8, -⟩ := HO.out.2 W0 (fun y hy => g.heap_of (World.grows.heap_of (by (repeat (first | exact World.grows.refl _ | assumption | refine World.grows.alloc ?_ _ | refine World.grows.plus ?_ _ _ | refine World.grows.drew ?_))) (HKV.out.at_ y (by simp [hy]))))
              rw [hnR] at he8 hs8
              cases he8
              exact hs8.cap nR) (fun h => r3.1 h) _ (by simp [go_sem]; rfl) 1 [.slice (some ⟨ob, oo, none⟩) (filtL (inG A L.testBit t) 16).length cp] (fun W0 g => SliceAt.src (by omega) (SliceAt.mono (one_slice (V.plus nc xc) (.slice (some ⟨ob, oo, none⟩) (filtL (inG A L.testBit t) 16).length cp) 26 _ (by simp)) g)) (by omega) (by unfold maxLen; omega) (by omega) ?_
            intro W0 v' w' gW0 hown gw'
            simp only [Act.put, List.setIfInBounds_toArray, List.set_cons_zero, List.set_cons_succ]
            refine wpChain_nil (fun nc2 xc2 => ?_)
            have hcapL : (filtL (inG A L.testBit t) 16).length ≤ cp := hcp
            have hcmL : cp ≤ maxLen := hcm
            rw [show nR + 1 = (rowsG A L.testBit k).length + 1 by rw [hnR]] at hown
            obtain ⟨gq, cq, hgq, hhq, hoq⟩ := HO.out.push hcapL hcmL HcL.out hown
            have gAll : V.grows (w'.plus nc2 xc2) := World.grows.trans (World.grows.trans (by (repeat (first | exact World.grows.refl _ | assumption | refine World.grows.alloc ?_ _ | refine World.grows.plus ?_ _ _ | refine World.grows.drew ?_))) gW0) (gw'.trans (World.grows_plus w' nc2 xc2))
            have hgqV : V.heap.size ≤ gq := by
              have h1 := gW0.size
              have h2 := (World.grows_plus V nc xc).size
              simp at h1
              omega
            have kF := HKV.out.mono gAll
            have hob2 := gAll.heap_of Hhp.out
            have hg2 := (World.grows_plus w' nc2 xc2).heap_of hhq
            have hx7V := World.lt_of_block HKV.out.drop.drop.drop.drop.drop.hd
            have kS : KpS w ((D + 1, .loop lo') :: (D, Obj.deferred (some [])) :: (x7 + 1, Obj.cells #[.int .u32 (L : Nat)] 75) :: (x2 + 1, mm.obj) :: (D1, Obj.deferred (some [])) :: (x2, Obj.cells #[.pointer (some ⟨b, 0, none⟩)] 71) :: (x2 + 2, Obj.cells #[.map (some (x2 + 1))] 112) :: (gq, Obj.cells cq 26) :: (ob, Obj.cells cur 3) :: Q) (w'.plus nc2 xc2) :=
              ((((((((((kF.drop.drop.drop.drop.drop.drop.drop.drop.drop.add hob2).add hg2).add kF.drop.drop.drop.drop.drop.drop.drop.drop.hd).add kF.drop.drop.drop.drop.drop.drop.drop.hd).add kF.drop.drop.drop.drop.drop.drop.hd).add kF.drop.hd).add kF.drop.drop.drop.drop.hd).add kF.drop.drop.drop.hd).add kF.drop.drop.hd))
            have hP7 : ∀ y ∈ ((D + 1, Obj.loop lo') :: (D, Obj.deferred (some [])) :: (x7 + 1, Obj.cells #[.int .u32 (L : Nat)] 75) :: (x2 + 1, mm.obj) :: (D1, Obj.deferred (some [])) :: (x2, Obj.cells #[.pointer (some ⟨b, 0, none⟩)] 71) :: (x2 + 2, Obj.cells #[.map (some (x2 + 1))] 112) :: (gq, Obj.cells cq 26) :: (ob, Obj.cells cur 3) :: Q), y.1 ≠ x7 := by
              intro y hy
              simp only [List.mem_cons] at hy
              rcases hy with rfl | rfl | rfl | rfl | rfl | rfl | rfl | rfl | rfl | hy
              iterate 9 (simp only; omega)
              intro e
              obtain ⟨c, e', he, hee⟩ := HO.out.1 y hy
              have h1 := HKV.out.at_ y (by simp [hy])
              rw [e, HKV.out.drop.drop.drop.drop.drop.hd, he] at h1
              cases h1
              rcases hee with h | h <;> cases h
            have kT := fun z : Value => (kS.set (b := x7) (by omega) hP7 0 z).add (store_of_heap kF.drop.drop.drop.drop.drop.hd 0 z)
            obtain ⟨A9, c9, he9, -⟩ := hoq.2 (w'.plus nc2 xc2) (fun y hy => kS.at_ y (by simp only [List.mem_cons] at hy ⊢; rcases hy with h | h | h <;> simp [h]))
            have bt7' := cell_box kF.drop.drop.drop.drop.drop.hd
            have ft7' := frozen_of_heap kF.drop.drop.drop.drop.drop.hd 0
            rw [show (rowsG A L.testBit k ++ [filtL (inG A L.testBit t) 16]).length = nR + 1 by simp [hnR]] at he9
            subst he9
            have KT := Lib.hid (kT (.slice A9 (nR + 1) c9))
            have HOQ := Lib.hid hoq
            clear hoq kT kS hP7 hown hhq hg2 hob2 kF bt7 bt9 gAll gw' gW0
            generalize w'.plus nc2 xc2 = V9 at KT bt7' ft7' ⊢
            gi_wp2
            refine HFin.out _ _ mm _ _ _ HLl.out (by rw [rows_take Ht.out Hn.out]; exact HOQ.out) ?_
            exact (((KT.out.drop.drop.drop.drop.add KT.out.hd).add KT.out.drop.drop.drop.hd).add KT.out.drop.drop.hd).add KT.out.drop.hd
      · rw [decide_eq_false hn, if_neg Bool.false_ne_true] at hlk
        have Hn := Lib.hid hn
        clear hn
        gi_wp2
        refine HFin.out _ _ m v vals Q (HL.out.congr fun v => left_skip HA.out HS16.out Ht.out Hn.out v) ?_ HY.out
        rw [rows_skip Ht.out Hn.out]
        exact HO.out
    · rintro U ⟨m, v, vals, Q, h1, h2, h3⟩ hDf
      rw [hD] at hDf ⊢
      rw [List.length_map, rowsG_all] at h2
      obtain ⟨A9, c9, rfl, q1, q2, q3⟩ := h2.out.2 U (fun y hy => h3.out.at_ y (by simp [hy]))
      have hR : OutR U (.slice A9 (grpL A L.testBit 16).length c9) (grpL A L.testBit 16) vals := ⟨A9, c9, rfl, q1, q2, q3⟩
      have bt7 := cell_box h3.out.drop.drop.hd
      have HMk : Hid (Marks w.heap.size [{ target := .collected D, args := #[] }, { target := .collected D1, args := #[] }] U) := Lib.hid ⟨⟨D, rfl, by omega, hDf, fun d' hd => by
        rw [List.mem_singleton] at hd
        subst hd
        intro e
        have : D1 = D := by simpa using e
        omega⟩, ⟨⟨D1, rfl, by omega, h3.out.drop.drop.drop.drop.hd, fun d' hd => by simp at hd⟩, trivial⟩⟩
      have HG := Lib.hid h3.out.g
      have H2 := Lib.hid (show OutQ Q _ (grpL A L.testBit 16) vals ∧ ∀ y ∈ Q, U.heap[y.1]? = some y.2 from ⟨h2.out, fun y hy => h3.out.at_ y (by simp [hy])⟩)
      clear h1 h2 h3 hDf q1 q2 q3 hR
      go_wp2
      try dsimp only [Exit.noGoto]
      refine Marks.leaves (B := w.heap.size) (fun W' => w.grows W' ∧ ∀ y ∈ Q, W'.heap[y.1]? = some y.2) (fun W' D' h hD' hd => ⟨World.putObj_grows h.1 _ hD', fun y hy => by
        rw [World.putObj_heap_other (fun e => by
          obtain ⟨c, e', he, -⟩ := H2.out.1.1 y hy
          have := h.2 y hy
          rw [e, hd, he] at this
          cases this)]
        exact h.2 y hy⟩) (fun W' h => ?_) _ _ HMk.out ⟨HG.out, H2.out.2⟩
      exact ⟨.slice A9 (grpL A L.testBit 16).length c9, by simp [results, Try.results51, go_sem], _, vals, rfl, H2.out.1.2 W' h.2, h.1⟩
end Go.Proofs.Yteingahlmlndkaa

/-
  What is proved: the groups without some things (17).
-/
namespace Go.Proofs.Yteingahlmlndkaa
open Go.RowKit
attribute [local irreducible] Go.wpCalm rowV
/-- the first numbers of a list, as things -/
def inF (f : Nat → Int) (n : Nat) (v : Nat) : Bool := (List.range n).any fun j => decide (f j = v)
theorem inF_succ (f : Nat → Int) (n v : Nat) : inF f (n + 1) v = (inF f n v || decide (f n = v)) := by
  unfold inF
  rw [List.range_succ, List.any_append]
  simp
def grpOk (s : Stk) (f : Nat → Int) (n : Nat) : Bool := (List.range n).all (incB s f)
def GrpIs (s : Stk) (f : Nat → Int) (n : Nat) (w : World) (e : Ending) (w' : World) : Prop := w.grows w' ∧
  if grpOk s f n = true then ∃ u vals, e = .returned (.tuple #[u, .int .i64 0]) ∧ OutR w' u (grpL s.adj (lessX (belowN s.nt) (inF f n)) 16) vals
  else e = .returned (.tuple #[.slice none 0 0, .int .i64 3])
theorem GrpIs.bad {s : Stk} {f : Nat → Int} {n : Nat} {w w' : World} (h : grpOk s f n = false) (g : w.grows w') : GrpIs s f n w (.returned (.tuple #[.slice none 0 0, .int .i64 3])) w' := ⟨g, by rw [h, if_neg Bool.false_ne_true]⟩
theorem GrpIs.ok {s : Stk} {f : Nat → Int} {n : Nat} {w w' : World} {u : Value} {vals : List Value} (h : grpOk s f n = true) (hr : OutR w' u (grpL s.adj (lessX (belowN s.nt) (inF f n)) 16) vals) (g : w.grows w') : GrpIs s f n w (.returned (.tuple #[u, .int .i64 0])) w' := ⟨g, by rw [h, if_pos rfl]; exact ⟨u, vals, rfl, hr⟩⟩
theorem OutR.grow {U U' : World} {v : Value} {rs : List (List Nat)} {vals : List Value} (h : OutR U v rs vals) (g : U.grows U') : OutR U' v rs vals := by
  obtain ⟨A, cap, rfl, h1, h2, h3, h4, ⟨A', c', he, h5, h6⟩, h7⟩ := h
  exact ⟨A, cap, rfl, h1, h2, h3, h4, ⟨A', c', he, h5, fun hm => by
    obtain ⟨ad, h8, h9⟩ := h6 hm
    exact ⟨ad, h8, fun j u hj => g.cell_of (h9 j u hj)⟩⟩, fun i x hx => by
    obtain ⟨q1, r, q2, q3⟩ := h7 i x hx
    exact ⟨q1, r, q2, IntsAt.mono q3 g⟩⟩
set_option maxRecDepth 100000 in
set_option maxHeartbeats 4000000 in
theorem groups_ok (w : World) (v : Value) (s : Stk) (ht : StkAt w v s) (hok : s.Ok) (lv : Value) (m : Nat) (f : Nat → Int) (hl : IntsAt w lv m f) : Calls Try.prog 17 #[v, lv] w fun e w' => GrpIs s f m w e w' := by
  have Ht := Lib.hid ht
  have Hl := Lib.hid hl
  obtain ⟨tv, mv, rfl, ⟨sa, sc, rfl, s1, s2, -⟩, ⟨va, vc, rfl, -⟩⟩ := ht
  obtain ⟨la, lc, rfl, l1, l2, -⟩ := hl
  unfold maxLen at l2
  have h47 := fun W (g : w.grows W) => open_ok W _ s (Ht.out.mono g) hok
  have HAs := Lib.hid s.adj_symm
  have h16 := hok.n16
  clear hok
  go_enter Try.func17, Try.ntmps17
  go_wp2_with (go_at_call 99; fail)
  refine (h47 _ (by (repeat (first | exact World.grows.refl _ | assumption | refine World.grows.alloc ?_ _ | refine World.grows.plus ?_ _ _ | refine World.grows.drew ?_)))).mono ?_
  rintro e W1 ⟨b, rfl, g1, hlt, hB⟩
  have gW1 : w.grows W1 := World.grows.trans (by (repeat (first | exact World.grows.refl _ | assumption | refine World.grows.alloc ?_ _ | refine World.grows.plus ?_ _ _ | refine World.grows.drew ?_))) g1
  clear h47
  go_wp2_with (go_at_call 99; fail)
  refine (all_c _ b s.nt s.adj hB h16).mono ?_
  rintro e W2 ⟨⟨L, rfl, hLb, hL⟩, g2⟩
  have HB := Lib.hid (hB.grow g2)
  have HG := Lib.hid (gW1.trans g2)
  clear g1 gW1 hlt hB g2
  go_wp2
  go_loopw [8, 9, 24] (fun i8 i9 i24 wr => ∃ (k Z : Nat) (last : Int), k ≤ m ∧ i24 = .int .i64 (k : Nat) ∧ i8 = .int .i64 last ∧ i9 = .int .u32 (Z : Nat) ∧ Z < 65536 ∧ Hid (Z.testBit = lessX (belowN s.nt) (inF f k)) ∧ Hid (∀ j, j < k → incB s f j = true) ∧ Hid (last = if k = 0 then -1 else f (k - 1)) ∧ Hid (W2.grows wr)) (fun _ _ i24 _ => m - (intOf i24).toNat)
  case atStart =>
    exact ⟨0, L, -1, by omega, rfl, rfl, rfl, hLb, Lib.hid (by rw [hL]; funext v; unfold lessX inF; simp), Lib.hid (fun j hj => by omega), Lib.hid rfl, Lib.hid (World.grows.refl _)⟩
  case round =>
    obtain ⟨k, Z, last, hk, rfl, rfl, rfl, hZ, hZb, hlo, hla, hg⟩ := hrel
    have gW := HG.out.trans hg.out
    by_cases hlt : k < m
    · have hltI : (k : Int) < m := by omega
      obtain ⟨l0, hl0⟩ : ∃ x, f k = x := ⟨_, rfl⟩
      have hcell := (IntsAt.mono Hl.out gW)
      obtain ⟨la', lc', he, -, -, hc⟩ := hcell
      cases he
      obtain ⟨lb, lo, rfl, cx⟩ := hc k 0 hlt (by omega)
      simp only [Nat.mul_one, Nat.add_zero, hl0] at cx
      have HBr := Lib.hid (HB.out.grow hg.out)
      have HBAD : Hid (incB s f k = false → grpOk s f m = false) := Lib.hid fun he => by
        unfold grpOk
        rw [← Bool.not_eq_true, List.all_eq_true]
        intro h
        have := h k (List.mem_range.2 hlt)
        rw [he] at this; cases this
      have HI : Hid (incB s f k = (s.isT l0 && !decide (l0 ≤ last))) := Lib.hid (by
        unfold incB
        rw [hla.out, hl0]
        by_cases h0 : k = 0
        · rw [decide_eq_true h0, if_pos h0]
          unfold Stk.isT
          by_cases h1 : 0 ≤ l0
          · simp; omega
          · rw [decide_eq_false h1]; simp
        · rw [decide_eq_false h0, if_neg h0, Bool.false_or]
          congr 1
          by_cases h1 : f (k - 1) < l0
          · rw [decide_eq_true h1, decide_eq_false (by omega)]; rfl
          · rw [decide_eq_false h1, decide_eq_true (by omega)]; rfl)
      clear hc hla
      by_cases hle : l0 ≤ last
      · have HX := Lib.hid (HBAD.out (by rw [HI.out, decide_eq_true hle]; simp))
        clear HI HBAD hZb hlo
        go_wp2
        (refine bodyPost_ret (v := .tuple #[.slice none 0 0, .int .i64 3]) (by simp [results, Try.results17, go_sem]) rfl ?_)
        exact GrpIs.bad HX.out (gW.trans (by (repeat (first | exact World.grows.refl _ | assumption | refine World.grows.alloc ?_ _ | refine World.grows.plus ?_ _ _ | refine World.grows.drew ?_))))
      · have HLE : Hid (last < l0) := Lib.hid (Int.not_le.1 hle)
        go_wp2_with (go_at_call 99; fail)
        refine (is_c _ b s.nt s.adj (HBr.out.grow (by (repeat (first | exact World.grows.refl _ | assumption | refine World.grows.alloc ?_ _ | refine World.grows.plus ?_ _ _ | refine World.grows.drew ?_)))) l0).mono ?_
        rintro e V ⟨rfl, gV⟩
        have gVw : wr.grows V := World.grows.trans (by (repeat (first | exact World.grows.refl _ | assumption | refine World.grows.alloc ?_ _ | refine World.grows.plus ?_ _ _ | refine World.grows.drew ?_))) gV
        clear gV
        by_cases hT : s.isT l0 = true
        · have HX := Lib.hid (upto_succ hlo.out (show incB s f k = true by rw [HI.out, hT, decide_eq_false (Int.not_le.2 HLE.out)]; rfl))
          obtain ⟨t, rfl, htn⟩ := Stk.isT_nat hT
          unfold Stk.isT at hT
          rw [hT]
          clear hT HI HBAD
          go_wp2_with (go_at_call 99; fail)
          refine (less_c _ Z t hZ (by omega)).mono ?_
          rintro e V2 ⟨⟨Y, rfl, hY, hYb⟩, gV2⟩
          have gV3 := gVw.trans gV2
          have HYb : Hid (Y.testBit = lessX (belowN s.nt) (inF f (k + 1))) := Lib.hid (by
            rw [hYb, hZb.out]
            funext v
            unfold less1 lessX
            rw [inF_succ, hl0]
            by_cases e : v = t
            · simp [e]
            · have h1 : (v == t) = false := by simpa using e
              have h2 : decide (((t : Nat) : Int) = ((v : Nat) : Int)) = false := decide_eq_false (by omega)
              rw [h1, h2]
              simp)
          have HLa : Hid (((t : Nat) : Int) = if k + 1 = 0 then -1 else f (k + 1 - 1)) := Lib.hid (by rw [if_neg (by omega)]; exact hl0.symm)
          clear gVw gV2 hYb hZb hlo hl0 cx
          go_wp2
          case roundEnd =>
            exact ⟨⟨k + 1, Y, (t : Nat), by omega, by go_num, rfl, rfl, hY, HYb, HX, HLa, Lib.hid (hg.out.trans gV3)⟩, by simp [intOf]; omega⟩
        · have hT' : s.isT l0 = false := by simpa using hT
          have HX := Lib.hid (HBAD.out (by rw [HI.out, hT']; rfl))
          unfold Stk.isT at hT'
          rw [hT']
          clear hT hT' HI HBAD hZb hlo
          go_wp2
          (refine bodyPost_ret (v := .tuple #[.slice none 0 0, .int .i64 3]) (by simp [results, Try.results17, go_sem]) rfl ?_)
          exact GrpIs.bad HX.out (gW.trans (gVw.trans (by (repeat (first | exact World.grows.refl _ | assumption | refine World.grows.alloc ?_ _ | refine World.grows.plus ?_ _ _ | refine World.grows.drew ?_)))))
    · have hke : k = m := by omega
      have hltI : ¬ (k : Int) < m := by omega
      have hx : Hid (grpOk s f m = true) := Lib.hid (List.all_eq_true.2 fun j hj => hlo.out j (by have := List.mem_range.1 hj; omega))
      have HBr := Lib.hid (HB.out.grow hg.out)
      clear hlo hla
      rw [hke] at hZb
      go_wp2_with (go_at_call 99; fail)
      refine (groups_c _ b s.nt s.adj Z (HBr.out.grow (by (repeat (first | exact World.grows.refl _ | assumption | refine World.grows.alloc ?_ _ | refine World.grows.plus ?_ _ _ | refine World.grows.drew ?_)))) HAs.out hZ).mono ?_
      rintro e V ⟨u, vals, rfl, hr, gV⟩
      rw [hZb.out] at hr
      have HR := Lib.hid hr
      have gVw : w.grows V := gW.trans (World.grows.trans (by (repeat (first | exact World.grows.refl _ | assumption | refine World.grows.alloc ?_ _ | refine World.grows.plus ?_ _ _ | refine World.grows.drew ?_))) gV)
      obtain ⟨A9, c9, rfl, -⟩ := hr
      clear gV
      go_wp2
      (refine bodyPost_ret (v := .tuple #[.slice A9 (grpL s.adj (lessX (belowN s.nt) (inF f m)) 16).length c9, .int .i64 0]) (by simp [results, Try.results17, go_sem]) rfl ?_)
      exact GrpIs.ok hx.out (HR.out.grow (by (repeat (first | exact World.grows.refl _ | assumption | refine World.grows.alloc ?_ _ | refine World.grows.plus ?_ _ _ | refine World.grows.drew ?_)))) (gVw.trans (by (repeat (first | exact World.grows.refl _ | assumption | refine World.grows.alloc ?_ _ | refine World.grows.plus ?_ _ _ | refine World.grows.drew ?_))))
end Go.Proofs.Yteingahlmlndkaa

/-
  What is proved: the bound of a cut (21).
-/
namespace Go.Proofs.Yteingahlmlndkaa
open Go.RowKit
attribute [local irreducible] Go.wpCalm rowV
theorem cntB_cut {S : Nat → Bool} {n : Nat} (hS : ∀ v, S v = true → v < n) : ∀ d, cntB S (n + d) = cntB S n
  | 0 => rfl
  | d + 1 => by
    show cntB S (n + d) + (if S (n + d) = true then 1 else 0) = _
    rw [cntB_cut hS d, if_neg (fun h => by have := hS _ h; omega), Nat.add_zero]
theorem odd_nt (s : Stk) (h16 : s.nt ≤ 16) (X : Nat → Bool) : oddN (grpL s.adj (lessX (belowN s.nt) X) 16) ≤ s.nt := by
  have hS : ∀ v, lessX (belowN s.nt) X v = true → v < s.nt := fun v hv => belowN_lt (lessX_iff.1 hv).1
  have h1 := odd_le (n := 16) (m := id) s.adj_symm (fun t ht => by have := hS t ht; omega) (S := lessX (belowN s.nt) X) ⟨fun _ => rfl, fun v hv => absurd rfl hv⟩
  have h2 := cntB_cut hS (16 - s.nt)
  rw [show s.nt + (16 - s.nt) = 16 by omega] at h2
  have h3 := cntB_le (lessX (belowN s.nt) X) s.nt
  omega
def cutN (s : Stk) (f : Nat → Int) (m : Nat) : Nat := (s.nt + m - oddN (grpL s.adj (lessX (belowN s.nt) (inF f m)) 16)) / 2
theorem oddN_snoc (l : List (List Nat)) (r : List Nat) : oddN (l ++ [r]) = oddN l + r.length % 2 := by unfold oddN; simp
def CutIs (s : Stk) (f : Nat → Int) (m : Nat) (w : World) (e : Ending) (w' : World) : Prop := w.grows w' ∧
  if grpOk s f m = true then e = .returned (.tuple #[.int .i64 (cutN s f m : Nat), .int .i64 0]) else e = .returned (.tuple #[.int .i64 0, .int .i64 3])
theorem CutIs.bad {s : Stk} {f : Nat → Int} {n : Nat} {w w' : World} (h : grpOk s f n = false) (g : w.grows w') : CutIs s f n w (.returned (.tuple #[.int .i64 0, .int .i64 3])) w' := ⟨g, by rw [h, if_neg Bool.false_ne_true]⟩
theorem CutIs.ok {s : Stk} {f : Nat → Int} {n : Nat} {w w' : World} (h : grpOk s f n = true) (g : w.grows w') : CutIs s f n w (.returned (.tuple #[.int .i64 (cutN s f n : Nat), .int .i64 0])) w' := ⟨g, by rw [h, if_pos rfl]⟩
set_option maxRecDepth 100000 in
set_option maxHeartbeats 4000000 in
theorem ccut_ok (w : World) (v : Value) (s : Stk) (ht : StkAt w v s) (hok : s.Ok) (lv : Value) (m : Nat) (f : Nat → Int) (hl : IntsAt w lv m f) (hm : m ≤ 100) : Calls Try.prog 21 #[v, lv] w fun e w' => CutIs s f m w e w' := by
  have Ht := Lib.hid ht
  have Hl := Lib.hid hl
  obtain ⟨tv, mv, rfl, ⟨sa, sc, rfl, s1, s2, -⟩, ⟨va, vc, rfl, -⟩⟩ := ht
  obtain ⟨la, lc, rfl, l1, l2, -⟩ := hl
  have h17 := fun W (g : w.grows W) => groups_ok W _ s (Ht.out.mono g) hok _ m f (IntsAt.mono Hl.out g)
  have h16 := hok.n16
  have Ho := Lib.hid (odd_nt s h16 (inF f m))
  have HC : Hid (cutN s f m = (s.nt + m - oddN (grpL s.adj (lessX (belowN s.nt) (inF f m)) 16)) / 2) := Lib.hid rfl
  clear hok
  unfold maxLen at l2
  go_enter Try.func21, Try.ntmps21
  go_wp2_with (go_at_call 99; fail)
  refine (h17 _ (by (repeat (first | exact World.grows.refl _ | assumption | refine World.grows.alloc ?_ _ | refine World.grows.plus ?_ _ _ | refine World.grows.drew ?_)))).mono ?_
  rintro e W1 ⟨g1, h1⟩
  have bx := g1.heap_of (World.heap_at w (.cells #[.slice sa s.nt sc, .slice va s.nm vc, .int .i64 s.wide] 25) _ rfl)
  have gW1 : w.grows W1 := World.grows.trans (by (repeat (first | exact World.grows.refl _ | assumption | refine World.grows.alloc ?_ _ | refine World.grows.plus ?_ _ _ | refine World.grows.drew ?_))) g1
  clear h17 g1
  cases hok : grpOk s f m with
  | false =>
    rw [hok, if_neg Bool.false_ne_true] at h1
    subst h1
    have HX := Lib.hid hok
    clear hok
    go_wp2
    (refine bodyPost_ret (v := .tuple #[.int .i64 0, .int .i64 3]) (by simp [results, Try.results21, go_sem]) rfl ?_)
    exact CutIs.bad HX.out (gW1.trans (by (repeat (first | exact World.grows.refl _ | assumption | refine World.grows.alloc ?_ _ | refine World.grows.plus ?_ _ _ | refine World.grows.drew ?_))))
  | true =>
    rw [hok, if_pos rfl] at h1
    obtain ⟨u, vals, rfl, hr⟩ := h1
    have HX := Lib.hid hok
    clear hok
    obtain ⟨RS, hRS⟩ : ∃ R, grpL s.adj (lessX (belowN s.nt) (inF f m)) 16 = R := ⟨_, rfl⟩
    rw [hRS] at hr Ho HC
    clear hRS
    have HR := Lib.hid hr
    obtain ⟨A9, c9, rfl, q1, q2, q3, q4, q5, q6⟩ := hr
    unfold maxLen at q2
    obtain ⟨n, hn⟩ : ∃ n, RS.length = n := ⟨_, rfl⟩
    rw [hn] at q1 q4 q5 HR ⊢
    have hoL : ∀ k, oddN (RS.take k) ≤ s.nt := fun k => by
      refine Nat.le_trans ?_ Ho.out
      have : oddN RS = oddN (RS.take k) + oddN (RS.drop k) := by
        conv => lhs; rw [← List.take_append_drop k RS]
        unfold oddN
        rw [List.map_append, List.sum_append]
      omega
    have HoL := Lib.hid hoL
    clear hoL
    have HbX := Lib.hid bx
    clear bx q3
    go_wp2
    go_loopw [8, 22] (fun i8 i22 wr => ∃ k : Nat, k ≤ n ∧ i22 = .int .i64 (k : Nat) ∧ i8 = .int .i64 (oddN (RS.take k) : Nat) ∧ Hid (W1.grows wr)) (fun _ i22 _ => n - (intOf i22).toNat)
    case atStart => exact ⟨0, by omega, rfl, rfl, Lib.hid (World.grows.refl _)⟩
    case round =>
      obtain ⟨k, hk, rfl, rfl, hg⟩ := hrel
      by_cases hlt : k < n
      · have hltI : (k : Int) < n := by omega
        obtain ⟨-, rb, ro, x, r, rfl, cx, hrr, hrl⟩ := HR.out.row hlt
        replace cx := hg.out.cell_of cx
        obtain ⟨ra, rc, rfl, -, -⟩ := hrl
        have htk : RS.take (k + 1) = RS.take k ++ [r] := by rw [List.take_add_one, hrr]; rfl
        have h1 := HoL.out (k + 1)
        rw [htk, oddN_snoc] at h1
        have HN : Hid (oddN (RS.take (k + 1)) = oddN (RS.take k) + r.length % 2) := Lib.hid (by rw [htk, oddN_snoc])
        obtain ⟨od, hod⟩ : ∃ o, oddN (RS.take k) = o := ⟨_, rfl⟩
        rw [hod] at h1 HN ⊢
        obtain ⟨rl, hrlen⟩ : ∃ o, r.length = o := ⟨_, rfl⟩
        rw [hrlen] at h1 HN cx
        have hmod : Int.tmod (rl : Int) 2 = ((rl % 2 : Nat) : Int) := by rw [Int.tmod_eq_emod_of_nonneg (by omega)]; omega
        obtain ⟨rm, hrm⟩ : ∃ o, rl % 2 = o := ⟨_, rfl⟩
        rw [hrm] at h1 HN hmod
        clear htk hod hrlen hrr hrm
        go_wp2
        case roundEnd =>
          exact ⟨⟨k + 1, by omega, by go_num, by rw [HN.out]; go_num, hg⟩, by simp [intOf]; omega⟩
      · have hltI : ¬ (k : Int) < n := by omega
        have e1 : RS.take k = RS := List.take_of_length_le (by omega)
        rw [e1]
        obtain ⟨od, hod⟩ : ∃ o, oddN RS = o := ⟨_, rfl⟩
        rw [hod] at Ho HC ⊢
        have ho := Ho.out
        have hB := hg.out.heap_of HbX.out
        have cb := cell_of_heap hB (i := 0) rfl
        have hdiv : Int.tdiv ((s.nt : Int) + (m : Int) - (od : Int)) 2 = (((s.nt + m - od) / 2 : Nat) : Int) := by
          rw [Int.tdiv_eq_ediv_of_nonneg (by omega)]; omega
        obtain ⟨CN, hCN⟩ : ∃ o, (s.nt + m - od) / 2 = o := ⟨_, rfl⟩
        rw [hCN] at hdiv HC
        have hcn : CN ≤ 200 := by omega
        clear hod e1 hCN hB
        go_wp2
        (refine bodyPost_ret (v := .tuple #[.int .i64 (CN : Nat), .int .i64 0]) (by simp [results, Try.results21, go_sem]) rfl ?_)
        rw [← HC.out]
        exact CutIs.ok HX.out (gW1.trans (hg.out.trans (by (repeat (first | exact World.grows.refl _ | assumption | refine World.grows.alloc ?_ _ | refine World.grows.plus ?_ _ _ | refine World.grows.drew ?_)))))
end Go.Proofs.Yteingahlmlndkaa

/-
  What is proved: a greatest matching is a right pairing, and the cut that is found has its bound (plain).
-/
namespace Go.Proofs.Yteingahlmlndkaa
theorem cnt_below {n : Nat} (h : n ≤ 16) : cntB (belowN n) 16 = n := by
  have h1 := cntB_cut (S := belowN n) (fun v hv => belowN_lt hv) (16 - n)
  rw [show n + (16 - n) = 16 by omega] at h1
  rw [h1]
  have : ∀ k, k ≤ n → cntB (belowN n) k = k := fun k => by
    induction k with
    | zero => exact fun _ => rfl
    | succ k ih =>
      intro hk
      show cntB (belowN n) k + (if belowN n k = true then 1 else 0) = k + 1
      rw [ih (by omega), if_pos (by simp [belowN]; omega)]
  exact this n (Nat.le_refl n)
theorem below16 {n : Nat} (h : n ≤ 16) : ∀ t, belowN n t = true → t < 16 := fun t ht => by have := belowN_lt ht; omega
section
variable {s : Stk} {m : Nat → Nat}
theorem IsM.in_nt (h : IsM s.adj (belowN s.nt) m) {v : Nat} (hv : m v ≠ v) : v < s.nt ∧ m v < s.nt ∧ m (m v) = v ∧ s.adj v (m v) = true := by
  obtain ⟨h1, h2⟩ := h.ok v hv
  exact ⟨belowN_lt h1, (Stk.adj_lt h2).2, h.inv v, h2⟩
theorem IsM.mates (h : IsM s.adj (belowN s.nt) m) : mOf (mvI m) s.nt = m := funext fun v => by
  unfold mOf
  by_cases e : m v = v
  · rw [mvI_none e, if_neg (by omega), e]
  · obtain ⟨h1, -⟩ := h.in_nt e
    rw [mvI_some e, if_pos ⟨h1, by omega⟩]
    rfl
theorem IsM.range (h : IsM s.adj (belowN s.nt) m) : (List.range s.nt).any (badR s (mvI m)) = false := by
  rw [← Bool.not_eq_true, List.any_eq_true]
  rintro ⟨i, -, hb⟩
  unfold badR at hb
  by_cases e : m i = i
  · rw [mvI_none e] at hb
    simp at hb
  · obtain ⟨-, h2, -⟩ := h.in_nt e
    rw [mvI_some e] at hb
    unfold Stk.isT at hb
    rw [decide_eq_true (show (0 : Int) ≤ (m i : Nat) by omega), decide_eq_true (show ((m i : Nat) : Int) < (s.nt : Nat) by omega)] at hb
    simp at hb
theorem IsM.rule (h : IsM s.adj (belowN s.nt) m) : (List.range s.nt).all (okP s (mvI m)) = true := List.all_eq_true.2 fun i _ => by
  unfold okP
  by_cases e : m i = i
  · rw [mvI_none e]; rfl
  · obtain ⟨h1, h2, h3, h4⟩ := h.in_nt e
    rw [mvI_some e]
    show (_ || (decide (mvI m (m i) = (i : Nat)) && s.adj i (m i))) = true
    rw [mvI_some (i := m i) (fun h5 => e (by rw [h3] at h5; exact h5.symm)), h3, decide_eq_true rfl, h4]
    simp
theorem IsM.pErr (h : IsM s.adj (belowN s.nt) m) : pErr s (mvI m) s.nt = 0 := by
  unfold Go.Proofs.Yteingahlmlndkaa.pErr
  rw [if_neg (by simp), if_neg (by rw [h.range]; exact Bool.false_ne_true), if_pos h.rule]
theorem cov_nt (h16 : s.nt ≤ 16) (h : IsM s.adj (belowN s.nt) m) : cov 16 m = cov s.nt m := by
  have := cntB_cut (S := cv m) (n := s.nt) (fun v hv => (h.in_nt (cv_iff.1 hv)).1) (16 - s.nt)
  rw [show s.nt + (16 - s.nt) = 16 by omega] at this
  exact this
theorem IsM.pNum (h16 : s.nt ≤ 16) (h : IsM s.adj (belowN s.nt) m) : pNum s (mvI m) s.nt = cov 16 m / 2 := by
  unfold Go.Proofs.Yteingahlmlndkaa.pNum
  rw [if_pos h.pErr, h.mates, cov_nt h16 h]
theorem Mx.pNum (h16 : s.nt ≤ 16) (h : Mx s.adj (belowN s.nt) 16 m) : Go.Proofs.Yteingahlmlndkaa.pNum s (mvI m) s.nt = nu s.adj (belowN s.nt) 16 := by
  rw [h.isM.pNum h16, nu_mx s.adj_symm (below16 h16) h]
  omega
/-- a greatest matching is there -/
theorem mx_has (h16 : s.nt ≤ 16) : ∃ m, Mx s.adj (belowN s.nt) 16 m := by
  have h1 := cnt_pos (S := belowN s.nt) (n := 16) s.adj_symm
  unfold cnt at h1
  obtain ⟨m, h2, h3⟩ := (num_pos s.adj_symm 16 _ _).1 h1
  rw [restr_self (below16 h16)] at h2
  exact ⟨m, mx_nu s.adj_symm (below16 h16) h2 h3⟩
end
/-- a list of things as numbers -/
def lstN (L : List Nat) : Nat → Int := fun i => ((L.getD i 0 : Nat) : Int)
theorem inF_list {L : List Nat} : inF (lstN L) L.length = fun v => decide (v ∈ L) := funext fun v => by
  unfold inF lstN
  by_cases h : v ∈ L
  · rw [decide_eq_true h, List.any_eq_true]
    obtain ⟨j, hj⟩ := List.getElem?_of_mem h
    refine ⟨j, List.mem_range.2 (List.getElem?_eq_some_iff.1 hj).1, ?_⟩
    rw [List.getD_eq_getElem?_getD, hj]
    simp
  · rw [decide_eq_false h, ← Bool.not_eq_true, List.any_eq_true]
    rintro ⟨j, hj, he⟩
    have hj := List.mem_range.1 hj
    rw [List.getD_eq_getElem?_getD, List.getElem?_eq_getElem hj] at he
    simp only [Option.getD_some, decide_eq_true_eq] at he
    exact h (by have := List.getElem_mem hj; rwa [show L[j] = v by omega] at this)
theorem mem_filtL {X : Nat → Bool} {n v : Nat} : v ∈ filtL X n ↔ v < n ∧ X v = true := by
  unfold filtL
  rw [List.mem_filter, List.mem_range]
theorem grpOk_filt {s : Stk} {X : Nat → Bool} {n : Nat} (h16 : s.nt ≤ 16) (hX : ∀ t, X t = true → t < s.nt) : grpOk s (lstN (filtL X n)) (filtL X n).length = true := List.all_eq_true.2 fun i hi => by
  have hi := List.mem_range.1 hi
  have hs : (filtL X n).Pairwise (· < ·) := List.Pairwise.filter _ List.pairwise_lt_range
  have e : lstN (filtL X n) i = (((filtL X n)[i] : Nat) : Int) := by unfold lstN; rw [List.getD_eq_getElem?_getD, List.getElem?_eq_getElem hi]; rfl
  have h1 := hX _ (mem_filtL.1 (List.getElem_mem hi)).2
  unfold incB Stk.isT
  rw [e, decide_eq_true (show (0 : Int) ≤ (((filtL X n)[i] : Nat) : Int) by omega), decide_eq_true (show (((filtL X n)[i] : Nat) : Int) < (s.nt : Nat) by omega)]
  by_cases h0 : i = 0
  · rw [decide_eq_true h0]; rfl
  · have h2 := List.pairwise_iff_getElem.1 hs (i - 1) i (by omega) hi (by omega)
    have e2 : lstN (filtL X n) (i - 1) = (((filtL X n)[i - 1] : Nat) : Int) := by unfold lstN; rw [List.getD_eq_getElem?_getD, List.getElem?_eq_getElem (by omega)]; rfl
    rw [e2, decide_eq_true (show (((filtL X n)[i - 1] : Nat) : Int) < (((filtL X n)[i] : Nat) : Int) by omega)]
    simp
theorem lessX_filt {s : Stk} {X : Nat → Bool} {n : Nat} (hX : ∀ t, X t = true → t < n) : lessX (belowN s.nt) (inF (lstN (filtL X n)) (filtL X n).length) = lessX (belowN s.nt) X := by
  rw [inF_list]
  funext v
  unfold lessX
  congr 2
  cases hv : X v with
  | true => exact decide_eq_true (mem_filtL.2 ⟨hX v hv, hv⟩)
  | false => exact decide_eq_false (fun h => by rw [(mem_filtL.1 h).2] at hv; cases hv)
/-- the bound of a cut that is given by bits -/
theorem cutN_filt {s : Stk} {X : Nat → Bool} {n : Nat} (hX : ∀ t, X t = true → t < n) : cutN s (lstN (filtL X n)) (filtL X n).length = (s.nt + cntB X n - oddN (grpL s.adj (lessX (belowN s.nt) X) 16)) / 2 := by
  unfold cutN
  rw [lessX_filt hX, filtL_cnt]
/-- no right pairing has more pairs than the bound of a cut -/
theorem nu_le_cut {s : Stk} (h16 : s.nt ≤ 16) {X : Nat → Bool} (hX : ∀ t, X t = true → t < s.nt) : nu s.adj (belowN s.nt) 16 ≤ cutN s (lstN (filtL X 16)) (filtL X 16).length := by
  obtain ⟨m, hm⟩ := mx_has (s := s) h16
  have h1 := cut_ge (n := 16) s.adj_symm (below16 h16) (X := X) (fun t ht => by simpa [belowN] using hX t ht) hm.isM
  rw [nu_mx s.adj_symm (below16 h16) hm, cnt_below h16] at h1
  rw [cutN_filt (fun t ht => by have := hX t ht; omega)]
  omega
/-- the cut that is found -/
theorem cut_best {s : Stk} (h16 : s.nt ≤ 16) {X : Nat → Bool} (hX : ∀ t, X t = true ↔ (∃ a, Spare s.adj (belowN s.nt) 16 a ∧ s.adj a t = true) ∧ ¬ Spare s.adj (belowN s.nt) 16 t) : grpOk s (lstN (filtL X 16)) (filtL X 16).length = true ∧ cutN s (lstN (filtL X 16)) (filtL X 16).length = nu s.adj (belowN s.nt) 16 := by
  have hXn : ∀ t, X t = true → t < s.nt := fun t ht => by
    obtain ⟨⟨a, -, h⟩, -⟩ := (hX t).1 ht
    exact (Stk.adj_lt h).2
  refine ⟨grpOk_filt h16 hXn, ?_⟩
  obtain ⟨m, hm⟩ := mx_has (s := s) h16
  have h1 := cut_eq (n := 16) s.adj_symm (below16 h16) (X := X) (fun t => by
    unfold Near
    rw [hX]
    constructor
    · rintro ⟨⟨a, h1, h2⟩, h3⟩
      exact ⟨by simpa [belowN] using (Stk.adj_lt h2).2, h3, a, h1, h2⟩
    · rintro ⟨-, h3, a, h1, h2⟩
      exact ⟨⟨a, h1, h2⟩, h3⟩) hm
  rw [nu_mx s.adj_symm (below16 h16) hm, cnt_below h16] at h1
  rw [cutN_filt (fun t ht => by have := hXn t ht; omega)]
  omega
end Go.Proofs.Yteingahlmlndkaa

/-
  What is proved: what the functions answer at the examples' stock (plain).
-/
namespace Go.Proofs.Yteingahlmlndkaa
def lst (l : List Int) (i : Nat) : Int := l.getD i 0
/-- names that are right -/
def namesOk (A : Nat → Nat → Bool) (S : Nat → Bool) (f q : Nat → Nat) : Bool :=
  ((List.range 16).all fun i => !S i || (decide (f i ≤ i) && (decide (f i = i) || (decide (q i < i) && S (q i) && A i (q i) && decide (f (q i) = f i))))) &&
  (List.range 16).all fun i => (List.range 16).all fun k => !(S i && S k && A i k) || decide (f i = f k)
theorem names_of {A : Nat → Nat → Bool} {S : Nat → Bool} {f q : Nat → Nat} (hA : ∀ a b, A a b = A b a) (hS : ∀ t, S t = true → t < 16) (h : namesOk A S f q = true) : ∀ i, S i = true → nm A S 16 i = f i := by
  unfold namesOk at h
  rw [Bool.and_eq_true, List.all_eq_true, List.all_eq_true] at h
  obtain ⟨h1, h2⟩ := h
  have key : ∀ i, S i = true → f i ≤ i ∧ (f i = i ∨ (q i < i ∧ S (q i) = true ∧ A i (q i) = true ∧ f (q i) = f i)) := fun i hi => by
    have := h1 i (List.mem_range.2 (hS i hi))
    rw [hi] at this
    simpa [and_assoc] using this
  have pth : ∀ n i, i ≤ n → S i = true → Pth A (fun x => S x = true) i (f i) := fun n => by
    induction n with
    | zero =>
      intro i hi hs
      obtain ⟨a, b⟩ := key i hs
      rcases b with b | b
      · rw [b]; exact .refl hs
      · omega
    | succ n ih =>
      intro i hi hs
      obtain ⟨a, b⟩ := key i hs
      rcases b with b | ⟨b1, b2, b3, b4⟩
      · rw [b]; exact .refl hs
      · rw [← b4]
        exact ((Pth.refl hs).step b3 b2).trans (ih _ (by omega) b2)
  intro i hi
  refine (nm_unique hA hS f (fun i hi => ⟨(key i hi).1, pth i i (Nat.le_refl _) hi⟩) (fun i k hi hk ha => ?_) hi).symm
  have := List.all_eq_true.1 (h2 i (List.mem_range.2 (hS i hi))) k (List.mem_range.2 (hS k hk))
  rw [hi, hk, ha] at this
  simpa using this
def grpE (S : Nat → Bool) (f : Nat → Nat) : List (List Nat) := ((List.range 16).filter fun g => S g && decide (f g = g)).map fun g => (List.range 16).filter fun i => S i && decide (f i = g)
theorem grpL_of {A : Nat → Nat → Bool} {S : Nat → Bool} {f : Nat → Nat} (h : ∀ i, S i = true → nm A S 16 i = f i) : grpL A S 16 = grpE S f := by
  unfold grpL grpE
  have e1 : ∀ g : Nat, (fun i => S i && decide (nm A S 16 i = g)) = fun i => S i && decide (f i = g) := fun g => funext fun i => by
    cases hi : S i with
    | false => rfl
    | true => rw [h i hi]
  have e2 : (fun g => S g && decide (nm A S 16 g = g)) = fun g => S g && decide (f g = g) := funext fun i => by
    cases hi : S i with
    | false => rfl
    | true => rw [h i hi]
  rw [e2]
  exact List.map_congr_left fun g _ => by rw [e1]
theorem ex_ok : exS.check = 0 := by decide +kernel
theorem ex_Ok : exS.Ok := (Stk.ok_iff exS).1 ex_ok
theorem ex_s1 : suitX exS 1 0 = true := by decide +kernel
theorem ex_e1 : twoE exS 1 0 = 0 := by decide +kernel
theorem ex_s2 : suitX exS 3 6 = false := by decide +kernel
theorem ex_e2 : twoE exS 3 6 = 0 := by decide +kernel
def exF (l : List Int) (m : Nat) : Nat → Bool := lessX (belowN exS.nt) (inF (lst l) m)
theorem exF_lt (l : List Int) (m : Nat) : ∀ t, exF l m t = true → t < 16 := fun t ht => by
  have h1 : t < 7 := belowN_lt (lessX_iff.1 ht).1
  omega
theorem ex_g05 : grpL exS.adj (exF [0, 5] 2) 16 = [[1], [2], [3, 4], [6]] := by
  rw [grpL_of (names_of (f := fun i => if i = 4 then 3 else i) (q := fun i => if i = 4 then 3 else i) exS.adj_symm (exF_lt _ _) (by decide +kernel))]
  decide +kernel
theorem ex_g1 : grpL exS.adj (exF [1] 1) 16 = [[0, 2], [3, 4, 5, 6]] := by
  rw [grpL_of (names_of (f := fun i => if 3 ≤ i then 3 else 0) (q := fun i => if i = 6 then 5 else if 3 ≤ i then 3 else 0) exS.adj_symm (exF_lt _ _) (by decide +kernel))]
  decide +kernel
theorem ex_ok05 : grpOk exS (lst [0, 5]) 2 = true := by decide +kernel
theorem ex_ok1 : grpOk exS (lst [1]) 1 = true := by decide +kernel
theorem ex_c05 : cutN exS (lst [0, 5]) 2 = 3 := by
  have := ex_g05
  unfold exF at this
  unfold cutN
  rw [this]
  decide +kernel
theorem ex_c1 : cutN exS (lst [1]) 1 = 4 := by
  have := ex_g1
  unfold exF at this
  unfold cutN
  rw [this]
  decide +kernel
theorem ex_p1 : pErr exS (lst [1, 0, -1, 4, 3, 6, 5]) 7 = 0 ∧ pNum exS (lst [1, 0, -1, 4, 3, 6, 5]) 7 = 3 := by decide +kernel
theorem ex_p2 : pErr exS (lst [1, 2, 0, -1, -1, -1, -1]) 7 = 16 ∧ pNum exS (lst [1, 2, 0, -1, -1, -1, -1]) 7 = 0 := by decide +kernel
theorem ex_nu : nu exS.adj (belowN exS.nt) 16 = 3 := by decide +kernel
theorem ex_cnt : cnt exS.adj (belowN exS.nt) 16 = 2 := by decide +kernel
theorem ex_pair1 : pairN exS.adj exS.nt 0 1 = 1 := by decide +kernel
theorem ex_pair2 : pairN exS.adj exS.nt 3 4 = 2 := by decide +kernel
theorem ex_spare (t : Nat) (ht : belowN exS.nt t = true) : Spare exS.adj (belowN exS.nt) 16 t ↔ nu exS.adj (less1 (belowN exS.nt) t) 16 = nu exS.adj (belowN exS.nt) 16 := Spare.iff_nu exS.adj_symm (below16 (by decide)) ht
theorem ex_suits (t : Nat) (ht : t < 7) : ¬ ∀ k, exS.adj t k = false := fun h => by
  have h1 : ∀ t, t < 7 → ∃ k, k < 7 ∧ exS.adj t k = true := by decide +kernel
  obtain ⟨k, -, h2⟩ := h1 t ht
  rw [h k] at h2
  cases h2
theorem ex_nus : ∀ t, t < 7 → (nu exS.adj (less1 (belowN exS.nt) t) 16 = 3 ↔ (t = 1 ∨ t = 2)) := by decide +kernel
theorem ex_kind (t : Nat) (ht : t < 7) : kindN exS.adj exS.nt t = if t = 1 ∨ t = 2 then 1 else 2 := by
  have hb : belowN exS.nt t = true := decide_eq_true (show t < exS.nt from ht)
  have h1 := ex_spare t hb
  rw [ex_nu, ex_nus t ht] at h1
  by_cases h : t = 1 ∨ t = 2
  · rw [if_pos h]
    exact kindN_1 (ex_suits t ht) (h1.2 h)
  · rw [if_neg h]
    exact kindN_2 (ex_suits t ht) (fun hs => h (h1.1 hs))
theorem ex_kinds : (List.range exS.nt).map (kindN exS.adj exS.nt) = [2, 1, 1, 2, 2, 2, 2] := by
  have : (List.range exS.nt).map (kindN exS.adj exS.nt) = (List.range 7).map fun t => if t = 1 ∨ t = 2 then 1 else 2 := List.map_congr_left fun t ht => ex_kind t (List.mem_range.1 ht)
  rw [this]
  decide +kernel
end Go.Proofs.Yteingahlmlndkaa

