/-
  What is proved: visits as keys of maps; the visit that a visit comes right after, in the program (73).
-/
import Derived.Test.YtaanbdjmibjcbaaM7
import Derived.DeepKeys3
import Derived.Test.YtaanbdjmibjcbaaM4
import Derived.Test.YtaanbdjmibjcbaaM6
import Derived.Lib.SliceRun
set_option linter.all false
namespace Go.Proofs.Ytaanbdjmibjcbaa
open Go.RowKit
attribute [local irreducible] Go.wpCalm rowI

theorem chk3 (em : Bool) (n : Nat) (x : Int) (w : World) (t : TypeId) (ht : Try.prog.underlying t = some (.int .i64)) : (Instr.checkKey em (n + 1) t (.int .i64 x)).run Try.prog w = .ok () w := by
  rw [Instr.checkKey]
  simp [run_underlying ht]
theorem eq109 (d : Nat) (w : World) (a b : Int) : (Op.equalIn (d + 3) 109 (.agg #[.int .i64 a]) (.agg #[.int .i64 b])).run Try.prog w = .ok (decide (a = b)) w := by
  rw [run_equalIn_struct w (d + 2) 109 _ _ (by kernel_rfl) (by kernel_rfl)]
  by_cases h : a = b <;> simp [go_sem, h]
theorem kV : KeyOk Try.prog 109 eV where
  wide := by kernel_rfl
  eq := fun a b w => eq109 9997 w a b
  chk := fun em a w => by
    show (Instr.checkKey em (9999 + 1) 109 _).run _ _ = _
    rw [Instr.checkKey]
    have c := fun x : Int => chk3 em 9998 x w 3 Try.underlying3
    simp only [eV]
    simp [go_sem, c]
  bits := fun a => by simp [eV, Instr.sameBits]
theorem zero3 (w : World) : (zeroValue 3).run Try.prog w = .ok (.int .i64 0) w := by kernel_rfl
theorem lko105 (m : PM Int) (b : Nat) : ∀ W : World, W.heap[b]? = some (m.obj eV) → ∀ p : Int, (Instr.lookup 105 (.map (some b)) (.agg #[.int .i64 p]) true).run Try.prog W = .ok (.tuple #[.int .i64 (m.getD p), .bool (m.get p).isSome]) W :=
  fun W h p => run_lookup_ok_pm kV Try.underlying105 zero3 m b W h p
theorem up105 (m : PM Int) (b : Nat) : ∀ W : World, W.heap[b]? = some (m.obj eV) → ∀ p v : Int, (Instr.mapUpdate 105 (.map (some b)) (.agg #[.int .i64 p]) (.int .i64 v)).run Try.prog W = .ok () (W.putObj b ((m.set p v).obj eV)) :=
  fun W h p v => run_mapUpdate_pm kV Try.underlying105 m b W h p v
theorem del105 (m : PM Int) (b : Nat) : ∀ W : World, W.heap[b]? = some (m.obj eV) → ∀ ty (p : Int), (Builtin.delete_ #[105, 109] ty #[.map (some b), .agg #[.int .i64 p]]).run Try.prog W = .ok (.tuple #[]) (W.putObj b ((m.del p).obj eV)) :=
  fun W hb ty p => run_delete_pm kV Try.underlying105 m b W ty 109 hb p
def itLeftV (m : PM Int) (o : Option Obj) : Nat := match o with | some (.mapIter _ _ seen _) => (m.left seen).length | _ => 0
/-- what before answers -/
def befV (J : Jn) (n k : Nat) : Value := match bef n J k with | some l => .tuple #[.int .i64 (l : Int), .bool true] | none => .tuple #[.int .i64 (-1), .bool false]
set_option maxHeartbeats 2000000 in
theorem bef_c (w : World) (jb : Nat) (m : PM Int) (J : Jn) (A : Nat → Nat → Bool) (n k : Nat) (hm : JIs m J) (hJ : Mat A n J) (hb : w.heap[jb]? = some (m.obj eV)) :
    Calls Try.prog 73 #[.map (some jb), .int .i64 (k : Nat)] w fun e w' => e = .returned (befV J n k) ∧ w.grows w' := by
  have Hm := Lib.hid hm
  have HJ := Lib.hid hJ
  have Hb := Lib.hid hb
  go_enter Try.func73, Try.ntmps73
  have hr0 : ∀ W : World, W.heap[jb]? = some (m.obj eV) → (Instr.range 105 (.map (some jb))).run Try.prog W = .ok (.pointer (some ⟨W.heap.size, 0, none⟩)) (W.alloc (.mapIter (some jb) m.clock #[] m.clock)) := fun W h => run_range_pm Try.underlying105 m jb W h
  go_wp2
  clear hr0 hm hJ hb
  go_loopw [10] (fun _ wr => ∃ (seen : Array Nat) (n : Nat) (x : World), wr = (w.alloc (.mapIter (some jb) m.clock seen m.clock)).plus n x ∧ Hid (∀ y ∈ m.l, seen.contains y.2.2 = true → y.2.1 ≠ (k : Int))) (fun _ wr => itLeftV m (wr.heap[w.heap.size]?))
  case atStart => exact ⟨#[], 0, _, (World.plus_self (World.grows.refl _) rfl).symm, Lib.hid fun y _ h => by simp at h⟩
  case round =>
    obtain ⟨seen, n', x, rfl, hno⟩ := hrel
    have hjb := World.lt_of_block Hb.out
    have hW : ((w.alloc (.mapIter (some jb) m.clock seen m.clock)).plus n' x).heap[jb]? = some (m.obj eV) := World.grows.heap_of (by (repeat (first | exact World.grows.refl _ | assumption | refine World.grows.alloc ?_ _ | refine World.grows.plus ?_ _ _ | refine World.grows.drew ?_))) Hb.out
    have hWr : ((w.alloc (.mapIter (some jb) m.clock seen m.clock)).plus n' x).heap[w.heap.size]? = some (.mapIter (some jb) m.clock seen m.clock) := World.grows.heap_of (World.grows_plus _ _ _) (World.heap_at _ _ _ rfl)
    have hl0 : itLeftV m (((w.alloc (.mapIter (some jb) m.clock seen m.clock)).plus n' x).heap[w.heap.size]?) = (m.left seen).length := by rw [hWr]; rfl
    rw [hl0]
    rcases run_next_pm (P := Try.prog) m Hm.out.ok jb w.heap.size seen 0 _ hW hWr with ⟨hnil, hn⟩ | ⟨e, he, W1, hW1, hn⟩
    · have hn' : ∀ ty, (Instr.next (.pointer (some ⟨w.heap.size, 0, none⟩)) false ty).run Try.prog ((w.alloc (.mapIter (some jb) m.clock seen m.clock)).plus n' x) = .ok (.tuple #[.bool false]) ((w.alloc (.mapIter (some jb) m.clock seen m.clock)).plus n' x) := fun ty => hn
      clear hn hl0 hW hWr
      go_wp2
      (refine bodyPost_ret (v := .tuple #[.int .i64 (-1), .bool false]) (by simp [results, Try.results73, go_sem]) rfl ?_)
      refine ⟨?_, by (repeat (first | exact World.grows.refl _ | assumption | refine World.grows.alloc ?_ _ | refine World.grows.plus ?_ _ _ | refine World.grows.drew ?_))⟩
      unfold befV
      cases hbf : bef n J k with
      | none => rfl
      | some l =>
        exfalso
        obtain ⟨b, hbm⟩ := Hm.out.has ((bef_some HJ.out).1 hbf)
        exact hno.out _ hbm (PM.not_left hnil hbm) rfl
    · have hem : e ∈ m.l := (List.mem_filter.1 he).1
      have hlt := Lib.hid (PM.left_push m seen e he)
      have hW2 : ∃ x2, W1.putObj w.heap.size (.mapIter (some jb) m.clock (seen.push e.2.2) m.clock) = (w.alloc (.mapIter (some jb) m.clock (seen.push e.2.2) m.clock)).plus n' x2 := by
        rcases hW1 with rfl | rfl
        · exact ⟨_, by rw [World.putObj_plus _ _ _ _ _ (by simp), World.putObj_alloc_at _ _ _ _ (by simp)]⟩
        · exact ⟨_, by rw [World.plus_drew, World.putObj_plus _ _ _ _ _ (by simp), World.putObj_alloc_at _ _ _ _ (by simp)]⟩
      obtain ⟨x2, hx2⟩ := hW2
      rw [hx2] at hn
      obtain ⟨l, q, h1, h2, h3⟩ := Hm.out.mem hem
      have hn' : ∀ ty, (Instr.next (.pointer (some ⟨w.heap.size, 0, none⟩)) false ty).run Try.prog ((w.alloc (.mapIter (some jb) m.clock seen m.clock)).plus n' x) = .ok (.tuple #[.bool true, .agg #[.int .i64 (l : Int)], .int .i64 (q : Int)]) ((w.alloc (.mapIter (some jb) m.clock (seen.push e.2.2) m.clock)).plus n' x2) := fun ty => by
        rw [← h1, ← h2]; exact hn
      have hen := run_entry_pm (P := Try.prog) (eK := eV) m Hm.out.ok jb w.heap.size m.clock seen ((w.alloc (.mapIter (some jb) m.clock (seen.push e.2.2) m.clock)).plus n' x2) (World.grows.heap_of (by (repeat (first | exact World.grows.refl _ | assumption | refine World.grows.alloc ?_ _ | refine World.grows.plus ?_ _ _ | refine World.grows.drew ?_))) Hb.out) e hem (World.grows.heap_of (World.grows_plus _ _ _) (World.heap_at _ _ _ rfl))
      rw [h1, h2] at hen
      simp only [eV] at hen
      have Hstep : q ≠ k → Hid (∀ y ∈ m.l, (seen.push e.2.2).contains y.2.2 = true → y.2.1 ≠ (k : Int)) := fun hq => Lib.hid fun y hy hc => by
        simp only [Array.contains_push, Bool.or_eq_true, beq_iff_eq] at hc
        rcases hc with hc | hc
        · exact hno.out y hy hc
        · have := PM.stamp_inj Hm.out.ok hy hem hc
          rw [this, h2]
          omega
      clear hn hW1 hx2 hW hWr hl0
      obtain ⟨S, hS⟩ : ∃ S, seen.push e.2.2 = S := ⟨_, rfl⟩
      rw [hS] at hn' hen Hstep hlt
      have HE := Lib.hid (And.intro h1 (And.intro h2 h3))
      clear hS h1 h2 h3
      by_cases hqk : q = k
      · subst hqk
        have HR : Hid (befV J n q = .tuple #[.int .i64 (l : Int), .bool true]) := Lib.hid (by unfold befV; rw [(bef_some HJ.out).2 HE.out.2.2])
        clear Hstep
        go_wp2
        (refine bodyPost_ret (v := .tuple #[.int .i64 (l : Int), .bool true]) (by simp [results, Try.results73, go_sem]) rfl ?_)
        exact ⟨by rw [HR.out], by (repeat (first | exact World.grows.refl _ | assumption | refine World.grows.alloc ?_ _ | refine World.grows.plus ?_ _ _ | refine World.grows.drew ?_))⟩
      · have hqI : ¬ (q : Int) = (k : Int) := by omega
        have HS := Hstep hqk
        clear Hstep
        go_wp2
        case roundEnd =>
          refine ⟨⟨S, World.plus_ex (by (repeat (first | exact World.grows.refl _ | assumption | refine World.grows.alloc ?_ _ | refine World.grows.plus ?_ _ _ | refine World.grows.drew ?_))) HS⟩, ?_⟩
          rw [World.grows.heap_of (w := w.alloc (.mapIter (some jb) m.clock S m.clock)) (by (repeat (first | exact World.grows.refl _ | assumption | refine World.grows.alloc ?_ _ | refine World.grows.plus ?_ _ _ | refine World.grows.drew ?_))) (World.heap_at _ _ _ rfl)]
          exact hlt.out
end Go.Proofs.Ytaanbdjmibjcbaa

/-
  What is proved: a range over a function whose rounds end normally, and may change what they have made: what holds between the rounds is said of the world itself.
-/
namespace Go
open Go.RowKit

theorem wp_rangeFunc_own {P : Program} {g : Operand} {ps : Array Tmp} {assign body : Code} {Q : Exit → Act → World → Prop} {a : Act} {w : World} {f : Nat} {lb : Array Value} {xs : List (Array Value)} {Ro : World → Prop}
    (hg : a.eval g = .func (.func f) #[] lb) (eg : ∀ args w, (callFunc f args).run P w = .ok (.enter f args) w)
    (hseq : SeqC P f lb xs Ro) (hps : ∀ x ∈ xs, x.size = ps.size)
    (J : Nat → World → Prop) (hJ : ∀ k W W', J k W → W.grows W' → J k W')
    (hput : ∀ k W lo lo', W.heap[w.heap.size + 1]? = some (.loop lo) → J k W → J k (W.putObj (w.heap.size + 1) (.loop lo')))
    (hR : ∀ k W, J k W → Ro W) (h0 : ∀ lo, J 0 ((w.alloc (.deferred (some []))).alloc lo))
    (hround : ∀ (k : Nat) (x : Array Value) (W : World), xs[k]? = some x → J k W → W.heap[w.heap.size]? = some (.deferred (some [])) → (∃ lo, W.heap[w.heap.size + 1]? = some (.loop lo)) → ∀ K0 : Act → World → Prop,
      Hid (∀ a1 W1, W.grows W1 →
        (∀ (lo' : Loop) (K1 : Exit → Act → World → Prop), Hid (∀ a' W', J (k + 1) W' → W'.heap[w.heap.size]? = some (.deferred (some [])) → W'.heap[w.heap.size + 1]? = some (.loop lo') → K1 .normal a' W') →
          body.wpIn (Fence.wide.inRound (w.heap.size + 1)) 0 P K1 a1 (W1.putObj (w.heap.size + 1) (.loop lo'))) → K0 a1 W1) →
      assign.wpIn (Fence.wide.inRound (w.heap.size + 1)) 0 P (Exit.then K0 (fun _ _ _ => False))
        { tmps := (ps.zip x).foldl (fun t (p, v) => t.setIfInBounds p v) a.tmps, defers := [] } W)
    (hdone : ∀ W, J xs.length W → W.heap[w.heap.size]? = some (.deferred (some [])) → Q .normal { a with defers := { target := .collected w.heap.size, args := #[] } :: a.defers } W) :
    (Code.rangeFunc g ps assign body).wp P Q a w := by
  refine (wpIn_wide (n := 0)).1 (wpIn_rangeFunc ?_)
  intro fn hfn
  obtain ⟨rec, hrec⟩ : ∃ rec : LoopState → Option Code → Loop, rec = fun st pe => { state := st, pending := pe, fn, tmps := a.tmps, params := ps, assign, body, defers := w.heap.size } := ⟨_, rfl⟩
  refine ⟨w.heap.size + 1, [{ target := .collected w.heap.size, args := #[] }], (w.alloc (.deferred (some []))).alloc (.loop (rec .ready none)), { target := .fn (.func f) lb, args := #[.func (.yield (w.heap.size + 1)) #[] #[]] }, (w.alloc (.deferred (some []))).alloc (.loop (rec .ready none)), f,
    #[.func (.yield (w.heap.size + 1)) #[] #[]] ++ lb, (w.alloc (.deferred (some []))).alloc (.loop (rec .ready none)), ?_, ?_, fun _ _ => trivial, ?_, fun h => (by simp [Fence.wide] at h), ?_⟩
  · rw [hrec]; exact run_enterLoop_outer _ _ _ _ _
  · simp only [resolve, hg]
    simp [go_sem]
  · simp [invoke, go_sem, eg]
  · have hD0 : ((w.alloc (.deferred (some []))).alloc (.loop (rec .ready none))).heap[w.heap.size]? = some (.deferred (some [])) :=
      World.grows.heap_of (World.grows.alloc (World.grows.refl _) _) (heap_alloc_new w _)
    have hL0 : ((w.alloc (.deferred (some []))).alloc (.loop (rec .ready none))).heap[w.heap.size + 1]? = some (.loop (rec .ready none)) := by
      have := heap_alloc_new (w.alloc (.deferred (some []))) (.loop (rec .ready none))
      rwa [World.size_alloc] at this
    refine (hseq (w.heap.size + 1) (fun k W => J k W ∧ W.heap[w.heap.size]? = some (.deferred (some [])) ∧ W.heap[w.heap.size + 1]? = some (.loop (rec .ready none))) (fun _ => False) _
      (fun k W W' ⟨h1, h2, h3⟩ h4 => ⟨hJ k W W' h1 h4, h4.heap_of h2, h4.heap_of h3⟩) (fun _ _ h _ => h) (fun k W h => hR k W h.1) ?_ ⟨h0 _, hD0, hL0⟩).mono ?_
    · rintro k x hx W ⟨hJW, hD, hl⟩
      have hy : ∀ W : World, W.heap[w.heap.size + 1]? = some (.loop (rec .ready none)) → (Instr.yield (w.heap.size + 1) x).run P W = .ok (.round (w.heap.size + 1) fn ((ps.zip x).foldl (fun t (p, v) => t.setIfInBounds p v) a.tmps) assign body) W := fun W hl => by
        have := run_yield (P := P) (args := x) hl (by rw [hrec]; exact hps x (List.mem_of_getElem? hx))
        rw [hrec] at this
        exact this
      refine ⟨fn, _, assign, body, hy _ hl, roundIn_of_wpIn hfn ?_⟩
      refine wpIn_mono (hround k x W hx hJW hD ⟨_, hl⟩
        (fun a1 W1 => W.grows W1 ∧ ∀ lo', body.wpIn (Fence.wide.inRound (w.heap.size + 1)) 0 P (fun e a' W' => e = .normal ∧ J (k + 1) W' ∧ W'.heap[w.heap.size]? = some (.deferred (some [])) ∧ W'.heap[w.heap.size + 1]? = some (.loop lo')) a1 (W1.putObj (w.heap.size + 1) (.loop lo')))
        (Lib.hid fun a1 W1 hg1 hb => ⟨hg1, fun lo' => hb lo' _ (Lib.hid fun a' W' h1 h2 h3 => ⟨rfl, h1, h2, h3⟩)⟩)) ?_
      rintro e a1 W1 h1
      cases e with
      | normal =>
        obtain ⟨hg1, hb⟩ := h1
        have hl1 := hg1.heap_of hl
        refine ⟨_, run_beginRound hl1 (by rw [hrec]), wpIn_mono (hb _) ?_⟩
        rintro e a3 W3 ⟨rfl, hJ3, hD3, hL3⟩
        have fin := run_endRound (P := P) none hL3
        rw [hrec] at fin
        have hsz := World.lt_of_block hL3
        rw [hrec]
        exact ⟨_, _, fin, .inl ⟨rfl, hput _ _ _ _ hL3 hJ3, by rw [World.putObj_heap_other (by omega)]; exact hD3, by rw [World.putObj_heap_same hsz]; rfl⟩⟩
      | exit id => exact h1.elim
      | goto t => exact h1.elim
      | ret => exact h1.elim
      | panic ch => exact h1.elim
      | outgrown => exact h1.elim
    · rintro e W2 ⟨⟨v, rfl⟩, (⟨hJW, hD, hl⟩ | hF)⟩
      · have he := run_endLoop (P := P) hl (by rw [hrec]; simp)
        have hsz := World.lt_of_block hl
        rw [hrec] at he
        exact ⟨none, _, he, hdone _ (hput _ _ _ _ hl hJW) (by rw [World.putObj_heap_other (by omega)]; exact hD)⟩
      · exact hF.elim
end Go

/-
  What is proved: a range over a function whose rounds may change what they have made, and may leave the loop: what holds between the rounds is said of the world itself.
-/
namespace Go
open Go.RowKit

theorem wp_rangeFunc_ownX {P : Program} {g : Operand} {ps : Array Tmp} {assign body : Code} {Q : Exit → Act → World → Prop} {a : Act} {w : World} {f : Nat} {lb : Array Value} {xs : List (Array Value)} {Ro : World → Prop}
    (hg : a.eval g = .func (.func f) #[] lb) (eg : ∀ args w, (callFunc f args).run P w = .ok (.enter f args) w)
    (hseq : SeqC P f lb xs Ro) (hps : ∀ x ∈ xs, x.size = ps.size)
    (J : Nat → World → Prop) (X : Code → World → Prop) (hJ : ∀ k W W', J k W → W.grows W' → J k W') (hX : ∀ c W W', X c W → W.grows W' → X c W')
    (hput : ∀ k W lo lo', W.heap[w.heap.size + 1]? = some (.loop lo) → J k W → J k (W.putObj (w.heap.size + 1) (.loop lo')))
    (hXput : ∀ c W lo lo', W.heap[w.heap.size + 1]? = some (.loop lo) → X c W → X c (W.putObj (w.heap.size + 1) (.loop lo')))
    (hR : ∀ k W, J k W → Ro W) (h0 : ∀ lo, J 0 ((w.alloc (.deferred (some []))).alloc lo))
    (hround : ∀ (k : Nat) (x : Array Value) (W : World), xs[k]? = some x → J k W → W.heap[w.heap.size]? = some (.deferred (some [])) → (∃ lo, W.heap[w.heap.size + 1]? = some (.loop lo)) → ∀ K0 : Act → World → Prop,
      Hid (∀ a1 W1, W.grows W1 →
        (∀ (lo' : Loop) (K1 : Exit → Act → World → Prop), Hid ((∀ a' W', J (k + 1) W' → W'.heap[w.heap.size]? = some (.deferred (some [])) → W'.heap[w.heap.size + 1]? = some (.loop lo') → K1 .normal a' W') ∧
            (∀ a' W', X .ret W' → W'.heap[w.heap.size]? = some (.deferred (some [])) → W'.heap[w.heap.size + 1]? = some (.loop lo') → K1 .ret a' W') ∧
            (∀ id a' W', X (.exit id) W' → W'.heap[w.heap.size]? = some (.deferred (some [])) → W'.heap[w.heap.size + 1]? = some (.loop lo') → K1 (.exit id) a' W')) →
          body.wpIn (Fence.wide.inRound (w.heap.size + 1)) 0 P K1 a1 (W1.putObj (w.heap.size + 1) (.loop lo'))) → K0 a1 W1) →
      assign.wpIn (Fence.wide.inRound (w.heap.size + 1)) 0 P (Exit.then K0 (fun _ _ _ => False))
        { tmps := (ps.zip x).foldl (fun t (p, v) => t.setIfInBounds p v) a.tmps, defers := [] } W)
    (hdone : ∀ W, J xs.length W → W.heap[w.heap.size]? = some (.deferred (some [])) → Q .normal { a with defers := { target := .collected w.heap.size, args := #[] } :: a.defers } W)
    (hstop : ∀ c W, X c W → W.heap[w.heap.size]? = some (.deferred (some [])) → c.wp P Q { a with defers := { target := .collected w.heap.size, args := #[] } :: a.defers } W) :
    (Code.rangeFunc g ps assign body).wp P Q a w := by
  refine (wpIn_wide (n := 0)).1 (wpIn_rangeFunc ?_)
  intro fn hfn
  obtain ⟨rec, hrec⟩ : ∃ rec : LoopState → Option Code → Loop, rec = fun st pe => { state := st, pending := pe, fn, tmps := a.tmps, params := ps, assign, body, defers := w.heap.size } := ⟨_, rfl⟩
  refine ⟨w.heap.size + 1, [{ target := .collected w.heap.size, args := #[] }], (w.alloc (.deferred (some []))).alloc (.loop (rec .ready none)), { target := .fn (.func f) lb, args := #[.func (.yield (w.heap.size + 1)) #[] #[]] }, (w.alloc (.deferred (some []))).alloc (.loop (rec .ready none)), f,
    #[.func (.yield (w.heap.size + 1)) #[] #[]] ++ lb, (w.alloc (.deferred (some []))).alloc (.loop (rec .ready none)), ?_, ?_, fun _ _ => trivial, ?_, fun h => (by simp [Fence.wide] at h), ?_⟩
  · rw [hrec]; exact run_enterLoop_outer _ _ _ _ _
  · simp only [resolve, hg]
    simp [go_sem]
  · simp [invoke, go_sem, eg]
  · have hD0 : ((w.alloc (.deferred (some []))).alloc (.loop (rec .ready none))).heap[w.heap.size]? = some (.deferred (some [])) :=
      World.grows.heap_of (World.grows.alloc (World.grows.refl _) _) (heap_alloc_new w _)
    have hL0 : ((w.alloc (.deferred (some []))).alloc (.loop (rec .ready none))).heap[w.heap.size + 1]? = some (.loop (rec .ready none)) := by
      have := heap_alloc_new (w.alloc (.deferred (some []))) (.loop (rec .ready none))
      rwa [World.size_alloc] at this
    refine (hseq (w.heap.size + 1) (fun k W => J k W ∧ W.heap[w.heap.size]? = some (.deferred (some [])) ∧ W.heap[w.heap.size + 1]? = some (.loop (rec .ready none)))
      (fun W => ∃ c, X c W ∧ W.heap[w.heap.size]? = some (.deferred (some [])) ∧ W.heap[w.heap.size + 1]? = some (.loop (rec .done (some c)))) _
      (fun k W W' ⟨h1, h2, h3⟩ h4 => ⟨hJ k W W' h1 h4, h4.heap_of h2, h4.heap_of h3⟩) (fun W W' ⟨c, h1, h2, h3⟩ h4 => ⟨c, hX c W W' h1 h4, h4.heap_of h2, h4.heap_of h3⟩) (fun k W h => hR k W h.1) ?_ ⟨h0 _, hD0, hL0⟩).mono ?_
    · rintro k x hx W ⟨hJW, hD, hl⟩
      have hy : ∀ W : World, W.heap[w.heap.size + 1]? = some (.loop (rec .ready none)) → (Instr.yield (w.heap.size + 1) x).run P W = .ok (.round (w.heap.size + 1) fn ((ps.zip x).foldl (fun t (p, v) => t.setIfInBounds p v) a.tmps) assign body) W := fun W hl => by
        have := run_yield (P := P) (args := x) hl (by rw [hrec]; exact hps x (List.mem_of_getElem? hx))
        rw [hrec] at this
        exact this
      refine ⟨fn, _, assign, body, hy _ hl, roundIn_of_wpIn hfn ?_⟩
      refine wpIn_mono (hround k x W hx hJW hD ⟨_, hl⟩
        (fun a1 W1 => W.grows W1 ∧ ∀ lo', body.wpIn (Fence.wide.inRound (w.heap.size + 1)) 0 P (fun e a' W' =>
          (e = .normal ∧ J (k + 1) W' ∧ W'.heap[w.heap.size]? = some (.deferred (some [])) ∧ W'.heap[w.heap.size + 1]? = some (.loop lo')) ∨
          (e = .ret ∧ X .ret W' ∧ W'.heap[w.heap.size]? = some (.deferred (some [])) ∧ W'.heap[w.heap.size + 1]? = some (.loop lo')) ∨
          ∃ id, e = .exit id ∧ X (.exit id) W' ∧ W'.heap[w.heap.size]? = some (.deferred (some [])) ∧ W'.heap[w.heap.size + 1]? = some (.loop lo')) a1 (W1.putObj (w.heap.size + 1) (.loop lo')))
        (Lib.hid fun a1 W1 hg1 hb => ⟨hg1, fun lo' => hb lo' _ (Lib.hid ⟨fun a' W' h1 h2 h3 => .inl ⟨rfl, h1, h2, h3⟩, fun a' W' h1 h2 h3 => .inr (.inl ⟨rfl, h1, h2, h3⟩), fun id a' W' h1 h2 h3 => .inr (.inr ⟨id, rfl, h1, h2, h3⟩)⟩)⟩)) ?_
      rintro e a1 W1 h1
      cases e with
      | normal =>
        obtain ⟨hg1, hb⟩ := h1
        have hl1 := hg1.heap_of hl
        refine ⟨_, run_beginRound hl1 (by rw [hrec]), wpIn_mono (hb _) ?_⟩
        have fin : ∀ (jump : Option Code) (W3 : World), W3.heap[w.heap.size + 1]? = some (.loop { rec .ready none with state := .busy }) →
            (Instr.endRound (w.heap.size + 1) jump).run P W3 = .ok (.bool jump.isNone) (W3.putObj (w.heap.size + 1) (.loop (rec (if jump.isNone then .ready else .done) jump))) := fun jump W3 hL3 => by
          have := run_endRound (P := P) jump hL3
          rw [hrec] at this ⊢
          exact this
        rintro e a3 W3 (⟨rfl, hJ3, hD3, hL3⟩ | ⟨rfl, hJ3, hD3, hL3⟩ | ⟨id, rfl, hJ3, hD3, hL3⟩)
        · have hsz := World.lt_of_block hL3
          exact ⟨_, _, fin none W3 hL3, .inl ⟨rfl, hput _ _ _ _ hL3 hJ3, by rw [World.putObj_heap_other (by omega)]; exact hD3, by rw [World.putObj_heap_same hsz]; rfl⟩⟩
        · have hsz := World.lt_of_block hL3
          exact ⟨_, _, fin (some .ret) W3 hL3, .inr ⟨rfl, .ret, hXput _ _ _ _ hL3 hJ3, by rw [World.putObj_heap_other (by omega)]; exact hD3, by rw [World.putObj_heap_same hsz]; rfl⟩⟩
        · have hsz := World.lt_of_block hL3
          exact ⟨_, _, fin (some (.exit id)) W3 hL3, .inr ⟨rfl, .exit id, hXput _ _ _ _ hL3 hJ3, by rw [World.putObj_heap_other (by omega)]; exact hD3, by rw [World.putObj_heap_same hsz]; rfl⟩⟩
      | exit id => exact h1.elim
      | goto t => exact h1.elim
      | ret => exact h1.elim
      | panic ch => exact h1.elim
      | outgrown => exact h1.elim
    · rintro e W2 ⟨⟨v, rfl⟩, (⟨hJW, hD, hl⟩ | ⟨c, hXW, hD, hl⟩)⟩
      · have he := run_endLoop (P := P) hl (by rw [hrec]; simp)
        have hsz := World.lt_of_block hl
        rw [hrec] at he
        exact ⟨none, _, he, hdone _ (hput _ _ _ _ hl hJW) (by rw [World.putObj_heap_other (by omega)]; exact hD)⟩
      · have he := run_endLoop (P := P) hl (by rw [hrec]; simp)
        have hsz := World.lt_of_block hl
        rw [hrec] at he
        exact ⟨some c, _, he, (wpIn_wide (n := 0)).2 (hstop c _ (hXput _ _ _ _ hl hXW) (by rw [World.putObj_heap_other (by omega)]; exact hD))⟩
end Go

/-
  What is proved: a visit is joined, along rows of others that are joined otherwise, in the program (93).
-/
namespace Go.Proofs.Ytaanbdjmibjcbaa
open Go.RowKit
attribute [local irreducible] Go.wpCalm rowI
attribute [local go_sem] Oper.semAt_some

/-- the world with other joins and other marks of what is seen -/
def stW (w : World) (jb sb : Nat) (o o' : Obj) : World := (w.putObj jb o).putObj sb o'
theorem stW_size (w : World) (jb sb : Nat) (o o' : Obj) : (stW w jb sb o o').heap.size = w.heap.size := by unfold stW; simp
theorem stW_grows {w W : World} (g : w.grows W) {jb sb : Nat} (o o' : Obj) (h1 : jb < w.heap.size) (h2 : sb < w.heap.size) : (stW w jb sb o o').grows (stW W jb sb o o') := (g.putObj o h1).putObj o' (by simpa using h2)
theorem stW_stW (w : World) {jb sb : Nat} (h : jb ≠ sb) (o o' p p' : Obj) : stW (stW w jb sb o o') jb sb p p' = stW w jb sb p p' := by
  unfold stW World.putObj
  simp only [World.mk.injEq, and_true, true_and]
  rw [Array.setIfInBounds_comm _ _ h, Array.setIfInBounds_setIfInBounds, Array.setIfInBounds_comm _ _ h, Array.setIfInBounds_setIfInBounds, Array.setIfInBounds_comm _ _ h]
theorem stW_self {w : World} {jb sb : Nat} {o o' : Obj} (h1 : w.heap[jb]? = some o) (h2 : w.heap[sb]? = some o') : stW w jb sb o o' = w := by
  unfold stW
  rw [World.putObj_self h1, World.putObj_self h2]
theorem stW_j {w : World} {jb sb : Nat} (h : jb ≠ sb) (o o' : Obj) (hj : jb < w.heap.size) : (stW w jb sb o o').heap[jb]? = some o := by
  unfold stW
  rw [World.putObj_heap_other h, World.putObj_heap_same hj]
theorem stW_s {w : World} {jb sb : Nat} (o o' : Obj) (hs : sb < w.heap.size) : (stW w jb sb o o').heap[sb]? = some o' := by
  unfold stW
  rw [World.putObj_heap_same (by simpa using hs)]
theorem stW_o {w : World} {jb sb b : Nat} (o o' : Obj) (h1 : b ≠ jb) (h2 : b ≠ sb) : (stW w jb sb o o').heap[b]? = w.heap[b]? := by
  unfold stW
  rw [World.putObj_heap_other h2, World.putObj_heap_other h1]
/-- the marks -/
def sI (s : Nat → Bool) (k : Nat) : Int := if s k then 1 else 0
def sO (s : Nat → Bool) : Obj := .cells (rowI 16 (sI s)) 83
theorem sI_mark (s : Nat → Bool) (k : Nat) : rowI 16 (updI (sI s) k 1) = rowI 16 (sI (mark s k)) := rowI_congr fun i _ => by
  unfold updI sI mark
  by_cases e : i = k
  · rw [if_pos e, if_pos e]; rfl
  · rw [if_neg e, if_neg e]
/-- what a search does -/
def GrowC (f yb jb sb n : Nat) (F : Nat → Int) (A : Nat → Nat → Bool) : Prop := ∀ (W : World) (m : PM Int) (J : Jn) (s : Nat → Bool) (v : Nat), JIs m J → Mat A n J → W.heap[jb]? = some (m.obj eV) → W.heap[sb]? = some (sO s) → YA W yb n F → v < n → (∀ k, J v = some k → s k = true) → unseen n s < f →
  Calls Try.prog 93 #[.pointer (some ⟨yb, 0, none⟩), .map (some jb), .int .i64 (v : Nat), .pointer (some ⟨sb, 0, none⟩)] W fun e W' => ∃ m', e = .returned (.bool (growF A n f J s v).1) ∧ JIs m' (growF A n f J s v).2.1 ∧ (stW W jb sb (m'.obj eV) (sO (growF A n f J s v).2.2)).grows W'
theorem setCell_put {W : World} {b i : Nat} {c : Array Value} {t : TypeId} (h : W.heap[b]? = some (.cells c t)) (v : Value) : W.setCell ⟨b, i, none⟩ v = W.putObj b (.cells (c.setIfInBounds i v) t) := by
  unfold World.setCell World.putObj
  congr 1
  apply Array.ext_getElem?
  intro k
  rw [Array.getElem?_modify, Array.getElem?_setIfInBounds]
  have hlt := World.lt_of_block h
  by_cases e : b = k
  · subst e
    rw [if_pos rfl, if_pos rfl, if_pos hlt, h]
    simp
  · rw [if_neg e, if_neg e]
section
variable {w U : World} {jb sb : Nat} {o o' p : Obj}
theorem stW_put_s (hjs : jb ≠ sb) (g : (stW w jb sb o o').grows U) (hs : sb < w.heap.size) : (stW w jb sb o p).grows (U.putObj sb p) := by
  have := g.putObj p (b := sb) (by rw [stW_size]; exact hs)
  unfold stW at this ⊢
  rwa [World.putObj_putObj] at this
theorem putObj_comm (w : World) {b c : Nat} (h : b ≠ c) (o p : Obj) : (w.putObj b o).putObj c p = (w.putObj c p).putObj b o := by
  unfold World.putObj
  simp only [World.mk.injEq, and_true, true_and]
  exact Array.setIfInBounds_comm _ _ h
theorem stW_put_j (hjs : jb ≠ sb) (g : (stW w jb sb o o').grows U) (hj : jb < w.heap.size) : (stW w jb sb p o').grows (U.putObj jb p) := by
  have := g.putObj p (b := jb) (by rw [stW_size]; exact hj)
  unfold stW at this ⊢
  rwa [putObj_comm _ hjs, World.putObj_putObj, putObj_comm _ (Ne.symm hjs)] at this
theorem stW_seen {s : Nat → Bool} (hjs : jb ≠ sb) (g : (stW w jb sb o (sO s)).grows U) (hs : sb < w.heap.size) {k : Nat} (hk : k < 16) : (stW w jb sb o (sO (mark s k))).grows (U.setCell ⟨sb, k, none⟩ (.int .i64 1)) := by
  have hU : U.heap[sb]? = some (sO s) := g.heap_of (stW_s _ _ hs)
  rw [setCell_put (c := rowI 16 (sI s)) (t := 83) hU, rowI_set _ _ _ _ hk, sI_mark]
  exact stW_put_s hjs g hs
theorem stW_at (g : (stW w jb sb o o').grows U) {b : Nat} {q : Obj} (h : w.heap[b]? = some q) (h1 : b ≠ jb) (h2 : b ≠ sb) : U.heap[b]? = some q := g.heap_of (by rw [stW_o _ _ h1 h2]; exact h)
theorem stW_rec {V : World} {o2 o2' : Obj} (hjs : jb ≠ sb) (g : (stW w jb sb o o').grows U) (hj : jb < w.heap.size) (hs : sb < w.heap.size) (g2 : (stW U jb sb o2 o2').grows V) : (stW w jb sb o2 o2').grows V := by
  have h := stW_grows g o2 o2' (by rw [stW_size]; exact hj) (by rw [stW_size]; exact hs)
  rw [stW_stW _ hjs] at h
  exact h.trans g2
end
theorem stW_set {w U : World} {jb sb b : Nat} {o o' : Obj} {c : Array Value} {t : TypeId} (g : (stW w jb sb o o').grows U) (h : w.heap[b]? = some (.cells c t)) (h1 : b ≠ jb) (h2 : b ≠ sb) (i : Nat) (v : Value) : (stW (w.setCell ⟨b, i, none⟩ v) jb sb o o').grows (U.setCell ⟨b, i, none⟩ v) := by
  rw [setCell_put h, setCell_put (stW_at g h h1 h2)]
  have := g.putObj (.cells (c.setIfInBounds i v) t) (b := b) (by rw [stW_size]; exact World.lt_of_block h)
  unfold stW at this ⊢
  rwa [putObj_comm _ (Ne.symm h2), putObj_comm _ (Ne.symm h1)] at this
section
variable {A : Nat → Nat → Bool} {n v : Nat} {rec : Jn → (Nat → Bool) → Nat → Bool × Jn × (Nat → Bool)} {l : List Nat} {J : Jn} {s : Nat → Bool} {q : Nat}
theorem loopF_seen (h : s q = true) : loopF rec n v (q :: l) J s = loopF rec n v l J s := by
  show (if s q then _ else _) = _
  rw [if_pos h]
theorem loopF_free (h : s q = false) (hb : bef n J q = none) : loopF rec n v (q :: l) J s = (true, J.ext v q, mark s q) := by
  show (if s q then _ else _) = _
  rw [if_neg (by rw [h]; decide), hb]
theorem loopF_bad {old : Nat} (h : s q = false) (hb : bef n J q = some old) (hx : (rec J (mark s q) old).1 = false) : loopF rec n v (q :: l) J s = loopF rec n v l (rec J (mark s q) old).2.1 (rec J (mark s q) old).2.2 := by
  show (if s q then _ else _) = _
  rw [if_neg (by rw [h]; decide), hb]
  dsimp only
  rw [if_neg (by rw [hx]; decide)]
theorem loopF_good {old : Nat} (h : s q = false) (hb : bef n J q = some old) (hx : (rec J (mark s q) old).1 = true) (hne : (rec J (mark s q) old).2.1 old ≠ some q) : loopF rec n v (q :: l) J s = (true, (rec J (mark s q) old).2.1.ext v q, (rec J (mark s q) old).2.2) := by
  show (if s q then _ else _) = _
  rw [if_neg (by rw [h]; decide), hb]
  dsimp only
  rw [if_pos hx, if_neg hne]
end
set_option maxRecDepth 100000 in
set_option maxHeartbeats 4000000 in
theorem grow_step (f yb jb sb n : Nat) (F : Nat → Int) (A : Nat → Nat → Bool) (hA : RowsA F A n) (hn : n ≤ 16) (hjs : jb ≠ sb) (hyj : yb ≠ jb) (hys : yb ≠ sb) (ih : GrowC f yb jb sb n F A) : GrowC (f + 1) yb jb sb n F A := by
  intro W m J s v hm hJ hj hs hY hv hvs hu
  have hjl := World.lt_of_block hj
  have hsl := World.lt_of_block hs
  obtain ⟨x, hx⟩ : ∃ x, growF A n (f + 1) J s v = x := ⟨_, rfl⟩
  rw [hx]
  have HX : Hid (loopF (growF A n f) n v (filtL (A v) n) J s = x) := Lib.hid (by rw [← hx]; rfl)
  have Hm := Lib.hid hm
  have HJ := Lib.hid hJ
  have Hj := Lib.hid hj
  have Hs := Lib.hid hs
  have HY := Lib.hid hY
  have HA := Lib.hid hA
  have Hih := Lib.hid ih
  have Hu := Lib.hid hu
  clear hx hm hJ hj hs hY hvs hu hA ih
  (refine (callsIn_wide (n := 0)).1 (callsIn_of_wp_marks Try.func93 rfl trivial ((wpIn_wide (n := 0)).2 ?_) rfl); simp only [Try.ntmps93, List.size_toArray, List.length_cons, List.length_nil, Nat.reduceAdd, Nat.reduceSub, Array.replicate_succ, Array.replicate_zero, List.push_toArray, List.append_toArray, List.nil_append, List.cons_append])
  go_wp2
  go_step3
  go_wp2
  go_step3
  go_wp2_with (go_at_call 99; fail)
  refine (nexts_c _ yb v).mono ?_
  rintro e W1 ⟨rfl, hW1⟩
  go_wp2
  obtain ⟨w1, hw1⟩ : ∃ w1, w1 = allocs W [.cells #[.pointer (some ⟨yb, 0, none⟩)] 75, .cells #[.map (some jb)] 105, .cells #[.int .i64 (v : Nat)] 3, .cells #[.pointer (some ⟨sb, 0, none⟩)] 125, .cells #[.bool false] 4, .cells #[.pointer (some ⟨yb, 0, none⟩)] 75, .cells #[.int .i64 (v : Nat)] 3] := ⟨_, rfl⟩
  have e1 : W1 = w1 := by rw [hW1, hw1]; rfl
  have z1 : w1.heap.size = W.heap.size + 7 := by rw [hw1, allocs_size]; rfl
  have g1 : W.grows w1 := by rw [hw1]; exact allocs_grows _ _
  have d0 : w1.heap[W.heap.size]? = some (.cells #[.pointer (some ⟨yb, 0, none⟩)] 75) := by rw [hw1]; exact allocs_at _ W (i := 0) rfl
  have d1 : w1.heap[W.heap.size + 1]? = some (.cells #[.map (some jb)] 105) := by rw [hw1]; exact allocs_at _ W (i := 1) rfl
  have d2 : w1.heap[W.heap.size + 1 + 1]? = some (.cells #[.int .i64 (v : Nat)] 3) := by rw [hw1]; exact allocs_at _ W (i := 2) rfl
  have d3 : w1.heap[W.heap.size + 1 + 1 + 1]? = some (.cells #[.pointer (some ⟨sb, 0, none⟩)] 125) := by rw [hw1]; exact allocs_at _ W (i := 3) rfl
  have d4 : w1.heap[W.heap.size + 1 + 1 + 1 + 1]? = some (.cells #[.bool false] 4) := by rw [hw1]; exact allocs_at _ W (i := 4) rfl
  have d5 : w1.heap[W.heap.size + 1 + 1 + 1 + 1 + 1]? = some (.cells #[.pointer (some ⟨yb, 0, none⟩)] 75) := by rw [hw1]; exact allocs_at _ W (i := 5) rfl
  have d6 : w1.heap[W.heap.size + 1 + 1 + 1 + 1 + 1 + 1]? = some (.cells #[.int .i64 (v : Nat)] 3) := by rw [hw1]; exact allocs_at _ W (i := 6) rfl
  rw [← hW1, e1]
  clear hW1 hw1 e1
  have hyl : yb < W.heap.size := by obtain ⟨_, _, _, _, _, h1, -, -⟩ := HY.out; exact World.lt_of_block h1
  have hY1 : ∀ (o o' : Obj) (U : World), (stW w1 jb sb o o').grows U → YA U yb n F := fun o o' U g => by
    obtain ⟨pl, sv, va, vc, P, h1, h2, h3⟩ := HY.out
    exact ⟨pl, sv, va, vc, P, stW_at g (g1.heap_of h1) hyj hys, h2, h3⟩
  have HY1 := Lib.hid hY1
  have Hd0 := Lib.hid d0
  have Hd1 := Lib.hid d1
  have Hd2 := Lib.hid d2
  have Hd3 := Lib.hid d3
  have Hd4 := Lib.hid d4
  have Hd5 := Lib.hid d5
  have Hd6 := Lib.hid d6
  have Hg1 := Lib.hid g1
  clear hY1 d0 d1 d2 d3 d4 d5 d6 g1
  have hjl1 : jb < w1.heap.size := by omega
  have hsl1 : sb < w1.heap.size := by omega
  refine wp_rangeFunc_ownX (f := 110) (by rfl) (fun _ _ => rfl) (nexts_seq (W.heap.size + 1 + 1 + 1 + 1 + 1) (W.heap.size + 1 + 1 + 1 + 1 + 1 + 1) yb n v F A HA.out hn hv) (fun x hx => by obtain ⟨r, _, rfl⟩ := List.mem_map.1 hx; rfl)
    (fun k U => ∃ (s' : Nat → Bool) (m' : PM Int), Hid (JIs m' J) ∧ Hid (loopF (growF A n f) n v ((filtL (A v) n).drop k) J s' = x) ∧ Hid (unseen n s' < f + 1) ∧ Hid ((stW w1 jb sb (m'.obj eV) (sO s')).grows U))
    (fun c U => c = .exit 0 ∧ x.1 = true ∧ ∃ m' : PM Int, Hid (JIs m' x.2.1) ∧ Hid ((stW (w1.setCell ⟨W.heap.size + 1 + 1 + 1 + 1, 0, none⟩ (.bool true)) jb sb (m'.obj eV) (sO x.2.2)).grows U))
    ?_ ?_ ?_ ?_ ?_ ?_ ?_ ?_ ?_
  · rintro k U U' ⟨s', m', h1, h2, h3, h4⟩ g
    exact ⟨s', m', h1, h2, h3, Lib.hid (h4.out.trans g)⟩
  · rintro c U U' ⟨h1, h2, m', h3, h4⟩ g
    exact ⟨h1, h2, m', h3, Lib.hid (h4.out.trans g)⟩
  · rintro k U lo lo' hL ⟨s', m', h1, h2, h3, h4⟩
    exact ⟨s', m', h1, h2, h3, Lib.hid (World.putObj_grows h4.out _ (by rw [stW_size]; omega))⟩
  · rintro c U lo lo' hL ⟨h1, h2, m', h3, h4⟩
    exact ⟨h1, h2, m', h3, Lib.hid (World.putObj_grows h4.out _ (by rw [stW_size]; simp))⟩
  · rintro k U ⟨s', m', h1, h2, h3, h4⟩
    exact ⟨cell_of_heap (stW_at h4.out Hd5.out (by omega) (by omega)) rfl, cell_of_heap (stW_at h4.out Hd6.out (by omega) (by omega)) rfl, HY1.out _ _ _ h4.out⟩
  · intro lo
    refine ⟨s, m, Hm, HX, Hu, Lib.hid ?_⟩
    rw [stW_self (Hg1.out.heap_of Hj.out) (Hg1.out.heap_of Hs.out)]
    (repeat (first | exact World.grows.refl _ | assumption | refine World.grows.alloc ?_ _ | refine World.grows.plus ?_ _ _ | refine World.grows.drew ?_))
  · rintro k y U hy ⟨s', m', h1, h2, h3, h4⟩ hDf ⟨lo, hLo⟩ K0 hK0
    obtain ⟨q, rfl, hq⟩ : ∃ q, y = stepV q ∧ (filtL (A v) n)[k]? = some q := by
      rw [List.getElem?_map] at hy
      cases hq : (filtL (A v) n)[k]? with
      | none => rw [hq] at hy; cases hy
      | some q => rw [hq] at hy; exact ⟨q, (Option.some.inj hy).symm, rfl⟩
    have hqm := List.mem_of_getElem? hq
    simp only [filtL, List.mem_filter, List.mem_range] at hqm
    obtain ⟨hqn, hqA⟩ := hqm
    have hq16 : q < 16 := by omega
    have hdrop : (filtL (A v) n).drop k = q :: (filtL (A v) n).drop (k + 1) := by
      obtain ⟨hk, he⟩ := List.getElem?_eq_some_iff.1 hq
      rw [List.drop_eq_getElem_cons hk, he]
    obtain ⟨L, hL⟩ : ∃ L, (filtL (A v) n).drop (k + 1) = L := ⟨_, rfl⟩
    rw [hdrop, hL] at h2
    have HL := Lib.hid hL
    clear hdrop hy hq hL
    have hLl := World.lt_of_block hLo
    dsimp only [stepV]
    rw [zip_one]
    simp only [List.setIfInBounds_toArray, List.set_cons_zero, List.set_cons_succ]
    gi_wp2
    refine hK0.out _ _ (by (repeat (first | exact World.grows.refl _ | assumption | refine World.grows.alloc ?_ _ | refine World.grows.plus ?_ _ _ | refine World.grows.drew ?_))) fun lo' K1 hK1 => ?_
    obtain ⟨U1, hU1⟩ : ∃ U1, U1 = U.putObj (w1.heap.size + 1) (.loop lo') := ⟨_, rfl⟩
    rw [← hU1]
    have g4 : (stW w1 jb sb (m'.obj eV) (sO s')).grows U1 := by rw [hU1]; exact World.putObj_grows h4.out _ (by rw [stW_size]; omega)
    have uD : U1.heap[w1.heap.size]? = some (.deferred (some [])) := by rw [hU1, World.putObj_heap_other (by omega)]; exact hDf
    have uL : U1.heap[w1.heap.size + 1]? = some (.loop lo') := by rw [hU1]; exact World.putObj_heap_same hLl
    clear hU1 hDf hLo hLl h4 hK0
    have c0 : U1.cell? ⟨W.heap.size, 0, none⟩ = some (.pointer (some ⟨yb, 0, none⟩)) := cell_of_heap (stW_at g4 Hd0.out (by omega) (by omega)) rfl
    have c1 : U1.cell? ⟨W.heap.size + 1, 0, none⟩ = some (.map (some jb)) := cell_of_heap (stW_at g4 Hd1.out (by omega) (by omega)) rfl
    have c2 : U1.cell? ⟨W.heap.size + 1 + 1, 0, none⟩ = some (.int .i64 (v : Nat)) := cell_of_heap (stW_at g4 Hd2.out (by omega) (by omega)) rfl
    have c3 : U1.cell? ⟨W.heap.size + 1 + 1 + 1, 0, none⟩ = some (.pointer (some ⟨sb, 0, none⟩)) := cell_of_heap (stW_at g4 Hd3.out (by omega) (by omega)) rfl
    have us : U1.heap[sb]? = some (sO s') := g4.heap_of (stW_s _ _ hsl1)
    have cs := rowI_cell (W := U1) (b := sb) (n := 16) (f := sI s') (t := 83) us hq16
    have fs := rowI_frozen (W := U1) (b := sb) (n := 16) (f := sI s') (t := 83) us q
    have hqI : (q : Int) < 16 := by omega
    cases hsq : s' q with
    | true =>
      have HN := Lib.hid (loopF_seen (rec := growF A n f) (n := n) (v := v) (l := L) (J := J) hsq)
      rw [show sI s' q = 1 by unfold sI; rw [hsq]; rfl] at cs
      clear hsq
      gi_wp2
      exact hK1.out.1 _ _ ⟨s', m', h1, Lib.hid (by rw [HL.out, ← HN.out]; exact h2.out), h3, Lib.hid g4⟩ uD uL
    | false =>
      have HN := Lib.hid hsq
      rw [show sI s' q = 0 by unfold sI; rw [hsq]; rfl] at cs
      have g5 := stW_seen hjs g4 hsl1 hq16
      obtain ⟨U2, hU2⟩ : ∃ U2, U2 = U1.setCell ⟨sb, q, none⟩ (.int .i64 1) := ⟨_, rfl⟩
      rw [← hU2] at g5
      have uD2 : U2.heap[w1.heap.size]? = some (.deferred (some [])) := by rw [hU2, World.heap_setCell_map _ _ _ _ (show sb ≠ w1.heap.size by omega)]; exact uD
      have uL2 : U2.heap[w1.heap.size + 1]? = some (.loop lo') := by rw [hU2, World.heap_setCell_map _ _ _ _ (show sb ≠ w1.heap.size + 1 by omega)]; exact uL
      have b2 : U2.heap[jb]? = some (m'.obj eV) := g5.heap_of (stW_j hjs _ _ hjl1)
      have h73 := bef_c U2 jb m' J A n q h1.out HJ.out b2
      cases hb : bef n J q with
      | none =>
        have hV : befV J n q = .tuple #[.int .i64 (-1), .bool false] := by unfold befV; rw [hb]
        rw [hV] at h73
        have hxe := h2.out.symm.trans (loopF_free (rec := growF A n f) (n := n) (v := v) (l := L) (J := J) hsq hb)
        have HXE := Lib.hid hxe
        clear hb hV hsq hxe
        gi_wp2_with (gi_at_call 99; fail)
        rw [← hU2]
        refine (Fence.free_round Try.prog _).calls _ _ _ _ _ (h73.mono ?_)
        rintro e U3 ⟨rfl, g6⟩
        have g7 := g5.trans g6
        have uD3 := g6.heap_of uD2
        have uL3 := g6.heap_of uL2
        have b3 := g6.heap_of b2
        clear hU2 uD uL uD2 uL2 b2 c0 c1 c2 c3 cs fs us g4 g5 g6 h73
        have c0 : U3.cell? ⟨W.heap.size, 0, none⟩ = some (.pointer (some ⟨yb, 0, none⟩)) := cell_of_heap (stW_at g7 Hd0.out (by omega) (by omega)) rfl; have c1 : U3.cell? ⟨W.heap.size + 1, 0, none⟩ = some (.map (some jb)) := cell_of_heap (stW_at g7 Hd1.out (by omega) (by omega)) rfl; have c2 : U3.cell? ⟨W.heap.size + 1 + 1, 0, none⟩ = some (.int .i64 (v : Nat)) := cell_of_heap (stW_at g7 Hd2.out (by omega) (by omega)) rfl; have c3 : U3.cell? ⟨W.heap.size + 1 + 1 + 1, 0, none⟩ = some (.pointer (some ⟨sb, 0, none⟩)) := cell_of_heap (stW_at g7 Hd3.out (by omega) (by omega)) rfl
        have hlk := lko105 m' jb U3 b3 (-1)
        rw [PM.getD, h1.out.neg (by omega)] at hlk
        have hup := up105 m' jb U3 b3 (v : Int) (q : Int); obtain ⟨U8, hU8⟩ : ∃ U8, U8 = U3.putObj jb ((m'.set (v : Int) (q : Int)).obj eV) := ⟨_, rfl⟩; rw [← hU8] at hup; have g88 : (stW w1 jb sb ((m'.set (v : Int) (q : Int)).obj eV) (sO (mark s' q))).grows U8 := (by rw [hU8]; exact stW_put_j hjs g7 hjl1); have c8 : U8.cell? ⟨W.heap.size + 1 + 1 + 1 + 1, 0, none⟩ = some (.bool false) := cell_of_heap (stW_at g88 Hd4.out (by omega) (by omega)) rfl; have f8 : U8.frozen? ⟨W.heap.size + 1 + 1 + 1 + 1, 0, none⟩ = false := frozen_of_heap (stW_at g88 Hd4.out (by omega) (by omega)) 0; have G9 := Lib.hid (stW_set g88 Hd4.out (by omega) (by omega) 0 (.bool true)); have UD9 : Hid ((U8.setCell ⟨W.heap.size + 1 + 1 + 1 + 1, 0, none⟩ (.bool true)).heap[w1.heap.size]? = some (.deferred (some []))) := Lib.hid (by rw [World.heap_setCell_map _ _ _ _ (show W.heap.size + 1 + 1 + 1 + 1 ≠ w1.heap.size by omega), hU8, World.putObj_heap_other (by omega)]; exact uD3); have UL9 : Hid ((U8.setCell ⟨W.heap.size + 1 + 1 + 1 + 1, 0, none⟩ (.bool true)).heap[w1.heap.size + 1]? = some (.loop lo')) := Lib.hid (by rw [World.heap_setCell_map _ _ _ _ (show W.heap.size + 1 + 1 + 1 + 1 ≠ w1.heap.size + 1 by omega), hU8, World.putObj_heap_other (by omega)]; exact uL3); clear hU8 g88 uD3 uL3 b3 g7
        gi_wp2
        exact hK1.out.2.2 0 _ _ ⟨rfl, by rw [HXE.out], m'.set (v : Int) (q : Int), Lib.hid (by rw [HXE.out]; exact h1.out.ext v q), Lib.hid (by rw [HXE.out]; exact G9.out)⟩ UD9.out UL9.out
      | some old =>
        have hV : befV J n q = .tuple #[.int .i64 (old : Int), .bool true] := by unfold befV; rw [hb]
        rw [hV] at h73
        have hold := (bef_some HJ.out).1 hb
        obtain ⟨hon, -, -⟩ := HJ.out.lt old q hold
        have hmk : mark s' q q = true := if_pos rfl
        have hms : ∀ k, J old = some k → mark s' q k = true := fun k hk => by rw [hold] at hk; cases hk; exact hmk
        have hun : unseen n (mark s' q) < f := by have := unseen_mark hqn hsq; have := h3.out; omega
        have hS := grow_says A n f J (mark s' q) old HJ.out hon hms hun
        have h93 := fun (U3 : World) (b3 : U3.heap[jb]? = some (m'.obj eV)) (s3 : U3.heap[sb]? = some (sO (mark s' q))) (y3 : YA U3 yb n F) => Hih.out U3 m' J (mark s' q) old h1.out HJ.out b3 s3 y3 hon hms hun
        cases hx2 : (growF A n f J (mark s' q) old).1 with
        | false =>
          obtain ⟨hJ2, hN, hcx⟩ := hS.bad hx2
          have hl := loopF_bad (rec := growF A n f) (n := n) (v := v) (l := L) (J := J) hsq hb hx2
          have hun2 : unseen n (growF A n f J (mark s' q) old).2.2 < f + 1 := by
            have : unseen n (growF A n f J (mark s' q) old).2.2 ≤ unseen n (mark s' q) := cntB_mono fun i _ h => by
              cases e : mark s' q i with
              | false => rfl
              | true => rw [hS.up i e] at h; cases h
            omega
          rw [hJ2] at hl
          have hl2 := Lib.hid (hl.symm.trans h2.out)
          have Hun2 := Lib.hid hun2
          rw [hx2, hJ2] at h93
          clear hS hN hcx hl hun2 hx2 hJ2 hb hV hsq
          gi_wp2_with (gi_at_call 99; fail)
          rw [← hU2]
          refine (Fence.free_round Try.prog _).calls _ _ _ _ _ (h73.mono ?_)
          rintro e U3 ⟨rfl, g6⟩
          have g7 := g5.trans g6
          have uD3 := g6.heap_of uD2
          have uL3 := g6.heap_of uL2
          have b3 := g6.heap_of b2
          clear hU2 uD uL uD2 uL2 b2 c0 c1 c2 c3 cs fs us g4 g5 g6 h73
          have c0 : U3.cell? ⟨W.heap.size, 0, none⟩ = some (.pointer (some ⟨yb, 0, none⟩)) := cell_of_heap (stW_at g7 Hd0.out (by omega) (by omega)) rfl; have c1 : U3.cell? ⟨W.heap.size + 1, 0, none⟩ = some (.map (some jb)) := cell_of_heap (stW_at g7 Hd1.out (by omega) (by omega)) rfl; have c2 : U3.cell? ⟨W.heap.size + 1 + 1, 0, none⟩ = some (.int .i64 (v : Nat)) := cell_of_heap (stW_at g7 Hd2.out (by omega) (by omega)) rfl; have c3 : U3.cell? ⟨W.heap.size + 1 + 1 + 1, 0, none⟩ = some (.pointer (some ⟨sb, 0, none⟩)) := cell_of_heap (stW_at g7 Hd3.out (by omega) (by omega)) rfl
          gi_wp2_with (gi_at_call 99; fail)
          refine (Fence.free_round Try.prog _).calls _ _ _ _ _ ((h93 U3 b3 (g7.heap_of (stW_s _ _ hsl1)) (HY1.out _ _ _ g7)).mono ?_)
          rintro e U5 ⟨m2, rfl, hm2, g8⟩
          have g9 := Lib.hid (stW_rec hjs g7 hjl1 hsl1 g8)
          have uD5 := Lib.hid (g8.heap_of (show (stW U3 jb sb (m2.obj eV) (sO (growF A n f J (mark s' q) old).2.2)).heap[w1.heap.size]? = some (.deferred (some [])) by rw [stW_o _ _ (by omega) (by omega)]; exact uD3))
          have uL5 := Lib.hid (g8.heap_of (show (stW U3 jb sb (m2.obj eV) (sO (growF A n f J (mark s' q) old).2.2)).heap[w1.heap.size + 1]? = some (.loop lo') by rw [stW_o _ _ (by omega) (by omega)]; exact uL3))
          have HM2 := Lib.hid hm2
          clear c0 c1 c2 c3 g7 g8 h93 uD3 uL3 b3 hm2
          gi_wp2
          exact hK1.out.1 _ _ ⟨_, m2, HM2, Lib.hid (by rw [HL.out]; exact hl2.out), Hun2, g9⟩ uD5.out uL5.out
        | true =>
          obtain ⟨k2, hk2, hk2s⟩ := hS.new hx2
          have hk2q : k2 ≠ q := fun e => by rw [e, hmk] at hk2s; cases hk2s
          have hl := loopF_good (rec := growF A n f) (n := n) (v := v) (l := L) (J := J) hsq hb hx2 (by rw [hk2]; simpa using hk2q)
          have HXE := Lib.hid (h2.out.symm.trans hl)
          rw [hx2] at h93
          obtain ⟨X2, hX2⟩ : ∃ X2, growF A n f J (mark s' q) old = X2 := ⟨_, rfl⟩
          rw [hX2] at h93 hk2
          have HX2 := Lib.hid hX2
          have hk2I : ¬ (k2 : Int) = (q : Int) := by omega
          clear hS hl hx2 hb hV hsq hX2 hk2s hk2q
          gi_wp2_with (gi_at_call 99; fail)
          rw [← hU2]
          refine (Fence.free_round Try.prog _).calls _ _ _ _ _ (h73.mono ?_)
          rintro e U3 ⟨rfl, g6⟩
          have g7 := g5.trans g6
          have uD3 := g6.heap_of uD2
          have uL3 := g6.heap_of uL2
          have b3 := g6.heap_of b2
          clear hU2 uD uL uD2 uL2 b2 c0 c1 c2 c3 cs fs us g4 g5 g6 h73
          have c0 : U3.cell? ⟨W.heap.size, 0, none⟩ = some (.pointer (some ⟨yb, 0, none⟩)) := cell_of_heap (stW_at g7 Hd0.out (by omega) (by omega)) rfl; have c1 : U3.cell? ⟨W.heap.size + 1, 0, none⟩ = some (.map (some jb)) := cell_of_heap (stW_at g7 Hd1.out (by omega) (by omega)) rfl; have c2 : U3.cell? ⟨W.heap.size + 1 + 1, 0, none⟩ = some (.int .i64 (v : Nat)) := cell_of_heap (stW_at g7 Hd2.out (by omega) (by omega)) rfl; have c3 : U3.cell? ⟨W.heap.size + 1 + 1 + 1, 0, none⟩ = some (.pointer (some ⟨sb, 0, none⟩)) := cell_of_heap (stW_at g7 Hd3.out (by omega) (by omega)) rfl
          gi_wp2_with (gi_at_call 99; fail)
          refine (Fence.free_round Try.prog _).calls _ _ _ _ _ ((h93 U3 b3 (g7.heap_of (stW_s _ _ hsl1)) (HY1.out _ _ _ g7)).mono ?_)
          rintro e U5 ⟨m2, rfl, hm2, g8⟩
          have g9 := stW_rec hjs g7 hjl1 hsl1 g8
          have uD5 := g8.heap_of (show (stW U3 jb sb (m2.obj eV) (sO X2.2.2)).heap[w1.heap.size]? = some (.deferred (some [])) by rw [stW_o _ _ (by omega) (by omega)]; exact uD3)
          have uL5 := g8.heap_of (show (stW U3 jb sb (m2.obj eV) (sO X2.2.2)).heap[w1.heap.size + 1]? = some (.loop lo') by rw [stW_o _ _ (by omega) (by omega)]; exact uL3)
          have b5 := g9.heap_of (stW_j hjs _ _ hjl1)
          have hlk := lko105 m2 jb U5 b5 (old : Int)
          rw [PM.getD, hm2.at, hk2] at hlk
          have HM2 := Lib.hid hm2
          clear c0 c1 c2 c3 g7 g8 h93 b3 hm2
          clear uD3 uL3
          have uD3 := uD5
          have uL3 := uL5
          have b3 := b5
          clear uD5 uL5 b5
          have c0 : U5.cell? ⟨W.heap.size, 0, none⟩ = some (.pointer (some ⟨yb, 0, none⟩)) := cell_of_heap (stW_at g9 Hd0.out (by omega) (by omega)) rfl; have c1 : U5.cell? ⟨W.heap.size + 1, 0, none⟩ = some (.map (some jb)) := cell_of_heap (stW_at g9 Hd1.out (by omega) (by omega)) rfl; have c2 : U5.cell? ⟨W.heap.size + 1 + 1, 0, none⟩ = some (.int .i64 (v : Nat)) := cell_of_heap (stW_at g9 Hd2.out (by omega) (by omega)) rfl; have c3 : U5.cell? ⟨W.heap.size + 1 + 1 + 1, 0, none⟩ = some (.pointer (some ⟨sb, 0, none⟩)) := cell_of_heap (stW_at g9 Hd3.out (by omega) (by omega)) rfl
          have hup := up105 m2 jb U5 b3 (v : Int) (q : Int); obtain ⟨U8, hU8⟩ : ∃ U8, U8 = U5.putObj jb ((m2.set (v : Int) (q : Int)).obj eV) := ⟨_, rfl⟩; rw [← hU8] at hup; have g88 : (stW w1 jb sb ((m2.set (v : Int) (q : Int)).obj eV) (sO (X2.2.2))).grows U8 := (by rw [hU8]; exact stW_put_j hjs g9 hjl1); have c8 : U8.cell? ⟨W.heap.size + 1 + 1 + 1 + 1, 0, none⟩ = some (.bool false) := cell_of_heap (stW_at g88 Hd4.out (by omega) (by omega)) rfl; have f8 : U8.frozen? ⟨W.heap.size + 1 + 1 + 1 + 1, 0, none⟩ = false := frozen_of_heap (stW_at g88 Hd4.out (by omega) (by omega)) 0; have G9 := Lib.hid (stW_set g88 Hd4.out (by omega) (by omega) 0 (.bool true)); have UD9 : Hid ((U8.setCell ⟨W.heap.size + 1 + 1 + 1 + 1, 0, none⟩ (.bool true)).heap[w1.heap.size]? = some (.deferred (some []))) := Lib.hid (by rw [World.heap_setCell_map _ _ _ _ (show W.heap.size + 1 + 1 + 1 + 1 ≠ w1.heap.size by omega), hU8, World.putObj_heap_other (by omega)]; exact uD3); have UL9 : Hid ((U8.setCell ⟨W.heap.size + 1 + 1 + 1 + 1, 0, none⟩ (.bool true)).heap[w1.heap.size + 1]? = some (.loop lo')) := Lib.hid (by rw [World.heap_setCell_map _ _ _ _ (show W.heap.size + 1 + 1 + 1 + 1 ≠ w1.heap.size + 1 by omega), hU8, World.putObj_heap_other (by omega)]; exact uL3); clear hU8 g88 uD3 uL3 b3 g9
          gi_wp2
          exact hK1.out.2.2 0 _ _ ⟨rfl, by rw [HXE.out], m2.set (v : Int) (q : Int), Lib.hid (by rw [HXE.out, HX2.out]; exact HM2.out.ext v q), Lib.hid (by rw [HXE.out, HX2.out]; exact G9.out)⟩ UD9.out UL9.out
  · rintro U ⟨s', m', h1, h2, h3, h4⟩ hDf
    have hxe : x = (false, J, s') := by
      have := h2.out
      rw [List.length_map, List.drop_eq_nil_of_le (Nat.le_refl _)] at this
      exact this.symm
    have HXE := Lib.hid hxe
    have c4 : U.cell? ⟨W.heap.size + 1 + 1 + 1 + 1, 0, none⟩ = some (.bool false) := cell_of_heap (stW_at h4.out Hd4.out (by omega) (by omega)) rfl
    have HM : Hid (Marks W.heap.size [{ target := .collected w1.heap.size, args := #[] }] U) := Lib.hid ⟨⟨w1.heap.size, rfl, by omega, hDf, fun d' hd => by simp at hd⟩, trivial⟩
    clear hxe hDf
    have HG := Lib.hid ((stW_grows Hg1.out (m'.obj eV) (sO s') hjl hsl).trans h4.out)
    go_wp2
    dsimp only [Exit.noGoto]
    refine Marks.leaves (B := W.heap.size) (fun W' => (stW W jb sb (m'.obj eV) (sO s')).grows W') (fun W' D h hD hd => World.putObj_grows h _ (by rw [stW_size]; exact hD)) (fun W' h => ⟨_, by simp [results, Try.results93, go_sem] <;> rfl, m', by rw [HXE.out], by rw [HXE.out]; exact h1.out, by rw [HXE.out]; exact h⟩) _ _ HM.out HG.out
  · rintro c U ⟨rfl, hx1, m', h3, h4⟩ hDf
    have c4 : U.cell? ⟨W.heap.size + 1 + 1 + 1 + 1, 0, none⟩ = some (.bool true) := cell_of_heap (stW_at h4.out (store_of_heap Hd4.out 0 (.bool true)) (by omega) (by omega)) rfl
    have HM : Hid (Marks W.heap.size [{ target := .collected w1.heap.size, args := #[] }] U) := Lib.hid ⟨⟨w1.heap.size, rfl, by omega, hDf, fun d' hd => by simp at hd⟩, trivial⟩
    have HG := Lib.hid ((stW_grows (Hg1.out.setCell (p := ⟨W.heap.size + 1 + 1 + 1 + 1, 0, none⟩) (by dsimp only; omega) (.bool true)) (m'.obj eV) (sO x.2.2) hjl hsl).trans h4.out)
    clear hDf
    go_wp2
    dsimp only [Exit.noGoto]
    refine Marks.leaves (B := W.heap.size) (fun W' => (stW W jb sb (m'.obj eV) (sO x.2.2)).grows W') (fun W' D h hD hd => World.putObj_grows h _ (by rw [stW_size]; exact hD)) (fun W' h => ⟨_, by simp [results, Try.results93, go_sem] <;> rfl, m', by rw [hx1], h3.out, h⟩) _ _ HM.out HG.out
theorem grow_c (yb jb sb n : Nat) (F : Nat → Int) (A : Nat → Nat → Bool) (hA : RowsA F A n) (hn : n ≤ 16) (hjs : jb ≠ sb) (hyj : yb ≠ jb) (hys : yb ≠ sb) : ∀ f, GrowC f yb jb sb n F A
  | 0 => fun W m J s v _ _ _ _ _ _ _ h => by omega
  | f + 1 => grow_step f yb jb sb n F A hA hn hjs hyj hys (grow_c yb jb sb n F A hA hn hjs hyj hys f)
end Go.Proofs.Ytaanbdjmibjcbaa

/-
  What is proved: as many joins as there can be, in the program (72).
-/
namespace Go.Proofs.Ytaanbdjmibjcbaa
open Go.RowKit
attribute [local irreducible] Go.wpCalm rowI

@[local go_sem ↓] theorem mk105 (w : World) : (Instr.makeMap 105 none).run Try.prog w = .ok (.map (some w.heap.size)) (w.alloc ((PM.empty Int).obj eV)) := rfl
theorem rowZ : #[.int .i64 0, .int .i64 0, .int .i64 0, .int .i64 0, .int .i64 0, .int .i64 0, .int .i64 0, .int .i64 0, .int .i64 0, .int .i64 0, .int .i64 0, .int .i64 0, .int .i64 0, .int .i64 0, .int .i64 0, .int .i64 0] = rowI 16 (fun _ => 0) := by
  rw [rowI_zero]; rfl
def allZ (F : Nat → Int) : Bool := (List.range 16).all fun i => decide (F i = 0)
@[local go_sem ↓] theorem eqZ83 (F : Nat → Int) (W : World) : (Op.equalIn 10000 83 (.agg (rowI 16 F)) (.agg #[.int .i64 0, .int .i64 0, .int .i64 0, .int .i64 0, .int .i64 0, .int .i64 0, .int .i64 0, .int .i64 0, .int .i64 0, .int .i64 0, .int .i64 0, .int .i64 0, .int .i64 0, .int .i64 0, .int .i64 0, .int .i64 0])).run Try.prog W = .ok (allZ F) W := by
  rw [rowZ]; exact eq83 F _ W
theorem setCells_row : ∀ (m o : Nat) (W : World) (sb : Nat) (f : Nat → Int), W.heap[sb]? = some (.cells (rowI 16 f) 83) → o + m ≤ 16 → W.setCells sb o (List.replicate m (.int .i64 0)) = W.putObj sb (.cells (rowI 16 fun k => if o ≤ k ∧ k < o + m then 0 else f k) 83)
  | 0, o, W, sb, f, h, _ => by
    show W = _
    rw [show (rowI 16 fun k => if o ≤ k ∧ k < o + 0 then 0 else f k) = rowI 16 f from rowI_congr fun k _ => if_neg (by omega)]
    exact (World.putObj_self h).symm
  | m + 1, o, W, sb, f, h, hm => by
    have h1 := setCell_put h (i := o) (.int .i64 0)
    rw [rowI_set 16 f o 0 (by omega)] at h1
    have h2 : (W.setCell ⟨sb, o, none⟩ (.int .i64 0)).heap[sb]? = some (.cells (rowI 16 (updI f o 0)) 83) := by rw [h1]; exact World.putObj_heap_same (World.lt_of_block h)
    show (W.setCell ⟨sb, o, none⟩ (.int .i64 0)).setCells sb (o + 1) (List.replicate m (.int .i64 0)) = _
    rw [setCells_row m (o + 1) _ sb _ h2 (by omega), h1, World.putObj_putObj]
    rw [show (rowI 16 fun k => if o + 1 ≤ k ∧ k < o + 1 + m then 0 else updI f o 0 k) = rowI 16 fun k => if o ≤ k ∧ k < o + (m + 1) then 0 else f k from rowI_congr fun k _ => by
      unfold updI
      by_cases e : k = o
      · rw [if_neg (by omega), if_pos e, if_pos (by omega)]
      · rw [if_neg e]
        by_cases e2 : o + 1 ≤ k ∧ k < o + 1 + m
        · rw [if_pos e2, if_pos (by omega)]
        · rw [if_neg e2, if_neg (by omega)]]
theorem clear16 (W : World) (sb : Nat) (f : Nat → Int) (h : W.heap[sb]? = some (.cells (rowI 16 f) 83)) (ty : TypeId) :
    (Builtin.clear_ #[35] ty #[.slice (some ⟨sb, 0, none⟩) 16 16]).run Try.prog W = .ok (.tuple #[]) (W.putObj sb (sO fun _ => false)) := by
  rw [Lib.run_clear_slice _ 35 3 ty (.int .i64 0) Try.underlying35 zero3 rfl rfl _ _ 16 16 (by omega) (fun j hj => by rw [Nat.zero_add, rowI_cell h hj]; rfl) (fun j _ => rowI_frozen h _), setCells_row 16 0 W sb f h (by omega)]
  unfold sO
  rw [show (rowI 16 fun k => if 0 ≤ k ∧ k < 0 + 16 then 0 else f k) = rowI 16 (sI fun _ => false) from rowI_congr fun k hk => by rw [if_pos (by omega)]; rfl]
theorem wpList_clear {P : Program} {w w2 : World} {ops : Array Oper} {rest : List Oper} {o : Oper} {a : Act} {Q : Exit → Act → World → Prop} (hgd : o.guard = none) (s : Operand) (t : TypeId)
    (ho : o.op = .call { callee := .builtin .clear, args := #[s], argTypes := #[t] }) (x : Value) (hs : a.eval s = x)
    (hr : (Builtin.clear_ #[t] o.type #[x]).run P w = .ok (.tuple #[]) w2) (h : wpList P ops Q rest (a.put o.dst (.tuple #[])) w2) : wpList P ops Q (o :: rest) a w := by
  refine wpList_plain hgd fun K hK => ?_
  unfold Oper.wp execOp
  simp only [ho, resolve, invoke, builtin, Sem.run_bind, Sem.run_pure, Result.andThen_ok, List.map_toArray, List.map_cons, List.map_nil, hs, hr]
  exact hK _ _ h
theorem YardAt.loadA {w : World} {yb : Nat} {pl : Int} {sv vv : Value} {P F : Nat → Int} (h : YardAt w yb pl sv vv P F) : (Instr.loadAt 83 (.pointer (some ⟨yb, 67, none⟩))).run Try.prog w = .ok (.agg (rowI 16 F)) w := by
  have := run_loadAt_mid (P := Try.prog) w yb 67 83 (rowI 16 F).toList _ (fun j v hv => by obtain ⟨h1, rfl⟩ := rowI_list hv; exact h.aft h1) Try.underlying83 rfl (by rw [s83, Array.length_toList, rowI_size])
  rwa [Array.toArray_toList] at this
theorem rows_zero {F : Nat → Int} {A : Nat → Nat → Bool} {n : Nat} (hA : RowsA F A n) (hn : n ≤ 16) (h : allZ F = true) : ∀ i k, i < n → k < n → A i k = false := fun i k hi hk => by
  obtain ⟨B, h1, h2, h3⟩ := hA.bits i hi
  have h4 := List.all_eq_true.1 h i (List.mem_range.2 (by omega))
  simp only [decide_eq_true_eq] at h4
  have h0 : B = 0 := by omega
  rw [← h3 k hk, h0, Nat.zero_testBit]
set_option maxRecDepth 100000 in
set_option maxHeartbeats 4000000 in
theorem join_c (w : World) (yb n : Nat) (F : Nat → Int) (A : Nat → Nat → Bool) (hY : YA w yb n F) (hA : RowsA F A n) (hn : n ≤ 16) :
    Calls Try.prog 72 #[.pointer (some ⟨yb, 0, none⟩)] w fun e w' => ∃ b m, e = .returned (.map (some b)) ∧ w.grows w' ∧ w'.heap[b]? = some (m.obj eV) ∧ JIs m (joinF A n n) ∧ w.heap.size ≤ b := by
  have HY := Lib.hid hY
  have HA := Lib.hid hA
  obtain ⟨pl, sv, va, vc, P, hy, v1, v2⟩ := hY
  unfold maxLen at v2
  have hyl := World.lt_of_block hy
  have c2 := hy.c2
  cases hz : allZ F with
  | true =>
    have HZ := Lib.hid (joinF_none (rows_zero hA hn hz) (Nat.le_refl n))
    clear hA
    go_enter Try.func72, Try.ntmps72
    go_upto_region 2 with fail
    iterate 10 go_step
    refine wpList_load_mid rfl 83 (.tmp 10) rfl yb 67 (by rfl) (rowI 16 F).toList _ (fun j v hv => by obtain ⟨h1, rfl⟩ := rowI_list hv; exact (hy.grow (show w.grows (w.alloc ((PM.empty Int).obj eV)) by (repeat (first | exact World.grows.refl _ | assumption | refine World.grows.alloc ?_ _ | refine World.grows.plus ?_ _ _ | refine World.grows.drew ?_)))).aft h1) Try.underlying83 rfl (by rw [s83, Array.length_toList, rowI_size]) ?_
    rw [Array.toArray_toList]
    clear hy
    go_wp2
    (refine bodyPost_ret (v := .map (some w.heap.size)) (by simp [results, Try.results72, go_sem]) rfl ?_)
    exact ⟨_, PM.empty Int, rfl, by (repeat (first | exact World.grows.refl _ | assumption | refine World.grows.alloc ?_ _ | refine World.grows.plus ?_ _ _ | refine World.grows.drew ?_)), World.heap_at _ _ _ rfl, by rw [HZ.out]; exact JIs.nil, Nat.le_refl _⟩
  | false =>
    clear hA
    go_enter Try.func72, Try.ntmps72
    go_upto_region 2 with fail
    iterate 10 go_step
    refine wpList_load_mid rfl 83 (.tmp 10) rfl yb 67 (by rfl) (rowI 16 F).toList _ (fun j v hv => by obtain ⟨h1, rfl⟩ := rowI_list hv; exact (hy.grow (show w.grows (w.alloc ((PM.empty Int).obj eV)) by (repeat (first | exact World.grows.refl _ | assumption | refine World.grows.alloc ?_ _ | refine World.grows.plus ?_ _ _ | refine World.grows.drew ?_)))).aft h1) Try.underlying83 rfl (by rw [s83, Array.length_toList, rowI_size]) ?_
    rw [Array.toArray_toList]
    clear hy
    go_wp2
    rw [rowZ]
    obtain ⟨W0, hW0⟩ : ∃ W0, W0 = (w.alloc ((PM.empty Int).obj eV)).alloc (.cells (rowI 16 fun _ => 0) 83) := ⟨_, rfl⟩
    obtain ⟨jb, hjb⟩ : ∃ jb, w.heap.size = jb := ⟨_, rfl⟩
    obtain ⟨sb, hsb⟩ : ∃ sb, jb + 1 = sb := ⟨_, rfl⟩
    have z0 : W0.heap.size = w.heap.size + 2 := by rw [hW0]; simp
    have d0 : W0.heap[jb]? = some ((PM.empty Int).obj eV) := by rw [hW0]; exact World.grows.heap_of (by (repeat (first | exact World.grows.refl _ | assumption | refine World.grows.alloc ?_ _ | refine World.grows.plus ?_ _ _ | refine World.grows.drew ?_))) (World.heap_at _ _ _ hjb.symm)
    have d1 : W0.heap[sb]? = some (sO fun _ => false) := by rw [hW0]; exact World.heap_at _ _ _ (by simp; omega)
    have G0 : Hid (w.grows W0) := Lib.hid (by rw [hW0]; (repeat (first | exact World.grows.refl _ | assumption | refine World.grows.alloc ?_ _ | refine World.grows.plus ?_ _ _ | refine World.grows.drew ?_)))
    rw [← hW0]
    simp only [hjb, hsb]
    have HD0 := Lib.hid d0
    have HD1 := Lib.hid d1
    have hjs : jb ≠ sb := by omega
    have hjl : jb < W0.heap.size := by omega
    have hsl : sb < W0.heap.size := by omega
    have Hg := Lib.hid (grow_c yb jb sb n F A HA.out hn hjs (by omega) (by omega) (n + 1))
    have hyA := Lib.hid (fun (m : PM Int) (s : Nat → Bool) (U : World) (g : (stW W0 jb sb (m.obj eV) (sO s)).grows U) => show YA U yb n F by
      obtain ⟨pl, sv, va, vc, P, h1, h2, h3⟩ := HY.out
      exact ⟨pl, sv, va, vc, P, stW_at g (G0.out.heap_of h1) (by omega) (by omega), h2, h3⟩)
    clear hW0 d0 d1 HY HA
    go_loopw [23] (fun i wr => ∃ (k : Nat) (m : PM Int) (s : Nat → Bool), k ≤ n ∧ i = .int .i64 k ∧ Hid (JIs m (joinF A n k)) ∧ Hid ((stW W0 jb sb (m.obj eV) (sO s)).grows wr)) (fun i _ => n - (intOf i).toNat)
    case atStart => exact ⟨0, PM.empty Int, fun _ => false, by omega, rfl, Lib.hid JIs.nil, Lib.hid (by rw [stW_self HD0.out HD1.out]; exact World.grows.refl _)⟩
    case round =>
      obtain ⟨k, m, s, hk, rfl, hm, hg⟩ := hrel
      by_cases hlt : k < n
      · have hkI : (k : Int) < n := by omega
        have hU := join_upto A n k hk
        have hs : wr.heap[sb]? = some (.cells (rowI 16 (sI s)) 83) := hg.out.heap_of (stW_s _ _ hsl)
        have g1 := stW_put_s (p := sO fun _ => false) hjs hg.out hsl
        have h93 := fun b3 s3 y3 => Hg.out (wr.putObj sb (sO fun _ => false)) m (joinF A n k) (fun _ => false) k hm.out hU.mat b3 s3 y3 hlt (fun q hq => by rw [hU.rest k (Nat.le_refl _)] at hq; cases hq) (unseen_none n)
        replace h93 := h93 (g1.heap_of (stW_j hjs _ _ hjl)) (g1.heap_of (stW_s _ _ hsl)) (hyA.out _ _ _ g1)
        clear hU
        go_upto_region 9 with fail
        iterate 4 go_step
        refine wpList_clear rfl _ _ (by rfl) _ (by rfl) (clear16 wr sb (sI s) hs _) ?_
        generalize wr.putObj sb (sO fun _ => false) = W1 at g1 h93 ⊢
        clear hs
        go_wp2_with (go_at_call 99; fail)
        refine h93.mono ?_
        rintro e W2 ⟨m', rfl, hm', g2⟩
        have g3 := Lib.hid (stW_rec hjs g1 hjl hsl g2)
        have HM := Lib.hid hm'
        clear g1 g2 h93 hm' hg hm
        go_wp2
        case roundEnd => exact ⟨⟨k + 1, m', _, by omega, by go_num, HM, g3⟩, by simp [intOf]; omega⟩
      · have hke : k = n := by omega
        subst hke
        have hb := Lib.hid (hg.out.heap_of (stW_j hjs _ _ hjl))
        have hgw : Hid (w.grows wr) := Lib.hid ((by unfold stW; exact World.putObj_grows (World.putObj_grows G0.out _ (by omega)) _ (by omega) : w.grows (stW W0 jb sb (m.obj eV) (sO s))).trans hg.out)
        clear hyA Hg
        go_wp2
        (refine bodyPost_ret (v := .map (some jb)) (by simp [results, Try.results72, go_sem]) rfl ?_)
        exact ⟨jb, m, rfl, hgw.out, hb.out, hm.out, by omega⟩
end Go.Proofs.Ytaanbdjmibjcbaa

