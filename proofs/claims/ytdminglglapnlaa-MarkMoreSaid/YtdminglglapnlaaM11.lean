/-
  What is proved: append onto a slice without elements and without room: the new block, outright.
-/
import Derived.Test.YtdminglglapnlaaM1
import Derived.Test.YtdminglglapnlaaM5
import Derived.Test.YtdminglglapnlaaM8
import Derived.Test.YtdminglglapnlaaM10
import Derived.Test.YtdminglglapnlaaM3
import Derived.Deep.MidRow
import Derived.ChangeKeysEq
import Derived.Deep.CutRange
import Derived.Test.YtdminglglapnlaaM9
import Derived.RangeFuncBox
import Derived.OneCell
import Derived.Lib.SmallJoins
import Derived.Maps.OwnIn
import Derived.Lib.Hide
import Derived.Test.YtdminglglapnlaaM6
import Derived.Deep.RegionHeldLaw
set_option linter.all false
namespace Go
open Go.RowKit
section
variable {P : Program} (w : World)
theorem run_append_fresh (t ty e : TypeId) (z : Value) (size bytes : Nat) (ht : P.underlying t = some (.slice e)) (hi : P.knows e z size bytes) (hzs : z.cells.size = size) (hsz : 0 < size)
    (A : Option Addr) (xv : Value) (m : Nat) (news : List Value) (hsrc : SrcAt w xv m size news) (h0 : 0 < m) (h63 : m ≤ maxLen) (hbytes : m * bytes ≤ 140737488355328) :
    ∃ cap xs, (Builtin.append_ #[t, t] ty #[.slice A 0 0, xv]).run P w = .ok (.slice (some ⟨w.heap.size, 0, none⟩) m cap) (w.drew.alloc (.cells xs e)) ∧ m ≤ cap ∧ cap ≤ maxLen ∧ xs.size = cap * size ∧ xs.toList.take (m * size) = news := by
  obtain ⟨i, hi, hz, rfl, rfl⟩ := hi
  obtain ⟨B, c, rfl, hl, hB⟩ := hsrc
  obtain ⟨ad, rfl, hc⟩ := hB h0
  have hge := grownCap_ge w m 0 e
  have hcm : grownCap w m 0 e ≤ maxLen := grownCap_le_maxLen w m 0 e h63
  refine ⟨grownCap w m 0 e, news.toArray ++ Builtin.zeroCells z.cells (grownCap w m 0 e - m), ?_, hge, hcm, ?_, ?_⟩
  · cases A with
    | none =>
      exact run_append_nil (P := P) w t ty e i z ht hi hz ad m c news hl hc (by omega) (by simp only [maxLen] at h63; omega) (by omega)
    | some b =>
      have hr := run_append_grow (P := P) w t ty e i z ht hi hz b 0 0 [] (by simp) (by simp) ad m c news hl hc (by omega) (by simp only [maxLen] at h63; omega) (growslice_fits (by omega) (by simpa using hbytes))
      simpa using hr
  · simp only [Array.size_append, List.size_toArray, size_zeroCells, hzs, hl, ← Nat.add_mul]
    congr 1
    omega
  · simp only [Array.toList_append]
    rw [← hl]
    exact List.take_left
theorem wpList_append_fresh {ops : Array Oper} {rest : List Oper} {o : Oper} {a : Act} {Q : Exit → Act → World → Prop} (hgd : o.guard = none) (s x : Operand) (t : TypeId)
    (ho : o.op = .call { callee := .builtin .append, args := #[s, x], argTypes := #[t, t] })
    (e : TypeId) (z : Value) (size bytes : Nat) (ht : P.underlying t = some (.slice e)) (hi : P.knows e z size bytes) (hzs : z.cells.size = size) (hsz : 0 < size)
    (A : Option Addr) (hs : a.eval s = .slice A 0 0) (xv : Value) (hx : a.eval x = xv) (m : Nat) (news : List Value) (hsrc : SrcAt w xv m size news) (h0 : 0 < m) (h63 : m ≤ maxLen) (hbytes : m * bytes ≤ 140737488355328)
    (h : ∀ cap xs, m ≤ cap → cap ≤ maxLen → xs.size = cap * size → xs.toList.take (m * size) = news → wpList P ops Q rest (a.put o.dst (.slice (some ⟨w.heap.size, 0, none⟩) m cap)) (w.drew.alloc (.cells xs e))) :
    wpList P ops Q (o :: rest) a w := by
  refine wpList_plain hgd fun K hK => ?_
  obtain ⟨cap, xs, hr, h2, h3, h4, h5⟩ := run_append_fresh (P := P) w t o.type e z size bytes ht hi hzs hsz A xv m news hsrc h0 h63 hbytes
  unfold Oper.wp execOp
  simp only [ho, resolve, invoke, builtin, Sem.run_bind, Sem.run_pure, Result.andThen_ok, List.map_toArray, List.map_cons, List.map_nil, hs, hx, hr]
  exact hK _ _ (h cap xs h2 h3 h4 h5)
/-- the same, as a step of a region that draws its order (go_region_law) -/
theorem step_append_fresh {ops : Array Oper} {o : Oper} {a : Act} {K : Act → World → Prop} {Q : Exit → Act → World → Prop} {E : Prop} (hgd : o.guard = none) (s x : Operand) (t : TypeId)
    (ho : o.op = .call { callee := .builtin .append, args := #[s, x], argTypes := #[t, t] })
    (e : TypeId) (z : Value) (size bytes : Nat) (ht : P.underlying t = some (.slice e)) (hi : P.knows e z size bytes) (hzs : z.cells.size = size) (hsz : 0 < size)
    (A : Option Addr) (hs : a.eval s = .slice A 0 0) (xv : Value) (hx : a.eval x = xv) (m : Nat) (news : List Value) (hsrc : SrcAt w xv m size news) (h0 : 0 < m) (h63 : m ≤ maxLen) (hbytes : m * bytes ≤ 140737488355328)
    (hK : ∀ cap xs, m ≤ cap → cap ≤ maxLen → xs.size = cap * size → xs.toList.take (m * size) = news → K (a.put o.dst (.slice (some ⟨w.heap.size, 0, none⟩) m cap)) (w.drew.alloc (.cells xs e))) :
    if Region.wanted o (yielded ops a.tmps) = true then Oper.wp P o a w K Q else E := by
  have hw : Region.wanted o (yielded ops a.tmps) = true := by simp [Region.wanted, hgd]
  rw [if_pos hw]
  obtain ⟨cap, xs, hr, h2, h3, h4, h5⟩ := run_append_fresh (P := P) w t o.type e z size bytes ht hi hzs hsz A xv m news hsrc h0 h63 hbytes
  unfold Oper.wp execOp
  simp only [ho, resolve, invoke, builtin, Sem.run_bind, Sem.run_pure, Result.andThen_ok, List.map_toArray, List.map_cons, List.map_nil, hs, hx, hr]
  exact hK cap xs h2 h3 h4 h5
end
/-- such a block is a row of the call's own -/
theorem ownsRow_of {w : World} {b cap n base : Nat} {e : TypeId} {size : Nat} {xs : Array Value} {l : List Value} (h : w.heap[b]? = some (.cells xs e)) (hb : base ≤ b) (h1 : n ≤ cap) (h2 : cap ≤ maxLen) (h3 : xs.size = cap * size) (h4 : xs.toList.take (n * size) = l) (hl : l.length = n * size) :
    w.ownsRow base e size (.slice (some ⟨b, 0, none⟩) n cap) n l :=
  ⟨hl, .inr ⟨b, cap, xs, rfl, hb, h, h1, h2, h3, h4⟩⟩
end Go

/-
  What is proved: a range over a function whose rounds end normally, and may change what they have made: what holds between the rounds is said of the world itself.
-/
namespace Go
open Go.RowKit

theorem wp_rangeFunc_own {P : Program} {g : Operand} {ps : Array Tmp} {assign body : Code} {Q : Exit → Act → World → Prop} {a : Act} {w : World} {f : Nat} {lb : Array Value} {xs : List (Array Value)} {Ro : World → Prop}
    (hg : a.eval g = .func (.func f) #[] lb) (eg : ∀ args w, (callFunc f args).run P w = .ok (.enter f args) w)
    (hseq : SeqC P f lb xs Ro) (hps : ∀ x ∈ xs, x.size = ps.size)
    (J : Nat → World → Prop) (hJ : ∀ k W W', J k W → W.grows W' → J k W')
    (hput : ∀ k W lo lo', W.heap[w.heap.size + 1]? = some (.loop lo) → J k W → J k (W.putObj (w.heap.size + 1) (.loop lo')))
    (hR : ∀ k W, J k W → Ro W) (h0 : ∀ lo, J 0 ((w.alloc (.deferred (some []))).alloc lo))
    (hround : ∀ (k : Nat) (x : Array Value) (W : World), xs[k]? = some x → J k W → W.heap[w.heap.size]? = some (.deferred (some [])) → (∃ lo, W.heap[w.heap.size + 1]? = some (.loop lo)) → ∀ K0 : Act → World → Prop,
      Hid (∀ a1 W1, W.grows W1 →
        (∀ (lo' : Loop) (K1 : Exit → Act → World → Prop), Hid (∀ a' W', J (k + 1) W' → W'.heap[w.heap.size]? = some (.deferred (some [])) → W'.heap[w.heap.size + 1]? = some (.loop lo') → K1 .normal a' W') →
          body.wpIn (Fence.wide.inRound (w.heap.size + 1)) 0 P K1 a1 (W1.putObj (w.heap.size + 1) (.loop lo'))) → K0 a1 W1) →
      assign.wpIn (Fence.wide.inRound (w.heap.size + 1)) 0 P (Exit.then K0 (fun _ _ _ => False))
        { tmps := (ps.zip x).foldl (fun t (p, v) => t.setIfInBounds p v) a.tmps, defers := [] } W)
    (hdone : ∀ W, J xs.length W → W.heap[w.heap.size]? = some (.deferred (some [])) → Q .normal { a with defers := { target := .collected w.heap.size, args := #[] } :: a.defers } W) :
    (Code.rangeFunc g ps assign body).wp P Q a w := by
  refine (wpIn_wide (n := 0)).1 (wpIn_rangeFunc ?_)
  intro fn hfn
  obtain ⟨rec, hrec⟩ : ∃ rec : LoopState → Option Code → Loop, rec = fun st pe => { state := st, pending := pe, fn, tmps := a.tmps, params := ps, assign, body, defers := w.heap.size } := ⟨_, rfl⟩
  refine ⟨w.heap.size + 1, [{ target := .collected w.heap.size, args := #[] }], (w.alloc (.deferred (some []))).alloc (.loop (rec .ready none)), { target := .fn (.func f) lb, args := #[.func (.yield (w.heap.size + 1)) #[] #[]] }, (w.alloc (.deferred (some []))).alloc (.loop (rec .ready none)), f,
    #[.func (.yield (w.heap.size + 1)) #[] #[]] ++ lb, (w.alloc (.deferred (some []))).alloc (.loop (rec .ready none)), ?_, ?_, fun _ _ => trivial, ?_, fun h => (by simp [Fence.wide] at h), ?_⟩
  · rw [hrec]; exact run_enterLoop_outer _ _ _ _ _
  · simp only [resolve, hg]
    simp [go_sem]
  · simp [invoke, go_sem, eg]
  · have hD0 : ((w.alloc (.deferred (some []))).alloc (.loop (rec .ready none))).heap[w.heap.size]? = some (.deferred (some [])) :=
      World.grows.heap_of (World.grows.alloc (World.grows.refl _) _) (heap_alloc_new w _)
    have hL0 : ((w.alloc (.deferred (some []))).alloc (.loop (rec .ready none))).heap[w.heap.size + 1]? = some (.loop (rec .ready none)) := by
      have := heap_alloc_new (w.alloc (.deferred (some []))) (.loop (rec .ready none))
      rwa [World.size_alloc] at this
    refine (hseq (w.heap.size + 1) (fun k W => J k W ∧ W.heap[w.heap.size]? = some (.deferred (some [])) ∧ W.heap[w.heap.size + 1]? = some (.loop (rec .ready none))) (fun _ => False) _
      (fun k W W' ⟨h1, h2, h3⟩ h4 => ⟨hJ k W W' h1 h4, h4.heap_of h2, h4.heap_of h3⟩) (fun _ _ h _ => h) (fun k W h => hR k W h.1) ?_ ⟨h0 _, hD0, hL0⟩).mono ?_
    · rintro k x hx W ⟨hJW, hD, hl⟩
      have hy : ∀ W : World, W.heap[w.heap.size + 1]? = some (.loop (rec .ready none)) → (Instr.yield (w.heap.size + 1) x).run P W = .ok (.round (w.heap.size + 1) fn ((ps.zip x).foldl (fun t (p, v) => t.setIfInBounds p v) a.tmps) assign body) W := fun W hl => by
        have := run_yield (P := P) (args := x) hl (by rw [hrec]; exact hps x (List.mem_of_getElem? hx))
        rw [hrec] at this
        exact this
      refine ⟨fn, _, assign, body, hy _ hl, roundIn_of_wpIn hfn ?_⟩
      refine wpIn_mono (hround k x W hx hJW hD ⟨_, hl⟩
        (fun a1 W1 => W.grows W1 ∧ ∀ lo', body.wpIn (Fence.wide.inRound (w.heap.size + 1)) 0 P (fun e a' W' => e = .normal ∧ J (k + 1) W' ∧ W'.heap[w.heap.size]? = some (.deferred (some [])) ∧ W'.heap[w.heap.size + 1]? = some (.loop lo')) a1 (W1.putObj (w.heap.size + 1) (.loop lo')))
        (Lib.hid fun a1 W1 hg1 hb => ⟨hg1, fun lo' => hb lo' _ (Lib.hid fun a' W' h1 h2 h3 => ⟨rfl, h1, h2, h3⟩)⟩)) ?_
      rintro e a1 W1 h1
      cases e with
      | normal =>
        obtain ⟨hg1, hb⟩ := h1
        have hl1 := hg1.heap_of hl
        refine ⟨_, run_beginRound hl1 (by rw [hrec]), wpIn_mono (hb _) ?_⟩
        rintro e a3 W3 ⟨rfl, hJ3, hD3, hL3⟩
        have fin := run_endRound (P := P) none hL3
        rw [hrec] at fin
        have hsz := World.lt_of_block hL3
        rw [hrec]
        exact ⟨_, _, fin, .inl ⟨rfl, hput _ _ _ _ hL3 hJ3, by rw [World.putObj_heap_other (by omega)]; exact hD3, by rw [World.putObj_heap_same hsz]; rfl⟩⟩
      | exit id => exact h1.elim
      | goto t => exact h1.elim
      | ret => exact h1.elim
      | panic ch => exact h1.elim
      | outgrown => exact h1.elim
    · rintro e W2 ⟨⟨v, rfl⟩, (⟨hJW, hD, hl⟩ | hF)⟩
      · have he := run_endLoop (P := P) hl (by rw [hrec]; simp)
        have hsz := World.lt_of_block hl
        rw [hrec] at he
        exact ⟨none, _, he, hdone _ (hput _ _ _ _ hl hJW) (by rw [World.putObj_heap_other (by omega)]; exact hD)⟩
      · exact hF.elim
end Go

/-
  What is proved: rows of pairs of numbers in memory; the parts that an iterator yields, one after another; the most that the first parts cost.
-/
namespace Go.Proofs.Ytdminglglapnlaa
open Go.RowKit

def pcells (K : List (Int × Int)) : List Value := K.flatMap fun x => [.int .i64 x.1, .int .i64 x.2]
theorem pcells_len (K : List (Int × Int)) : (pcells K).length = K.length * 2 := by
  induction K with
  | nil => rfl
  | cons x K ih =>
    unfold pcells at ih ⊢
    simp only [List.flatMap_cons, List.length_append, List.length_cons, List.length_nil, ih]
    omega
theorem pcells_snoc (K : List (Int × Int)) (a b : Int) : pcells (K ++ [(a, b)]) = pcells K ++ [.int .i64 a, .int .i64 b] := by
  unfold pcells; simp
theorem pcells_get : ∀ (K : List (Int × Int)) {i j : Nat}, i < K.length → j < 2 → (pcells K)[i * 2 + j]? = some (kcell (fstL K) (sndL K) i j)
  | [], i, j, hi, _ => absurd hi (by simp)
  | x :: K, 0, j, _, hj => by
    have : j = 0 ∨ j = 1 := by omega
    rcases this with rfl | rfl <;> simp [pcells, kcell, fstL, sndL]
  | x :: K, i + 1, j, hi, hj => by
    have ih := pcells_get K (i := i) (j := j) (by simpa using hi) hj
    have e : pcells (x :: K) = [.int .i64 x.1, .int .i64 x.2] ++ pcells K := rfl
    rw [e, List.getElem?_append_right (by simp; omega)]
    simp only [List.length_cons, List.length_nil]
    rw [show (i + 1) * 2 + j - (0 + 1 + 1) = i * 2 + j by omega, ih]
    simp [kcell, fstL, sndL]
theorem _root_.Go.World.ownsRow.pairsAt {w : World} {base e : Nat} {v : Value} {K : List (Int × Int)} {n : Nat} (h : w.ownsRow base e 2 v n (pcells K)) (hn : n = K.length) : SliceAt w v K.length 2 (kcell (fstL K) (sndL K)) := by
  subst hn
  exact h.sliceAt fun i j hi hj => pcells_get K hi hj
theorem two_cells (a b : Int) : ∀ u ∈ tableL 1 2 (kcell (fun _ => a) (fun _ => b)), u.oneCell' = true := by
  intro u hu
  have : tableL 1 2 (kcell (fun _ => a) (fun _ => b)) = [.int .i64 a, .int .i64 b] := rfl
  rw [this] at hu
  simp at hu
  rcases hu with rfl | rfl <;> rfl
theorem two_slice (w : World) (x y : Int) (t b : Nat) (hb : b = w.heap.size) : SliceAt (w.alloc (.cells #[.int .i64 x, .int .i64 y] t)) (.slice (some ⟨b, 0, none⟩) 1 1) 1 2 (kcell (fun _ => x) (fun _ => y)) := by
  subst hb
  refine ⟨_, _, rfl, by omega, by unfold maxLen; omega, fun i j hi hj => ⟨_, _, rfl, ?_⟩⟩
  have hi0 : i = 0 := by omega
  subst hi0
  have hj0 : j = 0 ∨ j = 1 := by omega
  rcases hj0 with rfl | rfl <;> simp [go_sem, kcell]

theorem _root_.Go.Marks.own {B : Nat} {ds : List Deferred} {w w' : World} {base : Nat} {e : TypeId} {size : Nat} {v : Value} {n : Nat} {xs : List Value} (h : Marks B ds w) (ho : w.ownsRow base e size v n xs) (g : w.grownBy w' v.ownBlock) : Marks B ds w' :=
  h.keep fun D hD => by
    rw [g.block D (World.lt_of_block hD) ?_]
    · exact hD
    · rcases ho.2 with ⟨rfl, _⟩ | ⟨b, cap, cur, rfl, _, hgg, _⟩
      · simp [Value.ownBlock]
      · simp only [Value.ownBlock, ne_eq, Option.some.injEq]
        rintro rfl
        rw [hgg] at hD
        cases hD
theorem partsL_next (P : Nat → Nat) {v j : Nat} {x : Array Value} (hv : v ≤ 10) (hj : (partsL P v).length = j) (hx : (partsL P 10)[j]? = some x) :
    ∃ v', v ≤ v' ∧ v' < 10 ∧ P v' ≠ 0 ∧ x = #[.int .i64 (v' : Nat), .int .i64 (P v' : Nat)] ∧ (partsL P (v' + 1)).length = j + 1 ∧ ∀ i, v ≤ i → i < v' → P i = 0 := by
  obtain ⟨d, hd⟩ : ∃ d, 10 - v = d := ⟨_, rfl⟩
  induction d generalizing v with
  | zero =>
    have : v = 10 := by omega
    subst this
    rw [List.getElem?_eq_none (by omega)] at hx
    cases hx
  | succ d ih =>
    by_cases h0 : P v = 0
    · have hj' : (partsL P (v + 1)).length = j := by simp only [partsL]; rw [if_pos h0]; simpa using hj
      obtain ⟨v', h1, h2, h3, h4, h5, h6⟩ := ih (by omega) hj' (by omega)
      refine ⟨v', by omega, h2, h3, h4, h5, fun i hi hi2 => ?_⟩
      rcases Nat.lt_or_ge v i with h | h
      · exact h6 i h hi2
      · have : i = v := by omega
        subst this; exact h0
    · have := partsL_at P (v := v) (n := 10) (by omega) h0
      rw [hj, hx] at this
      refine ⟨v, Nat.le_refl _, by omega, h0, Option.some.inj this, ?_, fun i h1 h2 => absurd h1 (by omega)⟩
      simp only [partsL]
      rw [if_neg h0, List.length_append, hj]; rfl
theorem partsL_size (P : Nat → Nat) {j : Nat} {x : Array Value} : ∀ {v : Nat}, (partsL P v)[j]? = some x → x.size = 2
  | 0, h => by simp [partsL] at h
  | v + 1, h => by
    simp only [partsL] at h
    rcases Nat.lt_or_ge j (partsL P v).length with h1 | h1
    · rw [List.getElem?_append_left h1] at h
      exact partsL_size P h
    · rw [List.getElem?_append_right h1] at h
      have := List.mem_of_getElem? h
      split at this
      · simp at this
      · simp at this; subst this; rfl
theorem partsL_done (P : Nat → Nat) {v : Nat} (hv : v ≤ 10) (hj : (partsL P v).length = (partsL P 10).length) : ∀ i, v ≤ i → i < 10 → P i = 0 := by
  obtain ⟨d, hd⟩ : ∃ d, 10 - v = d := ⟨_, rfl⟩
  induction d generalizing v with
  | zero => exact fun i h1 h2 => absurd h1 (by omega)
  | succ d ih =>
    have mono : ∀ a b, a ≤ b → (partsL P a).length ≤ (partsL P b).length := by
      intro a b hab
      induction b with
      | zero => have : a = 0 := by omega
                subst this; exact Nat.le_refl _
      | succ b ih2 =>
        rcases Nat.lt_or_ge a (b + 1) with h | h
        · have := ih2 (by omega)
          simp only [partsL, List.length_append]; omega
        · have : a = b + 1 := by omega
          subst this; exact Nat.le_refl _
    by_cases h0 : P v = 0
    · have h1 : (partsL P (v + 1)).length = (partsL P v).length := by simp only [partsL]; rw [if_pos h0]; simp
      have := ih (v := v + 1) (by omega) (by rw [h1]; exact hj) (by omega)
      intro i hi hi2
      rcases Nat.lt_or_ge v i with h | h
      · exact this i h hi2
      · have : i = v := by omega
        subst this; exact h0
    · exfalso
      have h1 : (partsL P (v + 1)).length = (partsL P v).length + 1 := by simp only [partsL]; rw [if_neg h0, List.length_append]; rfl
      have := mono (v + 1) 10 (by omega)
      omega

/-- some part by the first values is neither empty nor all -/
def Reg.somB (r : Reg) (s f v : Nat) : Bool := (List.range v).any fun v => decide (r.part s f (v : Nat) ≠ 0) && decide (r.part s f (v : Nat) ≠ s)
theorem Reg.somB_succ (r : Reg) (s f v : Nat) : r.somB s f (v + 1) = (r.somB s f v || (decide (r.part s f (v : Nat) ≠ 0) && decide (r.part s f (v : Nat) ≠ s))) := by
  unfold Reg.somB
  rw [List.range_succ, List.any_append]; simp
theorem Reg.jump {r : Reg} {c : Nat → Int} (h0 : c 0 = 0) {s f v v' : Nat} (hv : v ≤ v') (h : ∀ i, v ≤ i → i < v' → r.part s f (i : Nat) = 0) : r.mostR c s f v' = r.mostR c s f v ∧ r.somB s f v' = r.somB s f v := by
  obtain ⟨d, hd⟩ : ∃ d, v' = v + d := ⟨v' - v, by omega⟩
  subst hd
  induction d with
  | zero => exact ⟨rfl, rfl⟩
  | succ d ih =>
    obtain ⟨i1, i2⟩ := ih (by omega) fun i h1 h2 => h i h1 (by omega)
    have hz := h (v + d) (by omega) (by omega)
    rw [← Nat.add_assoc]
    refine ⟨by rw [Reg.mostR_skip h0 hz, i1], ?_⟩
    rw [r.somB_succ, i2, hz]
    simp
end Go.Proofs.Ytdminglglapnlaa

/-
  What is proved: the cheapest look at some marks (71), in the program.
-/
namespace Go.Proofs.Ytdminglglapnlaa
open Go.RowKit
attribute [local irreducible] Go.wpCalm Go.wpCalm2 deskA rowI rowA
attribute [local go_sem] Oper.semAt_some

theorem e104 : ∀ args w, (callFunc 104 args).run Try.prog w = .ok (.enter 104 args) w := fun _ _ => by kernel_rfl
theorem el115 : Try.prog.knows 115 (.agg #[.int .i64 0, .int .i64 0]) 2 16 := Program.knows_of (by kernel_rfl)
theorem zip_two (t : Array Value) (p q : Tmp) (v u : Value) : Array.foldl (fun t x => match x with | (p, v) => t.setIfInBounds p v) t (#[p, q].zip #[v, u]) = (t.setIfInBounds p v).setIfInBounds q u := by
  have : #[p, q].zip #[v, u] = #[(p, v), (q, u)] := by simp
  rw [this]
  simp
theorem cell_box {w : World} {b : Nat} {v : Value} {t : TypeId} (h : w.heap[b]? = some (.cells #[v] t)) : w.cell? ⟨b, 0, none⟩ = some v := cell_of_heap h rfl

set_option maxHeartbeats 4000000 in
theorem looks_c (w : World) (db mb : Nat) (r : Reg) (c : Nat → Int) (m : VM) (h : DeskR w db mb r c m) (hr : r.Ok) (s : Nat) (hs : s < 2 ^ r.nm) (hc : ∀ x, x < 2 ^ r.nm → 0 ≤ c x ∧ c x ≤ 1099511627776) (h0 : c 0 = 0) :
    Calls Try.prog 71 #[.pointer (some ⟨db, 0, none⟩), .int .i64 s] w fun e w' => e = .returned (lookV (r.lookR c s r.nc)) ∧ w.grows w' := by
  have HP := Lib.hid fun W (g : w.grows W) f (hf : f < r.nc) => parts_c W db mb r c m (h.mono g) hr s f hs hf
  obtain ⟨kb, ko, mc, cb, co, cc, rb, ro, rc, hD, h2, h3, h4, h5, hR⟩ := h
  have q1 := hD.cv
  have HD := Lib.hid hD
  have hnc := hr.c8
  have hnm : 2 ^ r.nm ≤ 2 ^ 10 := Nat.pow_le_pow_right (by omega) hr.m10
  have HR := Lib.hid hr
  have Hrc := Lib.hid hR.cost
  have Hc := Lib.hid hc
  have H0 := Lib.hid h0
  unfold maxLen at h3 h5
  have hs10 : s < 1024 := by omega
  have Hnm := Lib.hid hnm
  clear hD hR hc h0 hr hnm
  (refine (callsIn_wide (n := 0)).1 (callsIn_of_wp_marks Try.func71 rfl trivial ((wpIn_wide (n := 0)).2 ?_) rfl); simp only [Try.ntmps71, List.size_toArray, List.length_cons, List.length_nil, Nat.reduceAdd, Nat.reduceSub, Array.replicate_succ, Array.replicate_zero, List.push_toArray, List.append_toArray, List.nil_append, List.cons_append])
  go_wp2_with (go_at_call 98; refine (nothing_c _).mono ?_; rintro e W9 ⟨rfl, hg⟩; obtain ⟨n1, x1, rfl⟩ := World.plus_of hg)
  obtain ⟨W0, hW0⟩ : ∃ W0, W0 = ((w.alloc (Obj.cells #[Value.pointer (some { block := db, off := 0 })] 98)).alloc (Obj.cells #[Value.int IntKind.i64 ↑s] 106)).alloc (Obj.cells #[Value.int IntKind.i64 0, Value.int IntKind.i64 0] 115) := ⟨_, rfl⟩
  have hg0 : w.grows W0 := by rw [hW0]; (repeat (first | exact World.grows.refl _ | assumption | refine World.grows.alloc ?_ _ | refine World.grows.plus ?_ _ _ | refine World.grows.drew ?_))
  have hz0 : W0.heap.size = w.heap.size + 3 := by rw [hW0]; simp
  have b0 : W0.cell? ⟨w.heap.size, 0, none⟩ = some (.pointer (some ⟨db, 0, none⟩)) := by rw [hW0]; simp [go_sem]
  have b1 : W0.cell? ⟨w.heap.size + 1, 0, none⟩ = some (.int .i64 s) := by rw [hW0]; simp [go_sem]
  have b2 : W0.heap[w.heap.size + 2]? = some (.cells #[.int .i64 0, .int .i64 0] 115) := by rw [hW0]; exact World.heap_at _ _ _ (by simp)
  rw [← hW0] at hg ⊢
  obtain ⟨W1, hW1⟩ : ∃ W1, W1 = (W0.plus n1 x1).alloc (Obj.cells #[Value.int IntKind.i64 (-1), Value.int IntKind.i64 1099511627776] 115) := ⟨_, rfl⟩
  have hg1 : Hid (W0.grows W1) := Lib.hid (by rw [hW1]; (repeat (first | exact World.grows.refl _ | assumption | refine World.grows.alloc ?_ _ | refine World.grows.plus ?_ _ _ | refine World.grows.drew ?_)))
  have own1 : Hid (W1.ownsRow (w.heap.size + 3) 115 2 (Value.slice (some { block := w.heap.size + 1 + 1 + 1 + n1, off := 0 }) 1 1) 1 (pcells (r.lookL c s 0))) :=
    Lib.hid (ownsRow_of (xs := #[Value.int IntKind.i64 (-1), Value.int IntKind.i64 1099511627776]) (by rw [hW1]; exact World.heap_at _ _ _ (by simp; omega)) (by omega) (by omega) (by unfold maxLen; omega) rfl rfl rfl)
  rw [← hW1]
  have Hb0 := Lib.hid b0
  have Hb1 := Lib.hid b1
  have Hb2 := Lib.hid b2
  have Hg0 := Lib.hid hg0
  have Hq1 := Lib.hid q1
  clear hW0 hW1 hg b0 b1 b2 hg0 q1
  refine wp_loop_d [false, false, false, false, false, true, true, true, true, true, true, true, false, false, false, false, false, false, false, false, true, true, true, true, true, true, true, true, true, true, true, true, true, true, true, true, true, true, true, true, true, true, true, true, true, true, true, true, true, true, true, true, true, true, true, false, false] (fun u ds W => ∃ (k : Nat) (lv : Value), k ≤ r.nc ∧ u 20 = .int .i64 k ∧ u 5 = lv ∧ Hid (W.ownsRow (w.heap.size + 3) 115 2 lv (r.lookL c s k).length (pcells (r.lookL c s k))) ∧ Hid (Marks w.heap.size ds W) ∧ Hid (W0.grows W)) (fun u _ => r.nc - (intOf (u 20)).toNat) (by rfl) ⟨0, _, by omega, rfl, rfl, own1, Lib.hid trivial, hg1⟩ ?_
  rintro u ds W ⟨k, lv, hk, hu, hu5, hO, hds, hg⟩
  simp only [fillL, hu, hu5, Nat.reduceAdd, Nat.zero_add]
  have w0 := hg.out.cell_of Hb0.out
  have w1 := hg.out.cell_of Hb1.out
  have hWs : w.heap.size + 3 ≤ W.heap.size := by rw [← hz0]; exact hg.out.size
  by_cases hlt : k < r.nc
  · have hcs := (Hg0.out.trans hg.out).cell_of (Hrc.out k hlt)
    go_wp2_with (go_at_call 99; refine (HP.out _ (Hg0.out.trans (World.grows.trans hg.out (by (repeat (first | exact World.grows.refl _ | assumption | refine World.grows.alloc ?_ _ | refine World.grows.plus ?_ _ _ | refine World.grows.drew ?_))))) k hlt).mono ?_; rintro e W2 ⟨rfl, hrb, hg2⟩)
    obtain ⟨P, hP⟩ : ∃ P : Nat → Nat, P = fun v => r.part s k (v : Nat) := ⟨_, rfl⟩
    rw [← hP] at hrb
    have hPv : ∀ v, P v = r.part s k (v : Nat) := fun v => by rw [hP]
    have HPv := Lib.hid hPv
    have hz2 : W.heap.size + 2 < W2.heap.size := by have := World.lt_of_block hrb; simpa using this
    have hrb2 : W2.heap[W.heap.size + 2]? = some (Obj.cells (rowA 10 P) 152) := by simpa using hrb
    have c8 : W2.heap[W.heap.size]? = some (.cells #[.int .i64 0] 2) := hg2.heap_of (by rw [World.heap_a _ _ _ (by rw [World.heap_at _ _ _ rfl]; rfl), World.heap_at _ _ _ rfl])
    have c9 : W2.heap[W.heap.size + 1]? = some (.cells #[.bool false] 4) := hg2.heap_of (World.heap_at _ _ _ (by simp))
    have hgW2 : W.grows W2 := World.grows.trans (by (repeat (first | exact World.grows.refl _ | assumption | refine World.grows.alloc ?_ _ | refine World.grows.plus ?_ _ _ | refine World.grows.drew ?_))) hg2
    clear hrb hg2 hP
    refine wp_rangeFunc_own (f := 104) (by rfl) e104 (parts_seq (W.heap.size + 1 + 1) P) (fun x hx => ?_)
      (fun j U => ∃ v : Nat, v ≤ 10 ∧ (partsL P v).length = j ∧ U.heap[W.heap.size]? = some (.cells #[.int .i64 (r.mostR c s k v)] 2) ∧ U.heap[W.heap.size + 1]? = some (.cells #[.bool (r.somB s k v)] 4) ∧ U.heap[W.heap.size + 1 + 1]? = some (.cells (rowA 10 P) 152) ∧ W.grows U)
      (fun j U U' ⟨v, h1, h2, h3, h4, h5, h6⟩ g => ⟨v, h1, h2, g.heap_of h3, g.heap_of h4, g.heap_of h5, h6.trans g⟩)
      (fun j U lo lo' hL ⟨v, h1, h2, h3, h4, h5, h6⟩ => ⟨v, h1, h2, by rw [World.putObj_heap_other (by omega)]; exact h3, by rw [World.putObj_heap_other (by omega)]; exact h4, by rw [World.putObj_heap_other (by omega)]; exact h5, World.putObj_grows h6 _ (by omega)⟩)
      (fun j U ⟨v, h1, h2, h3, h4, h5, h6⟩ => h5)
      (fun lo => ⟨0, by omega, rfl, World.grows.heap_of (by (repeat (first | exact World.grows.refl _ | assumption | refine World.grows.alloc ?_ _ | refine World.grows.plus ?_ _ _ | refine World.grows.drew ?_))) c8, World.grows.heap_of (by (repeat (first | exact World.grows.refl _ | assumption | refine World.grows.alloc ?_ _ | refine World.grows.plus ?_ _ _ | refine World.grows.drew ?_))) c9, World.grows.heap_of (by (repeat (first | exact World.grows.refl _ | assumption | refine World.grows.alloc ?_ _ | refine World.grows.plus ?_ _ _ | refine World.grows.drew ?_))) hrb2, World.grows.trans hgW2 (by (repeat (first | exact World.grows.refl _ | assumption | refine World.grows.alloc ?_ _ | refine World.grows.plus ?_ _ _ | refine World.grows.drew ?_)))⟩) ?_ ?_
    · obtain ⟨j, hj⟩ := List.getElem?_of_mem hx
      exact partsL_size P hj
    · rintro j x U hx ⟨v, hv, hj, u8, u9, urow, hgU⟩ hDf ⟨lo, hLo⟩ K0 hK0
      have hL := World.lt_of_block hLo
      clear hLo
      obtain ⟨v', hv1, hv2, hv3, rfl, hv5, hv6⟩ := partsL_next P hv hj hx
      obtain ⟨j1, j2⟩ := Reg.jump (r := r) (c := c) H0.out (s := s) (f := k) hv1 (fun i h1 h2 => by rw [← hPv]; exact hv6 i h1 h2)
      rw [← j1] at u8
      rw [← j2] at u9
      clear j1 j2 hv6 hj hx
      rw [zip_two]
      simp only [List.setIfInBounds_toArray, List.set_cons_zero, List.set_cons_succ]
      gi_wp2
      refine hK0.out _ _ (by (repeat (first | exact World.grows.refl _ | assumption | refine World.grows.alloc ?_ _ | refine World.grows.plus ?_ _ _ | refine World.grows.drew ?_))) fun lo' K1 hK1 => ?_
      have hPlt : P v' < 1024 := by rw [hPv]; exact Nat.lt_of_lt_of_le (r.part_lt s k _) Hnm.out
      have hPI : (P v' : Int) < 1024 := by omega
      have hcP := Hc.out (P v') (by rw [hPv]; exact r.part_lt s k _)
      obtain ⟨U1, hU1⟩ : ∃ U1, U1 = U.putObj (W2.heap.size + 1) (.loop lo') := ⟨_, rfl⟩
      rw [← hU1]
      have gW1 : W.grows U1 := by rw [hU1]; exact World.putObj_grows hgU _ (by omega)
      have u8' : U1.heap[W.heap.size]? = some (.cells #[.int .i64 (r.mostR c s k v')] 2) := by rw [hU1, World.putObj_heap_other (by omega)]; exact u8
      have u9' : U1.heap[W.heap.size + 1]? = some (.cells #[.bool (r.somB s k v')] 4) := by rw [hU1, World.putObj_heap_other (by omega)]; exact u9
      have ur' : U1.heap[W.heap.size + 1 + 1]? = some (.cells (rowA 10 P) 152) := by rw [hU1, World.putObj_heap_other (by omega)]; exact urow
      have uD : U1.heap[W2.heap.size]? = some (.deferred (some [])) := by rw [hU1, World.putObj_heap_other (by omega)]; exact hDf
      have uL : U1.heap[W2.heap.size + 1]? = some (.loop lo') := by rw [hU1]; exact World.putObj_heap_same hL
      clear hU1 u8 u9 urow hDf
      have w0' := gW1.cell_of w0
      have w1' := gW1.cell_of w1
      have k8 := cell_box u8'
      have k9 := cell_box u9'
      have f8 := frozen_of_heap u8' 0
      have f9 := frozen_of_heap u9' 0
      have kc := (Hg0.out.trans (hg.out.trans gW1)).cell_of (HD.out.cost hPlt)
      have Hmx : Hid (r.mostR c s k (v' + 1) = max (r.mostR c s k v') (c (P v'))) := Lib.hid (by rw [hPv]; rfl)
      have Hsb : Hid (r.somB s k (v' + 1) = (r.somB s k v' || (decide (P v' ≠ 0) && decide (P v' ≠ s)))) := Lib.hid (by rw [hPv]; exact r.somB_succ s k v')
      obtain ⟨M, hM⟩ : ∃ M, r.mostR c s k v' = M := ⟨_, rfl⟩
      obtain ⟨B, hB⟩ : ∃ B, r.somB s k v' = B := ⟨_, rfl⟩
      obtain ⟨X, hX⟩ : ∃ X, c (P v') = X := ⟨_, rfl⟩
      rw [hM] at k8 Hmx
      rw [hB] at k9 Hsb
      rw [hX] at kc hcP Hmx
      have KF : Hid (∀ (x : Int) (b : Bool) a', x = max M X → b = (B || (decide (P v' ≠ 0) && decide (P v' ≠ s))) → ∀ W', ((U1.setCell ⟨W.heap.size, 0, none⟩ (.int .i64 x)).setCell ⟨W.heap.size + 1, 0, none⟩ (.bool b)).grows W' → K1 .normal a' W') := Lib.hid (by
        intro x b a' hx hb W' g
        have e8 : ((U1.setCell ⟨W.heap.size, 0, none⟩ (.int .i64 x)).setCell ⟨W.heap.size + 1, 0, none⟩ (.bool b)).heap[W.heap.size]? = some (.cells #[.int .i64 x] 2) := by
          rw [World.heap_setCell_map _ _ _ _ (show W.heap.size + 1 ≠ W.heap.size by omega)]
          exact store_of_heap u8' 0 _
        have e9 : ((U1.setCell ⟨W.heap.size, 0, none⟩ (.int .i64 x)).setCell ⟨W.heap.size + 1, 0, none⟩ (.bool b)).heap[W.heap.size + 1]? = some (.cells #[.bool b] 4) :=
          store_of_heap (A := #[.bool B]) (by rw [World.heap_setCell_map _ _ _ _ (show W.heap.size ≠ W.heap.size + 1 by omega), ← hB]; exact u9') 0 _
        have eo : ∀ t, W.heap.size + 1 < t → ((U1.setCell ⟨W.heap.size, 0, none⟩ (.int .i64 x)).setCell ⟨W.heap.size + 1, 0, none⟩ (.bool b)).heap[t]? = U1.heap[t]? := fun t ht => by
          rw [World.heap_setCell_map _ _ _ _ (show W.heap.size + 1 ≠ t by omega), World.heap_setCell_map _ _ _ _ (show W.heap.size ≠ t by omega)]
        have eg : W.grows ((U1.setCell ⟨W.heap.size, 0, none⟩ (.int .i64 x)).setCell ⟨W.heap.size + 1, 0, none⟩ (.bool b)) := (gW1.setCell (Nat.le_refl _) _).setCell (Nat.le_succ _) _
        refine hK1.out _ _ ⟨v' + 1, by omega, hv5, ?_, ?_, g.heap_of (by rw [eo _ (by omega)]; exact ur'), eg.trans g⟩ (g.heap_of (by rw [eo _ (by omega)]; exact uD)) (g.heap_of (by rw [eo _ (by omega)]; exact uL))
        · rw [Hmx.out, ← hx]; exact g.heap_of e8
        · rw [Hsb.out, ← hb]; exact g.heap_of e9)
      clear hM hB hX hPv
      gi_wp2
      (refine wpIn_region_tail (Fence.free_round _ _) 8 (by kernel_rfl) (by kernel_rfl) (by kernel_rfl) (by decide) ?_; simp only [List.take_succ_cons, List.take_zero, List.drop_succ_cons, List.drop_zero, List.take_nil, List.drop_nil, List.append_nil, List.nil_append, List.cons_append, Nat.reduceAdd, Nat.reduceSub]; (repeat (refine wpCalm_step (fun K hK => ?_); go_simp; first | (refine hK _ ?_; clear hK K) | (apply Exists.intro; refine ⟨fun n' x' => ?_, hK _ ?_⟩; (fail); clear hK K))); refine wpCalm_nil ?_; intro nq xq)
      obtain ⟨x, hxx⟩ : ∃ x, (if M < X then X else M) = x := ⟨_, rfl⟩
      rw [hxx]
      have Hxx : Hid (x = max M X) := Lib.hid (by rw [← hxx]; exact max_if M X)
      clear hxx
      cases B with
      | true =>
        gi_wp2
        refine KF.out x true _ Hxx.out (by simp) _ (by (repeat (first | exact World.grows.refl _ | assumption | refine World.grows.alloc ?_ _ | refine World.grows.plus ?_ _ _ | refine World.grows.drew ?_)))
      | false =>
        by_cases he : P v' = s
        · have heI : ((P v' : Nat) : Int) = (s : Int) := by rw [he]
          gi_wp2
          refine KF.out x false _ Hxx.out (by simp [he]) _ (by (repeat (first | exact World.grows.refl _ | assumption | refine World.grows.alloc ?_ _ | refine World.grows.plus ?_ _ _ | refine World.grows.drew ?_)))
        · have heI : (((P v' : Nat) : Int) != (s : Int)) = true := by simp; omega
          gi_wp2
          refine KF.out x true _ Hxx.out (by simp [he, hv3]) _ (by (repeat (first | exact World.grows.refl _ | assumption | refine World.grows.alloc ?_ _ | refine World.grows.plus ?_ _ _ | refine World.grows.drew ?_)))
    · rintro U ⟨v, hv, hj, u8, u9, urow, hgU⟩ hDf
      have hall := partsL_done P hv hj
      obtain ⟨j1, j2⟩ := Reg.jump (r := r) (c := c) H0.out (s := s) (f := k) hv (fun i h1 h2 => by rw [← hPv]; exact hall i h1 h2)
      rw [← j1] at u8
      rw [← j2] at u9
      have Hpd : Hid (r.parted s k = r.somB s k 10) := Lib.hid (r.parted_some HR.out hs hlt)
      have k8 := cell_box u8
      have k9 := cell_box u9
      have hms : Marks w.heap.size ({ target := .collected W2.heap.size, args := #[] } :: ds) U := by
        refine ⟨⟨W2.heap.size, rfl, by omega, hDf, fun d' hd he => ?_⟩, hds.out.mono hgU⟩
        have := hds.out.lt d' hd _ he
        omega
      have Hms := Lib.hid hms
      have HO := Lib.hid (hO.out.grow hgU)
      have Hg2 := Lib.hid (hg.out.trans hgU)
      have hWU := hgU.size
      have hmb : 0 ≤ r.mostR c s k 10 ∧ r.mostR c s k 10 ≤ 1099511627776 := ⟨r.mostR_nonneg c s k 10, (r.mostR_le c s k _ 10).2 ⟨by omega, fun v _ => (Hc.out _ (r.part_lt s k _)).2⟩⟩
      have hcb := HR.out.cost k hlt
      have hL1 : Hid (r.lookL c s (k + 1) = if r.parted s k = true then r.lookL c s k ++ [((k : Int), r.cost k + r.mostR c s k 10)] else r.lookL c s k) := Lib.hid rfl
      have hll := r.lookL_len c s k
      obtain ⟨M, hM⟩ : ∃ M, r.mostR c s k 10 = M := ⟨_, rfl⟩
      obtain ⟨B, hB⟩ : ∃ B, r.somB s k 10 = B := ⟨_, rfl⟩
      rw [hM] at k8 hmb hL1
      rw [hB] at k9 Hpd
      clear hall j1 j2 u8 u9 urow hgU hDf hms hj hM hB hrb2 c8 c9 hPv hcs
      cases B with
      | true =>
        have HL1 : Hid (r.lookL c s (k + 1) = r.lookL c s k ++ [((k : Int), r.cost k + M)]) := Lib.hid (by rw [hL1.out, if_pos Hpd.out])
        go_wp2_with (at_builtin; go_loud (refine wpList_append_r _ rfl _ _ _ (by rfl) (w.heap.size + 3) 115 (.agg #[.int .i64 0, .int .i64 0]) 2 16 Try.underlying143 el115 (by rfl) (by omega) _ (r.lookL c s k).length _ (by rfl) (HO.out.grow (by (repeat (first | exact World.grows.refl _ | assumption | refine World.grows.alloc ?_ _ | refine World.grows.plus ?_ _ _ | refine World.grows.drew ?_)))) _ (by rfl) 1 _ (SliceAt.src (by omega) (two_slice _ _ _ _ _ (by simp))) (two_cells _ _) (by unfold maxLen; omega) (by omega) (by simp; omega) ?_; intro v' w3 hown3 hgb))
        have ho2 := HO.out.grow (w' := U.alloc (Obj.cells #[Value.int IntKind.i64 ↑k, Value.int IntKind.i64 (r.cost k + M)] 115)) (by (repeat (first | exact World.grows.refl _ | assumption | refine World.grows.alloc ?_ _ | refine World.grows.plus ?_ _ _ | refine World.grows.drew ?_)))
        have hg3 := World.grownBy.grows hgb ho2 (W0 := W0) (Hg2.out.trans (by (repeat (first | exact World.grows.refl _ | assumption | refine World.grows.alloc ?_ _ | refine World.grows.plus ?_ _ _ | refine World.grows.drew ?_)))) (by omega)
        have hm3 := (Hms.out.mono (w' := U.alloc (Obj.cells #[Value.int IntKind.i64 ↑k, Value.int IntKind.i64 (r.cost k + M)] 115)) (by (repeat (first | exact World.grows.refl _ | assumption | refine World.grows.alloc ?_ _ | refine World.grows.plus ?_ _ _ | refine World.grows.drew ?_)))).own ho2 hgb
        refine ⟨_, rfl, rfl, ⟨k + 1, _, by omega, by simp [getL], rfl, Lib.hid (by rw [HL1.out, pcells_snoc, List.length_append]; exact hown3), Lib.hid hm3, Lib.hid hg3⟩, by simp [getL, intOf]; omega⟩
      | false =>
        have HL1 : Hid (r.lookL c s (k + 1) = r.lookL c s k) := Lib.hid (by rw [hL1.out, if_neg (by rw [Hpd.out]; simp)])
        go_wp2
        refine ⟨_, rfl, rfl, ⟨k + 1, _, by omega, by simp [getL], rfl, Lib.hid (by rw [HL1.out]; exact HO.out), Lib.hid Hms.out, Lib.hid Hg2.out⟩, by simp [getL, intOf]; omega⟩
  · have hke : k = r.nc := by omega
    subst hke
    have hll := r.lookL_len c s r.nc
    obtain ⟨n, hn⟩ : ∃ n, (r.lookL c s r.nc).length = n + 1 := ⟨(r.lookL c s r.nc).length - 1, by omega⟩
    have hL := r.lst_lookL c s r.nc
    rw [hn, Nat.add_sub_cancel] at hL
    have HL := Lib.hid hL
    clear hL
    have hsl := hO.out.pairsAt rfl
    rw [hn] at hsl
    have Hsl := Lib.hid hsl
    have wb2 := hg.out.heap_of Hb2.out
    have k2 : W.cell? ⟨w.heap.size + 1 + 1, 0, none⟩ = some (.int .i64 0) := cell_of_heap wb2 rfl
    have k3 : W.cell? ⟨w.heap.size + 1 + 1, 1, none⟩ = some (.int .i64 0) := cell_of_heap wb2 rfl
    have fz := fun i => frozen_of_heap wb2 i
    clear hsl wb2
    obtain ⟨A, hA⟩ : ∃ A, r.lookR c s r.nc = A := ⟨_, rfl⟩
    have h100 := fun W h => least_c W lv n (fstL (r.lookL c s r.nc)) (sndL (r.lookL c s r.nc)) h
    rw [HL.out, hA] at h100
    obtain ⟨A, B⟩ := A
    unfold lookV at h100
    dsimp only at h100
    have HA : Hid (Ending.returned (.agg #[.int .i64 A, .int .i64 B]) = .returned (lookV (r.lookR c s r.nc))) := Lib.hid (by rw [hA]; rfl)
    clear hA HL
    go_wp2_with (go_at_call 100; refine (h100 _ (Hsl.out.mono (by (repeat (first | exact World.grows.refl _ | assumption | refine World.grows.alloc ?_ _ | refine World.grows.plus ?_ _ _ | refine World.grows.drew ?_))))).mono ?_; rintro e W9 ⟨rfl, hg9⟩; obtain ⟨n9, x9, rfl⟩ := World.plus_of hg9)
    refine Marks.leaves (B := w.heap.size) (fun W => w.grows W ∧ W.heap[w.heap.size + 1 + 1]? = some (.cells #[.int .i64 A, .int .i64 B] 115)) (fun W D h hD hd => ⟨World.putObj_grows h.1 _ hD, ?_⟩) (fun W h => ⟨_, by simp [results, Try.results71, go_sem, cell_of_heap h.2 (i := 0) rfl, cell_of_heap h.2 (i := 1) rfl] <;> rfl, HA.out, h.1⟩) ds _ ?_ ⟨?_, ?_⟩
    · rw [World.putObj_heap_other]
      · exact h.2
      · intro he; rw [he] at h; rw [h.2] at hd; cases hd
    · exact ((hds.out.setCell).setCell).mono (by (repeat (first | exact World.grows.refl _ | assumption | refine World.grows.alloc ?_ _ | refine World.grows.plus ?_ _ _ | refine World.grows.drew ?_)))
    · exact World.grows.trans (((Hg0.out.trans hg.out).setCell (by simp; omega) _).setCell (by simp; omega) _) (World.grows_plus _ _ _)
    · exact World.grows.heap_of (World.grows_plus _ _ _) (store_of_heap (store_of_heap (hg.out.heap_of Hb2.out) 0 _) 1 _)
end Go.Proofs.Ytdminglglapnlaa

/-
  What is proved: a desk of the program's own in worlds that change: what it holds, and how it is compared, before the table of costs is filled.
-/
namespace Go.Proofs.Ytdminglglapnlaa
open Go.RowKit
attribute [local irreducible] deskA

/-- a desk made since world w0, of a register that lies in w0 -/
def DeskW (w0 W : World) (db mb : Nat) (r : Reg) (c : Nat → Int) (m : VM) : Prop :=
  w0.grows W ∧ w0.heap.size ≤ db ∧ w0.heap.size ≤ mb ∧ ∃ kb ko mc cb co cc rb ro rc, DeskAt W db mb (.slice (some ⟨kb, ko, none⟩) r.nm mc) (.slice (some ⟨cb, co, none⟩) r.nc cc) c m ∧ r.nm ≤ mc ∧ mc ≤ maxLen ∧ r.nc ≤ cc ∧ cc ≤ maxLen ∧ RegIn w0 kb ko cb co rb ro rc r
section
variable {w0 W W' : World} {db mb : Nat} {r : Reg} {c : Nat → Int} {m : VM}
theorem DeskW.deskR (h : DeskW w0 W db mb r c m) : DeskR W db mb r c m := by
  obtain ⟨hg, _, _, kb, ko, mc, cb, co, cc, rb, ro, rc, h1, h2, h3, h4, h5, h6⟩ := h
  exact ⟨kb, ko, mc, cb, co, cc, rb, ro, rc, h1, h2, h3, h4, h5, h6.mono hg⟩
theorem DeskW.mono (h : DeskW w0 W db mb r c m) (g : W.grows W') : DeskW w0 W' db mb r c m := by
  obtain ⟨hg, hd, hm, kb, ko, mc, cb, co, cc, rb, ro, rc, h1, h2⟩ := h
  exact ⟨hg.trans g, hd, hm, kb, ko, mc, cb, co, cc, rb, ro, rc, h1.mono g, h2⟩
theorem DeskW.store (h : DeskW w0 W db mb r c m) {s : Nat} (hs : s < 1024) (x : Int) : DeskW w0 (W.setCell ⟨db, 2 + s, none⟩ (.int .i64 x)) db mb r (updI c s x) m := by
  obtain ⟨hg, hd, hm, kb, ko, mc, cb, co, cc, rb, ro, rc, h1, h2⟩ := h
  exact ⟨hg.setCell hd _, hd, hm, kb, ko, mc, cb, co, cc, rb, ro, rc, h1.store hs x, h2⟩
theorem DeskW.put (h : DeskW w0 W db mb r c m) (m' : VM) : DeskW w0 (W.putObj mb m'.obj) db mb r c m' := by
  obtain ⟨hg, hd, hm, kb, ko, mc, cb, co, cc, rb, ro, rc, h1, h2⟩ := h
  exact ⟨World.putObj_grows hg _ hm, hd, hm, kb, ko, mc, cb, co, cc, rb, ro, rc, h1.put m', h2⟩
theorem DeskW.best (h : DeskW w0 W db mb r c m) : W.cell? ⟨db, 1026, none⟩ = some (.map (some mb)) := by
  obtain ⟨hg, hd, hm, kb, ko, mc, cb, co, cc, rb, ro, rc, h1, h2⟩ := h
  exact h1.best
theorem DeskW.cost (h : DeskW w0 W db mb r c m) {s : Nat} (hs : s < 1024) : W.cell? ⟨db, 2 + s, none⟩ = some (.int .i64 (c s)) := by
  obtain ⟨hg, hd, hm, kb, ko, mc, cb, co, cc, rb, ro, rc, h1, h2⟩ := h
  exact h1.cost hs
theorem DeskW.frozen (h : DeskW w0 W db mb r c m) (i : Nat) : W.frozen? ⟨db, i, none⟩ = false := by
  obtain ⟨hg, hd, hm, kb, ko, mc, cb, co, cc, rb, ro, rc, h1, h2⟩ := h
  exact h1.frozen i
theorem DeskW.map (h : DeskW w0 W db mb r c m) : W.heap[mb]? = some m.obj := by
  obtain ⟨hg, hd, hm, kb, ko, mc, cb, co, cc, rb, ro, rc, h1, h2⟩ := h
  exact h1.map
theorem DeskW.lt (h : DeskW w0 W db mb r c m) : mb < W.heap.size := World.lt_of_block h.map
theorem DeskW.ltd (h : DeskW w0 W db mb r c m) : db < W.heap.size := by
  obtain ⟨hg, hd, hm, kb, ko, mc, cb, co, cc, rb, ro, rc, h1, h2⟩ := h
  exact World.lt_of_block h1.desk
theorem DeskW.ne (h : DeskW w0 W db mb r c m) : db ≠ mb := by
  obtain ⟨hg, hd, hm, kb, ko, mc, cb, co, cc, rb, ro, rc, h1, h2⟩ := h
  exact h1.ne
theorem DeskW.ge (h : DeskW w0 W db mb r c m) : w0.heap.size ≤ db ∧ w0.heap.size ≤ mb ∧ w0.grows W := ⟨h.2.1, h.2.2.1, h.1⟩
theorem DeskW.congr (h : DeskW w0 W db mb r c m) {c' : Nat → Int} (e : ∀ s, c s = c' s) : DeskW w0 W db mb r c' m := by
  have : c = c' := funext e
  rw [← this]; exact h
end
theorem RegOk.deskW {w0 : World} {mv cv : Value} {r : Reg} (h : RegOk w0 (.agg #[mv, cv]) r) {W : World} {db mb : Nat} (hD : DeskAt W db mb mv cv (fun _ => 0) VM.empty) (h1 : w0.heap.size ≤ db) (h2 : w0.heap.size ≤ mb) (g : w0.grows W) : DeskW w0 W db mb r (fun _ => 0) VM.empty := by
  obtain ⟨kb, ko, mc, cb, co, cc, rb, ro, rc, e, k1, k2, k3, k4, k5⟩ := h
  simp only [Value.agg.injEq, Array.mk.injEq, List.cons.injEq, and_true] at e
  obtain ⟨rfl, rfl⟩ := e
  exact ⟨g, h1, h2, kb, ko, mc, cb, co, cc, rb, ro, rc, hD, k1, k2, k3, k4, k5⟩

/-! ### the map of looks -/
theorem key103 : Try.prog.underlying 106 = some (.int .i64) := Try.underlying106
theorem zero115 (w : World) : (zeroValue 115).run Try.prog w = .ok (lookV (0, 0)) w := Try.zeroValue115 w
theorem up103 (m : VM) (b : Nat) (k : Nat) (v : Value) : ∀ W : World, W.heap[b]? = some m.obj → (Instr.mapUpdate 103 (.map (some b)) (.int .i64 (k : Nat)) v).run Try.prog W = .ok () (W.putObj b (m.set k v).obj) := fun W h =>
  run_mapUpdate_vm key103 Try.underlying103 m b W h k v
theorem lk103 (m : VM) (b : Nat) (k : Nat) : ∀ W : World, W.heap[b]? = some m.obj → (Instr.lookup 103 (.map (some b)) (.int .i64 (k : Nat)) false).run Try.prog W = .ok ((m.get k).getD (lookV (0, 0))) W := fun W h =>
  run_lookup_vm key103 Try.underlying103 zero115 m b W h k
theorem lko103 (m : VM) (b : Nat) (k : Nat) : ∀ W : World, W.heap[b]? = some m.obj → (Instr.lookup 103 (.map (some b)) (.int .i64 (k : Nat)) true).run Try.prog W = .ok (.tuple #[(m.get k).getD (lookV (0, 0)), .bool (m.get k).isSome]) W := fun W h =>
  run_lookup_ok_vm key103 Try.underlying103 zero115 m b W h k
theorem del103 (m : VM) (b : Nat) (k : Nat) (T2 ty : TypeId) : ∀ W : World, W.heap[b]? = some m.obj → (Builtin.delete_ #[103, T2] ty #[.map (some b), .int .i64 (k : Nat)]).run Try.prog W = .ok (.tuple #[]) (W.putObj b (m.del k).obj) := fun W h =>
  run_delete_vm key103 Try.underlying103 m b W ty T2 h k
theorem clr103 (m : VM) (b : Nat) (ty : TypeId) : ∀ W : World, W.heap[b]? = some m.obj → (Builtin.clear_ #[103] ty #[.map (some b)]).run Try.prog W = .ok (.tuple #[]) (W.putObj b (VM.obj ⟨[], m.clock⟩)) := fun W h =>
  run_clear_vm Try.underlying103 m b W ty h
theorem eqI2 (d : Nat) (a b : Int) (w : World) : (Op.equalIn (d + 1) 2 (.int .i64 a) (.int .i64 b)).run Try.prog w = .ok (decide (a = b)) w := by
  simp [Op.equalIn, run_underlying Try.underlying2, Result.andThen]; rfl
theorem eqI3 (d : Nat) (a b : Int) (w : World) : (Op.equalIn (d + 1) 3 (.int .i64 a) (.int .i64 b)).run Try.prog w = .ok (decide (a = b)) w := by
  simp [Op.equalIn, run_underlying Try.underlying3, Result.andThen]; rfl
theorem eq115 (a b c d : Int) (w : World) : (Op.equalIn 10000 115 (.agg #[.int .i64 a, .int .i64 b]) (.agg #[.int .i64 c, .int .i64 d])).run Try.prog w = .ok (decide (a = c) && decide (b = d)) w := by
  show (Op.equalIn (9998 + 1 + 1) 115 _ _).run Try.prog w = _
  rw [Op.equalIn]
  simp [run_underlying Try.underlying115, Result.andThen, part, isAgg, run_underlying Try.underlying2, run_underlying Try.underlying3, eqI2, eqI3]
  by_cases h1 : a = c <;> by_cases h2 : b = d <;> simp [h1, h2, run_underlying Try.underlying2, Result.andThen, eqI2]

theorem fld115 (a b : Int) (w : World) : (Instr.field 115 (.agg #[.int .i64 a, .int .i64 b]) 1).run Try.prog w = .ok (.int .i64 b) w := by
  simp [Instr.field, run_underlying Try.underlying115, Result.andThen, go_sem, asAgg]

/-! ### whole rows -/
theorem part2 (n : Nat) (f : Nat → Int) {i : Nat} (h : i < n) (w : World) : (part 2 (rowI n f) (i * 1)).run Try.prog w = .ok (.int .i64 (f i)) w :=
  run_part_plain w (by kernel_rfl) (by rw [Nat.mul_one]; exact rowI_get n f i h)
theorem eqRow (d : Nat) (n : Nat) (f g : Nat → Int) (w : World) : ∀ is : List Nat, (∀ i ∈ is, i < n) → (Op.eqItems (d + 1) 2 1 (rowI n f) (rowI n g) is).run Try.prog w = .ok (is.all fun i => decide (f i = g i)) w
  | [], _ => by simp [Op.eqItems]
  | i :: is, h => by
    have hi := h i (by simp)
    have ih := eqRow d n f g w is (fun j hj => h j (by simp [hj]))
    simp only [Op.eqItems, Sem.run_bind, part2 n f hi, part2 n g hi, eqI2, Result.andThen_ok, List.all_cons]
    by_cases he : f i = g i
    · simp [he, ih]
    · simp [he]
theorem cells2 : Try.prog.cellsOf 2 = 1 := by kernel_rfl
theorem info2 : ∃ i, Try.prog.info? 2 = some i := by
  cases h : Try.prog.info? 2 with
  | some i => exact ⟨i, rfl⟩
  | none => have := cells2; simp [Program.cellsOf, h] at this
theorem eq102 (f g : Nat → Int) (w : World) : (Op.equalIn 10000 102 (.agg (rowI 1024 f)) (.agg (rowI 1024 g))).run Try.prog w = .ok ((List.range 1024).all fun i => decide (f i = g i)) w := by
  obtain ⟨i, hi⟩ := info2
  have h := run_equalIn_array (P := Try.prog) w 9999 (rowI 1024 f) (rowI 1024 g) Try.underlying102 hi
  rw [cells2, eqRow 9998 1024 f g w (List.range 1024) (fun i hi => List.mem_range.1 hi)] at h
  exact h
theorem rowI_list {n : Nat} {f : Nat → Int} {j : Nat} {v : Value} (h : (rowI n f).toList[j]? = some v) : j < n ∧ v = .int .i64 (f j) := by
  rw [Array.getElem?_toList] at h
  rcases Nat.lt_or_ge j n with hj | hj
  · rw [rowI_get n f j hj] at h
    exact ⟨hj, (Option.some.inj h).symm⟩
  · rw [Array.getElem?_eq_none (by rw [rowI_size]; exact hj)] at h
    cases h
theorem info102 (f : Nat → Int) : (Try.prog.info? 102).map (·.size) = some (rowI 1024 f).toList.length := by
  rw [s102, Array.length_toList, rowI_size]
theorem load_cost {w0 W : World} {db mb : Nat} {r : Reg} {c : Nat → Int} {m : VM} (h : DeskW w0 W db mb r c m) : (Instr.loadAt 102 (.pointer (some ⟨db, 2, none⟩))).run Try.prog W = .ok (.agg (rowI 1024 c)) W := by
  have := run_loadAt_mid (P := Try.prog) W db 2 102 (rowI 1024 c).toList _ (fun j v hv => by obtain ⟨h1, rfl⟩ := rowI_list hv; exact h.cost h1) Try.underlying102 rfl (info102 c)
  rwa [Array.toArray_toList] at this
theorem load_none {W : World} {b : Nat} (h : W.heap[b]? = some (.cells Try.zeroCells102 102)) : (Instr.loadAt 102 (.pointer (some ⟨b, 0, none⟩))).run Try.prog W = .ok (.agg (rowI 1024 fun _ => 0)) W := by
  have e : Try.zeroCells102 = rowI 1024 (fun _ => 0) := by
    obtain ⟨it, h1, h2, h3⟩ := zero102
    rw [zc_of (Try.zeroValue102 W) h1 h2, rowI_zero]
  rw [e] at h
  have := run_loadAt_mid (P := Try.prog) W b 0 102 (rowI 1024 fun _ => 0).toList _ (fun j v hv => by obtain ⟨h1, rfl⟩ := rowI_list hv; rw [Nat.zero_add]; exact cell_of_heap h (rowI_get _ _ _ h1)) Try.underlying102 rfl (info102 _)
  rwa [Array.toArray_toList] at this
end Go.Proofs.Ytdminglglapnlaa

/-
  What is proved: single operations in a walk, by what running them does, with the world behind them as the prover wishes: an entry of a map is written, or deleted; a map or a slice is cleared.
-/
namespace Go
open Go.RowKit
section
variable {P : Program} {w w2 : World} {ops : Array Oper} {rest : List Oper} {o : Oper} {a : Act} {Q : Exit → Act → World → Prop}
theorem wpList_up (hgd : o.guard = none) (T : TypeId) (mo ko vo : Operand) (ho : o.op = .mapUpdate T mo ko vo) (b kv v : Value) (hm : a.eval mo = b) (hk : a.eval ko = kv) (hv : a.eval vo = v)
    (hr : (Instr.mapUpdate T b kv v).run P w = .ok () w2) (h : wpList P ops Q rest (a.put o.dst undef) w2) : wpList P ops Q (o :: rest) a w := by
  refine wpList_plain hgd fun K hK => ?_
  unfold Oper.wp execOp
  simp only [ho, hm, hk, hv, Sem.run_bind, hr, Result.andThen_ok, Sem.run_pure]
  exact hK _ _ h
theorem wpList_del (hgd : o.guard = none) (s k : Operand) (t t2 : TypeId)
    (ho : o.op = .call { callee := .builtin .delete, args := #[s, k], argTypes := #[t, t2] }) (x y : Value) (hs : a.eval s = x) (hk : a.eval k = y)
    (hr : (Builtin.delete_ #[t, t2] o.type #[x, y]).run P w = .ok (.tuple #[]) w2) (h : wpList P ops Q rest (a.put o.dst (.tuple #[])) w2) : wpList P ops Q (o :: rest) a w := by
  refine wpList_plain hgd fun K hK => ?_
  unfold Oper.wp execOp
  simp only [ho, resolve, invoke, builtin, Sem.run_bind, Sem.run_pure, Result.andThen_ok, List.map_toArray, List.map_cons, List.map_nil, hs, hk, hr]
  exact hK _ _ h
theorem wpList_clr (hgd : o.guard = none) (s : Operand) (t : TypeId)
    (ho : o.op = .call { callee := .builtin .clear, args := #[s], argTypes := #[t] }) (x : Value) (hs : a.eval s = x)
    (hr : (Builtin.clear_ #[t] o.type #[x]).run P w = .ok (.tuple #[]) w2) (h : wpList P ops Q rest (a.put o.dst (.tuple #[])) w2) : wpList P ops Q (o :: rest) a w := by
  refine wpList_plain hgd fun K hK => ?_
  unfold Oper.wp execOp
  simp only [ho, resolve, invoke, builtin, Sem.run_bind, Sem.run_pure, Result.andThen_ok, List.map_toArray, List.map_cons, List.map_nil, hs, hr]
  exact hK _ _ h
theorem wpList_store (hgd : o.guard = none) (T : TypeId) (po vo : Operand) (ho : o.op = .store T po vo) (p v : Value) (hp : a.eval po = p) (hv : a.eval vo = v)
    (hr : (Instr.storeAt T p v).run P w = .ok () w2) (h : wpList P ops Q rest (a.put o.dst undef) w2) : wpList P ops Q (o :: rest) a w := by
  refine wpList_plain hgd fun K hK => ?_
  unfold Oper.wp execOp
  simp only [ho, hp, hv, Sem.run_bind, hr, Result.andThen_ok, Sem.run_pure]
  exact hK _ _ h
theorem wpCalm_go {w0 : World} {Qc : Act → Prop} {r : List Oper} (hgd : o.guard = none) (v : Value) (h1 : ∀ n x, o.calmAt P a (w0.plus n x) v) (h : wpCalm P ops w0 Qc r (a.put o.dst v)) : wpCalm P ops w0 Qc (o :: r) a :=
  wpCalm_step fun K hK => by
    rw [if_pos (by simp [Region.wanted, hgd])]
    exact ⟨v, h1, hK _ h⟩
theorem calmAt_load {v : Value} (T : TypeId) (po : Operand) (ho : o.op = .load T po) (p : Value) (hp : a.eval po = p) (hr : (Instr.loadAt T p).run P w = .ok v w) : o.calmAt P a w v := by
  unfold Oper.calmAt execOp
  simp only [ho, hp, Sem.run_bind, hr, Result.andThen_ok, Sem.run_pure]
  exact ⟨rfl, rfl⟩
end
end Go

/-
  What is proved: the table of costs is filled (95), in the program.
-/
namespace Go.Proofs.Ytdminglglapnlaa
open Go.RowKit
attribute [local irreducible] Go.wpCalm deskA rowI

/-- the looks that are kept when the sets below k are done -/
def BestM (r : Reg) (k : Nat) (m : VM) : Prop := m.Ok ∧ ∀ x, m.get x = if x < k ∧ r.mixed x = true then some (lookV (r.lookR r.cst x r.nc)) else none

set_option maxRecDepth 100000 in
set_option maxHeartbeats 4000000 in
theorem fill_c (w0 w : World) (db mb : Nat) (r : Reg) (h : DeskW w0 w db mb r (fun _ => 0) VM.empty) (hr : r.Ok) (ht : r.NoTwins) :
    Calls Try.prog 95 #[.pointer (some ⟨db, 0, none⟩)] w fun e w' => ∃ v m, e = .returned v ∧ DeskW w0 w' db mb r (r.cstTo (2 ^ r.nm)) m ∧ BestM r (2 ^ r.nm) m := by
  have hnm : 2 ^ r.nm ≤ 2 ^ 10 := Nat.pow_le_pow_right (by omega) hr.m10
  have hpos : 0 < 2 ^ r.nm := Nat.two_pow_pos _
  have h63 := fun W (g : w.grows W) => all_c W db mb r _ _ (h.mono g).deskR hr
  have H := Lib.hid h
  have Hr := Lib.hid hr
  have Ht := Lib.hid ht
  obtain ⟨N, hN⟩ : ∃ N, 2 ^ r.nm = N := ⟨_, rfl⟩
  have HN := Lib.hid hN
  rw [hN] at hnm hpos h63
  clear h hr ht hN
  go_enter Try.func95, Try.ntmps95
  go_wp2_with (go_at_call 63; refine (h63 _ (by (repeat (first | exact World.grows.refl _ | assumption | refine World.grows.alloc ?_ _ | refine World.grows.plus ?_ _ _ | refine World.grows.drew ?_)))).mono ?_; rintro e W1 ⟨rfl, hg1⟩)
  have hN1 : ((N - 1 : Nat) : Int) + 1 = N := by omega
  rw [hN1]
  clear hN1 h63
  have hlt0 := H.out.lt
  have hn1 : W1.heap[w.heap.size]? = some (.cells Try.zeroCells102 102) := hg1.heap_of (World.heap_at _ _ _ rfl)
  have H1 := Lib.hid (H.out.mono (World.grows.trans (by (repeat (first | exact World.grows.refl _ | assumption | refine World.grows.alloc ?_ _ | refine World.grows.plus ?_ _ _ | refine World.grows.drew ?_))) hg1))
  have Hn1 := Lib.hid hn1
  have hdb := H.out.ltd
  clear hg1 hn1 H
  go_loopw [7] (fun i wr => ∃ (k : Nat) (m : VM), k ≤ N ∧ i = .int .i64 k ∧ Hid (DeskW w0 wr db mb r (r.cstTo k) m) ∧ Hid (BestM r k m) ∧ Hid (wr.heap[w.heap.size]? = some (.cells Try.zeroCells102 102))) (fun i _ => N - (intOf i).toNat)
  case atStart => exact ⟨0, VM.empty, by omega, rfl, Lib.hid (H1.out.congr fun s => by simp [Reg.cstTo]), Lib.hid ⟨VM.Ok.empty, fun x => by rw [VM.get_empty]; simp⟩, Hn1⟩
  case round =>
    obtain ⟨k, m, hk, rfl, HD, HB, HZ⟩ := hrel
    by_cases hlt : k < N
    · have kb := HD.out.best
      have hkn : k < 2 ^ r.nm := by rw [HN.out]; exact hlt
      go_wp2
      (refine wp_region_tail 6 (by kernel_rfl) (by kernel_rfl) (by decide) ?_; simp only [List.take_succ_cons, List.take_zero, List.drop_succ_cons, List.drop_zero, List.take_nil, List.drop_nil, List.append_nil, List.nil_append, List.cons_append, Nat.reduceAdd, Nat.reduceSub]; (repeat (refine wpCalm_step (fun K hK => ?_); go_simp; first | (refine hK _ ?_; clear hK K) | (apply Exists.intro; refine ⟨fun n' x' => ?_, hK _ ?_⟩; (exact nothing_c _); clear hK K))); refine wpCalm_nil ?_; intro nq xq)
      refine wpList_up rfl _ _ _ _ rfl (.map (some mb)) (.int .i64 (k : Nat)) (lookV (-1, 1099511627776)) (by rfl) (by rfl) (by rfl) (up103 m mb k _ _ (World.grows.heap_of (World.grows_plus _ _ _) HD.out.map)) ?_
      have HD1 : Hid (DeskW w0 ((wr.plus nq xq).putObj mb (m.set k (lookV (-1, 1099511627776))).obj) db mb r (r.cstTo k) (m.set k (lookV (-1, 1099511627776)))) := Lib.hid ((HD.out.mono (World.grows_plus _ _ _)).put _)
      have HZ1 : Hid (((wr.plus nq xq).putObj mb (m.set k (lookV (-1, 1099511627776))).obj).heap[w.heap.size]? = some (.cells Try.zeroCells102 102)) := Lib.hid (by rw [World.putObj_heap_other (by omega)]; exact World.grows.heap_of (World.grows_plus _ _ _) HZ.out)
      obtain ⟨V1, hV1⟩ : ∃ V1, V1 = (wr.plus nq xq).putObj mb (m.set k (lookV (-1, 1099511627776))).obj := ⟨_, rfl⟩
      rw [← hV1] at HD1 HZ1 ⊢
      obtain ⟨m1, hm1⟩ : ∃ m1, m1 = m.set k (lookV (-1, 1099511627776)) := ⟨_, rfl⟩
      rw [← hm1] at HD1
      have Hm1 : Hid (m1.Ok ∧ ∀ x, m1.get x = if x = k then some (lookV (-1, 1099511627776)) else m.get x) := Lib.hid (by rw [hm1]; exact ⟨HB.out.1.set _ _, fun x => VM.get_set _ _ _ _⟩)
      clear hV1 hm1 kb HD HZ
      have kb := HD1.out.best
      have h70 := fun W (g : V1.grows W) => alike_c W db mb r _ _ (HD1.out.mono g).deskR Hr.out k hkn
      cases hmx : r.mixed k with
      | false =>
        rw [hmx] at h70
        have Hmx := Lib.hid hmx
        clear hmx
        go_wp2_with (go_at_call 70; refine (h70 _ (by (repeat (first | exact World.grows.refl _ | assumption | refine World.grows.alloc ?_ _ | refine World.grows.plus ?_ _ _ | refine World.grows.drew ?_)))).mono ?_; rintro e V2 ⟨rfl, hg2⟩)
        have HD2 := Lib.hid (HD1.out.mono hg2)
        have kb2 := HD2.out.best
        have hl8 : ∀ W : World, W.heap[mb]? = some m1.obj → (Instr.lookup 103 (.map (some mb)) (.int .i64 (k : Nat)) false).run Try.prog W = .ok (.agg #[.int .i64 (-1), .int .i64 1099511627776]) W := fun W h => by
          rw [lk103 m1 mb k W h, Hm1.out.2 k, if_pos rfl]; rfl
        have he8 : ∀ W : World, (Op.equalIn 10000 115 (.agg #[.int .i64 (-1), .int .i64 1099511627776]) (.agg #[.int .i64 (-1), .int .i64 1099511627776])).run Try.prog W = .ok true W := fun W => by rw [eq115]; simp
        have km2 := HD2.out.map
        obtain ⟨O, hO⟩ : ∃ O, m1.obj = O := ⟨_, rfl⟩
        rw [hO] at hl8 km2
        have HZ2 : Hid (V2.heap[w.heap.size]? = some (.cells Try.zeroCells102 102)) := Lib.hid (hg2.heap_of HZ1.out)
        clear kb h70 hg2
        go_wp2
        (refine wp_region_calm (by kernel_rfl) (by kernel_rfl) ?_; (repeat (refine wpCalm_step (fun K hK => ?_); go_simp; first | (refine hK _ ?_; clear hK K) | (apply Exists.intro; refine ⟨fun n' x' => ?_, hK _ ?_⟩; (exact nothing_c _); clear hK K))); refine wpCalm_nil ?_; intro nq xq)
        clear hl8 he8
        rw [← hO] at km2
        go_upto_region 9 with fail
        iterate 16 go_step
        refine wpList_del rfl _ _ _ _ (by rfl) (.map (some mb)) (.int .i64 (k : Nat)) (by rfl) (by rfl) (del103 m1 mb k _ _ _ (World.grows.heap_of (World.grows_plus _ _ _) km2)) ?_
        go_wp2
        go_roundw
        case rel =>
          refine ⟨k + 1, m1.del k, by omega, by go_num, Lib.hid (((HD2.out.put (m1.del k)).mono (World.grows_plus _ _ _)).congr fun s => ?_), Lib.hid ⟨Hm1.out.1.del k, fun x => ?_⟩, Lib.hid (World.grows.heap_of (World.grows_plus _ _ _) (by rw [World.putObj_heap_other (by omega)]; exact HZ2.out))⟩
          · unfold Reg.cstTo
            by_cases h1 : s < k
            · rw [if_pos h1, if_pos (by omega)]
            · by_cases h2 : s = k
              · subst h2; rw [if_neg h1, if_pos (by omega), r.cst_not hkn Hmx.out]
              · rw [if_neg h1, if_neg (by omega)]
          · rw [VM.get_del Hm1.out.1, Hm1.out.2, HB.out.2]
            by_cases h2 : x = k
            · subst h2; rw [if_pos rfl, if_neg (by rw [Hmx.out]; simp)]
            · rw [if_neg h2, if_neg h2]
              have h3 : (x < k + 1 ∧ r.mixed x = true) ↔ (x < k ∧ r.mixed x = true) := by constructor <;> rintro ⟨h4, h5⟩ <;> exact ⟨by omega, h5⟩
              by_cases h4 : x < k ∧ r.mixed x = true
              · rw [if_pos h4, if_pos (h3.2 h4)]
              · rw [if_neg h4, if_neg (fun h5 => h4 (h3.1 h5))]
        case measure => simp [intOf]; omega
      | true =>
        rw [hmx] at h70
        have Hmx := Lib.hid hmx
        clear hmx
        go_wp2_with (go_at_call 70; refine (h70 _ (by (repeat (first | exact World.grows.refl _ | assumption | refine World.grows.alloc ?_ _ | refine World.grows.plus ?_ _ _ | refine World.grows.drew ?_)))).mono ?_; rintro e V2 ⟨rfl, hg2⟩)
        have HD2 := Lib.hid (HD1.out.mono hg2)
        have kb2 := HD2.out.best
        have HZ2 : Hid (V2.heap[w.heap.size]? = some (.cells Try.zeroCells102 102)) := Lib.hid (hg2.heap_of HZ1.out)
        obtain ⟨f, hf, hp, hlk, hcs⟩ := Reg.look_some Hr.out Ht.out hkn Hmx.out
        have hcb := Reg.cst_bd Hr.out Ht.out hkn
        have h71 := fun W (g : V2.grows W) => looks_c W db mb r (r.cstTo k) m1 (HD2.out.mono g).deskR Hr.out k hkn (Reg.cstTo_bd Hr.out Ht.out k) (Reg.cstTo_zero k)
        rw [Reg.cstTo_look hkn, hlk] at h71
        have HL : Hid (r.lookR r.cst k r.nc = ((f : Int), r.cst k)) := Lib.hid hlk
        obtain ⟨c, hc⟩ : ∃ c, r.cst k = c := ⟨_, rfl⟩
        rw [hc] at h71 HL hcb
        have Hc := Lib.hid hc
        unfold lookV at h71
        dsimp only at h71
        clear kb h70 hg2 hlk hcs hc hp
        go_wp2
        (refine wp_region_tail 8 (by kernel_rfl) (by kernel_rfl) (by decide) ?_; simp only [List.take_succ_cons, List.take_zero, List.drop_succ_cons, List.drop_zero, List.take_nil, List.drop_nil, List.append_nil, List.nil_append, List.cons_append, Nat.reduceAdd, Nat.reduceSub]; (repeat (refine wpCalm_step (fun K hK => ?_); go_simp; first | (refine hK _ ?_; clear hK K) | (apply Exists.intro; refine ⟨fun n' x' => ?_, hK _ ?_⟩; (exact h71 _ (by (repeat (first | exact World.grows.refl _ | assumption | refine World.grows.alloc ?_ _ | refine World.grows.plus ?_ _ _ | refine World.grows.drew ?_)))); clear hK K))); refine wpCalm_nil ?_; intro nq xq)
        clear h71
        refine wpList_up rfl _ _ _ _ rfl (.map (some mb)) (.int .i64 (k : Nat)) (lookV ((f : Int), c)) (by rfl) (by rfl) (by rfl) (up103 m1 mb k _ _ (World.grows.heap_of (World.grows_plus _ _ _) HD2.out.map)) ?_
        have HD3 : Hid (DeskW w0 ((V2.plus nq xq).putObj mb (m1.set k (lookV ((f : Int), c))).obj) db mb r (r.cstTo k) (m1.set k (lookV ((f : Int), c)))) := Lib.hid ((HD2.out.mono (World.grows_plus _ _ _)).put _)
        have HZ3 : Hid (((V2.plus nq xq).putObj mb (m1.set k (lookV ((f : Int), c))).obj).heap[w.heap.size]? = some (.cells Try.zeroCells102 102)) := Lib.hid (by rw [World.putObj_heap_other (by omega)]; exact World.grows.heap_of (World.grows_plus _ _ _) HZ2.out)
        obtain ⟨V3, hV3⟩ : ∃ V3, V3 = (V2.plus nq xq).putObj mb (m1.set k (lookV ((f : Int), c))).obj := ⟨_, rfl⟩
        rw [← hV3] at HD3 HZ3 ⊢
        obtain ⟨m2, hm2⟩ : ∃ m2, m2 = m1.set k (lookV ((f : Int), c)) := ⟨_, rfl⟩
        rw [← hm2] at HD3
        have Hm2 : Hid (m2.Ok ∧ ∀ x, m2.get x = if x = k then some (lookV ((f : Int), c)) else m.get x) := Lib.hid (by
          rw [hm2]
          refine ⟨Hm1.out.1.set _ _, fun x => ?_⟩
          rw [VM.get_set, Hm1.out.2]
          by_cases hx : x = k
          · rw [if_pos hx, if_pos hx]
          · rw [if_neg hx, if_neg hx, if_neg hx])
        clear hV3 hm2 kb2 HD2 HZ2 HD1 HZ1 Hm1
        have kb3 := HD3.out.best
        have km3 := HD3.out.map
        have kc3 := HD3.out.cost (show k < 1024 by omega)
        have kf3 := HD3.out.frozen
        have hk10 : (k : Int) < 1024 := by omega
        have hl7 : ∀ W : World, W.heap[mb]? = some m2.obj → (Instr.lookup 103 (.map (some mb)) (.int .i64 (k : Nat)) false).run Try.prog W = .ok (.agg #[.int .i64 (f : Int), .int .i64 c]) W := fun W h => by
          rw [lk103 m2 mb k W h, Hm2.out.2 k, if_pos rfl]; rfl
        have he7 : ∀ W : World, (Op.equalIn 10000 115 (.agg #[.int .i64 (f : Int), .int .i64 c]) (.agg #[.int .i64 (-1), .int .i64 1099511627776])).run Try.prog W = .ok false W := fun W => by
          have : ¬ ((f : Int) = -1) := by omega
          rw [eq115]; simp [this]
        have hf7 := fun W => fld115 (f : Int) c W
        obtain ⟨O, hO⟩ : ∃ O, m2.obj = O := ⟨_, rfl⟩
        rw [hO] at hl7 km3
        go_wp2
        (refine wp_region_tail 12 (by kernel_rfl) (by kernel_rfl) (by decide) ?_; simp only [List.take_succ_cons, List.take_zero, List.drop_succ_cons, List.drop_zero, List.take_nil, List.drop_nil, List.append_nil, List.nil_append, List.cons_append, Nat.reduceAdd, Nat.reduceSub]; (repeat (refine wpCalm_step (fun K hK => ?_); go_simp; first | (refine hK _ ?_; clear hK K) | (apply Exists.intro; refine ⟨fun n' x' => ?_, hK _ ?_⟩; (fail); clear hK K))); refine wpCalm_nil ?_; intro nq xq)
        go_upto_region 8 with fail
        have hD4 := (HD3.out.store (show k < 1024 by omega) c).mono (World.grows_plus _ nq (V3.setIn nq xq { block := db, off := 2 + k } (Value.int IntKind.i64 c)))
        have hZ4 : ((V3.setCell { block := db, off := 2 + k } (Value.int IntKind.i64 c)).plus nq (V3.setIn nq xq { block := db, off := 2 + k } (Value.int IntKind.i64 c))).heap[w.heap.size]? = some (.cells Try.zeroCells102 102) :=
          World.grows.heap_of (World.grows_plus _ _ _) (by rw [World.heap_setCell_map _ _ _ _ (show db ≠ w.heap.size by omega)]; exact HZ3.out)
        obtain ⟨V4, hV4⟩ : ∃ V4, V4 = (V3.setCell { block := db, off := 2 + k } (Value.int IntKind.i64 c)).plus nq (V3.setIn nq xq { block := db, off := 2 + k } (Value.int IntKind.i64 c)) := ⟨_, rfl⟩
        rw [← hV4] at hD4 hZ4 ⊢
        have HD4 : Hid (DeskW w0 V4 db mb r (r.cstTo (k + 1)) m2) := Lib.hid (hD4.congr fun s => by
          unfold updI Reg.cstTo
          by_cases h1 : s = k
          · subst h1; rw [if_pos rfl, if_pos (by omega), Hc.out]
          · rw [if_neg h1]
            by_cases h2 : s < k
            · rw [if_pos h2, if_pos (by omega)]
            · rw [if_neg h2, if_neg (by omega)])
        have HZ4 := Lib.hid hZ4
        clear hV4 hD4 hZ4 kb3 kc3 kf3 km3 HZ3 HD3 hf7
        have kb4 := HD4.out.best
        have km4 := HD4.out.map
        rw [hO] at km4
        go_wp2
        (refine wp_region_calm (by kernel_rfl) (by kernel_rfl) ?_; (repeat (refine wpCalm_step (fun K hK => ?_); go_simp; first | (refine hK _ ?_; clear hK K) | (apply Exists.intro; refine ⟨fun n' x' => ?_, hK _ ?_⟩; (exact nothing_c _); clear hK K))); refine wpCalm_nil ?_; intro nq xq)
        clear hl7 he7
        go_wp2
        go_roundw
        case rel =>
          refine ⟨k + 1, m2, by omega, by go_num, Lib.hid (HD4.out.mono (by (repeat (first | exact World.grows.refl _ | assumption | refine World.grows.alloc ?_ _ | refine World.grows.plus ?_ _ _ | refine World.grows.drew ?_)))), Lib.hid ⟨Hm2.out.1, fun x => ?_⟩, Lib.hid (World.grows.heap_of (by (repeat (first | exact World.grows.refl _ | assumption | refine World.grows.alloc ?_ _ | refine World.grows.plus ?_ _ _ | refine World.grows.drew ?_))) HZ4.out)⟩
          rw [Hm2.out.2, HB.out.2]
          by_cases h2 : x = k
          · subst h2; rw [if_pos rfl, if_pos ⟨by omega, Hmx.out⟩, HL.out]
          · rw [if_neg h2]
            have h3 : (x < k + 1 ∧ r.mixed x = true) ↔ (x < k ∧ r.mixed x = true) := by constructor <;> rintro ⟨h4, h5⟩ <;> exact ⟨by omega, h5⟩
            by_cases h4 : x < k ∧ r.mixed x = true
            · rw [if_pos h4, if_pos (h3.2 h4)]
            · rw [if_neg h4, if_neg (fun h5 => h4 (h3.1 h5))]
        case measure => simp [intOf]; omega
    · have hke : k = N := by omega
      subst hke
      have hla := fun n x => load_cost (HD.out.mono (World.grows_plus wr n x))
      have hlb := fun n x => load_none (World.grows.heap_of (World.grows_plus wr n x) HZ.out)
      have hle := fun W => eq102 (r.cstTo k) (fun _ => 0) W
      obtain ⟨q, hq⟩ : ∃ q, ((List.range 1024).all fun i => decide (r.cstTo k i = 0)) = q := ⟨_, rfl⟩
      simp only [hq] at hle
      have kb := HD.out.best
      obtain ⟨A, hA⟩ : ∃ A, rowI 1024 (r.cstTo k) = A := ⟨_, rfl⟩
      obtain ⟨B, hB⟩ : ∃ B, rowI 1024 (fun _ => 0) = B := ⟨_, rfl⟩
      rw [hA, hB] at hle
      simp only [hA] at hla
      simp only [hB] at hlb
      have Hq := Lib.hid hq
      have Hla := Lib.hid hla
      have Hlb := Lib.hid hlb
      clear hA hB hq hla hlb
      cases q with
      | false =>
        go_wp2
        refine wp_region_calm (by kernel_rfl) (by kernel_rfl) ?_
        iterate 3 (refine wpCalm_step (fun K hK => ?_); go_simp; refine hK _ ?_; clear hK K)
        refine wpCalm_go rfl (.agg A) (fun n x => calmAt_load 102 _ (by rfl) (.pointer (some ⟨db, 2, none⟩)) (by rfl) (Hla.out n x)) ?_
        refine wpCalm_go rfl (.agg B) (fun n x => calmAt_load 102 _ (by rfl) (.pointer (some ⟨w.heap.size, 0, none⟩)) (by rfl) (Hlb.out n x)) ?_
        (refine wpCalm_step (fun K hK => ?_); go_simp; refine hK _ ?_; clear hK K)
        refine wpCalm_nil ?_
        intro nq xq
        clear hle
        go_wp2
        go_end0
        exact ⟨_, m, rfl, by rw [HN.out]; exact HD.out.mono (by (repeat (first | exact World.grows.refl _ | assumption | refine World.grows.alloc ?_ _ | refine World.grows.plus ?_ _ _ | refine World.grows.drew ?_))), by rw [HN.out]; exact HB.out⟩
      | true =>
        go_wp2
        refine wp_region_calm (by kernel_rfl) (by kernel_rfl) ?_
        iterate 3 (refine wpCalm_step (fun K hK => ?_); go_simp; refine hK _ ?_; clear hK K)
        refine wpCalm_go rfl (.agg A) (fun n x => calmAt_load 102 _ (by rfl) (.pointer (some ⟨db, 2, none⟩)) (by rfl) (Hla.out n x)) ?_
        refine wpCalm_go rfl (.agg B) (fun n x => calmAt_load 102 _ (by rfl) (.pointer (some ⟨w.heap.size, 0, none⟩)) (by rfl) (Hlb.out n x)) ?_
        (refine wpCalm_step (fun K hK => ?_); go_simp; refine hK _ ?_; clear hK K)
        refine wpCalm_nil ?_
        intro nq xq
        clear hle
        go_upto_region 12 with fail
        iterate 13 go_step
        refine wpList_clr rfl _ _ (by rfl) (.map (some mb)) (by rfl) (clr103 m mb _ _ (World.grows.heap_of (World.grows_plus _ _ _) HD.out.map)) ?_
        go_wp2
        go_end0
        have hall : ∀ x, x < k → r.mixed x = false := fun x hx => by
          have h1 := Hq.out
          rw [List.all_eq_true] at h1
          have h2 := h1 x (List.mem_range.2 (by omega))
          simp only [decide_eq_true_eq, Reg.cstTo, if_pos hx] at h2
          cases hm : r.mixed x with
          | false => rfl
          | true =>
            have := Reg.cst_pos Hr.out Ht.out (s := x) (by rw [HN.out]; exact hx) hm
            omega
        have hD := (HD.out.mono (World.grows_plus wr nq xq)).put (⟨[], m.clock⟩ : VM)
        have hB : BestM r k ⟨[], m.clock⟩ := ⟨List.nodup_nil, fun x => by
          rw [if_neg]
          · rfl
          · rintro ⟨h1, h2⟩
            rw [hall x h1] at h2; cases h2⟩
        exact ⟨⟨_, rfl⟩, ⟨[], m.clock⟩, by rw [HN.out]; exact hD, by rw [HN.out]; exact hB⟩
end Go.Proofs.Ytdminglglapnlaa

/-
  What is proved: Twins of the program, by cases (15); whether some marks have one maker, in the statements (84).
-/
namespace Go.Proofs.Ytdminglglapnlaa
open Go.RowKit
attribute [local irreducible] Go.wpCalm

theorem ptwins_bad {w : World} {v : Value} {r : Reg} (hv : RegAt w v r) (h : r.check ≠ 0) :
    Calls Try.prog 15 #[v] w fun e w' => e = .returned (.tuple #[.int .i64 0, .int .i64 0, .int .i64 r.check]) ∧ w.grows w' :=
  (twins_c w v r hv).mono (by
    rintro e w' ⟨x, y, z, rfl, hT, hg⟩
    cases hT with
    | bad _ => exact ⟨rfl, hg⟩
    | none h0 _ => exact absurd h0 h
    | some _ _ h0 _ => exact absurd h0 h)
theorem ptwins_none {w : World} {v : Value} {r : Reg} (hv : RegAt w v r) (h : r.check = 0) (hn : r.NoTwins) :
    Calls Try.prog 15 #[v] w fun e w' => e = .returned (.tuple #[.int .i64 0, .int .i64 0, .int .i64 5]) ∧ w.grows w' :=
  (twins_c w v r hv).mono (by
    rintro e w' ⟨x, y, z, rfl, hT, hg⟩
    cases hT with
    | bad h0 => exact absurd h h0
    | none _ _ => exact ⟨rfl, hg⟩
    | some i k _ hf => have := hn i k hf.lt hf.nm; rw [hf.is] at this; cases this)
theorem ptwins_some {w : World} {v : Value} {r : Reg} (hv : RegAt w v r) (h : r.check = 0) (hn : ¬ r.NoTwins) :
    Calls Try.prog 15 #[v] w fun e w' => ∃ i k : Nat, e = .returned (.tuple #[.int .i64 i, .int .i64 k, .int .i64 0]) ∧ r.First i k ∧ w.grows w' :=
  (twins_c w v r hv).mono (by
    rintro e w' ⟨x, y, z, rfl, hT, hg⟩
    cases hT with
    | bad h0 => exact absurd h h0
    | none _ h0 => exact absurd h0 hn
    | some i k _ hf => exact ⟨i, k, rfl, hf, hg⟩)

/-- all marks of a list have one maker -/
def Reg.sameB (r : Reg) (L : List Nat) : Bool := (List.range L.length).all fun i => decide (r.who (L.getD i 0) = r.who (L.getD 0 0))
set_option maxHeartbeats 2000000 in
theorem same_c (w : World) (v : Value) (r : Reg) (hv : RegOk w v r) (lv : Value) (L : List Nat) (hL : ListAt w lv L) (hl : ∀ m ∈ L, m < r.nm) :
    Calls Try.prog 84 #[v, lv] w fun e w' => e = .returned (.bool (r.sameB L)) ∧ w.grows w' := by
  obtain ⟨mb, mo, mc, cb, co, cc, rb, ro, rc, rfl, hm1, hm2, hc1, hc2, hR⟩ := hv
  obtain ⟨la, lc, rfl, l1, l2, hL⟩ := hL
  have HR := Lib.hid hR
  have HL := Lib.hid hL
  have Hl := Lib.hid hl
  unfold maxLen at hm2 hc2 l2
  clear hR hL hl
  go_enter Try.func84, Try.ntmps84
  go_wp2
  go_loopw [5] (fun i wr => ∃ k : Nat, k ≤ L.length ∧ i = .int .i64 k ∧ Hid (∀ j, j < k → r.who (L.getD j 0) = r.who (L.getD 0 0)) ∧ (w.alloc (.cells #[.slice (some ⟨mb, mo, none⟩) r.nm mc, .slice (some ⟨cb, co, none⟩) r.nc cc] 25)).grows wr) (fun i _ => L.length - (intOf i).toNat)
  case atStart => exact ⟨0, by omega, rfl, Lib.hid fun j hj => by omega, by (repeat (first | exact World.grows.refl _ | assumption | refine World.grows.alloc ?_ _ | refine World.grows.plus ?_ _ _ | refine World.grows.drew ?_))⟩
  case round =>
    obtain ⟨k, hk, rfl, hl, hg⟩ := hrel
    obtain ⟨n1, x1, rfl⟩ := World.plus_of hg
    by_cases hlt : k < L.length
    · obtain ⟨b, o, rfl, e1⟩ := HL.out k 0 hlt (by omega)
      obtain ⟨_, _, he, e2⟩ := HL.out 0 0 (by omega) (by omega)
      cases he
      simp only [Nat.mul_one, Nat.add_zero, Nat.zero_mul] at e1 e2
      have hL0 : 0 < L.length := by omega
      have m1 := Hl.out _ (getD_mem hlt)
      have m2 := Hl.out _ (getD_mem hL0)
      have hstep : r.who (L.getD k 0) = r.who (L.getD 0 0) → Hid (∀ j, j < k + 1 → r.who (L.getD j 0) = r.who (L.getD 0 0)) := fun h => Lib.hid (upto_succ hl.out h)
      have hno : r.who (L.getD k 0) ≠ r.who (L.getD 0 0) → Hid (r.sameB L = false) := fun h => Lib.hid (by unfold Reg.sameB; rw [List.all_eq_false]; exact ⟨k, by simpa using hlt, by simpa using h⟩)
      obtain ⟨x, hx⟩ : ∃ x, L.getD k 0 = x := ⟨_, rfl⟩
      obtain ⟨y, hy⟩ : ∃ y, L.getD 0 0 = y := ⟨_, rfl⟩
      rw [hx] at e1 m1 hno hstep
      rw [hy] at e2 m2 hno
      have c1 := HR.out.who x m1
      have c2 := HR.out.who y m2
      by_cases hw : r.who x = r.who y
      · have hnx := hstep (by rw [hy]; exact hw)
        rw [hw] at c1
        clear hstep hno hx hy hw
        go_wp2
        (refine wp_region_calm (by kernel_rfl) (by kernel_rfl) ?_; (repeat (refine wpCalm_step (fun K hK => ?_); go_simp; first | (refine hK _ ?_; clear hK K) | (apply Exists.intro; refine ⟨fun n' x' => ?_, hK _ ?_⟩; (fail); clear hK K))); refine wpCalm_nil ?_; intro nq xq)
        go_wp2
        go_roundw
        case rel => exact ⟨k + 1, by omega, by go_num, hnx, by (repeat (first | exact World.grows.refl _ | assumption | refine World.grows.alloc ?_ _ | refine World.grows.plus ?_ _ _ | refine World.grows.drew ?_))⟩
        case measure => simp [intOf]; omega
      · have hmx := hno hw
        have hwb : (r.who x == r.who y) = false := beq_eq_false_iff_ne.2 hw
        clear hstep hno hx hy
        go_wp2
        (refine wp_region_calm (by kernel_rfl) (by kernel_rfl) ?_; (repeat (refine wpCalm_step (fun K hK => ?_); go_simp; first | (refine hK _ ?_; clear hK K) | (apply Exists.intro; refine ⟨fun n' x' => ?_, hK _ ?_⟩; (fail); clear hK K))); refine wpCalm_nil ?_; intro nq xq)
        go_wp2
        (refine bodyPost_ret (v := .bool false) (by simp [results, Try.results84, go_sem]) rfl ?_)
        exact ⟨by rw [hmx.out], by (repeat (first | exact World.grows.refl _ | assumption | refine World.grows.alloc ?_ _ | refine World.grows.plus ?_ _ _ | refine World.grows.drew ?_))⟩
    · have hke : k = L.length := by omega
      have hmx : Hid (r.sameB L = true) := Lib.hid (by unfold Reg.sameB; simp only [List.all_eq_true, List.mem_range, decide_eq_true_eq]; rw [← hke]; exact hl.out)
      subst hke
      go_wp2
      (refine bodyPost_ret (v := .bool true) (by simp [results, Try.results84, go_sem]) rfl ?_)
      exact ⟨by rw [hmx.out], by (repeat (first | exact World.grows.refl _ | assumption | refine World.grows.alloc ?_ _ | refine World.grows.plus ?_ _ _ | refine World.grows.drew ?_))⟩
end Go.Proofs.Ytdminglglapnlaa

/-
  What is proved: the desk of a register without twins, with what all sets of marks cost, or the error (61), in the program.
-/
namespace Go.Proofs.Ytdminglglapnlaa
open Go.RowKit
attribute [local irreducible] Go.wpCalm deskA rowI

/-- a desk that is filled, made since w -/
def Filled (w W : World) (db mb : Nat) (r : Reg) (m : VM) : Prop := DeskW w W db mb r (r.cstTo (2 ^ r.nm)) m ∧ BestM r (2 ^ r.nm) m
theorem Filled.mono {w W W' : World} {db mb : Nat} {r : Reg} {m : VM} (h : Filled w W db mb r m) (g : W.grows W') : Filled w W' db mb r m := ⟨h.1.mono g, h.2⟩
theorem Reg.solvE_tw {r : Reg} (h : r.check = 0) (hn : ¬ r.NoTwins) : r.solvE = 24 := by
  unfold Reg.solvE; rw [if_pos h, if_neg (fun h => hn ((r.noTwB_iff).1 h))]

set_option maxHeartbeats 2000000 in
theorem solved_bad (w : World) (v : Value) (r : Reg) (hv : RegAt w v r) (h : r.solvE ≠ 0) :
    Calls Try.prog 61 #[v] w fun e w' => e = .returned (.tuple #[.pointer none, .int .i64 r.solvE]) ∧ w.grows w' := by
  have Hv := Lib.hid hv
  obtain ⟨mv, cv, row, rfl, -⟩ := hv
  go_enter Try.func61, Try.ntmps61
  by_cases hc : r.check = 0
  · have hn : ¬ r.NoTwins := fun hn => h (Reg.solvE_zero.2 ⟨hc, hn⟩)
    have HE := Lib.hid (Reg.solvE_tw hc hn)
    have h15 := fun W h => ptwins_some (w := W) (v := .agg #[mv, cv]) (r := r) h hc hn
    clear h
    go_wp2_with (go_at_call 15; refine (h15 _ (Hv.out.mono (by (repeat (first | exact World.grows.refl _ | assumption | refine World.grows.alloc ?_ _ | refine World.grows.plus ?_ _ _ | refine World.grows.drew ?_))))).mono ?_; rintro e w' ⟨i, k, rfl, -, hg⟩; obtain ⟨n2, x2, rfl⟩ := World.plus_of hg)
    (refine bodyPost_ret (v := .tuple #[.pointer none, .int .i64 24]) (by simp [results, Try.results61, go_sem]) rfl ?_)
    exact ⟨by rw [HE.out], by (repeat (first | exact World.grows.refl _ | assumption | refine World.grows.alloc ?_ _ | refine World.grows.plus ?_ _ _ | refine World.grows.drew ?_))⟩
  · have HE := Lib.hid (Reg.solvE_bad hc)
    have h15 := fun W h => ptwins_bad (w := W) (v := .agg #[mv, cv]) (r := r) h hc
    have hm := r.check_mem
    clear h
    obtain ⟨c, hcc⟩ : ∃ c, r.check = c := ⟨_, rfl⟩
    rw [hcc] at HE h15 hm hc
    clear hcc
    have h0 : (c == 0) = false := beq_eq_false_iff_ne.2 hc
    have h5 : (c == 5) = false := beq_eq_false_iff_ne.2 (by omega)
    clear hm
    go_wp2_with (go_at_call 15; refine (h15 _ (Hv.out.mono (by (repeat (first | exact World.grows.refl _ | assumption | refine World.grows.alloc ?_ _ | refine World.grows.plus ?_ _ _ | refine World.grows.drew ?_))))).mono ?_; rintro e w' ⟨rfl, hg⟩; obtain ⟨n2, x2, rfl⟩ := World.plus_of hg)
    (refine bodyPost_ret (v := .tuple #[.pointer none, .int .i64 c]) (by simp [results, Try.results61, go_sem]) rfl ?_)
    exact ⟨by rw [HE.out], by (repeat (first | exact World.grows.refl _ | assumption | refine World.grows.alloc ?_ _ | refine World.grows.plus ?_ _ _ | refine World.grows.drew ?_))⟩
set_option maxHeartbeats 2000000 in
theorem solved_c (w : World) (v : Value) (r : Reg) (hv : RegAt w v r) (h : r.solvE = 0) :
    Calls Try.prog 61 #[v] w fun e w' => ∃ w0 db mb m, e = .returned (.tuple #[.pointer (some ⟨db, 0, none⟩), .int .i64 0]) ∧ w.grows w0 ∧ Filled w0 w' db mb r m := by
  obtain ⟨hc, hn⟩ := Reg.solvE_zero.1 h
  have Hv := Lib.hid hv
  have Hr := Lib.hid (Reg.ok_of hc)
  have Hok := Lib.hid (hv.ok (Reg.ok_of hc))
  have Hn := Lib.hid hn
  obtain ⟨mv, cv, row, rfl, -⟩ := hv
  have h15 := fun W h => ptwins_none (w := W) (v := .agg #[mv, cv]) (r := r) h hc hn
  clear h hc hn
  go_enter Try.func61, Try.ntmps61
  go_wp2_with (first
    | (go_at_call 15; refine (h15 _ (Hv.out.mono (by (repeat (first | exact World.grows.refl _ | assumption | refine World.grows.alloc ?_ _ | refine World.grows.plus ?_ _ _ | refine World.grows.drew ?_))))).mono ?_; rintro e w' ⟨rfl, hg⟩; obtain ⟨n2, x2, rfl⟩ := World.plus_of hg)
    | (go_at_call 68; go_loud (refine (newDesk_c _ mv cv).mono ?_); rintro e W3 ⟨db, mb, rfl, hD, k1, k2, hg3⟩; have HD : Hid (DeskW _ W3 db mb r (fun _ => 0) VM.empty) := Lib.hid ((Hok.out.mono (by (repeat (first | exact World.grows.refl _ | assumption | refine World.grows.alloc ?_ _ | refine World.grows.plus ?_ _ _ | refine World.grows.drew ?_)))).deskW hD k1 k2 hg3)))
  have hgw : Hid (w.grows ((w.alloc (Obj.cells #[mv, cv] 25)).plus n2 x2)) := Lib.hid (by (repeat (first | exact World.grows.refl _ | assumption | refine World.grows.alloc ?_ _ | refine World.grows.plus ?_ _ _ | refine World.grows.drew ?_)))
  obtain ⟨W2, hW2⟩ : ∃ W2, W2 = (w.alloc (Obj.cells #[mv, cv] 25)).plus n2 x2 := ⟨_, rfl⟩
  rw [← hW2] at HD hgw
  clear hW2 hD k1 k2 hg3 hg h15
  refine (fill_c W2 W3 db mb r HD.out Hr.out Hn.out).mono ?_
  rintro e W4 ⟨v, m, rfl, hD4, hB4⟩
  have HF : Hid (Filled W2 W4 db mb r m) := Lib.hid ⟨hD4, hB4⟩
  clear hD4 hB4
  go_wp2
  (refine bodyPost_ret (v := .tuple #[.pointer (some ⟨db, 0, none⟩), .int .i64 0]) (by simp [results, Try.results61, go_sem]) rfl ?_)
  exact ⟨W2, db, mb, m, rfl, hgw.out, HF.out⟩
end Go.Proofs.Ytdminglglapnlaa

/-
  What is proved: a tree that grows, in memory: its nodes in a row of the call's own, their branches in rows of their own; what growing leaves as it was.
-/
namespace Go.Proofs.Ytdminglglapnlaa
open Go.RowKit

abbrev Nd := Int × List (Int × Int)
def ndF (L : List Nd) (i : Nat) : Int := (L.getD i (0, [])).1
def ndB (L : List Nd) (i : Nat) : List (Int × Int) := (L.getD i (0, [])).2
/-- all blocks but the tree's own, and rows of nodes, stay as they are -/
structure Keeps (tb : Nat) (W W' : World) : Prop where
  os : W'.os = W.os
  tape : W'.tape = W.tape
  output : W'.output = W.output
  size : W.heap.size ≤ W'.heap.size
  block : ∀ (k : Nat) (o : Obj), W.heap[k]? = some o → k ≠ tb → (∀ c fr, o ≠ .cells c 83 fr) → W'.heap[k]? = some o
section
variable {tb : Nat} {W W' W2 : World}
theorem Keeps.refl : Keeps tb W W := ⟨rfl, rfl, rfl, Nat.le_refl _, fun _ _ h _ _ => h⟩
theorem Keeps.trans (h : Keeps tb W W') (k : Keeps tb W' W2) : Keeps tb W W2 :=
  ⟨k.os.trans h.os, k.tape.trans h.tape, k.output.trans h.output, Nat.le_trans h.size k.size, fun b o h1 h2 h3 => k.block b o (h.block b o h1 h2 h3) h2 h3⟩
theorem Keeps.of (g : W.grows W') : Keeps tb W W' := ⟨g.os, g.tape, g.output, g.size, fun _ _ h _ _ => g.heap_of h⟩
theorem Keeps.put (h : Keeps tb W W') {b : Nat} {o o' : Obj} (hb : W.heap.size ≤ b) : Keeps tb W (W'.putObj b o') :=
  ⟨h.os, h.tape, h.output, by simpa using h.size, fun k o h1 h2 h3 => by
    have := World.lt_of_block h1
    rw [World.putObj_heap_other (by omega)]
    exact h.block k o h1 h2 h3⟩
theorem Keeps.own (h : Keeps tb W W') {base size : Nat} {v : Value} {n : Nat} {xs : List Value} (ho : W'.ownsRow base 83 size v n xs) (g : W'.grownBy W2 v.ownBlock) : Keeps tb W W2 :=
  ⟨g.os.trans h.os, g.tape.trans h.tape, g.output.trans h.output, Nat.le_trans h.size g.size, fun k o h1 h2 h3 => by
    have h4 := h.block k o h1 h2 h3
    rw [g.block k (World.lt_of_block h4) ?_]
    · exact h4
    · rcases ho.2 with ⟨rfl, _⟩ | ⟨b, cap, cur, rfl, _, hgg, _⟩
      · simp [Value.ownBlock]
      · simp only [Value.ownBlock, ne_eq, Option.some.injEq]
        rintro rfl
        rw [h4] at hgg
        cases hgg
        exact h3 _ _ rfl⟩
theorem Keeps.set (h : Keeps tb W W') {a : Addr} (ha : a.block = tb ∨ W.heap.size ≤ a.block) (v : Value) : Keeps tb W (W'.setCell a v) :=
  ⟨h.os, h.tape, h.output, by simpa using h.size, fun k o h1 h2 h3 => by
    have := World.lt_of_block h1
    rw [World.heap_setCell_map _ _ _ _ (by omega)]
    exact h.block k o h1 h2 h3⟩
theorem Keeps.row {base size : Nat} {e : TypeId} {v : Value} {n : Nat} {xs : List Value} (h : Keeps tb W W') (he : e ≠ 83) (ho : W.ownsRow base e size v n xs) (hb : ∀ b, v.ownBlock = some b → b ≠ tb) : W'.ownsRow base e size v n xs := by
  refine ⟨ho.1, ?_⟩
  rcases ho.2 with hn | ⟨b, cap, cur, rfl, h1, hgg, rest⟩
  · exact .inl hn
  · exact .inr ⟨b, cap, cur, rfl, h1, h.block b _ hgg (hb b rfl) (fun c fr e => by cases e; exact he rfl), rest⟩
end

/-- the tree so far: its nodes lie in a row of the call's own, their branches in the rows us; B: what was there before -/
def GS (B W : World) (tb : Nat) (z : Value) (L : List Nd) (us : Nat → Value) : Prop :=
  ∃ nv : Value, B.grows W ∧ B.heap.size ≤ tb ∧ W.heap[tb]? = some (.cells #[z, nv] 28) ∧ W.ownsRow B.heap.size 83 2 nv L.length (tableL L.length 2 (ncell (ndF L) us)) ∧
    ∀ i, i < L.length → W.ownsRow B.heap.size 129 2 (us i) (ndB L i).length (pcells (ndB L i))
/-- rows from n on are new, behind k0 -/
def Fresh (n k0 : Nat) (us us' : Nat → Value) : Prop := (∀ i, i < n → us' i = us i) ∧ ∀ i, n ≤ i → ∀ k, (us' i).ownBlock = some k → k0 ≤ k
theorem Fresh.trans {n k0 n1 k1 : Nat} {us us1 us2 : Nat → Value} (h : Fresh n k0 us us1) (h' : Fresh n1 k1 us1 us2) (hn : n ≤ n1) (hk : k0 ≤ k1) : Fresh n k0 us us2 :=
  ⟨fun i hi => by rw [h'.1 i (by omega), h.1 i hi], fun i hi k hb => by
    rcases Nat.lt_or_ge i n1 with h1 | h1
    · rw [h'.1 i h1] at hb; exact h.2 i hi k hb
    · have := h'.2 i h1 k hb; omega⟩
theorem Fresh.set {n k0 a : Nat} {us us' : Nat → Value} {u : Value} (h : Fresh n k0 us us') (ha : n ≤ a) (hu : ∀ k, u.ownBlock = some k → k0 ≤ k) : Fresh n k0 us (fun i => if i = a then u else us' i) :=
  ⟨fun i hi => by dsimp only; rw [if_neg (by omega)]; exact h.1 i hi, fun i hi k hb => by
    dsimp only at hb
    by_cases e : i = a
    · rw [if_pos e] at hb; exact hu k hb
    · rw [if_neg e] at hb; exact h.2 i hi k hb⟩
theorem Fresh.cut (n k0 : Nat) (us : Nat → Value) : Fresh n k0 us (fun i => if i < n then us i else .slice none 0 0) :=
  ⟨fun i hi => by dsimp only; rw [if_pos hi], fun i hi k hb => by dsimp only at hb; rw [if_neg (by omega)] at hb; simp [Value.ownBlock] at hb⟩
theorem row_form {W : World} {base size : Nat} {e : TypeId} {v : Value} {n : Nat} {xs : List Value} (ho : W.ownsRow base e size v n xs) : ∃ a cap, v = .slice a n cap ∧ n ≤ cap ∧ cap ≤ maxLen := by
  rcases ho.2 with ⟨rfl, rfl⟩ | ⟨b, cap, cur, rfl, _, _, h1, h2, _⟩
  · exact ⟨_, _, rfl, Nat.le_refl _, Nat.zero_le _⟩
  · exact ⟨_, _, rfl, h1, h2⟩
theorem row_noblock {W : World} {base size : Nat} {e : TypeId} {v : Value} {n : Nat} {xs : List Value} (ho : W.ownsRow base e size v n xs) {b : Nat} {o : Obj} (h : W.heap[b]? = some o) (hc : o.isCells = false) : some b ≠ v.ownBlock := by
  rcases ho.2 with ⟨rfl, _⟩ | ⟨g, cap, cur, rfl, _, hgg, _⟩
  · simp [Value.ownBlock]
  · intro e
    simp only [Value.ownBlock, Option.some.injEq] at e
    subst e
    rw [h] at hgg
    cases hgg
    simp [Obj.isCells] at hc
theorem row_block {W : World} {base size : Nat} {e : TypeId} {v : Value} {n : Nat} {xs : List Value} (ho : W.ownsRow base e size v n xs) {tb : Nat} {c : Array Value} {t : TypeId} (h : W.heap[tb]? = some (.cells c t)) (he : e ≠ t) : ∀ b, v.ownBlock = some b → b ≠ tb := by
  rcases ho.2 with ⟨rfl, _⟩ | ⟨b, cap, cur, rfl, _, hgg, _⟩
  · intro b hb; simp [Value.ownBlock] at hb
  · intro b' hb
    simp only [Value.ownBlock, Option.some.injEq] at hb
    subst hb
    rintro rfl
    rw [h] at hgg
    cases hgg
    exact he rfl
section
variable {B W W' : World} {tb : Nat} {z : Value} {L : List Nd} {us : Nat → Value}
theorem GS.mono (h : GS B W tb z L us) (g : W.grows W') : GS B W' tb z L us := by
  obtain ⟨nv, h1, h2, h3, h4, h5⟩ := h
  exact ⟨nv, h1.trans g, h2, g.heap_of h3, h4.grow g, fun i hi => (h5 i hi).grow g⟩
theorem GS.putL (h : GS B W tb z L us) {b : Nat} {o o' : Obj} (hb : W.heap[b]? = some o) (ho : o.isCells = false) (hB : B.heap.size ≤ b) : GS B (W.putObj b o') tb z L us := by
  obtain ⟨nv, h1, h2, h3, h4, h5⟩ := h
  refine ⟨nv, World.putObj_grows h1 _ hB, h2, ?_, ownsRow_putObj h4 o' hb ho, fun i hi => ownsRow_putObj (h5 i hi) o' hb ho⟩
  rw [World.putObj_heap_other]
  · exact h3
  · rintro rfl
    rw [h3] at hb; cases hb; simp [Obj.isCells] at ho
theorem GS.setOther (h : GS B W tb z L us) {b : Nat} {c : Array Value} {t : TypeId} (hb : W.heap[b]? = some (.cells c t)) (h1 : t ≠ 83) (h2 : t ≠ 129) (h3 : b ≠ tb) (hB : B.heap.size ≤ b) (i : Nat) (v : Value) : GS B (W.setCell ⟨b, i, none⟩ v) tb z L us := by
  obtain ⟨nv, k1, k2, k3, k4, k5⟩ := h
  refine ⟨nv, k1.setCell hB _, k2, by rw [World.heap_setCell_map _ _ _ _ h3]; exact k3, ?_, fun i hi => ?_⟩
  · exact ownsRow_setCell_other k4 (fun e => row_block k4 hb (Ne.symm h1) _ e rfl) _
  · exact ownsRow_setCell_other (k5 i hi) (fun e => row_block (k5 i hi) hb (Ne.symm h2) _ e rfl) _
end
theorem tableL_congr {m sz : Nat} {c d : Nat → Nat → Value} (h : ∀ i j, i < m → j < sz → c i j = d i j) (hs : 0 < sz) : tableL m sz c = tableL m sz d := by
  unfold tableL
  refine List.map_congr_left fun k hk => ?_
  have hk := List.mem_range.1 hk
  exact h _ _ ((Nat.div_lt_iff_lt_mul hs).2 hk) (Nat.mod_lt _ hs)
theorem GS.cut {B W : World} {tb : Nat} {z : Value} {L : List Nd} {us : Nat → Value} (h : GS B W tb z L us) : GS B W tb z L (fun i => if i < L.length then us i else .slice none 0 0) := by
  obtain ⟨nv, h1, h2, h3, h4, h5⟩ := h
  refine ⟨nv, h1, h2, h3, ?_, fun i hi => by dsimp only; rw [if_pos hi]; exact h5 i hi⟩
  rw [tableL_congr (d := ncell (ndF L) us) (fun i j hi _ => by unfold ncell; dsimp only; rw [if_pos hi]) (by omega)]
  exact h4
theorem ndF_snoc (L : List Nd) (x : Nd) {i : Nat} (h : i < L.length) : ndF (L ++ [x]) i = ndF L i := by
  unfold ndF; rw [List.getD_eq_getElem?_getD, List.getD_eq_getElem?_getD, List.getElem?_append_left h]
theorem ndB_snoc (L : List Nd) (x : Nd) {i : Nat} (h : i < L.length) : ndB (L ++ [x]) i = ndB L i := by
  unfold ndB; rw [List.getD_eq_getElem?_getD, List.getD_eq_getElem?_getD, List.getElem?_append_left h]
theorem ndF_last (L : List Nd) (x : Nd) : ndF (L ++ [x]) L.length = x.1 := by unfold ndF; simp
theorem ndB_last (L : List Nd) (x : Nd) : ndB (L ++ [x]) L.length = x.2 := by unfold ndB; simp
theorem node_table (L : List Nd) (us : Nat → Value) (f : Int) (u : Value) : tableL (L ++ [(f, [])]).length 2 (ncell (ndF (L ++ [(f, [])])) (fun i => if i < L.length then us i else u)) = tableL L.length 2 (ncell (ndF L) us) ++ tableL 1 2 (ncell (fun _ => f) (fun _ => u)) := by
  rw [List.length_append, List.length_singleton, tableL_snoc]
  congr 1
  · refine tableL_congr (fun i j hi hj => ?_) (by omega)
    unfold ncell
    dsimp only
    rw [ndF_snoc L _ hi, if_pos hi]
  · show [ncell _ _ L.length 0, ncell _ _ L.length 1] = [ncell _ _ 0 0, ncell _ _ 0 1]
    simp [ncell, ndF_last]
theorem node_cells (f : Int) (u : Value) (hu : u.oneCell' = true) : ∀ x ∈ tableL 1 2 (ncell (fun _ => f) (fun _ => u)), x.oneCell' = true := by
  intro x hx
  have : tableL 1 2 (ncell (fun _ => f) (fun _ => u)) = [.int .i64 f, u] := rfl
  rw [this] at hx
  simp at hx
  rcases hx with rfl | rfl
  · rfl
  · exact hu
theorem node_slice (w : World) (f : Int) (u : Value) (t b : Nat) (hb : b = w.heap.size) : SliceAt (w.alloc (.cells #[.int .i64 f, u] t)) (.slice (some ⟨b, 0, none⟩) 1 1) 1 2 (ncell (fun _ => f) (fun _ => u)) := by
  subst hb
  refine ⟨_, _, rfl, by omega, by unfold maxLen; omega, fun i j hi hj => ⟨_, _, rfl, ?_⟩⟩
  have hi0 : i = 0 := by omega
  subst hi0
  have hj0 : j = 0 ∨ j = 1 := by omega
  rcases hj0 with rfl | rfl <;> simp [go_sem, ncell]
theorem GS.node {B W : World} {tb : Nat} {z nv0 v : Value} {L : List Nd} {us : Nat → Value} {f : Int} (hB : B.grows W) (k2 : B.heap.size ≤ tb) (hb : W.heap[tb]? = some (.cells #[z, nv0] 28))
    (ho : W.ownsRow B.heap.size 83 2 v (L.length + 1) (tableL L.length 2 (ncell (ndF L) us) ++ tableL 1 2 (ncell (fun _ => f) (fun _ => .slice none 0 0))))
    (h5 : ∀ i, i < L.length → W.ownsRow B.heap.size 129 2 (us i) (ndB L i).length (pcells (ndB L i))) : GS B (W.setCell ⟨tb, 1, none⟩ v) tb z (L ++ [(f, [])]) (fun i => if i < L.length then us i else .slice none 0 0) := by
  refine ⟨v, hB.setCell k2 _, k2, ?_, ?_, fun i hi => ?_⟩
  · rw [store_of_heap hb]; rfl
  · rw [node_table, List.length_append, List.length_singleton]
    exact ownsRow_setCell_other ho (fun e => row_block ho hb (by decide) _ e rfl) _
  · rw [List.length_append, List.length_singleton] at hi
    dsimp only
    by_cases h : i = L.length
    · subst h
      rw [if_neg (by omega), ndB_last]
      exact World.ownsRow_nil _ _ _ _
    · rw [if_pos (by omega), ndB_snoc L _ (by omega)]
      have := h5 i (by omega)
      exact ownsRow_setCell_other this (fun e => row_block this hb (by decide) _ e rfl) _
theorem ndF_set (L : List Nd) {a : Nat} (nx : List (Int × Int)) (i : Nat) : ndF (L.set a (ndF L a, nx)) i = ndF L i := by
  unfold ndF
  rw [List.getD_eq_getElem?_getD, List.getD_eq_getElem?_getD, List.getElem?_set]
  by_cases h : a = i
  · subst h
    rw [if_pos rfl]
    by_cases h2 : a < L.length
    · simp [h2]
    · simp [h2]
  · rw [if_neg h, List.getD_eq_getElem?_getD]
theorem ndB_set (L : List Nd) {a : Nat} (x : Nd) (i : Nat) (ha : a < L.length) : ndB (L.set a x) i = if i = a then x.2 else ndB L i := by
  unfold ndB
  rw [List.getD_eq_getElem?_getD, List.getD_eq_getElem?_getD, List.getElem?_set]
  by_cases h : a = i
  · subst h
    simp [ha]
  · rw [if_neg h, if_neg (fun e => h e.symm)]
theorem node_set (n : Nat) (F : Nat → Int) (us : Nat → Value) {a : Nat} (ha : a < n) (u : Value) : (tableL n 2 (ncell F us)).set (a * 2 + 1) u = tableL n 2 (ncell F (fun i => if i = a then u else us i)) := by
  unfold tableL
  apply List.ext_getElem?
  intro k
  rw [List.getElem?_set]
  simp only [List.getElem?_map, List.length_map, List.length_range]
  by_cases hk : k < n * 2
  · rw [List.getElem?_range hk]
    simp only [Option.map_some]
    by_cases h : a * 2 + 1 = k
    · subst h
      have h1 : (a * 2 + 1) / 2 = a := by omega
      have h2 : (a * 2 + 1) % 2 = 1 := by omega
      rw [if_pos rfl, if_pos hk, h1, h2]
      simp [ncell]
    · rw [if_neg h]
      unfold ncell
      by_cases h0 : k % 2 = 0
      · rw [if_pos h0, if_pos h0]
      · rw [if_neg h0, if_neg h0]
        dsimp only
        rw [if_neg (show ¬ k / 2 = a by omega)]
  · rw [List.getElem?_eq_none (by simp; omega)]
    by_cases h : a * 2 + 1 = k
    · omega
    · rw [if_neg h]; rfl
theorem GS.open' {B W : World} {tb : Nat} {z : Value} {L : List Nd} {us : Nat → Value} (h : GS B W tb z L us) (hn : 0 < L.length) : ∃ g cap, W.heap[tb]? = some (.cells #[z, .slice (some ⟨g, 0, none⟩) L.length cap] 28) ∧ L.length ≤ cap ∧ cap ≤ maxLen ∧
    (∀ j, j < L.length → (W.cell? ⟨g, j * 2 + 1, none⟩).isSome = true ∧ W.frozen? ⟨g, j * 2 + 1, none⟩ = false) ∧
    ∀ (a : Nat) (nx : List (Int × Int)) (u : Value), a < L.length → W.ownsRow B.heap.size 129 2 u nx.length (pcells nx) →
      GS B (W.setCell ⟨g, a * 2 + 1, none⟩ u) tb z (L.set a (ndF L a, nx)) (fun i => if i = a then u else us i) ∧ ∀ W0, Keeps tb W0 W → Keeps tb W0 (W.setCell ⟨g, a * 2 + 1, none⟩ u) := by
  obtain ⟨nv, h1, h2, h3, h4, h5⟩ := h
  obtain ⟨g, cap, rfl⟩ := Joins.ownsRow_form h4 hn
  have hlt := h4.lt g rfl
  have hc : L.length ≤ cap ∧ cap ≤ maxLen := by
    rcases h4.2 with ⟨he, _⟩ | ⟨b, cap', cur, he, _, _, k1, k2, _⟩
    · cases he
    · cases he; exact ⟨k1, k2⟩
  have hne : g ≠ tb := row_block h4 h3 (by decide) g rfl
  refine ⟨g, cap, h3, hc.1, hc.2, fun j hj => ⟨?_, h4.frozenAt _⟩, fun a nx u ha hu => ⟨?_, fun W0 hK => ?_⟩⟩
  · rw [h4.cellAt _ (by omega), tableL_get _ hj (by omega)]; rfl
  · refine ⟨_, h1.setCell hlt.1 _, h2, by rw [World.heap_setCell_map _ _ _ _ hne]; exact h3, ?_, fun i hi => ?_⟩
    · have := (h4.stored (a * 2 + 1) u).1
      rw [node_set _ _ _ ha] at this
      rw [List.length_set]
      rw [tableL_congr (d := ncell (ndF (L.set a (ndF L a, nx))) (fun i => if i = a then u else us i)) (fun i j _ _ => by unfold ncell; rw [ndF_set]) (by omega)] at this
      exact this
    · rw [List.length_set] at hi
      rw [ndB_set L _ i ha]
      have hgb : W.heap[g]? = some (.cells ((W.heap[g]?.bind fun o => match o with | .cells c _ _ => some c | _ => none).getD #[]) 83) := by
        rcases h4.2 with ⟨he, _⟩ | ⟨b, cap', cur, he, _, hh, _⟩
        · cases he
        · cases he; rw [hh]; rfl
      by_cases hia : i = a
      · subst hia
        dsimp only
        rw [if_pos rfl, if_pos rfl]
        exact ownsRow_setCell_other hu (fun e => row_block hu hgb (by decide) _ e rfl) _
      · dsimp only
        rw [if_neg hia, if_neg hia]
        exact ownsRow_setCell_other (h5 i hi) (fun e => row_block (h5 i hi) hgb (by decide) _ e rfl) _
  · have := (h4.stored (a * 2 + 1) u).2
    exact hK.own h4 this
theorem GS.lt {B W : World} {tb : Nat} {z : Value} {L : List Nd} {us : Nat → Value} (h : GS B W tb z L us) {i : Nat} (hi : i < L.length) {k : Nat} (hk : (us i).ownBlock = some k) : k < W.heap.size := by
  obtain ⟨nv, h1, h2, h3, h4, h5⟩ := h
  exact ((h5 i hi).lt k hk).2
theorem GS.grows {B W : World} {tb : Nat} {z : Value} {L : List Nd} {us : Nat → Value} (h : GS B W tb z L us) : B.grows W := by
  obtain ⟨nv, h1, -⟩ := h
  exact h1
theorem GS.tb {B W : World} {tb : Nat} {z : Value} {L : List Nd} {us : Nat → Value} (h : GS B W tb z L us) : ∃ nv, W.heap[tb]? = some (.cells #[z, nv] 28) := by
  obtain ⟨nv, h1, h2, h3, -⟩ := h
  exact ⟨nv, h3⟩
theorem GS.other {B W W' : World} {tb : Nat} {z : Value} {L : List Nd} {us : Nat → Value} {b : Nat} {u : Value} {n : Nat} {xs : List Value} (h : GS B W tb z L us) (hu : W.ownsRow b 129 2 u n xs) (hb : B.heap.size ≤ b)
    (hd : ∀ i, i < L.length → ∀ k, u.ownBlock = some k → (us i).ownBlock ≠ some k) (g : W.grownBy W' u.ownBlock) : GS B W' tb z L us := by
  obtain ⟨nv, h1, h2, h3, h4, h5⟩ := h
  refine ⟨nv, g.grows hu h1 hb, h2, ?_, h4.other hu (by decide) g, fun i hi => (h5 i hi).kept g ?_⟩
  · rw [g.block tb (World.lt_of_block h3) ?_]
    · exact h3
    · intro e
      exact row_block hu h3 (by decide) tb e.symm rfl
  · cases hk : u.ownBlock with
    | none =>
      cases hi2 : (us i).ownBlock with
      | none => exact .inl rfl
      | some k => exact .inr (by simp)
    | some k => exact .inr (hd i hi k hk)
theorem Keeps.own2 {tb : Nat} {W W' W2 : World} (h : Keeps tb W W') {base size : Nat} {e : TypeId} {v : Value} {n : Nat} {xs : List Value} (ho : W'.ownsRow base e size v n xs) (hb : W.heap.size ≤ base) (g : W'.grownBy W2 v.ownBlock) : Keeps tb W W2 :=
  ⟨g.os.trans h.os, g.tape.trans h.tape, g.output.trans h.output, Nat.le_trans h.size g.size, fun k o h1 h2 h3 => by
    have h4 := h.block k o h1 h2 h3
    rw [g.block k (World.lt_of_block h4) ?_]
    · exact h4
    · intro e
      have := (ho.lt k e.symm).1
      have := World.lt_of_block h1
      omega⟩
end Go.Proofs.Ytdminglglapnlaa

/-
  What is proved: append onto a row of the call's own, as a step of a region that draws its order, and inside a round.
-/
namespace Go
open Go.RowKit
section
variable {P : Program} (w : World)
theorem step_append_r {ops : Array Oper} {o : Oper} {a : Act} {K : Act → World → Prop} {Q : Exit → Act → World → Prop} {E : Prop} (hgd : o.guard = none) (s x : Operand) (t : TypeId)
    (ho : o.op = .call { callee := .builtin .append, args := #[s, x], argTypes := #[t, t] })
    (base : Nat) (e : TypeId) (z : Value) (size bytes : Nat) (ht : P.underlying t = some (.slice e)) (hi : P.knows e z size bytes) (hzs : z.cells.size = size) (hsz : 0 < size)
    (v : Value) (n : Nat) (xs : List Value) (hs : a.eval s = v) (hown : w.ownsRow base e size v n xs)
    (xv : Value) (hx : a.eval x = xv) (m : Nat) (news : List Value) (hsrc : SrcAt w xv m size news) (h1 : ∀ u ∈ news, u.oneCell' = true)
    (h63 : n + m ≤ maxLen) (hbytes : (n + m) * bytes ≤ 140737488355328) (hbase : base ≤ w.heap.size)
    (hK : ∀ v' w', w'.ownsRow base e size v' (n + m) (xs ++ news) → w.grownBy w' v.ownBlock → K (a.put o.dst v') w') :
    if Region.wanted o (yielded ops a.tmps) = true then Oper.wp P o a w K Q else E := by
  have hw : Region.wanted o (yielded ops a.tmps) = true := by simp [Region.wanted, hgd]
  rw [if_pos hw]
  obtain ⟨i, hi, hz, hsize, hby⟩ := hi
  obtain ⟨v', w', hr, h2, h3⟩ := run_append_g (P := P) w base t o.type e i z size bytes ht hi hz hsize hby hzs hsz v n xs hown xv m news hsrc h1 h63 hbytes hbase
  unfold Oper.wp execOp
  simp only [ho, resolve, invoke, builtin, Sem.run_bind, Sem.run_pure, Result.andThen_ok, List.map_toArray, List.map_cons, List.map_nil, hs, hx, hr]
  exact hK v' w' h2 h3
theorem wpListIn_append_r {F : Fence} {nF : Nat} {ops : Array Oper} {rest : List Oper} {o : Oper} {a : Act} {Q : Exit → Act → World → Prop} (hgd : o.guard = none) (s x : Operand) (t : TypeId)
    (ho : o.op = .call { callee := .builtin .append, args := #[s, x], argTypes := #[t, t] })
    (base : Nat) (e : TypeId) (z : Value) (size bytes : Nat) (ht : P.underlying t = some (.slice e)) (hi : P.knows e z size bytes) (hzs : z.cells.size = size) (hsz : 0 < size)
    (v : Value) (n : Nat) (xs : List Value) (hs : a.eval s = v) (hown : w.ownsRow base e size v n xs)
    (xv : Value) (hx : a.eval x = xv) (m : Nat) (news : List Value) (hsrc : SrcAt w xv m size news) (h1 : ∀ u ∈ news, u.oneCell' = true)
    (h63 : n + m ≤ maxLen) (hbytes : (n + m) * bytes ≤ 140737488355328) (hbase : base ≤ w.heap.size)
    (h : ∀ v' w', w'.ownsRow base e size v' (n + m) (xs ++ news) → w.grownBy w' v.ownBlock → wpListIn F nF P ops Q rest (a.put o.dst v') w') :
    wpListIn F nF P ops Q (o :: rest) a w := by
  refine wpListIn_plain hgd fun K hK => ?_
  obtain ⟨i, hi, hz, hsize, hby⟩ := hi
  obtain ⟨v', w', hr, h2, h3⟩ := run_append_g (P := P) w base t o.type e i z size bytes ht hi hz hsize hby hzs hsz v n xs hown xv m news hsrc h1 h63 hbytes hbase
  unfold Oper.wpIn
  refine ⟨by simp [Oper.about, ho, resolve, Target.leads, Sem.run_pure], ?_⟩
  rw [Oper.semAt_plain F _ _ (by rw [ho]; intro c hc'; cases hc')]
  simp [execOp, ho, resolve, invoke, builtin, hs, hx, hr, Result.andThen]
  exact hK _ _ (h v' w' h2 h3)
theorem wpListIn_append_h {F : Fence} {nF : Nat} {ops : Array Oper} {rest : List Oper} {o : Oper} {a : Act} {Q : Exit → Act → World → Prop} (hgd : o.guard = none) (s x : Operand) (t : TypeId)
    (ho : o.op = .call { callee := .builtin .append, args := #[s, x], argTypes := #[t, t] })
    (base : Nat) (e : TypeId) (z : Value) (size bytes : Nat) (ht : P.underlying t = some (.slice e)) (hi : P.knows e z size bytes) (hzs : z.cells.size = size) (hsz : 0 < size)
    (v : Value) (n : Nat) (xs : List Value) (hs : a.eval s = v) (hown : w.ownsRow base e size v n xs)
    (xv : Value) (hx : a.eval x = xv) (m : Nat) (news : List Value) (hm : 0 < m) (hsrc : SrcAt w xv m size news) (h1 : ∀ u ∈ news, u.oneCell' = true)
    (h63 : n + m ≤ maxLen) (hbytes : (n + m) * bytes ≤ 140737488355328) (hbase : base ≤ w.heap.size)
    (h : ∀ v' w', w'.ownsRow base e size v' (n + m) (xs ++ news) → w.grownBy w' v.ownBlock → (v'.ownBlock = v.ownBlock ∨ v'.ownBlock = some w.heap.size) → wpListIn F nF P ops Q rest (a.put o.dst v') w') :
    wpListIn F nF P ops Q (o :: rest) a w := by
  obtain ⟨i, hi, hz, hsize, hby⟩ := hi
  obtain ⟨A, c, rfl, hl, hA⟩ := hsrc
  obtain ⟨ad, rfl, hc⟩ := hA hm
  exact wpListIn_append_own_at (w := w) hgd s x t ho base e i z size bytes ht hi hz hsize hby hzs hsz v n xs hs hown ad m c news hx hl hc h1 h63 hbytes hbase fun v' w' h2 h3 _ h5 => h v' w' h2 h3 h5
def cutF (N : Act → World → Prop) : Exit → Act → World → Prop := fun e a W => match e with | .normal => N a W | _ => False
theorem wp_cutN {C : Code} {Q : Exit → Act → World → Prop} {a : Act} (h : ∀ N : Act → World → Prop, Hid (∀ a W, Q .normal a W → N a W) → C.wp P (cutF N) a w) : C.wp P Q a w :=
  Code.wp_mono (fun e a W h => by cases e <;> simp only [cutF] at h; exact h) (h (fun a W => Q .normal a W) (Lib.hid fun _ _ h => h))
end
end Go

/-
  What is proved: a tree grows by the looks at some marks (96), in the program.
-/
namespace Go.Proofs.Ytdminglglapnlaa
open Go.RowKit
attribute [local irreducible] Go.wpCalm Go.wpCalm2 deskA rowI rowA
attribute [local go_sem] Oper.semAt_some

theorem el83 : Try.prog.knows 83 (.agg #[.int .i64 0, .slice none 0 0]) 2 32 := Program.knows_of (by kernel_rfl)
theorem el129 : Try.prog.knows 129 (.agg #[.int .i64 0, .int .i64 0]) 2 16 := Program.knows_of (by kernel_rfl)
/-- what growing for some marks does -/
def Grows (B : World) (db : Nat) (r : Reg) (s : Nat) : Prop :=
  ∀ (W : World) (tb : Nat) (z : Value) (L : List Nd) (us : Nat → Value), GS B W tb z L us → L.length + r.cnt s ≤ 40 →
    Calls Try.prog 96 #[.pointer (some ⟨db, 0, none⟩), .pointer (some ⟨tb, 0, none⟩), .int .i64 s] W fun e W' => ∃ l dz us', e = .returned (.int .i64 dz) ∧ r.Good s L.length l dz ∧ GS B W' tb z (L ++ l) us' ∧ Fresh L.length W.heap.size us us' ∧ Keeps tb W W'

set_option maxRecDepth 100000 in
set_option maxHeartbeats 4000000 in
theorem grow_leaf (B : World) (db mb : Nat) (r : Reg) (c : Nat → Int) (m : VM) (hD : DeskR B db mb r c m) (hr : r.Ok) (hB : BestM r (2 ^ r.nm) m) (s : Nat) (hs : s < 2 ^ r.nm) (h0 : s ≠ 0) (hm : r.mixed s = false) : Grows B db r s := by
  intro W tb z L us hG hcnt
  obtain ⟨m0, hm0⟩ := Nat.exists_testBit_of_ne_zero h0
  have hmn : ∀ m, s.testBit m = true → m < r.nm := fun m hm => by
    rcases Nat.lt_or_ge m r.nm with h1 | h1
    · exact h1
    · rw [Nat.testBit_lt_two_pow (Nat.lt_of_lt_of_le hs (Nat.pow_le_pow_right (by omega) h1))] at hm; cases hm
  have hlen : 0 < (bitsL r.nm s).length := List.length_pos_of_mem (mem_bitsL.2 ⟨hmn m0 hm0, hm0⟩)
  have hmem := mem_bitsL.1 (getD_mem hlen)
  have Hgood := Lib.hid (Reg.Good.leaf hr hs hm hmem.1 hmem.2 L.length)
  have h64 := fun W => list64o W s r.nm hs (by have := hr.m10; omega)
  have hx := hmem.1
  have hlk : ∀ W : World, W.heap[mb]? = some m.obj → (Instr.lookup 103 (.map (some mb)) (.int .i64 (s : Nat)) true).run Try.prog W = .ok (.tuple #[.agg #[.int .i64 0, .int .i64 0], .bool false]) W := fun W h => by
    rw [lko103 m mb s W h, hB.2 s, if_neg (by rw [hm]; simp)]; rfl
  obtain ⟨kb, ko, mc, cb, co, cc, rb, ro, rc, hA, h2, h3, h4, h5, hR⟩ := hD
  have hBW : B.grows W := by obtain ⟨nv, h1, -⟩ := hG; exact h1
  have kbest := hBW.cell_of hA.best
  have kmv := hBW.cell_of hA.mv
  have kmap := hBW.heap_of hA.map
  have kwho := hBW.cell_of (hR.who _ hx)
  have hwb := hr.who _ hx
  have hwr : IntKind.i64.wrap (-1 - r.who ((bitsL r.nm s).getD 0 0)) = -1 - r.who ((bitsL r.nm s).getD 0 0) := wrapI rfl (by omega)
  obtain ⟨x, hxx⟩ : ∃ x, (bitsL r.nm s).getD 0 0 = x := ⟨_, rfl⟩
  have HG := Lib.hid hG
  unfold maxLen at h3
  obtain ⟨O, hO⟩ : ∃ O, m.obj = O := ⟨_, rfl⟩
  obtain ⟨BL, hBL⟩ : ∃ BL, bitsL r.nm s = BL := ⟨_, rfl⟩
  rw [hO] at hlk kmap
  rw [hBL] at h64 hxx hlen hx kwho hwb Hgood hwr
  rw [hxx] at hx kwho hwb Hgood hwr
  have Hxx := Lib.hid hxx
  clear hA hR hB hr hG hm hmem hmn hm0 h0 hO hBL hxx
  go_enter Try.func96, Try.ntmps96
  go_wp2
  (refine wp_region_chain 9 [6, 7, 8] (by kernel_rfl) (by kernel_rfl) (by decide) ?_; simp only [without, only, withNo, List.take_succ_cons, List.take_zero, List.drop_succ_cons, List.drop_zero, List.take_nil, List.drop_nil, Nat.reduceAdd, Nat.reduceSub, List.filter, List.contains_cons, List.contains_nil, Nat.reduceBEq, Bool.or_false, Bool.false_or, Bool.true_or, Bool.or_true, Bool.or_self, Bool.not_true, Bool.not_false, List.map_cons, List.map_nil]; (repeat (refine wpCalm_step (fun K hK => ?_); go_simp; first | (refine hK _ ?_; clear hK K) | (apply Exists.intro; refine ⟨fun n' x' => ?_, hK _ ?_⟩; (fail); clear hK K))); refine wpCalm_nil ?_)
  (refine wpChain_step (fun K hK nc xc => ?_); go_simp)
  refine (h64 _).mono ?_
  rintro e W3 ⟨lv, rfl, hL, hg3⟩
  obtain ⟨la, lc, rfl, l1, l2, hc⟩ := hL.listAt rfl
  obtain ⟨lb, lo, rfl, c0⟩ := hc 0 0 hlen (by omega)
  simp only [Nat.zero_mul, Nat.add_zero] at c0
  rw [Hxx.out] at c0
  have hgW : W.grows W3 := World.grows.trans (by (repeat (first | exact World.grows.refl _ | assumption | refine World.grows.alloc ?_ _ | refine World.grows.plus ?_ _ _ | refine World.grows.drew ?_))) hg3
  have kwho3 := hgW.cell_of kwho
  have HgW := Lib.hid hgW
  unfold maxLen at l2
  refine ⟨_, rfl, hg3, hK _ _ ?_⟩
  clear hK K hL hc hg3 hgW kwho kmv kbest kmap hlk h64
  (refine wpChain_step (fun K hK nc xc => ?_); go_simp)
  refine ⟨World.grows.refl _, hK _ _ ?_⟩
  clear hK K
  (refine wpChain_step (fun K hK nc xc => ?_); go_simp)
  refine ⟨World.grows.refl _, hK _ _ ?_⟩
  clear hK K
  (refine wpChain_nil (fun nc xc => ?_))
  go_wp2
  go_ret
  exact ⟨[], _, _, rfl, by have := Hgood.out; simpa using this, by rw [List.append_nil]; exact (HG.out.mono (HgW.out.trans (by (repeat (first | exact World.grows.refl _ | assumption | refine World.grows.alloc ?_ _ | refine World.grows.plus ?_ _ _ | refine World.grows.drew ?_))))).cut, Fresh.cut _ _ us, Keeps.of (HgW.out.trans (by (repeat (first | exact World.grows.refl _ | assumption | refine World.grows.alloc ?_ _ | refine World.grows.plus ?_ _ _ | refine World.grows.drew ?_))))⟩
end Go.Proofs.Ytdminglglapnlaa

