/-
  What is proved: a job in a box whose edges are made one after another.
-/
import Derived.Test.YtjpccfpmhmddjaaM5
import Derived.Test.YtjpccfpmhmddjaaM8
import Derived.Test.YtjpccfpmhmddjaaM1
import Derived.Test.YtjpccfpmhmddjaaM15
import Derived.Test.YtjpccfpmhmddjaaM4
import Derived.Test.YtjpccfpmhmddjaaM7
import Derived.Test.YtjpccfpmhmddjaaM11
import Derived.Deep.RegionHeldLaw
import Derived.Test.YtjpccfpmhmddjaaM18
import Derived.Deep.CutRange
import Derived.Test.YtjpccfpmhmddjaaM9
import Derived.OpenShut
import Derived.Test.YtjpccfpmhmddjaaM14
set_option linter.all false
namespace Go.Proofs.Ytjpccfpmhmddjaa
open Go.RowKit

/-- the box xb holds a job of which i edges are made -/
def MadeX (W1 W : World) (xb : Nat) (st : Int) (T : Job) (i : Nat) (xr : Value) (row : Nat → Value) : Prop :=
  W.heap[xb]? = some (.cells #[.int .i64 st, xr] 24) ∧ W.ownsRow (xb + 1) 62 1 xr i (tableL i 1 (fun t _ => row t)) ∧ (∀ t, t < i → W.ownsRow (xb + 1) 65 2 (row t) (T.len t) (tableL (T.len t) 2 (pas T t))) ∧ W1.grows W
theorem MadeX.grow {W1 W W2 : World} {xb : Nat} {st : Int} {T : Job} {i : Nat} {xr : Value} {row : Nat → Value} (h : MadeX W1 W xb st T i xr row) (g : W.grows W2) : MadeX W1 W2 xb st T i xr row :=
  ⟨g.heap_of h.1, h.2.1.grow g, fun t ht => (h.2.2.1 t ht).grow g, h.2.2.2.trans g⟩
theorem boxX_cells {W : World} {xb : Nat} {a b : Value} (h : W.heap[xb]? = some (.cells #[a, b] 24)) : W.cell? ⟨xb, 0, none⟩ = some a ∧ W.cell? ⟨xb, 1, none⟩ = some b ∧ W.frozen? ⟨xb, 1, none⟩ = false := by
  unfold World.cell? World.frozen?
  simp only [h]
  refine ⟨rfl, rfl, by simp⟩
theorem boxX_store {W : World} {xb : Nat} {a b : Value} (h : W.heap[xb]? = some (.cells #[a, b] 24)) (v : Value) : (W.setCell ⟨xb, 1, none⟩ v).heap[xb]? = some (.cells #[a, v] 24) := by
  unfold World.setCell
  simp only [Array.getElem?_modify, h, if_true, Option.map_some]
  rfl
theorem el62 : Try.prog.knows 62 (.slice none 0 0) 1 24 := Program.knows_of (by kernel_rfl)
theorem tableL_pushV {i : Nat} {row : Nat → Value} {u : Value} : tableL (i + 1) 1 (fun t _ => if t < i then row t else u) = tableL i 1 (fun t _ => row t) ++ tableL 1 1 (fun _ _ => u) := by
  rw [tableL_snoc]
  congr 1
  · unfold tableL
    apply List.map_congr_left
    intro x hx
    have : x < i := by simpa using hx
    simp [this]
  · simp [tableL]
theorem MadeX.push {W1 W W2 : World} {xb : Nat} {st : Int} {T : Job} {i : Nat} {xr u v' : Value} {row : Nat → Value} (h : MadeX W1 W xb st T i xr row) (hb : W1.heap.size ≤ xb)
    (hu : W.ownsRow (xb + 1) 65 2 u (T.len i) (tableL (T.len i) 2 (pas T i))) (h' : W2.ownsRow (xb + 1) 62 1 v' (i + 1) (tableL i 1 (fun t _ => row t) ++ tableL 1 1 (fun _ _ => u))) (g : W.grownBy W2 xr.ownBlock) :
    MadeX W1 (W2.setCell ⟨xb, 1, none⟩ v') xb st T (i + 1) v' (fun t => if t < i then row t else u) := by
  have hne : some xb ≠ xr.ownBlock := fun e => by have := (h.2.1.lt xb e.symm).1; omega
  have hx2 : W2.heap[xb]? = some (.cells #[.int .i64 st, xr] 24) := by
    rw [g.block xb (World.lt_of_block h.1) hne]; exact h.1
  refine ⟨boxX_store hx2 v', ?_, fun t ht => ?_, ?_⟩
  · rw [tableL_pushV]
    exact h'.set (show xb < xb + 1 by omega) _
  · refine World.ownsRow.set ?_ (show xb < xb + 1 by omega) _
    by_cases hlt : t < i
    · simp only [hlt, if_true]
      exact (h.2.2.1 t hlt).other h.2.1 (by decide) g
    · have : t = i := by omega
      subst this
      simp only [Nat.lt_irrefl, if_false]
      exact hu.other h.2.1 (by decide) g
  · exact (World.grownBy.grows g h.2.1 (W0 := W1) h.2.2.2 (by omega)).setCell hb _
theorem MadeX.raw {W1 W : World} {xb : Nat} {st : Int} {T : Job} {xr : Value} {row : Nat → Value} (h : MadeX W1 W xb st T T.n xr row) (hs : T.start = st) : RawAt W (.agg #[.int .i64 st, xr]) T :=
  ⟨xr, row, by rw [hs], h.2.1.sliceAt fun i j hi hj => tableL_get _ hi hj, fun i hi => (h.2.2.1 i hi).sliceAt fun k j hk hj => tableL_get _ hk hj⟩
/-- two numbers beside each other -/
def prC (a b : Int) (_ j : Nat) : Value := if j = 0 then .int .i64 a else .int .i64 b
theorem pair_slice (w : World) (a b : Int) (t blk : Nat) (hb : blk = w.heap.size) : SliceAt (w.alloc (.cells #[.int .i64 a, .int .i64 b] t)) (.slice (some ⟨blk, 0, none⟩) 1 1) 1 2 (prC a b) := by
  subst hb
  refine ⟨_, _, rfl, by omega, by unfold maxLen; omega, fun i j hi hj => ⟨_, _, rfl, ?_⟩⟩
  have hi0 : i = 0 := by omega
  subst hi0
  rcases (by omega : j = 0 ∨ j = 1) with rfl | rfl <;> simp [go_sem, prC]
theorem pair_one (a b : Int) : ∀ u ∈ tableL 1 2 (prC a b), u.oneCell' = true := by
  intro u hu
  simp only [tableL, List.mem_map] at hu
  obtain ⟨k, _, rfl⟩ := hu
  unfold prC
  split <;> rfl
theorem pas_push {w : World} {base : Nat} {e : TypeId} {v : Value} {T : Job} {q d : Nat} {a b : Int} (ho : w.ownsRow base e 2 v (d + 1) (tableL d 2 (pas T q) ++ tableL 1 2 (prC a b))) (ha : a = T.pk q d) (hb : b = T.lv q d) :
    w.ownsRow base e 2 v (d + 1) (tableL (d + 1) 2 (pas T q)) := by
  rw [tableL_snoc]
  subst ha; subst hb
  have e : tableL 1 2 (prC (T.pk q d) (T.lv q d)) = (List.range 2).map (pas T q d) := by simp [tableL, prC, pas, List.range_succ]
  rw [← e]; exact ho
/-- a row of another type stays when a block is written to -/
theorem ownsRow_setElse {W : World} {base : Nat} {e e' : TypeId} {sz : Nat} {v : Value} {n : Nat} {xs : List Value} {ys : Array Value} (h : W.ownsRow base e sz v n xs) {b : Nat} (hb : W.heap[b]? = some (.cells ys e')) (hne : e ≠ e') (i : Nat) (u : Value) :
    (W.setCell ⟨b, i, none⟩ u).ownsRow base e sz v n xs := by
  refine ⟨h.1, ?_⟩
  rcases h.2 with hn | ⟨g, cap, cur, rfl, hg, hgg, rest⟩
  · exact .inl hn
  · refine .inr ⟨g, cap, cur, rfl, hg, ?_, rest⟩
    rw [World.setCell_heap_other]
    · exact hgg
    · rintro rfl
      rw [hb] at hgg
      cases hgg
      exact hne rfl
/-- the box xb holds a job of which i edges are taken from elsewhere -/
def MadeF (W1 W : World) (xb : Nat) (st : Int) (i : Nat) (xr : Value) (V : Nat → Value) : Prop :=
  W.heap[xb]? = some (.cells #[.int .i64 st, xr] 24) ∧ W.ownsRow (xb + 1) 62 1 xr i (tableL i 1 (fun t _ => V t)) ∧ W1.grows W
theorem MadeF.grow {W1 W W2 : World} {xb : Nat} {st : Int} {i : Nat} {xr : Value} {V : Nat → Value} (h : MadeF W1 W xb st i xr V) (g : W.grows W2) : MadeF W1 W2 xb st i xr V :=
  ⟨g.heap_of h.1, h.2.1.grow g, h.2.2.trans g⟩
theorem MadeF.box {W1 W W2 : World} {xb : Nat} {st : Int} {i : Nat} {xr : Value} {V : Nat → Value} (h : MadeF W1 W xb st i xr V) (g : W.grownBy W2 xr.ownBlock) : W2.heap[xb]? = some (.cells #[.int .i64 st, xr] 24) := by
  rw [g.block xb (World.lt_of_block h.1) (fun e => by have := (h.2.1.lt xb e.symm).1; omega)]
  exact h.1
theorem MadeF.push {W1 W W2 : World} {xb : Nat} {st : Int} {i : Nat} {xr v' : Value} {V : Nat → Value} (h : MadeF W1 W xb st i xr V) (hb : W1.heap.size ≤ xb)
    (h' : W2.ownsRow (xb + 1) 62 1 v' (i + 1) (tableL i 1 (fun t _ => V t) ++ tableL 1 1 (fun _ _ => V i))) (g : W.grownBy W2 xr.ownBlock) :
    MadeF W1 (W2.setCell ⟨xb, 1, none⟩ v') xb st (i + 1) v' V := by
  refine ⟨boxX_store (h.box g) v', ?_, ?_⟩
  · rw [tableL_snoc]
    exact h'.set (show xb < xb + 1 by omega) _
  · exact (World.grownBy.grows g h.2.1 (W0 := W1) h.2.2 (by omega)).setCell hb _
/-- what else the call owns stays, too -/
theorem MadeF.also {W1 W W2 : World} {xb : Nat} {st : Int} {i : Nat} {xr v' ov : Value} {V : Nat → Value} {n : Nat} {xs : List Value} (h : MadeF W1 W xb st i xr V) (ho : W.ownsRow (xb + 1) 3 1 ov n xs) (g : W.grownBy W2 xr.ownBlock) :
    (W2.setCell ⟨xb, 1, none⟩ v').ownsRow (xb + 1) 3 1 ov n xs := (ho.other h.2.1 (by decide) g).set (show xb < xb + 1 by omega) _
theorem MadeF.beside {W1 W W2 : World} {xb : Nat} {st : Int} {i : Nat} {xr ov : Value} {V : Nat → Value} {n : Nat} {xs : List Value} (h : MadeF W1 W xb st i xr V) (hb : W1.heap.size ≤ xb) (ho : W.ownsRow (xb + 1) 3 1 ov n xs) (g : W.grownBy W2 ov.ownBlock) : MadeF W1 W2 xb st i xr V := by
  refine ⟨?_, h.2.1.other ho (by decide) g, World.grownBy.grows g ho (W0 := W1) h.2.2 (by omega)⟩
  rw [g.block xb (World.lt_of_block h.1) (fun e => by have := (ho.lt xb e.symm).1; omega)]
  exact h.1
theorem MadeF.written {W1 W : World} {xb : Nat} {st : Int} {i : Nat} {xr : Value} {V : Nat → Value} (h : MadeF W1 W xb st i xr V) (hb : W1.heap.size ≤ xb) {ob : Nat} (hob : xb < ob) {ys : Array Value} (hc : W.heap[ob]? = some (.cells ys 3)) (k : Nat) (u : Value) :
    MadeF W1 (W.setCell ⟨ob, k, none⟩ u) xb st i xr V := by
  refine ⟨?_, ownsRow_setElse h.2.1 hc (by decide) k u, h.2.2.setCell (show W1.heap.size ≤ ob by omega) _⟩
  rw [World.setCell_heap_other (by omega)]
  exact h.1
/-- the block of a row that is there -/
theorem ownsRow_block {W : World} {base : Nat} {e : TypeId} {sz : Nat} {g n cap : Nat} {xs : List Value} (h : W.ownsRow base e sz (.slice (some ⟨g, 0, none⟩) n cap) n xs) (hn : 0 < n) : base ≤ g ∧ ∃ ys, W.heap[g]? = some (.cells ys e) := by
  rcases h.2 with ⟨he, _⟩ | ⟨g', cap', cur, he, hg, hgg, _⟩
  · cases he
  · cases he; exact ⟨hg, _, hgg⟩
end Go.Proofs.Ytjpccfpmhmddjaa

/-
  What is proved: append onto a slice without elements and without room: the new block, outright.
-/
namespace Go
open Go.RowKit
section
variable {P : Program} (w : World)
theorem run_append_fresh (t ty e : TypeId) (z : Value) (size bytes : Nat) (ht : P.underlying t = some (.slice e)) (hi : P.knows e z size bytes) (hzs : z.cells.size = size) (hsz : 0 < size)
    (A : Option Addr) (xv : Value) (m : Nat) (news : List Value) (hsrc : SrcAt w xv m size news) (h0 : 0 < m) (h63 : m ≤ maxLen) (hbytes : m * bytes ≤ 140737488355328) :
    ∃ cap xs, (Builtin.append_ #[t, t] ty #[.slice A 0 0, xv]).run P w = .ok (.slice (some ⟨w.heap.size, 0, none⟩) m cap) (w.drew.alloc (.cells xs e)) ∧ m ≤ cap ∧ cap ≤ maxLen ∧ xs.size = cap * size ∧ xs.toList.take (m * size) = news := by
  obtain ⟨i, hi, hz, rfl, rfl⟩ := hi
  obtain ⟨B, c, rfl, hl, hB⟩ := hsrc
  obtain ⟨ad, rfl, hc⟩ := hB h0
  have hge := grownCap_ge w m 0 e
  have hcm : grownCap w m 0 e ≤ maxLen := grownCap_le_maxLen w m 0 e h63
  refine ⟨grownCap w m 0 e, news.toArray ++ Builtin.zeroCells z.cells (grownCap w m 0 e - m), ?_, hge, hcm, ?_, ?_⟩
  · cases A with
    | none =>
      exact run_append_nil (P := P) w t ty e i z ht hi hz ad m c news hl hc (by omega) (by simp only [maxLen] at h63; omega) (by omega)
    | some b =>
      have hr := run_append_grow (P := P) w t ty e i z ht hi hz b 0 0 [] (by simp) (by simp) ad m c news hl hc (by omega) (by simp only [maxLen] at h63; omega) (growslice_fits (by omega) (by simpa using hbytes))
      simpa using hr
  · simp only [Array.size_append, List.size_toArray, size_zeroCells, hzs, hl, ← Nat.add_mul]
    congr 1
    omega
  · simp only [Array.toList_append]
    rw [← hl]
    exact List.take_left
theorem wpList_append_fresh {ops : Array Oper} {rest : List Oper} {o : Oper} {a : Act} {Q : Exit → Act → World → Prop} (hgd : o.guard = none) (s x : Operand) (t : TypeId)
    (ho : o.op = .call { callee := .builtin .append, args := #[s, x], argTypes := #[t, t] })
    (e : TypeId) (z : Value) (size bytes : Nat) (ht : P.underlying t = some (.slice e)) (hi : P.knows e z size bytes) (hzs : z.cells.size = size) (hsz : 0 < size)
    (A : Option Addr) (hs : a.eval s = .slice A 0 0) (xv : Value) (hx : a.eval x = xv) (m : Nat) (news : List Value) (hsrc : SrcAt w xv m size news) (h0 : 0 < m) (h63 : m ≤ maxLen) (hbytes : m * bytes ≤ 140737488355328)
    (h : ∀ cap xs, m ≤ cap → cap ≤ maxLen → xs.size = cap * size → xs.toList.take (m * size) = news → wpList P ops Q rest (a.put o.dst (.slice (some ⟨w.heap.size, 0, none⟩) m cap)) (w.drew.alloc (.cells xs e))) :
    wpList P ops Q (o :: rest) a w := by
  refine wpList_plain hgd fun K hK => ?_
  obtain ⟨cap, xs, hr, h2, h3, h4, h5⟩ := run_append_fresh (P := P) w t o.type e z size bytes ht hi hzs hsz A xv m news hsrc h0 h63 hbytes
  unfold Oper.wp execOp
  simp only [ho, resolve, invoke, builtin, Sem.run_bind, Sem.run_pure, Result.andThen_ok, List.map_toArray, List.map_cons, List.map_nil, hs, hx, hr]
  exact hK _ _ (h cap xs h2 h3 h4 h5)
/-- the same, as a step of a region that draws its order (go_region_law) -/
theorem step_append_fresh {ops : Array Oper} {o : Oper} {a : Act} {K : Act → World → Prop} {Q : Exit → Act → World → Prop} {E : Prop} (hgd : o.guard = none) (s x : Operand) (t : TypeId)
    (ho : o.op = .call { callee := .builtin .append, args := #[s, x], argTypes := #[t, t] })
    (e : TypeId) (z : Value) (size bytes : Nat) (ht : P.underlying t = some (.slice e)) (hi : P.knows e z size bytes) (hzs : z.cells.size = size) (hsz : 0 < size)
    (A : Option Addr) (hs : a.eval s = .slice A 0 0) (xv : Value) (hx : a.eval x = xv) (m : Nat) (news : List Value) (hsrc : SrcAt w xv m size news) (h0 : 0 < m) (h63 : m ≤ maxLen) (hbytes : m * bytes ≤ 140737488355328)
    (hK : ∀ cap xs, m ≤ cap → cap ≤ maxLen → xs.size = cap * size → xs.toList.take (m * size) = news → K (a.put o.dst (.slice (some ⟨w.heap.size, 0, none⟩) m cap)) (w.drew.alloc (.cells xs e))) :
    if Region.wanted o (yielded ops a.tmps) = true then Oper.wp P o a w K Q else E := by
  have hw : Region.wanted o (yielded ops a.tmps) = true := by simp [Region.wanted, hgd]
  rw [if_pos hw]
  obtain ⟨cap, xs, hr, h2, h3, h4, h5⟩ := run_append_fresh (P := P) w t o.type e z size bytes ht hi hzs hsz A xv m news hsrc h0 h63 hbytes
  unfold Oper.wp execOp
  simp only [ho, resolve, invoke, builtin, Sem.run_bind, Sem.run_pure, Result.andThen_ok, List.map_toArray, List.map_cons, List.map_nil, hs, hx, hr]
  exact hK cap xs h2 h3 h4 h5
end
/-- such a block is a row of the call's own -/
theorem ownsRow_of {w : World} {b cap n base : Nat} {e : TypeId} {size : Nat} {xs : Array Value} {l : List Value} (h : w.heap[b]? = some (.cells xs e)) (hb : base ≤ b) (h1 : n ≤ cap) (h2 : cap ≤ maxLen) (h3 : xs.size = cap * size) (h4 : xs.toList.take (n * size) = l) (hl : l.length = n * size) :
    w.ownsRow base e size (.slice (some ⟨b, 0, none⟩) n cap) n l :=
  ⟨hl, .inr ⟨b, cap, xs, rfl, hb, h, h1, h2, h3, h4⟩⟩
end Go

/-
  What is proved: plain words for PassTold.
-/
namespace Go.Proofs.Ytjpccfpmhmddjaa
open Go.RowKit

theorem least_or (q : Nat → Bool) (m : Nat) : (∀ i, i < m → q i = false) ∨ ∃ k, k < m ∧ q k = true ∧ ∀ i, i < k → q i = false := by
  induction m with
  | zero => exact .inl fun i hi => absurd hi (by omega)
  | succ m ih =>
    rcases ih with h | ⟨k, hk, h1, h2⟩
    · by_cases hm : q m = true
      · exact .inr ⟨m, by omega, hm, h⟩
      · left
        intro i hi
        rcases Nat.lt_or_ge i m with h3 | h3
        · exact h i h3
        · have : i = m := by omega
          subst this
          simpa using hm
    · exact .inr ⟨k, by omega, h1, h2⟩
/-- what Blue answers for an order that is right -/
theorem Job.blue_told {J : Job} {m : Nat} {f : Nat → Int} {l : Int} (h : J.followErr m f = 0) :
    (J.blueErr m f l = 5 ∧ J.blueAns m f l = 0 ∧ ∀ i, i < m → J.hotAt (natOf f) i ≤ l) ∨
    ∃ k : Nat, k < m ∧ J.blueErr m f l = 0 ∧ J.blueAns m f l = k ∧ l < J.hotAt (natOf f) k ∧ ∀ i, i < k → J.hotAt (natOf f) i ≤ l := by
  rcases least_or (J.blueQ f l) m with h1 | ⟨k, hk, h1, h2⟩
  · left
    have hi : J.blueIdx m f l = -1 := fstIdx_none _ _ h1
    obtain ⟨e1, e2⟩ := Job.blue_none (l := l) h (by rw [hi]; omega)
    refine ⟨e1, e2, fun i hi => ?_⟩
    have := h1 i hi
    unfold Job.blueQ at this
    simpa using this
  · right
    have hi : J.blueIdx m f l = k := fstIdx_at _ _ _ hk h2 h1
    obtain ⟨e1, e2⟩ := Job.blue_ok (l := l) h (by rw [hi]; omega)
    refine ⟨k, hk, e1, by rw [e2, hi], ?_, fun i hik => ?_⟩
    · unfold Job.blueQ at h1; simpa using h1
    · have := h2 i hik
      unfold Job.blueQ at this
      simpa using this
/-- the heat of a place that is handed over as numbers -/
theorem Job.heat_at {J : Job} (hc : J.check = 0) {p : Nat → Nat} (hp : J.In p) : J.heatErr J.n (fun i => (p i : Nat)) = 0 ∧ J.heatAns J.n (fun i => (p i : Nat)) = J.heat p := by
  have e0 : J.posErr J.n (fun i => (p i : Nat)) = 0 := Job.posErr_ok fun i hi => by have := hp.le i hi; omega
  have e1 : J.heatErr J.n (fun i => (p i : Nat)) = 0 := by unfold Job.heatErr; rw [if_pos hc, e0]
  refine ⟨e1, ?_⟩
  have e2 : J.posP J.n (fun i => (p i : Nat)) = p := by
    obtain ⟨h1, h2, h3⟩ := Job.posP_In e0
    funext i
    rcases Nat.lt_or_ge i J.n with hi | hi
    · have := h3 i hi; omega
    · rw [h2 i hi, hp.out i hi]
  unfold Job.heatAns
  rw [if_pos e1, e2]
/-- the greatest of the first heats as the law keeps it -/
def mostN (h : Nat → Int) : Nat → Int
  | 0 => 0
  | k + 1 => if k = 0 ∨ mostN h k < h k then h k else mostN h k
theorem mostN_max (h : Nat → Int) : ∀ m, 1 ≤ m → mostN h m = maxN h m
  | 0, hm => by omega
  | m + 1, _ => by
    by_cases h0 : m = 0
    · subst h0; simp [mostN, maxN]
    · have ih := mostN_max h m (by omega)
      simp only [mostN, maxN]
      rw [ih]
      split
      · rename_i hc; omega
      · rename_i hc; omega
theorem Job.OrdOk.walkIn {J : Job} {m : Nat} {g : Nat → Nat} (h : J.OrdOk m g) {k : Nat} (hk : k ≤ m) : J.In (walkP g k) :=
  ⟨fun r hr => by rw [← h.all r hr]; exact walkP_mono r m k hk, fun r hr => walkP_out k (fun i hi => h.lt i (by omega)) r hr⟩
end Go.Proofs.Ytjpccfpmhmddjaa

/-
  What is proved: the heat of a place one step on.
-/
namespace Go.Proofs.Ytjpccfpmhmddjaa
open Go.RowKit

theorem sumTo_upd {f g : Nat → Int} {r : Nat} {x : Int} : ∀ n, r < n → (∀ i, i < n → i ≠ r → g i = f i) → g r = f r + x → sumTo g n = sumTo f n + x
  | 0, h, _, _ => absurd h (by omega)
  | n + 1, hr, h, hx => by
    simp only [sumTo]
    rcases Nat.lt_or_ge r n with h1 | h1
    · rw [sumTo_upd n h1 (fun i hi hne => h i (by omega) hne) hx, h n (by omega) (by omega)]
      omega
    · have : r = n := by omega
      subst this
      rw [sumTo_congr g f r (fun i hi => h i (by omega) (by omega)), hx]
      omega
theorem Job.heat_to (J : Job) (p : Nat → Nat) {r : Nat} (hr : r < J.n) : J.heat (Job.to p r) = J.heat p + J.lv r (p r) := by
  unfold Job.heat
  rw [sumTo_upd (f := J.row p) (g := J.row (Job.to p r)) (r := r) (x := J.lv r (p r)) J.n hr (fun i hi hne => by simp [Job.row, Job.to, upd, hne]) (by simp [Job.row, Job.to, upd, sumTo])]
  omega
theorem walkP_to (g : Nat → Nat) (k : Nat) : walkP g (k + 1) = Job.to (walkP g k) (g k) := rfl
end Go.Proofs.Ytjpccfpmhmddjaa

/-
  What is proved: plain words for PassShifted: a job that is hotter at first.
-/
namespace Go.Proofs.Ytjpccfpmhmddjaa
open Go.RowKit

def Job.up (J : Job) (u : Int) : Job := { J with start := J.start + u }
theorem Job.heat_up (J : Job) (u : Int) (p : Nat → Nat) : (J.up u).heat p = J.heat p + u := by
  show J.start + u + sumTo (J.row p) J.n = J.start + sumTo (J.row p) J.n + u
  omega
theorem Job.hot_up (J : Job) (u : Int) (p : Nat → Nat) (r : Nat) : (J.up u).hot p r = J.hot p r + u := by
  show (J.up u).heat p + J.pk r (p r) = J.heat p + J.pk r (p r) + u
  rw [J.heat_up]; omega
theorem Job.waysF_up (J : Job) (u l : Int) : ∀ (d : Nat) (p : Nat → Nat), (J.up u).waysF (l + u) d p = J.waysF l d p
  | 0, _ => rfl
  | d + 1, p => by
    show sumN (fun r => if 0 < p r ∧ (J.up u).hot (dn p r) r ≤ l + u then (J.up u).waysF (l + u) d (dn p r) else 0) J.n = sumN (fun r => if 0 < p r ∧ J.hot (dn p r) r ≤ l then J.waysF l d (dn p r) else 0) J.n
    refine sumN_congr J.n fun r _ => ?_
    rw [J.hot_up, J.waysF_up u l d]
    have : (0 < p r ∧ J.hot (dn p r) r + u ≤ l + u) ↔ (0 < p r ∧ J.hot (dn p r) r ≤ l) := by omega
    simp only [this]
theorem Job.waysN_up (J : Job) (u l : Int) (p : Nat → Nat) : (J.up u).waysN (l + u) p = J.waysN l p := J.waysF_up u l (J.deg p) p
theorem Job.hotAt_up (J : Job) (u : Int) (g : Nat → Nat) (k : Nat) : (J.up u).hotAt g k = J.hotAt g k + u := J.hot_up u _ _
theorem Job.Best.up {J : Job} {hot : Int} (h : J.Best hot) (u : Int) : (J.up u).Best (hot + u) := by
  refine ⟨?_, fun l hl => ?_⟩
  · show 0 < (J.up u).waysN (hot + u) J.last
    rw [J.waysN_up]; exact h.1
  · show (J.up u).waysN l J.last = 0
    have := J.waysN_up u (l - u) J.last
    rw [show l - u + u = l by omega] at this
    rw [this]
    exact h.2 _ (by omega)
theorem maxN_up (h : Nat → Int) (u : Int) : ∀ m, maxN (fun k => h k + u) m = maxN h m + u
  | 0 => rfl
  | m + 1 => by
    simp only [maxN]
    rw [maxN_up h u m]
    omega
theorem Job.ordErr_up (J : Job) (u : Int) (m : Nat) (f : Nat → Int) : (J.up u).ordErr m f = J.ordErr m f := rfl
end Go.Proofs.Ytjpccfpmhmddjaa

/-
  What is proved: plain words for PassShifted: with an edge more, whose Leaves are not below 0, a best order does not become less hot.
-/
namespace Go.Proofs.Ytjpccfpmhmddjaa
open Go.RowKit

/-- the job with an edge more -/
def Job.more (J : Job) (len : Nat) (pk lv : Nat → Int) : Job := ⟨J.start, J.n + 1, fun i => if i < J.n then J.len i else len, fun i => if i < J.n then J.pk i else pk, fun i => if i < J.n then J.lv i else lv⟩
theorem sumTo_nonneg {f : Nat → Int} : ∀ k, (∀ i, 0 ≤ f i) → 0 ≤ sumTo f k
  | 0, _ => Int.le_refl 0
  | k + 1, h => by
    have := sumTo_nonneg k h
    have := h k
    simp only [sumTo]; omega
theorem Job.more_row (J : Job) (len : Nat) (pk lv : Nat → Int) {q p : Nat → Nat} (h : ∀ i, i < J.n → q i = p i) : sumTo ((J.more len pk lv).row q) J.n = sumTo (J.row p) J.n :=
  sumTo_congr _ _ J.n fun i hi => by
    show sumTo (if i < J.n then J.lv i else lv) (q i) = sumTo (J.lv i) (p i)
    rw [if_pos hi, h i hi]
theorem Job.more_heat (J : Job) (len : Nat) (pk lv : Nat → Int) (hl : ∀ i, 0 ≤ lv i) {q p : Nat → Nat} (h : ∀ i, i < J.n → q i = p i) : J.heat p ≤ (J.more len pk lv).heat q := by
  show J.start + sumTo (J.row p) J.n ≤ J.start + (sumTo ((J.more len pk lv).row q) J.n + (J.more len pk lv).row q J.n)
  rw [J.more_row len pk lv h]
  have : 0 ≤ (J.more len pk lv).row q J.n := by
    show 0 ≤ sumTo (if J.n < J.n then J.lv J.n else lv) (q J.n)
    rw [if_neg (Nat.lt_irrefl _)]
    exact sumTo_nonneg _ hl
  omega
theorem Job.more_hot (J : Job) (len : Nat) (pk lv : Nat → Int) (hl : ∀ i, 0 ≤ lv i) {q p : Nat → Nat} (h : ∀ i, i < J.n → q i = p i) {r : Nat} (hr : r < J.n) : J.hot p r ≤ (J.more len pk lv).hot q r := by
  show J.heat p + J.pk r (p r) ≤ (J.more len pk lv).heat q + (if r < J.n then J.pk r else pk) (q r)
  have := J.more_heat len pk lv hl h
  rw [if_pos hr, h r hr]
  omega
theorem Job.more_ways (J : Job) (len : Nat) (pk lv : Nat → Int) (hl : ∀ i, 0 ≤ lv i) (l : Int) : ∀ (d : Nat) {q p : Nat → Nat}, (∀ i, i < J.n → q i = p i) → d = J.deg p + q J.n → 0 < (J.more len pk lv).waysF l d q → 0 < J.waysF l (J.deg p) p
  | 0, q, p, h, hd, _ => by
    rw [show J.deg p = 0 by omega]; exact Nat.one_pos
  | d + 1, q, p, h, hd, hw => by
    obtain ⟨r, hr, hc⟩ := (sumN_gt (J.n + 1)).mp hw
    split at hc
    · rename_i hc1
      by_cases hrn : r < J.n
      · have hq : ∀ i, i < J.n → dn q r i = dn p r i := fun i hi => by
          simp only [Go.Proofs.Ytjpccfpmhmddjaa.dn, upd, h i hi, h r hrn]
        have h0 : 0 < p r := by have := h r hrn; omega
        have hdd := J.deg_dn hrn h0
        have hqn : dn q r J.n = q J.n := by simp only [Go.Proofs.Ytjpccfpmhmddjaa.dn, upd]; rw [if_neg (by omega)]
        have ih := J.more_ways len pk lv hl l d hq (by omega) hc
        rw [← hdd]
        refine (sumN_gt J.n).mpr ⟨r, hrn, ?_⟩
        have hh := J.more_hot len pk lv hl hq hrn
        rw [if_pos ⟨h0, by omega⟩]
        exact ih
      · have hre : r = J.n := by omega
        subst hre
        have hq : ∀ i, i < J.n → dn q J.n i = p i := fun i hi => by
          simp only [Go.Proofs.Ytjpccfpmhmddjaa.dn, upd]; rw [if_neg (by omega), h i hi]
        have hqn : dn q J.n J.n = q J.n - 1 := by simp [Go.Proofs.Ytjpccfpmhmddjaa.dn, upd]
        exact J.more_ways len pk lv hl l d hq (by omega) hc
    · omega
theorem Job.Best.more {J : Job} {hot hot' : Int} (hb : J.Best hot) {len : Nat} {pk lv : Nat → Int} (hl : ∀ i, 0 ≤ lv i) (hm : (J.more len pk lv).Best hot') : hot ≤ hot' := by
  refine Decidable.byContradiction fun hlt => ?_
  have h0 := hb.2 hot' (by omega)
  have h1 := hm.1
  have hq : ∀ i, i < J.n → (J.more len pk lv).last i = J.last i := fun i hi => by
    show (if i < J.n + 1 then (if i < J.n then J.len i else len) else 0) = if i < J.n then J.len i else 0
    simp only [if_pos hi, if_pos (show i < J.n + 1 by omega)]
  have hd : (J.more len pk lv).deg (J.more len pk lv).last = J.deg J.last + (J.more len pk lv).last J.n := by
    show sumN (J.more len pk lv).last J.n + (J.more len pk lv).last J.n = sumN J.last J.n + (J.more len pk lv).last J.n
    rw [sumN_congr J.n hq]
  have h2 := J.more_ways len pk lv hl hot' _ hq hd h1
  unfold Job.waysN at h0
  omega
end Go.Proofs.Ytjpccfpmhmddjaa

/-
  What is proved: plain words for PassShifted: the edges turned round.
-/
namespace Go.Proofs.Ytjpccfpmhmddjaa
open Go.RowKit

def rot (n t i : Nat) : Nat := (i + t) % n
theorem rot_lt {n t i : Nat} (hn : 0 < n) : rot n t i < n := Nat.mod_lt _ hn
theorem rot_inj {n t i j : Nat} (hi : i < n) (hj : j < n) (h : rot n t i = rot n t j) : i = j := by
  unfold rot at h
  have h1 : (i + t) % n = (i + t % n) % n := by rw [Nat.add_mod_mod]
  have h2 : (j + t) % n = (j + t % n) % n := by rw [Nat.add_mod_mod]
  have ht : t % n < n := Nat.mod_lt _ (by omega)
  rw [h1, h2] at h
  generalize t % n = s at h ht
  rcases Nat.lt_or_ge (i + s) n with a | a <;> rcases Nat.lt_or_ge (j + s) n with b | b
  · rw [Nat.mod_eq_of_lt a, Nat.mod_eq_of_lt b] at h; omega
  · rw [Nat.mod_eq_of_lt a, Nat.mod_eq_sub_mod b, Nat.mod_eq_of_lt (by omega)] at h; omega
  · rw [Nat.mod_eq_of_lt b, Nat.mod_eq_sub_mod a, Nat.mod_eq_of_lt (by omega)] at h; omega
  · rw [Nat.mod_eq_sub_mod a, Nat.mod_eq_sub_mod b, Nat.mod_eq_of_lt (by omega), Nat.mod_eq_of_lt (by omega)] at h; omega
theorem sumN_one (f : Nat → Nat) : ∀ m, sumN (fun i => f (i + 1)) m + f 0 = sumN f (m + 1)
  | 0 => by simp [sumN]
  | m + 1 => by
    have := sumN_one f m
    simp only [sumN] at this ⊢
    omega
theorem sumN_rot1 (f : Nat → Nat) (n : Nat) : sumN (fun i => f ((i + 1) % n)) n = sumN f n := by
  cases n with
  | zero => rfl
  | succ m =>
    rw [← sumN_one f m]
    simp only [sumN]
    rw [sumN_congr (g := fun i => f (i + 1)) m (fun i hi => by show f ((i + 1) % (m + 1)) = f (i + 1); rw [Nat.mod_eq_of_lt (by omega)]), Nat.mod_self]
theorem sumN_rot (f : Nat → Nat) (n : Nat) : ∀ t, sumN (fun i => f (rot n t i)) n = sumN f n
  | 0 => sumN_congr n fun i hi => by unfold rot; rw [Nat.add_zero, Nat.mod_eq_of_lt hi]
  | t + 1 => by
    have h := sumN_rot (fun i => f ((i + 1) % n)) n t
    rw [sumN_rot1] at h
    rw [← h]
    refine sumN_congr n fun i hi => ?_
    unfold rot
    rw [Nat.mod_add_mod]
    congr 2
theorem sumTo_one (f : Nat → Int) : ∀ m, sumTo (fun i => f (i + 1)) m + f 0 = sumTo f (m + 1)
  | 0 => by simp [sumTo]
  | m + 1 => by
    have := sumTo_one f m
    simp only [sumTo] at this ⊢
    omega
theorem sumTo_rot1 (f : Nat → Int) (n : Nat) : sumTo (fun i => f ((i + 1) % n)) n = sumTo f n := by
  cases n with
  | zero => rfl
  | succ m =>
    rw [← sumTo_one f m]
    simp only [sumTo]
    rw [sumTo_congr (fun i => f ((i + 1) % (m + 1))) (fun i => f (i + 1)) m (fun i hi => by show f ((i + 1) % (m + 1)) = f (i + 1); rw [Nat.mod_eq_of_lt (by omega)]), Nat.mod_self]
theorem sumTo_rot (f : Nat → Int) (n : Nat) : ∀ t, sumTo (fun i => f (rot n t i)) n = sumTo f n
  | 0 => sumTo_congr _ _ n fun i hi => by unfold rot; rw [Nat.add_zero, Nat.mod_eq_of_lt hi]
  | t + 1 => by
    have h := sumTo_rot (fun i => f ((i + 1) % n)) n t
    rw [sumTo_rot1] at h
    rw [← h]
    refine sumTo_congr _ _ n fun i hi => ?_
    unfold rot
    rw [Nat.mod_add_mod]
    congr 2

/-- the job with its edges turned round -/
def Job.rot (J : Job) (t : Nat) : Job := ⟨J.start, J.n, fun i => J.len (Go.Proofs.Ytjpccfpmhmddjaa.rot J.n t i), fun i => J.pk (Go.Proofs.Ytjpccfpmhmddjaa.rot J.n t i), fun i => J.lv (Go.Proofs.Ytjpccfpmhmddjaa.rot J.n t i)⟩
def Job.rotR (J : Job) (t : Nat) (q p : Nat → Nat) : Prop := ∀ i, i < J.n → q i = p (Go.Proofs.Ytjpccfpmhmddjaa.rot J.n t i)
theorem Job.rotR.heat {J : Job} {t : Nat} {q p : Nat → Nat} (h : J.rotR t q p) : (J.rot t).heat q = J.heat p := by
  show J.start + sumTo ((J.rot t).row q) J.n = J.start + sumTo (J.row p) J.n
  rw [← sumTo_rot (J.row p) J.n t]
  congr 1
  refine sumTo_congr _ _ J.n fun i hi => ?_
  show sumTo (J.lv (Go.Proofs.Ytjpccfpmhmddjaa.rot J.n t i)) (q i) = sumTo (J.lv (Go.Proofs.Ytjpccfpmhmddjaa.rot J.n t i)) (p (Go.Proofs.Ytjpccfpmhmddjaa.rot J.n t i))
  rw [h i hi]
theorem Job.rotR.dn {J : Job} {t : Nat} {q p : Nat → Nat} (h : J.rotR t q p) {r : Nat} (hr : r < J.n) : J.rotR t (dn q r) (dn p (Go.Proofs.Ytjpccfpmhmddjaa.rot J.n t r)) := fun i hi => by
  simp only [Go.Proofs.Ytjpccfpmhmddjaa.dn, upd]
  by_cases hir : i = r
  · subst hir; simp [h i hi]
  · rw [if_neg hir, if_neg (fun e => hir (rot_inj hi hr e)), h i hi]
theorem Job.rotR.hot {J : Job} {t : Nat} {q p : Nat → Nat} (h : J.rotR t q p) {r : Nat} (hr : r < J.n) : (J.rot t).hot q r = J.hot p (Go.Proofs.Ytjpccfpmhmddjaa.rot J.n t r) := by
  show (J.rot t).heat q + J.pk (Go.Proofs.Ytjpccfpmhmddjaa.rot J.n t r) (q r) = J.heat p + J.pk (Go.Proofs.Ytjpccfpmhmddjaa.rot J.n t r) (p (Go.Proofs.Ytjpccfpmhmddjaa.rot J.n t r))
  rw [h.heat, h r hr]
theorem Job.rotR.ways {J : Job} {t : Nat} (l : Int) : ∀ (d : Nat) {q p : Nat → Nat}, J.rotR t q p → (J.rot t).waysF l d q = J.waysF l d p
  | 0, _, _, _ => rfl
  | d + 1, q, p, h => by
    show sumN (fun r => if 0 < q r ∧ (J.rot t).hot (Go.Proofs.Ytjpccfpmhmddjaa.dn q r) r ≤ l then (J.rot t).waysF l d (Go.Proofs.Ytjpccfpmhmddjaa.dn q r) else 0) J.n = sumN (fun r => if 0 < p r ∧ J.hot (Go.Proofs.Ytjpccfpmhmddjaa.dn p r) r ≤ l then J.waysF l d (Go.Proofs.Ytjpccfpmhmddjaa.dn p r) else 0) J.n
    rw [← sumN_rot (fun r => if 0 < p r ∧ J.hot (Go.Proofs.Ytjpccfpmhmddjaa.dn p r) r ≤ l then J.waysF l d (Go.Proofs.Ytjpccfpmhmddjaa.dn p r) else 0) J.n t]
    refine sumN_congr J.n fun r hr => ?_
    rw [(h.dn hr).hot hr, Job.rotR.ways l d (h.dn hr), h r hr]
theorem Job.rot_ways (J : Job) (t : Nat) (l : Int) : (J.rot t).waysN l (J.rot t).last = J.waysN l J.last := by
  have h : J.rotR t (J.rot t).last J.last := fun i hi => by
    have hlt := rot_lt (t := t) (i := i) (show 0 < J.n by omega)
    show (if i < J.n then J.len (Go.Proofs.Ytjpccfpmhmddjaa.rot J.n t i) else 0) = (if Go.Proofs.Ytjpccfpmhmddjaa.rot J.n t i < J.n then J.len (Go.Proofs.Ytjpccfpmhmddjaa.rot J.n t i) else 0)
    rw [if_pos hi, if_pos hlt]
  have hd : (J.rot t).deg (J.rot t).last = J.deg J.last := by
    show sumN (J.rot t).last J.n = sumN J.last J.n
    rw [← sumN_rot J.last J.n t]
    exact sumN_congr J.n fun i hi => h i hi
  unfold Job.waysN
  rw [hd]
  exact Job.rotR.ways l _ h
theorem Job.Best.rot {J : Job} {hot : Int} (h : J.Best hot) (t : Nat) : (J.rot t).Best hot :=
  ⟨by rw [J.rot_ways]; exact h.1, fun l hl => by rw [J.rot_ways]; exact h.2 l hl⟩
end Go.Proofs.Ytjpccfpmhmddjaa

/-
  What is proved: two jobs in boxes, of whose edges one is made while the other one stays.
-/
namespace Go.Proofs.Ytjpccfpmhmddjaa
open Go.RowKit

/-- the box xb holds a job of which i edges are taken from elsewhere, in a block from B on -/
def MadeB (W1 W : World) (xb B : Nat) (st : Int) (i : Nat) (xr : Value) (V : Nat → Value) : Prop :=
  W.heap[xb]? = some (.cells #[.int .i64 st, xr] 24) ∧ W.ownsRow B 62 1 xr i (tableL i 1 (fun t _ => V t)) ∧ W1.grows W
theorem MadeB.grow {W1 W W2 : World} {xb B : Nat} {st : Int} {i : Nat} {xr : Value} {V : Nat → Value} (h : MadeB W1 W xb B st i xr V) (g : W.grows W2) : MadeB W1 W2 xb B st i xr V :=
  ⟨g.heap_of h.1, h.2.1.grow g, h.2.2.trans g⟩
theorem MadeB.keep {W1 W W2 : World} {xb B : Nat} {st : Int} {i : Nat} {xr : Value} {V : Nat → Value} (h : MadeB W1 W xb B st i xr V) (g : W.grownBy W2 xr.ownBlock) {b : Nat} {o : Obj} (hb : b < B) (ho : W.heap[b]? = some o) : W2.heap[b]? = some o := by
  rw [g.block b (World.lt_of_block ho) (fun e => by have := (h.2.1.lt b e.symm).1; omega)]
  exact ho
theorem MadeB.push {W1 W W2 : World} {xb B : Nat} {st : Int} {i : Nat} {xr v' : Value} {V : Nat → Value} (h : MadeB W1 W xb B st i xr V) (hb : W1.heap.size ≤ xb) (hB : xb < B)
    (h' : W2.ownsRow B 62 1 v' (i + 1) (tableL i 1 (fun t _ => V t) ++ tableL 1 1 (fun _ _ => V i))) (g : W.grownBy W2 xr.ownBlock) :
    MadeB W1 (W2.setCell ⟨xb, 1, none⟩ v') xb B st (i + 1) v' V := by
  refine ⟨boxX_store (h.keep g hB h.1) v', ?_, ?_⟩
  · rw [tableL_snoc]
    exact h'.set hB _
  · exact (World.grownBy.grows g h.2.1 (W0 := W1) h.2.2 (by omega)).setCell hb _
/-- a job whose edges lie in a block -/
theorem raw_block {W1 W : World} {g n cap : Nat} {xs : Array Value} {T : Job} {V : Nat → Value} (hg : W1.grows W) (hc : W.heap[g]? = some (.cells xs 62)) (h1 : n ≤ cap) (h2 : cap ≤ maxLen) (h3 : xs.toList.take n = tableL n 1 (fun t _ => V t)) (hn : T.n = n)
    (hV : ∀ t, t < n → SliceAt W1 (V t) (T.len t) 2 (pas T t)) : RawAt W (.agg #[.int .i64 T.start, .slice (some ⟨g, 0, none⟩) n cap]) T := by
  subst hn
  refine ⟨_, V, rfl, ⟨_, _, rfl, h1, h2, fun i j hi hj => ⟨_, _, rfl, ?_⟩⟩, fun i hi => (hV i hi).mono hg⟩
  have hj0 : j = 0 := by omega
  subst hj0
  have h4 := tableL_get (m := T.n) (sz := 1) (fun t (_ : Nat) => V t) hi (show (0 : Nat) < 1 by omega)
  rw [← h3, Nat.mul_one, Nat.add_zero, List.getElem?_take_of_lt hi] at h4
  unfold World.cell?
  simp only [hc]
  simpa using h4
theorem pas_more {J : Job} {mm : Nat} {pm lm : Nat → Int} {t : Nat} (ht : t < J.n) : (J.more mm pm lm).len t = J.len t ∧ pas (J.more mm pm lm) t = pas J t := by
  constructor
  · show (if t < J.n then J.len t else mm) = _
    rw [if_pos ht]
  · funext k j
    show (if j = 0 then Value.int .i64 ((if t < J.n then J.pk t else pm) k) else .int .i64 ((if t < J.n then J.lv t else lm) k)) = _
    rw [if_pos ht, if_pos ht]; rfl
theorem pas_last {J : Job} {mm : Nat} {pm lm : Nat → Int} : (J.more mm pm lm).len J.n = mm ∧ pas (J.more mm pm lm) J.n = fun k j => if j = 0 then .int .i64 (pm k) else .int .i64 (lm k) := by
  constructor
  · simp [Job.more]
  · funext k j
    simp [pas, Job.more]
theorem Job.OrdOk.max_bd {J : Job} (hJ : J.Ok) {m : Nat} {g : Nat → Nat} (h : J.OrdOk m g) (hm : 1 ≤ m) (hin : ∀ k, k < m → J.In (walkP g k)) : -25000 ≤ maxN (J.hotAt g) m ∧ maxN (J.hotAt g) m ≤ 26000 := by
  have key : ∀ k, k < m → -25000 ≤ J.hotAt g k ∧ J.hotAt g k ≤ 26000 := fun k hk => Job.hot_bd hJ (hin k hk) (h.lt k hk) (h.lt_len hk)
  have h0 := (maxN_le_iff (h := J.hotAt g) m hm).1 (Int.le_refl _) 0 (by omega)
  exact ⟨by have := key 0 (by omega); omega, (maxN_le_iff m hm).2 fun k hk => (key k hk).2⟩
theorem four_made (w : World) (a b c d : Obj) : ((((w.alloc a).alloc b).alloc c).alloc d).drew.drew.heap[w.heap.size]? = some a ∧ ((((w.alloc a).alloc b).alloc c).alloc d).drew.drew.heap[w.heap.size + 1]? = some b ∧
    ((((w.alloc a).alloc b).alloc c).alloc d).drew.drew.heap[w.heap.size + 1 + 1]? = some c ∧ ((((w.alloc a).alloc b).alloc c).alloc d).drew.drew.heap[w.heap.size + 1 + 1 + 1]? = some d := by
  show ((((w.heap.push a).push b).push c).push d)[w.heap.size]? = some a ∧ ((((w.heap.push a).push b).push c).push d)[w.heap.size + 1]? = some b ∧ ((((w.heap.push a).push b).push c).push d)[w.heap.size + 1 + 1]? = some c ∧ ((((w.heap.push a).push b).push c).push d)[w.heap.size + 1 + 1 + 1]? = some d
  simp only [Array.getElem?_push, Array.size_push]
  refine ⟨?_, ?_, ?_, ?_⟩
  · rw [if_neg (by omega), if_neg (by omega), if_neg (by omega), if_pos trivial]
  · rw [if_neg (by omega), if_neg (by omega), if_pos trivial]
  · rw [if_neg (by omega), if_pos trivial]
  · rw [if_pos trivial]
theorem Job.Ok.rot {J : Job} (h : J.Ok) (t : Nat) : (J.rot t).Ok :=
  ⟨h.n1, h.n4, fun i hi => h.l1 _ (rot_lt (by have := h.n1; omega)), fun i hi => h.l6 _ (rot_lt (by have := h.n1; omega)), h.st, fun i k hi hk => h.pk _ k (rot_lt (by have := h.n1; omega)) hk, fun i k hi hk => h.lv _ k (rot_lt (by have := h.n1; omega)) hk⟩
/-- a block of another type stays when a row grows -/
theorem boxKept {W0 W W2 : World} {base : Nat} {e e' : TypeId} {v : Value} {n : Nat} {xs : List Value} {ys : Array Value} {b : Nat} (h : W.ownsRow base e 1 v n xs) (hb : W0.heap[b]? = some (.cells ys e')) (g : W.grownBy W2 v.ownBlock) (hne : e ≠ e') (g0 : W0.grows W) : W2.heap[b]? = some (.cells ys e') := by
  have hb1 := g0.heap_of hb
  rw [g.block b (World.lt_of_block hb1) ?_]
  · exact hb1
  · rcases h.2 with ⟨rfl, _⟩ | ⟨k, cap, cur, rfl, hg, hgg, rest⟩
    · simp [Value.ownBlock]
    · simp only [Value.ownBlock, ne_eq, Option.some.injEq]
      rintro rfl
      rw [hb1] at hgg
      cases hgg
      exact hne rfl
theorem rowBlock {W : World} {base : Nat} {e : TypeId} {sz g n cap : Nat} {l : List Value} (h : W.ownsRow base e sz (.slice (some ⟨g, 0, none⟩) n cap) n l) (hn : 0 < n) : ∃ ys : Array Value, W.heap[g]? = some (.cells ys e) ∧ n ≤ cap ∧ cap ≤ maxLen ∧ ys.toList.take (n * sz) = l := by
  rcases h.2 with ⟨he, _⟩ | ⟨g', cap', cur, he, hg, hgg, h1, h2, h3, h4⟩
  · cases he
  · cases he
    exact ⟨cur, hgg, h1, h2, h4⟩
theorem rowsAt_slice {W : World} {J : Job} {b o : Nat} {rb ro rc : Nat → Nat} (h : RowsAt W J b o rb ro rc) {i : Nat} (hi : i < J.n) : SliceAt W (.slice (some ⟨rb i, ro i, none⟩) (J.len i) (rc i)) (J.len i) 2 (pas J i) :=
  ⟨_, _, rfl, (h.cap i hi).1, (h.cap i hi).2, fun k j hk hj => ⟨_, _, rfl, by
    rcases (by omega : j = 0 ∨ j = 1) with rfl | rfl
    · simpa [pas] using h.pk i k hi hk
    · simpa [pas] using h.lv i k hi hk⟩⟩
theorem sliceCell {W : World} {A : Option Addr} {n cap m sz : Nat} {c : Nat → Nat → Value} (h : SliceAt W (.slice A n cap) m sz c) {i j : Nat} (hi : i < m) (hj : j < sz) : ∃ b o, A = some ⟨b, o, none⟩ ∧ W.cell? ⟨b, o + i * sz + j, none⟩ = some (c i j) := by
  obtain ⟨a, cap', he, -, -, h4⟩ := h
  cases he
  exact h4 i j hi hj
/-- two boxes with jobs: one with all edges, in a block of its own, one without -/
def YZ (WZ : World) (J : Job) (rb ro rc : Nat → Nat) (s t : Value) (W : World) : Prop := ∃ (yb zb g cap : Nat) (xs : Array Value), s = .pointer (some ⟨yb, 0, none⟩) ∧ t = .pointer (some ⟨zb, 0, none⟩) ∧ Hid (yb ≠ zb ∧ WZ.heap.size ≤ yb ∧ WZ.heap.size ≤ zb ∧ WZ.heap.size ≤ g ∧ W.heap[yb]? = some (.cells #[.int .i64 J.start, .slice (some ⟨g, 0, none⟩) J.n cap] 24) ∧ W.heap[zb]? = some (.cells #[.int .i64 J.start, .slice none 0 0] 24) ∧ W.heap[g]? = some (.cells xs 62) ∧ J.n ≤ cap ∧ cap ≤ maxLen ∧ xs.size = cap * 1 ∧ xs.toList.take (J.n * 1) = tableL J.n 1 (fun t _ => .slice (some ⟨rb t, ro t, none⟩) (J.len t) (rc t)) ∧ WZ.grows W)
theorem YZ.of {WZ W : World} {J : Job} {rb ro rc : Nat → Nat} {yb zb g cap : Nat} {xs : Array Value} (a5 : W.heap[yb]? = some (.cells #[.int .i64 J.start, .slice (some ⟨g, 0, none⟩) J.n cap] 24)) (a6 : W.heap[zb]? = some (.cells #[.int .i64 J.start, .slice none 0 0] 24)) (a7 : W.heap[g]? = some (.cells xs 62))
    (a11 : xs.toList.take (J.n * 1) = tableL J.n 1 (fun t _ => .slice (some ⟨rb t, ro t, none⟩) (J.len t) (rc t))) (a10 : xs.size = cap * 1) (a8 : J.n ≤ cap) (a9 : cap ≤ maxLen) (a1 : yb ≠ zb) (a2 : WZ.heap.size ≤ yb) (a3 : WZ.heap.size ≤ zb) (a4 : WZ.heap.size ≤ g) (a12 : WZ.grows W) :
    YZ WZ J rb ro rc (.pointer (some ⟨yb, 0, none⟩)) (.pointer (some ⟨zb, 0, none⟩)) W := ⟨yb, zb, g, cap, xs, rfl, rfl, Lib.hid ⟨a1, a2, a3, a4, a5, a6, a7, a8, a9, a10, a11, a12⟩⟩
end Go.Proofs.Ytjpccfpmhmddjaa

/-
  What is proved: region 16 of PassShifted: two jobs in boxes, whatever the order.
-/
namespace Go.Proofs.Ytjpccfpmhmddjaa
open Go.RowKit

def theRegion (n : Nat) : Code → Option Code
  | .region k ops d => if k = n then some (.region k ops d) else none
  | .loop c => theRegion n c
  | .seq a b => match theRegion n a with
    | some c => some c
    | none => theRegion n b
  | .block _ c => theRegion n c
  | .scope c => theRegion n c
  | .cond _ a b => match theRegion n a with
    | some c => some c
    | none => theRegion n b
  | _ => none
noncomputable def r16 : Code := (Try.f12.body.bind (theRegion 16)).getD .skip

set_option maxRecDepth 1000000 in
set_option maxHeartbeats 16000000 in
theorem shifted_r16 (WZ : World) (J : Job) (hn1 : 1 ≤ J.n) (hn4 : J.n ≤ 4) (jb jo jcap b6 : Nat) (rb ro rc : Nat → Nat) (c0 : WZ.cell? ⟨b6, 0, none⟩ = some (.int .i64 J.start)) (c1 : WZ.cell? ⟨b6, 1, none⟩ = some (.slice (some ⟨jb, jo, none⟩) J.n jcap))
    (hs : ∀ W, WZ.grows W → SrcAt W (.slice (some ⟨jb, jo, none⟩) J.n jcap) J.n 1 (tableL J.n 1 (fun t _ => .slice (some ⟨rb t, ro t, none⟩) (J.len t) (rc t))))
    (Q : Exit → Act → World → Prop) (z0 z1 z2 z3 z4 z5 z7 z8 z9 z10 z11 z12 z13 z14 z15 z16 z17 z18 z19 z20 z21 z22 z23 z24 z25 z26 z27 z28 z29 z30 z31 z32 z33 z34 z35 z36 z37 z38 z39 z40 z41 z42 z43 z44 z45 z46 z47 z48 z49 z50 z51 z52 z53 z54 z55 z56 z57 z58 z59 z60 z61 z62 z63 z64 z65 z66 z67 z68 z69 z70 z71 z72 z73 z74 z75 z76 z77 z78 z79 z80 z81 z82 z83 z84 z85 z86 z87 z88 z89 z90 z91 z92 z93 z94 z95 z96 z97 z98 z99 z100 z101 z102 z103 z104 z105 z106 z107 z108 z109 z110 z111 z112 z113 z114 z115 z116 z117 z118 z119 z120 z121 z122 z123 z124 z125 z126 z127 z128 z129 z130 z131 z132 z133 z134 z135 z136 z137 z138 z139 z140 z141 z142 z143 z144 z145 z146 z147 z148 z149 z150 z151 z152 z153 z154 z155 z156 z157 z158 z159 z160 z161 z162 z163 z164 z165 z166 z167 z168 z169 z170 z171 z172 z173 z174 z175 z176 z177 z178 z179 z180 z181 z182 z183 z184 z185 z186 z187 z188 z189 z190 z191 z192 z193 z194 z195 z196 z197 z198 z199 z200 z201 z202 z203 z204 z205 z206 z207 z208 z209 z210 z211 z212 z213 z214 z215 z216 z217 z218 z219 z220 z221 z222 z223 z224 z225 z226 z227 z228 z229 z230 z231 z232 z233 z234 z235 z236 z237 z238 z239 z240 z241 z242 z243 z244 z245 z246 z247 z248 z249 z250 : Value)
    (hexit : ∀ (x29 x30 x149 x150 x151 x152 x153 x154 x155 x156 x157 x158 : Value) (W : World), YZ WZ J rb ro rc x29 x30 W → Q .normal ⟨List.toArray (z0 :: z1 :: z2 :: z3 :: z4 :: z5 :: .pointer (some ⟨b6, 0, none⟩) :: z7 :: z8 :: z9 :: z10 :: z11 :: z12 :: z13 :: z14 :: z15 :: z16 :: z17 :: z18 :: z19 :: z20 :: z21 :: z22 :: z23 :: z24 :: z25 :: z26 :: z27 :: z28 :: x29 :: x30 :: z31 :: z32 :: z33 :: z34 :: z35 :: z36 :: z37 :: z38 :: z39 :: z40 :: z41 :: z42 :: z43 :: z44 :: z45 :: z46 :: z47 :: z48 :: z49 :: z50 :: z51 :: z52 :: z53 :: z54 :: z55 :: z56 :: z57 :: z58 :: z59 :: z60 :: z61 :: z62 :: z63 :: z64 :: z65 :: z66 :: z67 :: z68 :: z69 :: z70 :: z71 :: z72 :: z73 :: z74 :: z75 :: z76 :: z77 :: z78 :: z79 :: z80 :: z81 :: z82 :: z83 :: z84 :: z85 :: z86 :: z87 :: z88 :: z89 :: z90 :: z91 :: z92 :: z93 :: z94 :: z95 :: z96 :: z97 :: z98 :: z99 :: z100 :: z101 :: z102 :: z103 :: z104 :: z105 :: z106 :: z107 :: z108 :: z109 :: z110 :: z111 :: z112 :: z113 :: z114 :: z115 :: z116 :: z117 :: z118 :: z119 :: z120 :: z121 :: z122 :: z123 :: z124 :: z125 :: z126 :: z127 :: z128 :: z129 :: z130 :: z131 :: z132 :: z133 :: z134 :: z135 :: z136 :: z137 :: z138 :: z139 :: z140 :: z141 :: z142 :: z143 :: z144 :: z145 :: z146 :: z147 :: z148 :: x149 :: x150 :: x151 :: x152 :: x153 :: x154 :: x155 :: x156 :: x157 :: x158 :: z159 :: z160 :: z161 :: z162 :: z163 :: z164 :: z165 :: z166 :: z167 :: z168 :: z169 :: z170 :: z171 :: z172 :: z173 :: z174 :: z175 :: z176 :: z177 :: z178 :: z179 :: z180 :: z181 :: z182 :: z183 :: z184 :: z185 :: z186 :: z187 :: z188 :: z189 :: z190 :: z191 :: z192 :: z193 :: z194 :: z195 :: z196 :: z197 :: z198 :: z199 :: z200 :: z201 :: z202 :: z203 :: z204 :: z205 :: z206 :: z207 :: z208 :: z209 :: z210 :: z211 :: z212 :: z213 :: z214 :: z215 :: z216 :: z217 :: z218 :: z219 :: z220 :: z221 :: z222 :: z223 :: z224 :: z225 :: z226 :: z227 :: z228 :: z229 :: z230 :: z231 :: z232 :: z233 :: z234 :: z235 :: z236 :: z237 :: z238 :: z239 :: z240 :: z241 :: z242 :: z243 :: z244 :: z245 :: z246 :: z247 :: z248 :: z249 :: z250 :: []), []⟩ W) :
    Code.wp Try.prog r16 Q ⟨List.toArray (z0 :: z1 :: z2 :: z3 :: z4 :: z5 :: .pointer (some ⟨b6, 0, none⟩) :: z7 :: z8 :: z9 :: z10 :: z11 :: z12 :: z13 :: z14 :: z15 :: z16 :: z17 :: z18 :: z19 :: z20 :: z21 :: z22 :: z23 :: z24 :: z25 :: z26 :: z27 :: z28 :: z29 :: z30 :: z31 :: z32 :: z33 :: z34 :: z35 :: z36 :: z37 :: z38 :: z39 :: z40 :: z41 :: z42 :: z43 :: z44 :: z45 :: z46 :: z47 :: z48 :: z49 :: z50 :: z51 :: z52 :: z53 :: z54 :: z55 :: z56 :: z57 :: z58 :: z59 :: z60 :: z61 :: z62 :: z63 :: z64 :: z65 :: z66 :: z67 :: z68 :: z69 :: z70 :: z71 :: z72 :: z73 :: z74 :: z75 :: z76 :: z77 :: z78 :: z79 :: z80 :: z81 :: z82 :: z83 :: z84 :: z85 :: z86 :: z87 :: z88 :: z89 :: z90 :: z91 :: z92 :: z93 :: z94 :: z95 :: z96 :: z97 :: z98 :: z99 :: z100 :: z101 :: z102 :: z103 :: z104 :: z105 :: z106 :: z107 :: z108 :: z109 :: z110 :: z111 :: z112 :: z113 :: z114 :: z115 :: z116 :: z117 :: z118 :: z119 :: z120 :: z121 :: z122 :: z123 :: z124 :: z125 :: z126 :: z127 :: z128 :: z129 :: z130 :: z131 :: z132 :: z133 :: z134 :: z135 :: z136 :: z137 :: z138 :: z139 :: z140 :: z141 :: z142 :: z143 :: z144 :: z145 :: z146 :: z147 :: z148 :: z149 :: z150 :: z151 :: z152 :: z153 :: z154 :: z155 :: z156 :: z157 :: z158 :: z159 :: z160 :: z161 :: z162 :: z163 :: z164 :: z165 :: z166 :: z167 :: z168 :: z169 :: z170 :: z171 :: z172 :: z173 :: z174 :: z175 :: z176 :: z177 :: z178 :: z179 :: z180 :: z181 :: z182 :: z183 :: z184 :: z185 :: z186 :: z187 :: z188 :: z189 :: z190 :: z191 :: z192 :: z193 :: z194 :: z195 :: z196 :: z197 :: z198 :: z199 :: z200 :: z201 :: z202 :: z203 :: z204 :: z205 :: z206 :: z207 :: z208 :: z209 :: z210 :: z211 :: z212 :: z213 :: z214 :: z215 :: z216 :: z217 :: z218 :: z219 :: z220 :: z221 :: z222 :: z223 :: z224 :: z225 :: z226 :: z227 :: z228 :: z229 :: z230 :: z231 :: z232 :: z233 :: z234 :: z235 :: z236 :: z237 :: z238 :: z239 :: z240 :: z241 :: z242 :: z243 :: z244 :: z245 :: z246 :: z247 :: z248 :: z249 :: z250 :: []), []⟩ WZ := by
  refine Code.wp_mono (Q := cutE fun a W => Q .normal a W) (fun e a W h => by cases e <;> simp only [cutE] at h; exact h) ?_
  have Hexit := Lib.hid hexit
  have HS := Lib.hid hs
  have hltZ : b6 < WZ.heap.size := World.block_lt_of_cell (show (WZ.cell? ⟨b6, 0, none⟩).isSome = true by rw [c0]; rfl)
  clear hexit hs
  conv => arg 2; whnf
  go_region_held_law (fun w' => w'.cell? ⟨b6, 0, none⟩ = some (.int .i64 J.start) ∧ w'.cell? ⟨b6, 1, none⟩ = some (.slice (some ⟨jb, jo, none⟩) J.n jcap) ∧ WZ.grows w')
    ((refine ⟨by simp [go_sem, *], by simp [go_sem, *], ?_⟩; (repeat (first | exact World.grows.refl _ | assumption | refine World.grows.alloc ?_ _ | refine World.grows.plus ?_ _ _ | refine World.grows.drew ?_ | refine World.grows.setCell ?_ (by simp <;> omega) _))))
    ((refine step_append_fresh _ rfl (.tmp 151) (.tmp 153) 22 rfl 62 (.slice none 0 0) 1 24 Try.underlying22 el62 rfl (by omega) _ (by simp [Act.eval, Act.put]; rfl) (.slice (some ⟨jb, jo, none⟩) J.n jcap) (by simp [Act.eval, Act.put]) J.n _ (HS.out _ (by (repeat (first | exact World.grows.refl _ | assumption | refine World.grows.alloc ?_ _ | refine World.grows.plus ?_ _ _ | refine World.grows.drew ?_ | refine World.grows.setCell ?_ (by simp <;> omega) _)))) (by omega) (by unfold maxLen; omega) (by omega) ?_; intro cap xs h1 h2 h3 h4))
  all_goals
    exact Hexit.out _ _ _ _ _ _ _ _ _ _ _ _ _ (YZ.of (by (first | exact (four_made _ _ _ _ _).1 | exact (four_made _ _ _ _ _).2.1 | exact (four_made _ _ _ _ _).2.2.1 | exact (four_made _ _ _ _ _).2.2.2)) (by (first | exact (four_made _ _ _ _ _).1 | exact (four_made _ _ _ _ _).2.1 | exact (four_made _ _ _ _ _).2.2.1 | exact (four_made _ _ _ _ _).2.2.2)) (by (first | exact (four_made _ _ _ _ _).1 | exact (four_made _ _ _ _ _).2.1 | exact (four_made _ _ _ _ _).2.2.1 | exact (four_made _ _ _ _ _).2.2.2)) (by assumption) (by assumption) (by assumption) (by assumption) (by omega) (by omega) (by omega) (by omega) (by (repeat (first | exact World.grows.refl _ | assumption | refine World.grows.alloc ?_ _ | refine World.grows.plus ?_ _ _ | refine World.grows.drew ?_ | refine World.grows.setCell ?_ (by simp <;> omega) _))))
end Go.Proofs.Ytjpccfpmhmddjaa

/-
  What is proved: PassShifted returns true (the walk).
-/
namespace Go.Proofs.Ytjpccfpmhmddjaa
open Go.RowKit
attribute [local irreducible] Go.wpCalm

set_option maxRecDepth 100000 in
set_option maxHeartbeats 16000000 in
theorem shifted_w (w : World) (v : Value) (J : Job) (hv : RawAt w v J) (up : Int) (hup : 0 ≤ up ∧ up ≤ 65535) (mv : Value) (mm : Nat) (pm lm : Nat → Int) (hmv : SliceAt w mv mm 2 (fun k j => if j = 0 then .int .i64 (pm k) else .int .i64 (lm k)))
    (bv : Value) (mb : Nat) (fb : Nat → Int) (hb : NumsAt .u8 w bv mb fb) (hfb0 : ∀ i, i < mb → 0 ≤ fb i ∧ fb i ≤ 255) (l : Int) (hl : -2147483648 ≤ l ∧ l ≤ 2147483647) (tn : Nat) (htn : tn ≤ 255) :
    Calls Try.prog 12 #[v, .int .u16 up, mv, bv, .int .i32 l, .int .u8 tn] w fun e w' => e = .returned (.bool true) ∧ w.grows w' := by
  obtain ⟨rv, row, rfl, hs, hr⟩ := hv
  have Hv := Lib.hid (show RawAt w (.agg #[.int .i64 J.start, rv]) J from ⟨rv, row, rfl, hs, hr⟩)
  have HX := Lib.hid (BoxAt.start (w := w) (rv := rv) (J := J) ⟨rv, row, rfl, hs, hr⟩)
  have hg0 : w.grows (w.alloc (.cells #[.int .i64 J.start, rv] 24)) := by (repeat (first | exact World.grows.refl _ | assumption | refine World.grows.alloc ?_ _ | refine World.grows.plus ?_ _ _ | refine World.grows.drew ?_))
  have HB := Lib.hid (hb.mono hg0)
  have HM := Lib.hid (hmv.mono hg0)
  have hfb := Lib.hid hfb0
  obtain ⟨ba, bcap, rfl, hb1, hb2, -⟩ := hb
  obtain ⟨ma, mcap, rfl, hm1, hm2, -⟩ := hmv
  unfold maxLen at hb2 hm2
  clear hs hr hfb0 hg0
  have c0 := HX.out.2.2.1; have c1 := HX.out.2.2.2
  have h38 := fun W h => fine_c W (.agg #[.int .i64 J.start, rv]) J h
  go_enter Try.func12, Try.ntmps12
  by_cases hc : J.check = 0
  · rw [decide_eq_true hc] at h38
    have Hc := Lib.hid hc
    have HJ := Lib.hid ((Job.Ok_iff J).2 hc)
    clear hc
    obtain ⟨jb, jo, jcap, rb, ro, rc, hrv, hjc, hjc2, hR⟩ := Hv.out.job HJ.out
    obtain ⟨rfl⟩ : rv = .slice (some ⟨jb, jo, none⟩) J.n jcap := by simpa using hrv
    have HR := Lib.hid hR
    unfold maxLen at hjc2
    have hn1 := HJ.out.n1
    have hn4 := HJ.out.n4
    have hn9 : J.n ≤ 1000000000 := by omega
    clear hR
    by_cases hmb : 40 < mb
    · go_wp2_with (first
        | (go_at_call 38; refine (h38 _ (HX.out.1.mono (by (repeat (first | exact World.grows.refl _ | assumption | refine World.grows.alloc ?_ _ | refine World.grows.plus ?_ _ _ | refine World.grows.drew ?_))))).mono ?_; rintro e W2 ⟨rfl, hg⟩; replace HB := Lib.hid (HB.out.mono (World.grows.trans (by (repeat (first | exact World.grows.refl _ | assumption | refine World.grows.alloc ?_ _ | refine World.grows.plus ?_ _ _ | refine World.grows.drew ?_))) hg)); replace HM := Lib.hid (HM.out.mono (World.grows.trans (by (repeat (first | exact World.grows.refl _ | assumption | refine World.grows.alloc ?_ _ | refine World.grows.plus ?_ _ _ | refine World.grows.drew ?_))) hg)); replace HX := Lib.hid (HX.out.mono (World.grows.trans (by (repeat (first | exact World.grows.refl _ | assumption | refine World.grows.alloc ?_ _ | refine World.grows.plus ?_ _ _ | refine World.grows.drew ?_))) hg)); replace c0 := HX.out.2.2.1; replace c1 := HX.out.2.2.2; clear hg)
        | (go_at_call 15; refine (works_c _).mono ?_; rintro e W2 ⟨rfl, hg⟩; replace HX := Lib.hid (HX.out.mono (World.grows.trans (by (repeat (first | exact World.grows.refl _ | assumption | refine World.grows.alloc ?_ _ | refine World.grows.plus ?_ _ _ | refine World.grows.drew ?_))) hg)); clear hg))
      go_ret
      exact ⟨rfl, HX.out.2.1.trans (by (repeat (first | exact World.grows.refl _ | assumption | refine World.grows.alloc ?_ _ | refine World.grows.plus ?_ _ _ | refine World.grows.drew ?_)))⟩
    by_cases hmm : 10 < mm
    · go_wp2_with (first
        | (go_at_call 38; refine (h38 _ (HX.out.1.mono (by (repeat (first | exact World.grows.refl _ | assumption | refine World.grows.alloc ?_ _ | refine World.grows.plus ?_ _ _ | refine World.grows.drew ?_))))).mono ?_; rintro e W2 ⟨rfl, hg⟩; replace HB := Lib.hid (HB.out.mono (World.grows.trans (by (repeat (first | exact World.grows.refl _ | assumption | refine World.grows.alloc ?_ _ | refine World.grows.plus ?_ _ _ | refine World.grows.drew ?_))) hg)); replace HM := Lib.hid (HM.out.mono (World.grows.trans (by (repeat (first | exact World.grows.refl _ | assumption | refine World.grows.alloc ?_ _ | refine World.grows.plus ?_ _ _ | refine World.grows.drew ?_))) hg)); replace HX := Lib.hid (HX.out.mono (World.grows.trans (by (repeat (first | exact World.grows.refl _ | assumption | refine World.grows.alloc ?_ _ | refine World.grows.plus ?_ _ _ | refine World.grows.drew ?_))) hg)); replace c0 := HX.out.2.2.1; replace c1 := HX.out.2.2.2; clear hg)
        | (go_at_call 15; refine (works_c _).mono ?_; rintro e W2 ⟨rfl, hg⟩; replace HX := Lib.hid (HX.out.mono (World.grows.trans (by (repeat (first | exact World.grows.refl _ | assumption | refine World.grows.alloc ?_ _ | refine World.grows.plus ?_ _ _ | refine World.grows.drew ?_))) hg)); clear hg))
      go_ret
      exact ⟨rfl, HX.out.2.1.trans (by (repeat (first | exact World.grows.refl _ | assumption | refine World.grows.alloc ?_ _ | refine World.grows.plus ?_ _ _ | refine World.grows.drew ?_)))⟩
    go_wp2_with (first
      | (go_at_call 38; refine (h38 _ (HX.out.1.mono (by (repeat (first | exact World.grows.refl _ | assumption | refine World.grows.alloc ?_ _ | refine World.grows.plus ?_ _ _ | refine World.grows.drew ?_))))).mono ?_; rintro e W2 ⟨rfl, hg⟩; replace HB := Lib.hid (HB.out.mono (World.grows.trans (by (repeat (first | exact World.grows.refl _ | assumption | refine World.grows.alloc ?_ _ | refine World.grows.plus ?_ _ _ | refine World.grows.drew ?_))) hg)); replace HM := Lib.hid (HM.out.mono (World.grows.trans (by (repeat (first | exact World.grows.refl _ | assumption | refine World.grows.alloc ?_ _ | refine World.grows.plus ?_ _ _ | refine World.grows.drew ?_))) hg)); replace HX := Lib.hid (HX.out.mono (World.grows.trans (by (repeat (first | exact World.grows.refl _ | assumption | refine World.grows.alloc ?_ _ | refine World.grows.plus ?_ _ _ | refine World.grows.drew ?_))) hg)); replace c0 := HX.out.2.2.1; replace c1 := HX.out.2.2.2; clear hg)
      | (go_at_call 44; fail))
    clear h38
    (refine (order_c _ _ J (HX.out.1.mono (by (repeat (first | exact World.grows.refl _ | assumption | refine World.grows.alloc ?_ _ | refine World.grows.plus ?_ _ _ | refine World.grows.drew ?_)))) HJ.out _ mb fb (HB.out.mono (by (repeat (first | exact World.grows.refl _ | assumption | refine World.grows.alloc ?_ _ | refine World.grows.plus ?_ _ _ | refine World.grows.drew ?_)))) hfb.out).mono ?_; rintro e W2 ⟨ov, m, g, rfl, hg, ho, hok⟩; have HO := Lib.hid ho; have HQ := Lib.hid hok; obtain ⟨oa, ocap, rfl, ho1, ho2, -⟩ := ho; unfold maxLen at ho2; clear hok HB; replace HM := Lib.hid (HM.out.mono (World.grows.trans (by (repeat (first | exact World.grows.refl _ | assumption | refine World.grows.alloc ?_ _ | refine World.grows.plus ?_ _ _ | refine World.grows.drew ?_))) hg)); replace HX := Lib.hid (HX.out.mono (World.grows.trans (by (repeat (first | exact World.grows.refl _ | assumption | refine World.grows.alloc ?_ _ | refine World.grows.plus ?_ _ _ | refine World.grows.drew ?_))) hg)); replace c0 := HX.out.2.2.1; replace c1 := HX.out.2.2.2; clear hg)
    have e1 := HQ.out.follow Hc.out
    have a1 := Job.ordAns_ok e1
    rw [show natOf (fun i => ((g i : Nat) : Int)) = g from rfl] at a1
    have h18 := Lib.hid (fun W (hW : RawAt W (.agg #[.int .i64 J.start, .slice (some ⟨jb, jo, none⟩) J.n jcap]) J) (hl : IntsAt W (.slice oa m ocap) m (fun i => (g i : Nat))) => checkOrd_c W (.agg #[.int .i64 J.start, .slice (some ⟨jb, jo, none⟩) J.n jcap]) J hW _ m _ hl)
    simp only [e1, a1] at h18
    obtain ⟨N, hN⟩ : ∃ N, maxN (J.hotAt g) m = N := ⟨_, rfl⟩
    have HN := Lib.hid hN
    rw [hN] at h18
    clear e1 a1 hN
    go_wp2_with (go_at_call 44; fail)
    (refine (h18.out _ (HX.out.1.mono (by (repeat (first | exact World.grows.refl _ | assumption | refine World.grows.alloc ?_ _ | refine World.grows.plus ?_ _ _ | refine World.grows.drew ?_)))) (HO.out.mono (by (repeat (first | exact World.grows.refl _ | assumption | refine World.grows.alloc ?_ _ | refine World.grows.plus ?_ _ _ | refine World.grows.drew ?_))))).mono ?_; rintro e W2 ⟨rfl, hg⟩; replace HO := Lib.hid (HO.out.mono (World.grows.trans (by (repeat (first | exact World.grows.refl _ | assumption | refine World.grows.alloc ?_ _ | refine World.grows.plus ?_ _ _ | refine World.grows.drew ?_))) hg)); replace HM := Lib.hid (HM.out.mono (World.grows.trans (by (repeat (first | exact World.grows.refl _ | assumption | refine World.grows.alloc ?_ _ | refine World.grows.plus ?_ _ _ | refine World.grows.drew ?_))) hg)); replace HX := Lib.hid (HX.out.mono (World.grows.trans (by (repeat (first | exact World.grows.refl _ | assumption | refine World.grows.alloc ?_ _ | refine World.grows.plus ?_ _ _ | refine World.grows.drew ?_))) hg)); replace c0 := HX.out.2.2.1; replace c1 := HX.out.2.2.2; clear hg h18)
    go_wp2_with (go_at_call 44; fail)
    (refine (best_c _ _ J (HX.out.1.mono (by (repeat (first | exact World.grows.refl _ | assumption | refine World.grows.alloc ?_ _ | refine World.grows.plus ?_ _ _ | refine World.grows.drew ?_))))).mono ?_; rintro e W2 ⟨sv, hot, rfl, hg, -, hbb⟩; rw [Hc.out]; have HBs := Lib.hid (hbb Hc.out).1; replace HO := Lib.hid (HO.out.mono (World.grows.trans (by (repeat (first | exact World.grows.refl _ | assumption | refine World.grows.alloc ?_ _ | refine World.grows.plus ?_ _ _ | refine World.grows.drew ?_))) hg)); replace HM := Lib.hid (HM.out.mono (World.grows.trans (by (repeat (first | exact World.grows.refl _ | assumption | refine World.grows.alloc ?_ _ | refine World.grows.plus ?_ _ _ | refine World.grows.drew ?_))) hg)); replace HX := Lib.hid (HX.out.mono (World.grows.trans (by (repeat (first | exact World.grows.refl _ | assumption | refine World.grows.alloc ?_ _ | refine World.grows.plus ?_ _ _ | refine World.grows.drew ?_))) hg)); replace c0 := HX.out.2.2.1; replace c1 := HX.out.2.2.2; clear hg hbb)
    have b1 : J.countAns l = (J.waysN l J.last : Nat) := by unfold Job.countAns; rw [if_pos Hc.out]
    have h26 := Lib.hid (fun W (hW : RawAt W (.agg #[.int .i64 J.start, .slice (some ⟨jb, jo, none⟩) J.n jcap]) J) => count_c W (.agg #[.int .i64 J.start, .slice (some ⟨jb, jo, none⟩) J.n jcap]) J hW l)
    simp only [Hc.out, b1] at h26
    obtain ⟨C, hC⟩ : ∃ C : Int, (J.waysN l J.last : Nat) = C := ⟨_, rfl⟩
    have HC := Lib.hid hC
    rw [hC] at h26
    clear b1 hC
    go_wp2_with (go_at_call 44; fail)
    (refine (h26.out _ (HX.out.1.mono (by (repeat (first | exact World.grows.refl _ | assumption | refine World.grows.alloc ?_ _ | refine World.grows.plus ?_ _ _ | refine World.grows.drew ?_))))).mono ?_; rintro e W1 ⟨rfl, hg⟩; replace HO := Lib.hid (HO.out.mono (World.grows.trans (by (repeat (first | exact World.grows.refl _ | assumption | refine World.grows.alloc ?_ _ | refine World.grows.plus ?_ _ _ | refine World.grows.drew ?_))) hg)); replace HM := Lib.hid (HM.out.mono (World.grows.trans (by (repeat (first | exact World.grows.refl _ | assumption | refine World.grows.alloc ?_ _ | refine World.grows.plus ?_ _ _ | refine World.grows.drew ?_))) hg)); replace HX := Lib.hid (HX.out.mono (World.grows.trans (by (repeat (first | exact World.grows.refl _ | assumption | refine World.grows.alloc ?_ _ | refine World.grows.plus ?_ _ _ | refine World.grows.drew ?_))) hg)); replace c0 := HX.out.2.2.1; replace c1 := HX.out.2.2.2; clear hg h26)
    have hst := HJ.out.st
    have wu : IntKind.i64.wrap (J.start + up) = J.start + up := wrapI (by omega)
    go_upto_region 10 with fail
    -- the hotter job
    have hTs : (J.up up).start = J.start + up := rfl
    have HU := Lib.hid (show BoxAt w (W1.alloc (.cells #[.int .i64 (J.up up).start, .slice (some ⟨jb, jo, none⟩) J.n jcap] 24)) W1.heap.size (.slice (some ⟨jb, jo, none⟩) J.n jcap) (J.up up) from ⟨by
      obtain ⟨rv2, row2, he, h1, h2⟩ := HX.out.1.mono (show W1.grows (W1.alloc (.cells #[.int .i64 (J.up up).start, .slice (some ⟨jb, jo, none⟩) J.n jcap] 24)) by (repeat (first | exact World.grows.refl _ | assumption | refine World.grows.alloc ?_ _ | refine World.grows.plus ?_ _ _ | refine World.grows.drew ?_)))
      cases he
      exact ⟨_, row2, rfl, h1, h2⟩, HX.out.2.1.trans (by (repeat (first | exact World.grows.refl _ | assumption | refine World.grows.alloc ?_ _ | refine World.grows.plus ?_ _ _ | refine World.grows.drew ?_))), by simp [go_sem], by simp [go_sem]⟩)
    have f1 := Lib.hid (HBs.out.up up)
    have f2 := Lib.hid (J.waysN_up up l J.last)
    have f3 := Lib.hid (show (J.up up).OrdOk m g from ⟨HQ.out.lt, HQ.out.all⟩)
    have f4 : maxN ((J.up up).hotAt g) m = N + up := by
      have e : (J.up up).hotAt g = fun k => J.hotAt g k + up := funext fun k => J.hotAt_up up g k
      rw [e, maxN_up, HN.out]
    have HF := Lib.hid f4
    have HL := Lib.hid (show (J.up up).last = J.last from rfl)
    clear f4
    generalize J.up up = T at hTs HU f1 f2 f3 HF HL
    have y0 := HU.out.2.2.1; have y1 := HU.out.2.2.2
    have h38 := Lib.hid (fun W h => fine_c W (.agg #[.int .i64 T.start, .slice (some ⟨jb, jo, none⟩) J.n jcap]) T h)
    rw [← hTs]
    clear hTs wu
    have HR1 := Lib.hid (HR.out.mono HX.out.2.1)
    obtain ⟨WU, hWU⟩ : ∃ WU, W1.alloc (.cells #[.int .i64 T.start, .slice (some ⟨jb, jo, none⟩) J.n jcap] 24) = WU := ⟨_, rfl⟩
    have hgU : W1.grows WU := by rw [← hWU]; (repeat (first | exact World.grows.refl _ | assumption | refine World.grows.alloc ?_ _ | refine World.grows.plus ?_ _ _ | refine World.grows.drew ?_))
    rw [hWU] at HU y0 y1
    replace HX := Lib.hid (HX.out.mono hgU); replace c0 := HX.out.2.2.1; replace c1 := HX.out.2.2.2
    replace HM := Lib.hid (HM.out.mono hgU)
    replace HO := Lib.hid (HO.out.mono hgU)
    rw [hWU]
    clear hWU
    go_upto_if 95 with (go_at_call 38; refine (h38.out _ (HU.out.1.mono (by (repeat (first | exact World.grows.refl _ | assumption | refine World.grows.alloc ?_ _ | refine World.grows.plus ?_ _ _ | refine World.grows.drew ?_))))).mono ?_; rintro e W2 ⟨rfl, hg⟩; replace HO := Lib.hid (HO.out.mono (World.grows.trans (by (repeat (first | exact World.grows.refl _ | assumption | refine World.grows.alloc ?_ _ | refine World.grows.plus ?_ _ _ | refine World.grows.drew ?_))) hg)); replace HM := Lib.hid (HM.out.mono (World.grows.trans (by (repeat (first | exact World.grows.refl _ | assumption | refine World.grows.alloc ?_ _ | refine World.grows.plus ?_ _ _ | refine World.grows.drew ?_))) hg)); replace HX := Lib.hid (HX.out.mono (World.grows.trans (by (repeat (first | exact World.grows.refl _ | assumption | refine World.grows.alloc ?_ _ | refine World.grows.plus ?_ _ _ | refine World.grows.drew ?_))) hg)); replace c0 := HX.out.2.2.1; replace c1 := HX.out.2.2.2; replace HU := Lib.hid (HU.out.mono (World.grows.trans (by (repeat (first | exact World.grows.refl _ | assumption | refine World.grows.alloc ?_ _ | refine World.grows.plus ?_ _ _ | refine World.grows.drew ?_))) hg)); replace y0 := HU.out.2.2.1; replace y1 := HU.out.2.2.2; clear hg)
    go_cut [] from 40 (fun w => Hid (W2.grows w))
    case first =>
      by_cases hct : T.check = 0
      · rw [decide_eq_true hct]
        have Hct := Lib.hid hct
        clear hct
        have e1 := f3.out.follow Hct.out
        have a1 := Job.ordAns_ok e1
        rw [show natOf (fun i => ((g i : Nat) : Int)) = g from rfl, HF.out] at a1
        have k18 := Lib.hid (fun W (hW : RawAt W (.agg #[.int .i64 T.start, .slice (some ⟨jb, jo, none⟩) J.n jcap]) T) (hl : IntsAt W (.slice oa m ocap) m (fun i => (g i : Nat))) => checkOrd_c W (.agg #[.int .i64 T.start, .slice (some ⟨jb, jo, none⟩) J.n jcap]) T hW _ m _ hl)
        have k25 := Lib.hid (fun W (hW : RawAt W (.agg #[.int .i64 T.start, .slice (some ⟨jb, jo, none⟩) J.n jcap]) T) => best_c W (.agg #[.int .i64 T.start, .slice (some ⟨jb, jo, none⟩) J.n jcap]) T hW)
        have b1 : T.countAns (l + up) = C := by unfold Job.countAns; rw [if_pos Hct.out, HL.out, f2.out, HC.out]
        have k26 := Lib.hid (fun W (hW : RawAt W (.agg #[.int .i64 T.start, .slice (some ⟨jb, jo, none⟩) J.n jcap]) T) => count_c W (.agg #[.int .i64 T.start, .slice (some ⟨jb, jo, none⟩) J.n jcap]) T hW (l + up))
        simp only [e1, a1] at k18
        simp only [Hct.out, b1] at k26
        clear e1 a1 b1
        have hN2 := HQ.out.max_bd HJ.out (HQ.out.m_bd HJ.out).1 (fun k hk => HQ.out.walkIn (by omega))
        rw [HN.out] at hN2
        have hh2 := HBs.out.bd HJ.out
        have w2 : IntKind.i64.wrap (l + up) = l + up := wrapI (by omega)
        have w3 : IntKind.i64.wrap (N + up) = N + up := wrapI (by omega)
        have w4 : IntKind.i64.wrap (hot + up) = hot + up := wrapI (by omega)
        obtain ⟨W3, rfl⟩ : ∃ W3, W3 = W2 := ⟨_, rfl⟩
        go_wp2_with (go_at_call 44; fail)
        (refine (k18.out _ (HU.out.1.mono (by (repeat (first | exact World.grows.refl _ | assumption | refine World.grows.alloc ?_ _ | refine World.grows.plus ?_ _ _ | refine World.grows.drew ?_)))) (HO.out.mono (by (repeat (first | exact World.grows.refl _ | assumption | refine World.grows.alloc ?_ _ | refine World.grows.plus ?_ _ _ | refine World.grows.drew ?_))))).mono ?_; rintro e W2 ⟨rfl, hg⟩; have hgz := Lib.hid (show W3.grows W2 from World.grows.trans (by (repeat (first | exact World.grows.refl _ | assumption | refine World.grows.alloc ?_ _ | refine World.grows.plus ?_ _ _ | refine World.grows.drew ?_))) hg); replace HU := Lib.hid (HU.out.mono (World.grows.trans (by (repeat (first | exact World.grows.refl _ | assumption | refine World.grows.alloc ?_ _ | refine World.grows.plus ?_ _ _ | refine World.grows.drew ?_))) hg)); replace y0 := HU.out.2.2.1; replace y1 := HU.out.2.2.2; clear hg k18)
        go_wp2_with (go_at_call 44; fail)
        (refine (k25.out _ (HU.out.1.mono (by (repeat (first | exact World.grows.refl _ | assumption | refine World.grows.alloc ?_ _ | refine World.grows.plus ?_ _ _ | refine World.grows.drew ?_))))).mono ?_; rintro e W2 ⟨sv2, hot2, rfl, hg, -, hbb⟩; rw [Hct.out]; obtain rfl := (hbb Hct.out).1.unique f1.out; replace hgz := Lib.hid (World.grows.trans (World.grows.trans hgz.out (by (repeat (first | exact World.grows.refl _ | assumption | refine World.grows.alloc ?_ _ | refine World.grows.plus ?_ _ _ | refine World.grows.drew ?_)))) hg); replace HU := Lib.hid (HU.out.mono (World.grows.trans (by (repeat (first | exact World.grows.refl _ | assumption | refine World.grows.alloc ?_ _ | refine World.grows.plus ?_ _ _ | refine World.grows.drew ?_))) hg)); replace y0 := HU.out.2.2.1; replace y1 := HU.out.2.2.2; clear hg hbb k25)
        go_wp2_with (go_at_call 44; fail)
        (refine (k26.out _ (HU.out.1.mono (by (repeat (first | exact World.grows.refl _ | assumption | refine World.grows.alloc ?_ _ | refine World.grows.plus ?_ _ _ | refine World.grows.drew ?_))))).mono ?_; rintro e W2 ⟨rfl, hg⟩; replace hgz := Lib.hid (World.grows.trans (World.grows.trans hgz.out (by (repeat (first | exact World.grows.refl _ | assumption | refine World.grows.alloc ?_ _ | refine World.grows.plus ?_ _ _ | refine World.grows.drew ?_)))) hg); clear hg k26)
        go_wp2
        go_meet
        exact Lib.hid (hgz.out.trans (by (repeat (first | exact World.grows.refl _ | assumption | refine World.grows.alloc ?_ _ | refine World.grows.plus ?_ _ _ | refine World.grows.drew ?_))))
      · rw [decide_eq_false hct]
        go_wp2
        go_meet
        exact Lib.hid (World.grows.refl _)
    case rest =>
      have hv := hcut.out
      replace HX := Lib.hid (HX.out.mono hv); replace c0 := HX.out.2.2.1; replace c1 := HX.out.2.2.2
      replace HM := Lib.hid (HM.out.mono hv)
      replace HR := Lib.hid (HR.out.mono HX.out.2.1)
      have HXz := HX
      clear hv hcut HU y0 y1 HO HR1 h38 f1 f2 f3 HF HL hgU hst HN HQ Hv
      obtain ⟨WZ, rfl⟩ : ∃ WZ, WZ = wc := ⟨_, rfl⟩
      have HS : Hid (∀ W, WZ.grows W → SrcAt W (.slice (some ⟨jb, jo, none⟩) J.n jcap) J.n 1 (tableL J.n 1 (fun t _ => .slice (some ⟨rb t, ro t, none⟩) (J.len t) (rc t)))) := Lib.hid fun W hW => SliceAt.src (by omega) ⟨_, _, rfl, hjc, by unfold maxLen; omega, fun i j hi hj => ⟨_, _, rfl, by
        obtain rfl : j = 0 := by omega
        simpa using hW.cell_of (HR.out.row i hi)⟩⟩
      have hltZ : w.heap.size < WZ.heap.size := World.block_lt_of_cell (show (WZ.cell? ⟨w.heap.size, 0, none⟩).isSome = true by rw [c0]; rfl)
      go_upto_region 16 with fail
      refine shifted_r16 WZ J hn1 hn4 jb jo jcap w.heap.size rb ro rc c0 c1 HS.out _ _ _ _ _ _ _ _ _ _ _ _ _ _ _ _ _ _ _ _ _ _ _ _ _ _ _ _ _ _ _ _ _ _ _ _ _ _ _ _ _ _ _ _ _ _ _ _ _ _ _ _ _ _ _ _ _ _ _ _ _ _ _ _ _ _ _ _ _ _ _ _ _ _ _ _ _ _ _ _ _ _ _ _ _ _ _ _ _ _ _ _ _ _ _ _ _ _ _ _ _ _ _ _ _ _ _ _ _ _ _ _ _ _ _ _ _ _ _ _ _ _ _ _ _ _ _ _ _ _ _ _ _ _ _ _ _ _ _ _ _ _ _ _ _ _ _ _ _ _ _ _ _ _ _ _ _ _ _ _ _ _ _ _ _ _ _ _ _ _ _ _ _ _ _ _ _ _ _ _ _ _ _ _ _ _ _ _ _ _ _ _ _ _ _ _ _ _ _ _ _ _ _ _ _ _ _ _ _ _ _ _ _ _ _ _ _ _ _ _ _ _ _ _ _ _ _ _ _ _ _ _ _ _ _ _ _ _ _ _ _ _ _ _ _ _ _ _ _ _ _ ?_
      intro x29 x30 x149 x150 x151 x152 x153 x154 x155 x156 x157 x158 WY hYZ
      obtain ⟨yb, zb, g1, cap, xs, rfl, rfl, hyz⟩ := hYZ
      have hgY := hyz.out.2.2.2.2.2.2.2.2.2.2.2
      replace HX := Lib.hid (HX.out.mono hgY); replace c0 := HX.out.2.2.1; replace c1 := HX.out.2.2.2
      have HOy := Lib.hid (ownsRow_of (base := WZ.heap.size) hyz.out.2.2.2.2.2.2.1 hyz.out.2.2.2.1 hyz.out.2.2.2.2.2.2.2.1 hyz.out.2.2.2.2.2.2.2.2.1 hyz.out.2.2.2.2.2.2.2.2.2.1 hyz.out.2.2.2.2.2.2.2.2.2.2.1 (by rw [tableL_length]))
      have y5 := hyz.out.2.2.2.2.1
      have z5 := hyz.out.2.2.2.2.2.1
      obtain ⟨y0, y1, yf⟩ := boxX_cells y5
      have hyb := hyz.out.2.1
      have hzb := hyz.out.2.2.1
      have hyz1 := hyz.out.1
      have Y5 := Lib.hid y5; have Z5 := Lib.hid z5
      have HgY := Lib.hid hgY
      clear y5 z5 hgY hyz
      have hxs1 : WZ.heap.size ≤ WY.heap.size := HgY.out.size
      go_wp2_with (first
        | (at_builtin; (refine wpList_append_r _ rfl _ _ _ (by rfl) WZ.heap.size 62 (.slice none 0 0) 1 24 Try.underlying22 el62 (by rfl) (by omega) _ _ _ (by rfl) (HOy.out.grow (by (repeat (first | exact World.grows.refl _ | assumption | refine World.grows.alloc ?_ _ | refine World.grows.plus ?_ _ _ | refine World.grows.drew ?_)))) _ (by rfl) 1 _ (SliceAt.src (by omega) (one_slice _ _ _ _ (by simp))) (by simp [tableL, Value.oneCell']) (by unfold maxLen; omega) (by omega) (by simp; omega) ?_; intro v9 w9 hown hgr; obtain ⟨g9, cap9, rfl, hgb⟩ := hown.form (by omega); have hy9 := boxKept (HOy.out.grow (World.grows.alloc (World.grows.refl _) _)) (Y5.out) hgr (by decide) (by (repeat (first | exact World.grows.refl _ | assumption | refine World.grows.alloc ?_ _ | refine World.grows.plus ?_ _ _ | refine World.grows.drew ?_))); have hz9 := boxKept (HOy.out.grow (World.grows.alloc (World.grows.refl _) _)) (Z5.out) hgr (by decide) (by (repeat (first | exact World.grows.refl _ | assumption | refine World.grows.alloc ?_ _ | refine World.grows.plus ?_ _ _ | refine World.grows.drew ?_))); have y0' := (boxX_cells hy9).1; have y1' := (boxX_cells hy9).2.1; have yf' := (boxX_cells hy9).2.2; have g9W := Lib.hid (World.grownBy.grows hgr (HOy.out.grow (World.grows.alloc (World.grows.refl _) _)) (W0 := WZ) (HgY.out.alloc _) (Nat.le_refl _)); have HY9 := Lib.hid hy9; have HZ9 := Lib.hid hz9; have HO9 := Lib.hid hown; clear hown hgr hy9 hz9 y0 y1 yf))
        | (go_at_call 44; fail))
      -- behind region 17
      generalize hWL : w9.setCell ⟨yb, 1, none⟩ (.slice (some ⟨g9, 0, none⟩) (J.n + 1) cap9) = WL
      have hgL : Hid (WZ.grows WL) := Lib.hid (by rw [← hWL]; exact g9W.out.setCell hyb _)
      have hYL : Hid (WL.heap[yb]? = some (.cells #[.int .i64 J.start, .slice (some ⟨g9, 0, none⟩) (J.n + 1) cap9] 24)) := Lib.hid (by rw [← hWL]; exact boxX_store HY9.out _)
      have hZL : Hid (WL.heap[zb]? = some (.cells #[.int .i64 J.start, .slice none 0 0] 24)) := Lib.hid (by rw [← hWL]; rw [World.setCell_heap_other (Ne.symm hyz1)]; exact HZ9.out)
      have hOL := Lib.hid (show WL.ownsRow WZ.heap.size 62 1 (.slice (some ⟨g9, 0, none⟩) (J.n + 1) cap9) (J.n + 1) _ from by rw [← hWL]; exact ownsRow_setElse HO9.out HY9.out (by decide) 1 _)
      clear hWL HY9 HZ9 HO9 g9W y0' y1' yf' Y5 Z5 HgY hgb HOy
      obtain ⟨ys, hgc, hcap1, hcap2, hys⟩ := rowBlock hOL.out (by omega)
      have Hgc := Lib.hid hgc
      have hg9z : WZ.heap.size ≤ g9 := (ownsRow_block hOL.out (by omega)).1
      have hne9 : zb ≠ g9 := fun e => by
        have h1 := hZL.out
        rw [e, hgc] at h1
        cases h1
      have hbY := World.lt_of_block hYL.out
      have hbZ := World.lt_of_block hZL.out
      have hbG := World.lt_of_block hgc
      have Hys := Lib.hid hys
      clear hgc hys hOL
      have hM0 : MadeB WZ WL zb WL.heap.size J.start 0 (.slice none 0 0) (fun t => .slice (some ⟨rb (rot J.n tn t), ro (rot J.n tn t), none⟩) (J.len (rot J.n tn t)) (rc (rot J.n tn t))) := ⟨hZL.out, World.ownsRow_nil _ _ _ _, hgL.out⟩
      replace HX := Lib.hid (HX.out.mono (World.grows.refl _))
      clear c0 c1
      have HXZ := Lib.hid (fun W (hW : WZ.grows W) => HXz.out.mono hW)
      go_loopw [31] (fun i wr => ∃ q : Nat, q ≤ J.n ∧ i = .int .i64 q ∧ Hid (∃ zr, MadeB WZ wr zb WL.heap.size J.start q zr (fun t => .slice (some ⟨rb (rot J.n tn t), ro (rot J.n tn t), none⟩) (J.len (rot J.n tn t)) (rc (rot J.n tn t)))) ∧ Hid (wr.heap[yb]? = some (.cells #[.int .i64 J.start, .slice (some ⟨g9, 0, none⟩) (J.n + 1) cap9] 24) ∧ wr.heap[g9]? = some (.cells ys 62) ∧ WL.heap.size ≤ wr.heap.size)) (fun i _ => J.n - (intOf i).toNat)
      case atStart => exact ⟨0, by omega, rfl, Lib.hid ⟨_, hM0⟩, Lib.hid ⟨hYL.out, Hgc.out, Nat.le_refl _⟩⟩
      case round =>
        obtain ⟨q, hq, rfl, hM, hY⟩ := hrel
        obtain ⟨zr, hM⟩ := hM.out
        have HMz := Lib.hid hM
        clear hM hM0 HX
        have HX := Lib.hid (HXZ.out _ HMz.out.2.2); have c0 := HX.out.2.2.1; have c1 := HX.out.2.2.2
        obtain ⟨x0, x1, xf⟩ := boxX_cells HMz.out.1
        by_cases hlt : q < J.n
        · have hlti : (q : Int) < J.n := by omega
          have hRn : rot J.n tn q < J.n := rot_lt (by omega)
          have e2 : ((q + tn : Nat) : Int) % (J.n : Int) = (rot J.n tn q : Nat) := by unfold rot; omega
          obtain ⟨S, hS⟩ : ∃ S : Nat, q + tn = S := ⟨_, rfl⟩
          rw [hS] at e2
          have e1 : IntKind.i64.wrap ((q : Int) + tn) = S := by rw [← hS, Int.natCast_add]; exact wrapI (by omega)
          have z0 := HMz.out.2.2.cell_of (HR.out.row _ hRn)
          have hrc := HR.out.cap _ hRn
          unfold maxLen at hrc
          obtain ⟨R, hR⟩ : ∃ R, rot J.n tn q = R := ⟨_, rfl⟩
          rw [hR] at hRn e2 z0 hrc
          have HRR := Lib.hid hR
          have hRi : (R : Int) < J.n := by omega
          have e3 : IntKind.i64.wrap (R : Int) = R := wrapI (by omega)
          have e4 : (S : Int).tmod (J.n : Int) = R := by rw [Int.tmod_eq_emod_of_nonneg (by omega)]; exact e2
          have e5 : IntKind.i64.wrap (tn : Int) = tn := wrapI (by omega)
          have hni : ¬ (J.n : Int) = 0 := by omega
          have hni' : ¬ J.n = 0 := by omega
          have hl6 := HJ.out.l6 R hRn
          clear hR hS
          go_wp2
          (refine wp_region_made 15 14 _ rfl (by kernel_rfl) (by kernel_rfl) (by decide) (by decide) rfl ?_; simp only [List.take_succ_cons, List.take_zero, List.drop_succ_cons, List.drop_zero, List.take_nil, List.drop_nil, List.append_nil, List.nil_append, List.cons_append, Nat.reduceAdd, Nat.reduceSub]; (repeat (refine wpCalm_step (fun K hK => ?_); go_simp; first | (refine hK _ ?_; clear hK K) | (apply Exists.intro; refine ⟨fun n' x' => ?_, hK _ ?_⟩; (fail); clear hK K))); refine wpCalm_nil ⟨((fun b => .slice (some ⟨b, 0, none⟩) 1 1), _), fun n' x' => (by go_simp; first | exact ⟨rfl, rfl⟩ | rfl), ?_⟩; intro kq x1q mq x2q)
          simp only
          have hWLs := hY.out.2.2
          go_wp2_with (first
            | (at_builtin; (refine wpList_append_r _ rfl _ _ _ (by rfl) WL.heap.size 62 (.slice none 0 0) 1 24 Try.underlying22 el62 (by rfl) (by omega) _ _ _ (by rfl) ((HMz.out.2.1).grow (by (repeat (first | exact World.grows.refl _ | assumption | refine World.grows.alloc ?_ _ | refine World.grows.plus ?_ _ _ | refine World.grows.drew ?_)))) _ (by rfl) 1 _ (SliceAt.src (by omega) ((one_slice _ _ _ _ (by simp)).mono (World.grows_plus _ _ _))) (by simp [tableL, Value.oneCell']) (by unfold maxLen; omega) (by omega) (by simp; omega) ?_; intro v9 w9 hown hgr; obtain ⟨g8, cap8, rfl, hgb⟩ := hown.form (by omega); have HN := Lib.hid ((HMz.out.grow (by (repeat (first | exact World.grows.refl _ | assumption | refine World.grows.alloc ?_ _ | refine World.grows.plus ?_ _ _ | refine World.grows.drew ?_)))).push hzb hbZ (by rw [HRR.out]; exact hown) hgr); have y9 := (HMz.out.grow (by (repeat (first | exact World.grows.refl _ | assumption | refine World.grows.alloc ?_ _ | refine World.grows.plus ?_ _ _ | refine World.grows.drew ?_)))).keep hgr hbZ (World.grows.heap_of (by (repeat (first | exact World.grows.refl _ | assumption | refine World.grows.alloc ?_ _ | refine World.grows.plus ?_ _ _ | refine World.grows.drew ?_))) HMz.out.1); have y0 := (boxX_cells y9).1; have y1 := (boxX_cells y9).2.1; have yf := (boxX_cells y9).2.2; have HYN := Lib.hid (And.intro ((HMz.out.grow (by (repeat (first | exact World.grows.refl _ | assumption | refine World.grows.alloc ?_ _ | refine World.grows.plus ?_ _ _ | refine World.grows.drew ?_)))).keep hgr hbY (World.grows.heap_of (by (repeat (first | exact World.grows.refl _ | assumption | refine World.grows.alloc ?_ _ | refine World.grows.plus ?_ _ _ | refine World.grows.drew ?_))) hY.out.1)) (And.intro ((HMz.out.grow (by (repeat (first | exact World.grows.refl _ | assumption | refine World.grows.alloc ?_ _ | refine World.grows.plus ?_ _ _ | refine World.grows.drew ?_)))).keep hgr hbG (World.grows.heap_of (by (repeat (first | exact World.grows.refl _ | assumption | refine World.grows.alloc ?_ _ | refine World.grows.plus ?_ _ _ | refine World.grows.drew ?_))) hY.out.2.1)) hgr.size)); clear y9 hgr hown))
            | (go_at_call 44; fail))
          go_roundw
          case rel =>
            refine ⟨q + 1, by omega, by go_num, Lib.hid ⟨_, HN.out⟩, Lib.hid ⟨?_, ?_, ?_⟩⟩
            · rw [World.setCell_heap_other hyz1]; exact HYN.out.1
            · rw [World.setCell_heap_other (Ne.symm hne9)]; exact HYN.out.2.1
            · have := HYN.out.2.2
              simp at this ⊢
              omega
          case measure => change J.n - (intOf (Value.int IntKind.i64 ((q : Int) + 1))).toNat < J.n - (intOf (Value.int IntKind.i64 (q : Int))).toNat; simp [intOf] <;> omega
        · have hqe : q = J.n := by omega
          subst hqe
          have HTk := Lib.hid (HJ.out.rot tn)
          have HTc := Lib.hid ((Job.Ok_iff _).1 (HJ.out.rot tn))
          have HRX := Lib.hid (show RawAt wr (.agg #[.int .i64 (J.rot tn).start, zr]) (J.rot tn) from ⟨_, _, rfl, HMz.out.2.1.sliceAt fun i j hi hj => tableL_get _ hi hj, fun i hi => (rowsAt_slice HR.out (rot_lt (t := tn) (i := i) (show 0 < J.n by omega))).mono HMz.out.2.2⟩)
          have HRY := Lib.hid (fun (T : Job) (hTn : T.n = J.n + 1) (hTs : T.start = J.start) (V : Nat → Value) (h3 : ys.toList.take ((J.n + 1) * 1) = tableL (J.n + 1) 1 (fun t _ => V t)) (hV : ∀ t, t < J.n + 1 → SliceAt WZ (V t) (T.len t) 2 (pas T t)) => raw_block (T := T) HMz.out.2.2 hY.out.2.1 hcap1 hcap2 (by simpa using h3) hTn hV)
          have f1 := Lib.hid (HBs.out.rot tn)
          have f2 : (J.rot tn).countAns l = C := by unfold Job.countAns; rw [if_pos HTc.out, J.rot_ways, HC.out]
          have z5 := Lib.hid (show BoxAt WZ wr zb zr (J.rot tn) from ⟨HRX.out, HMz.out.2.2, x0, x1⟩)
          have y0 := z5.out.2.2.1; have y1 := z5.out.2.2.2
          have k26 := Lib.hid (fun W (hW : RawAt W (.agg #[.int .i64 (J.rot tn).start, zr]) (J.rot tn)) => count_c W (.agg #[.int .i64 (J.rot tn).start, zr]) (J.rot tn) hW l)
          simp only [HTc.out, f2] at k26
          clear f2 x0 x1 xf HRX
          generalize J.rot tn = T at HTk HTc f1 z5 y0 y1 k26
          obtain ⟨WM, rfl⟩ : ∃ WM, WM = wr := ⟨_, rfl⟩
          have HYM := Lib.hid hY.out.1
          go_wp2_with (go_at_call 44; fail)
          (refine (best_c _ _ T (z5.out.1.mono (by (repeat (first | exact World.grows.refl _ | assumption | refine World.grows.alloc ?_ _ | refine World.grows.plus ?_ _ _ | refine World.grows.drew ?_))))).mono ?_; rintro e W2 ⟨sv2, hot2, rfl, hg, -, hbb⟩; rw [HTc.out]; obtain rfl := (hbb HTc.out).1.unique f1.out; replace z5 := Lib.hid (z5.out.mono (World.grows.trans (by (repeat (first | exact World.grows.refl _ | assumption | refine World.grows.alloc ?_ _ | refine World.grows.plus ?_ _ _ | refine World.grows.drew ?_))) hg)); replace y0 := z5.out.2.2.1; replace y1 := z5.out.2.2.2; have HgM := Lib.hid (show WM.grows W2 from World.grows.trans (by (repeat (first | exact World.grows.refl _ | assumption | refine World.grows.alloc ?_ _ | refine World.grows.plus ?_ _ _ | refine World.grows.drew ?_))) hg); clear hg hbb)
          go_wp2_with (go_at_call 44; fail)
          (refine (k26.out _ (z5.out.1.mono (by (repeat (first | exact World.grows.refl _ | assumption | refine World.grows.alloc ?_ _ | refine World.grows.plus ?_ _ _ | refine World.grows.drew ?_))))).mono ?_; rintro e W3 ⟨rfl, hg⟩; replace HgM := Lib.hid (HgM.out.trans (World.grows.trans (by (repeat (first | exact World.grows.refl _ | assumption | refine World.grows.alloc ?_ _ | refine World.grows.plus ?_ _ _ | refine World.grows.drew ?_))) hg)); clear hg k26 y0 y1 z5 HTk HTc f1)
          go_wp2
          go_loopw [37] (fun i wr => ∃ q : Nat, q ≤ mm ∧ i = .int .i64 q ∧ Hid (∀ k, k < q → 0 ≤ lm k) ∧ Hid (WM.grows wr)) (fun i _ => mm - (intOf i).toNat)
          case atStart => exact ⟨0, by omega, rfl, Lib.hid fun k hk => by omega, HgM⟩
          case round =>
            obtain ⟨q, hq, rfl, hpos, hgr⟩ := hrel
            have hwz := Lib.hid ((HXZ.out _ HMz.out.2.2).2.1.trans hgr.out)
            by_cases hlt2 : q < mm
            · have hlti : (q : Int) < mm := by omega
              obtain ⟨m1, mo, rfl, m2⟩ := sliceCell HM.out hlt2 (j := 1) (by omega)
              have p1 := (HMz.out.2.2.trans hgr.out).cell_of m2
              simp only [show ¬ (1 : Nat) = 0 by omega, if_false] at p1
              by_cases hneg : lm q < 0
              · go_wp2_with (go_at_call 15; refine (works_c _).mono ?_; rintro e W2 ⟨rfl, hgz⟩; obtain ⟨nz, xz, rfl⟩ := World.plus_of hgz)
                go_ret
                exact ⟨rfl, hwz.out.trans (by (repeat (first | exact World.grows.refl _ | assumption | refine World.grows.alloc ?_ _ | refine World.grows.plus ?_ _ _ | refine World.grows.drew ?_)))⟩
              · go_wp2
                go_roundw
                case rel => exact ⟨q + 1, by omega, by go_num, Lib.hid fun k hk => by
                  rcases Nat.lt_or_ge k q with h | h
                  · exact hpos.out k h
                  · obtain rfl : k = q := by omega
                    omega, Lib.hid (hgr.out.trans (by (repeat (first | exact World.grows.refl _ | assumption | refine World.grows.alloc ?_ _ | refine World.grows.plus ?_ _ _ | refine World.grows.drew ?_))))⟩
                case measure => simp [intOf] <;> omega
            · have hqe : q = mm := by omega
              subst hqe
              have hl0 : ∀ i, 0 ≤ (fun i => if i < q then lm i else 0) i := fun i => by
                show 0 ≤ if i < q then lm i else 0
                by_cases h : i < q
                · rw [if_pos h]; exact hpos.out i h
                · rw [if_neg h]; omega
              have hmore := Lib.hid (fun hot' (h : (J.more q pm (fun i => if i < q then lm i else 0)).Best hot') => HBs.out.more hl0 h)
              have hraw := HRY.out (J.more q pm (fun i => if i < q then lm i else 0)) rfl rfl (fun t => if t < J.n then .slice (some ⟨rb t, ro t, none⟩) (J.len t) (rc t) else .slice ma q mcap) (by rw [tableL_pushV]; exact Hys.out) (fun t ht => by
                by_cases h : t < J.n
                · rw [if_pos h, (pas_more h).1, (pas_more h).2]
                  exact rowsAt_slice HR.out h
                · obtain rfl : t = J.n := by omega
                  rw [if_neg h, pas_last.1, pas_last.2]
                  exact HM.out.congr fun i j hi hj => by simp [hi])
              have HRM := Lib.hid hraw
              have hst3 : (J.more q pm (fun i => if i < q then lm i else 0)).start = J.start := rfl
              clear hraw hl0
              generalize J.more q pm (fun i => if i < q then lm i else 0) = T3 at hmore HRM hst3
              have x0 := (boxX_cells HYM.out).1
              have x1 := (boxX_cells HYM.out).2.1
              rw [← hst3] at x0
              clear hst3
              have HU := Lib.hid (show BoxAt WM wr yb (.slice (some ⟨g9, 0, none⟩) (J.n + 1) cap9) T3 from ⟨HRM.out.mono hgr.out, hgr.out, hgr.out.cell_of x0, hgr.out.cell_of x1⟩)
              have y0 := HU.out.2.2.1; have y1 := HU.out.2.2.2
              have hwM := Lib.hid (HXZ.out _ HMz.out.2.2).2.1
              have h38 := Lib.hid (fun W h => fine_c W (.agg #[.int .i64 T3.start, .slice (some ⟨g9, 0, none⟩) (J.n + 1) cap9]) T3 h)
              clear x0 x1 HRM
              by_cases hct : T3.check = 0
              · rw [decide_eq_true hct] at h38
                have Hct := Lib.hid hct
                clear hct
                go_wp2_with (first
                  | (go_at_call 38; refine (h38.out _ (HU.out.1.mono (by (repeat (first | exact World.grows.refl _ | assumption | refine World.grows.alloc ?_ _ | refine World.grows.plus ?_ _ _ | refine World.grows.drew ?_))))).mono ?_; rintro e W2 ⟨rfl, hg⟩; replace HU := Lib.hid (HU.out.mono (World.grows.trans (by (repeat (first | exact World.grows.refl _ | assumption | refine World.grows.alloc ?_ _ | refine World.grows.plus ?_ _ _ | refine World.grows.drew ?_))) hg)); replace y0 := HU.out.2.2.1; replace y1 := HU.out.2.2.2; clear hg)
                  | (go_at_call 44; fail))
                (refine (best_c _ _ T3 (HU.out.1.mono (by (repeat (first | exact World.grows.refl _ | assumption | refine World.grows.alloc ?_ _ | refine World.grows.plus ?_ _ _ | refine World.grows.drew ?_))))).mono ?_; rintro e W2 ⟨sv3, hot3, rfl, hg, -, hbb⟩; rw [Hct.out]; have hge := hmore.out hot3 (hbb Hct.out).1; replace HU := Lib.hid (HU.out.mono (World.grows.trans (by (repeat (first | exact World.grows.refl _ | assumption | refine World.grows.alloc ?_ _ | refine World.grows.plus ?_ _ _ | refine World.grows.drew ?_))) hg)); replace y0 := HU.out.2.2.1; replace y1 := HU.out.2.2.2; clear hg hbb)
                have hge2 : ¬ hot3 < hot2 := by omega
                go_wp2_with (go_at_call 15; refine (works_c _).mono ?_; rintro e W2 ⟨rfl, hg⟩; replace HU := Lib.hid (HU.out.mono (World.grows.trans (by (repeat (first | exact World.grows.refl _ | assumption | refine World.grows.alloc ?_ _ | refine World.grows.plus ?_ _ _ | refine World.grows.drew ?_))) hg)); clear hg)
                go_ret
                exact ⟨rfl, (hwM.out.trans HU.out.2.1).trans (by (repeat (first | exact World.grows.refl _ | assumption | refine World.grows.alloc ?_ _ | refine World.grows.plus ?_ _ _ | refine World.grows.drew ?_)))⟩
              · rw [decide_eq_false hct] at h38
                clear hct
                go_wp2_with (first
                  | (go_at_call 38; refine (h38.out _ (HU.out.1.mono (by (repeat (first | exact World.grows.refl _ | assumption | refine World.grows.alloc ?_ _ | refine World.grows.plus ?_ _ _ | refine World.grows.drew ?_))))).mono ?_; rintro e W2 ⟨rfl, hg⟩; replace HU := Lib.hid (HU.out.mono (World.grows.trans (by (repeat (first | exact World.grows.refl _ | assumption | refine World.grows.alloc ?_ _ | refine World.grows.plus ?_ _ _ | refine World.grows.drew ?_))) hg)); replace y0 := HU.out.2.2.1; replace y1 := HU.out.2.2.2; clear hg)
                  | (go_at_call 15; refine (works_c _).mono ?_; rintro e W2 ⟨rfl, hg⟩; replace HU := Lib.hid (HU.out.mono (World.grows.trans (by (repeat (first | exact World.grows.refl _ | assumption | refine World.grows.alloc ?_ _ | refine World.grows.plus ?_ _ _ | refine World.grows.drew ?_))) hg)); clear hg))
                go_ret
                exact ⟨rfl, (hwM.out.trans HU.out.2.1).trans (by (repeat (first | exact World.grows.refl _ | assumption | refine World.grows.alloc ?_ _ | refine World.grows.plus ?_ _ _ | refine World.grows.drew ?_)))⟩
  · rw [decide_eq_false hc] at h38
    go_wp2_with (first
      | (go_at_call 38; refine (h38 _ (HX.out.1.mono (by (repeat (first | exact World.grows.refl _ | assumption | refine World.grows.alloc ?_ _ | refine World.grows.plus ?_ _ _ | refine World.grows.drew ?_))))).mono ?_; rintro e W2 ⟨rfl, hg⟩; replace HB := Lib.hid (HB.out.mono (World.grows.trans (by (repeat (first | exact World.grows.refl _ | assumption | refine World.grows.alloc ?_ _ | refine World.grows.plus ?_ _ _ | refine World.grows.drew ?_))) hg)); replace HM := Lib.hid (HM.out.mono (World.grows.trans (by (repeat (first | exact World.grows.refl _ | assumption | refine World.grows.alloc ?_ _ | refine World.grows.plus ?_ _ _ | refine World.grows.drew ?_))) hg)); replace HX := Lib.hid (HX.out.mono (World.grows.trans (by (repeat (first | exact World.grows.refl _ | assumption | refine World.grows.alloc ?_ _ | refine World.grows.plus ?_ _ _ | refine World.grows.drew ?_))) hg)); replace c0 := HX.out.2.2.1; replace c1 := HX.out.2.2.2; clear hg)
      | (go_at_call 15; refine (works_c _).mono ?_; rintro e W2 ⟨rfl, hg⟩; replace HX := Lib.hid (HX.out.mono (World.grows.trans (by (repeat (first | exact World.grows.refl _ | assumption | refine World.grows.alloc ?_ _ | refine World.grows.plus ?_ _ _ | refine World.grows.drew ?_))) hg)); clear hg))
    go_ret
    exact ⟨rfl, HX.out.2.1.trans (by (repeat (first | exact World.grows.refl _ | assumption | refine World.grows.alloc ?_ _ | refine World.grows.plus ?_ _ _ | refine World.grows.drew ?_)))⟩
end Go.Proofs.Ytjpccfpmhmddjaa

/-
  What is proved: arguments in fives and sixes; arrays of numbers as arguments.
-/
namespace Go
open Go.ChangeShapes Go.WideShapes Go.ChangeAt

section
variable {H : Type} {enc : TypeId × Value → H} {P : Program} {w : World} {base : Nat} {spare : Nat → Bool} {held : Bool}
theorem trodAll_5 {t1 t2 t3 t4 t5 : TypeId} {args : Array Value} {ds : List (DataW H)} {ps : List MemPlace} (h : DataW.TrodAll enc P w base spare held [t1, t2, t3, t4, t5] args.toList ds ps) :
    ∃ v1 v2 v3 v4 v5 d1 d2 d3 d4 d5 p1 p2 p3 p4 p5, args = #[v1, v2, v3, v4, v5] ∧ ds = [d1, d2, d3, d4, d5] ∧ ps = p1 ++ (p2 ++ (p3 ++ (p4 ++ p5))) ∧ DataW.Trod enc P w base spare held t1 v1 d1 p1 ∧ DataW.Trod enc P w base spare held t2 v2 d2 p2 ∧
      DataW.Trod enc P w base spare held t3 v3 d3 p3 ∧ DataW.Trod enc P w base spare held t4 v4 d4 p4 ∧ DataW.Trod enc P w base spare held t5 v5 d5 p5 := by
  obtain ⟨v1, s1, d1, e1, p1, q1, hargs, rfl, rfl, h1, r1⟩ := trodAll_cons h
  obtain ⟨v2, s2, d2, e2, p2, q2, rfl, rfl, rfl, h2, r2⟩ := trodAll_cons r1
  obtain ⟨v3, s3, d3, e3, p3, q3, rfl, rfl, rfl, h3, r3⟩ := trodAll_cons r2
  obtain ⟨v4, s4, d4, e4, p4, q4, rfl, rfl, rfl, h4, r4⟩ := trodAll_cons r3
  obtain ⟨v5, s5, d5, e5, p5, q5, rfl, rfl, rfl, h5, r5⟩ := trodAll_cons r4
  obtain ⟨rfl, rfl, rfl⟩ := trodAll_nil r5
  exact ⟨v1, v2, v3, v4, v5, d1, d2, d3, d4, d5, p1, p2, p3, p4, p5, by cases args; simp_all, rfl, by simp, h1, h2, h3, h4, h5⟩
theorem trodAll_6 {t1 t2 t3 t4 t5 t6 : TypeId} {args : Array Value} {ds : List (DataW H)} {ps : List MemPlace} (h : DataW.TrodAll enc P w base spare held [t1, t2, t3, t4, t5, t6] args.toList ds ps) :
    ∃ v1 v2 v3 v4 v5 v6 d1 d2 d3 d4 d5 d6 p1 p2 p3 p4 p5 p6, args = #[v1, v2, v3, v4, v5, v6] ∧ ds = [d1, d2, d3, d4, d5, d6] ∧ ps = p1 ++ (p2 ++ (p3 ++ (p4 ++ (p5 ++ p6)))) ∧ DataW.Trod enc P w base spare held t1 v1 d1 p1 ∧ DataW.Trod enc P w base spare held t2 v2 d2 p2 ∧
      DataW.Trod enc P w base spare held t3 v3 d3 p3 ∧ DataW.Trod enc P w base spare held t4 v4 d4 p4 ∧ DataW.Trod enc P w base spare held t5 v5 d5 p5 ∧ DataW.Trod enc P w base spare held t6 v6 d6 p6 := by
  obtain ⟨v1, s1, d1, e1, p1, q1, hargs, rfl, rfl, h1, r1⟩ := trodAll_cons h
  obtain ⟨v2, s2, d2, e2, p2, q2, rfl, rfl, rfl, h2, r2⟩ := trodAll_cons r1
  obtain ⟨v3, s3, d3, e3, p3, q3, rfl, rfl, rfl, h3, r3⟩ := trodAll_cons r2
  obtain ⟨v4, s4, d4, e4, p4, q4, rfl, rfl, rfl, h4, r4⟩ := trodAll_cons r3
  obtain ⟨v5, s5, d5, e5, p5, q5, rfl, rfl, rfl, h5, r5⟩ := trodAll_cons r4
  obtain ⟨v6, s6, d6, e6, p6, q6, rfl, rfl, rfl, h6, r6⟩ := trodAll_cons r5
  obtain ⟨rfl, rfl, rfl⟩ := trodAll_nil r6
  exact ⟨v1, v2, v3, v4, v5, v6, d1, d2, d3, d4, d5, d6, p1, p2, p3, p4, p5, p6, by cases args; simp_all, rfl, by simp, h1, h2, h3, h4, h5, h6⟩
theorem okWide_array {r : Reach} {v : Value} {n : Nat} {e t : TypeId} (ht : P.underlying t = some (.array n e)) (h : Value.okWide P w r base t v) : ∃ cs, v = .agg cs ∧ cs.size = P.cellsOf t := by
  simp only [Value.okWide, ht] at h
  obtain ⟨cs, h1, h2, _⟩ := h
  exact ⟨cs, h1, h2⟩
/-- an array of numbers of one kind -/
theorem array_nums {t e : TypeId} {k : IntKind} {n fuel : Nat} {cs : List Value} {x : DataW H × List MemPlace} (ht : P.underlying t = some (.array n e)) (he : P.underlying e = some (.int k)) (hc : P.cellsOf e = 1) (hn : P.cellsOf t = n)
    (h : DataW.trod enc P w base spare held fuel t cs = some x) : cs.length = n ∧ ∀ i, i < n → ∃ z : Int, cs[i]? = some (.int k z) ∧ (Lit.int k z).wf = true := by
  obtain ⟨xs, m, -, -, hl, hlen, hx⟩ := DataW.trod_array ht h
  refine ⟨by omega, fun i hi => ?_⟩
  have h1 := hx i hi
  rw [hc, Nat.mul_one, List.getElem?_eq_getElem (by omega)] at h1
  obtain ⟨z, e1, _, e2⟩ := DataW.trod_int he h1
  refine ⟨z, ?_, e2⟩
  have h2 : i < cs.length := by omega
  have h3 : (cs.drop i).take 1 = [cs[i]] := by rw [List.drop_eq_getElem_cons h2]; rfl
  rw [h3] at e1
  rw [List.getElem?_eq_getElem h2]
  simpa using e1
end
end Go

/-
  What is proved: four small numbers, and a list of passes, that a law of layer 4 is handed.
-/
namespace Go.Proofs.Ytjpccfpmhmddjaa
open Go.ChangeShapes Go.WideShapes Go.ChangeAt Go.RowKit Go.Deep Go.Joins

theorem cells60 : Try.prog.cellsOf 60 = 4 := by kernel_rfl
section
variable {H : Type} {enc : TypeId × Value → H} {w : World} {base : Nat} {held : Bool}
set_option maxRecDepth 100000 in
theorem four_of {v : Value} {d : DataW H} {p : List MemPlace} (hv : Value.okWide Try.prog w .any base 60 v) (h : DataW.Trod enc Try.prog w 0 (fun _ => true) held 60 v d p) :
    ∃ a b c e : Nat, v = .agg #[.int .u8 a, .int .u8 b, .int .u8 c, .int .u8 e] ∧ a ≤ 255 ∧ b ≤ 255 ∧ c ≤ 255 ∧ e ≤ 255 := by
  obtain ⟨cs, rfl, hsz⟩ := okWide_array Try.underlying60 hv
  obtain ⟨fuel, hf⟩ := h
  obtain ⟨hl, hx⟩ := array_nums Try.underlying60 Try.underlying5 cells5 cells60 hf
  have key : ∀ i, i < 4 → ∃ a : Nat, cs.toList[i]? = some (.int .u8 a) ∧ a ≤ 255 := fun i hi => by
    obtain ⟨z, e1, e2⟩ := hx i hi
    have := lit_u8 e2
    refine ⟨z.toNat, ?_, by omega⟩
    rw [show ((z.toNat : Nat) : Int) = z by omega]
    exact e1
  obtain ⟨a, ha, a1⟩ := key 0 (by omega)
  obtain ⟨b, hb, b1⟩ := key 1 (by omega)
  obtain ⟨c, hc, c1⟩ := key 2 (by omega)
  obtain ⟨e, he, e1⟩ := key 3 (by omega)
  refine ⟨a, b, c, e, ?_, a1, b1, c1, e1⟩
  congr 1
  apply Array.ext_getElem?
  intro i
  rw [← Array.getElem?_toList] 
  have hl' : cs.toList.length = 4 := hl
  match i with
  | 0 => simpa using ha
  | 1 => simpa using hb
  | 2 => simpa using hc
  | 3 => simpa using he
  | i + 4 =>
    rw [List.getElem?_eq_none (by omega)]
    simp
set_option maxRecDepth 100000 in
theorem passes_arg {v : Value} {d : DataW H} {p : List MemPlace} (hv : Value.okWide Try.prog w .any base 62 v) (h : DataW.Trod enc Try.prog w 0 (fun _ => true) held 62 v d p) :
    ∃ (m : Nat) (pk lv : Nat → Int), SliceAt w v m 2 (fun k j => if j = 0 then .int .i64 (pk k) else .int .i64 (lv k)) := by
  obtain ⟨a, len, cap, rfl⟩ := okWide_slice Try.underlying62 hv
  obtain ⟨fuel, hf⟩ := h
  obtain ⟨m, pk, lv, h1, -⟩ := passes_of (n := 0) hf
  exact ⟨m, pk, lv, h1⟩
set_option maxRecDepth 100000 in
theorem u8_of {v : Value} {d : DataW H} {p : List MemPlace} (hv : Value.okWide Try.prog w .any base 5 v) (h : DataW.Trod enc Try.prog w 0 (fun _ => true) held 5 v d p) :
    ∃ n : Nat, v = .int .u8 n ∧ n ≤ 255 := by
  obtain ⟨z, rfl, -, -, hw⟩ := open_int Try.underlying5 hv h
  have := lit_u8 hw
  exact ⟨z.toNat, by rw [show ((z.toNat : Nat) : Int) = z by omega], by omega⟩
end
end Go.Proofs.Ytjpccfpmhmddjaa

/-
  What is proved: the statement PassShifted, at every input.
-/
namespace Go.Proofs.Ytjpccfpmhmddjaa
open Go.ChangeShapes Go.WideShapes Go.ChangeAt Go.RowKit

set_option maxRecDepth 100000 in
theorem passShifted_lifted (os : Os) (started : os.Started) (H : Type) (enc : TypeId × Value → H) :
    ReturnsInHanded {} Try.checked os 12 .any (Rows.passShiftedSpec.pre6 enc Try.prog Try.f12 Rows.passShiftedRow.domain false) (Rows.passShiftedSpec.post enc Try.prog Try.f12 false true false false) := by
  refine law_lifted (C := Try.checked) (tb := 4) started own_c laid_c (by kernel_rfl) Try.func12 (of_decide_eq_true (by kernel_rfl))
    (ChangeSpec.witness6 (enc := enc) (C := Try.checked) false ⟨#[], #[.agg #[.int .i64 0, .slice none 0 0], .int .u16 0, .slice none 0 0, .slice none 0 0, .int .i32 0, .int .u8 0], []⟩ 8 (by kernel_rfl) (by kernel_rfl) (by kernel_rfl) (by kernel_rfl))
    rfl Try.underlying4 rfl (fun ds hl => ?_) (fun W base args ds ps hval hA => ?_)
  · match ds, hl with
    | [d1, d2, d3, d4, d5, d6], _ => exact ⟨rfl, rfl, rfl⟩
  · have hA' : DataW.TrodAll enc Try.prog W 0 (fun _ => true) true Try.f12.params.toList args.toList ds ps := hA
    have hval' : ∀ (j : Nat) t v, Try.f12.params[j]? = some t → args[j]? = some v → Value.okWide Try.prog W .any base t v := hval
    rw [Try.params12] at hA' hval'
    obtain ⟨v1, v2, v3, v4, v5, v6, d1, d2, d3, d4, d5, d6, p1, p2, p3, p4, p5, p6, rfl, rfl, rfl, h1, h2, h3, h4, h5, h6⟩ := trodAll_6 hA'
    obtain ⟨J1, hJ1, hF1⟩ := job_of (hval' 0 24 v1 rfl rfl) h1
    obtain ⟨z2, rfl, -, -, hw2⟩ := open_int Try.underlying59 (hval' 1 59 v2 rfl rfl) h2; have hz2 := lit_u16 hw2
    obtain ⟨mm, pm, lm, hmm⟩ := passes_arg (hval' 2 62 v3 rfl rfl) h3
    obtain ⟨m4, f4, hf4, hb4⟩ := bytes_of (hval' 3 55 v4 rfl rfl) h4
    obtain ⟨z5, rfl, -, -, hw5⟩ := open_int Try.underlying21 (hval' 4 21 v5 rfl rfl) h5; have hz5 := lit_i32 hw5
    obtain ⟨tn, rfl, htn⟩ := u8_of (hval' 5 5 v6 rfl rfl) h6
    exact shifted_w W v1 J1 hJ1 z2 hz2 v3 mm pm lm hmm v4 m4 f4 hf4 hb4 z5 hz5 tn htn

theorem passShifted_holds : Rows.PassShiftedSaid :=
  OpenClaim.holds_of_wide 12 Try.f12 rfl rfl rfl rfl rfl rfl rfl ⟨rfl, rfl, rfl, rfl, rfl⟩ rfl rfl rfl rfl rfl (by kernel_rfl) Try.func12 (by kernel_rfl)
    (of_decide_eq_true (by kernel_rfl)) (by unfold Func.isWrapper; first | (rw [if_pos (by decide +kernel)]; kernel_rfl) | (rw [if_neg (by decide +kernel)]; exact ⟨rfl, rfl⟩))
    (fun os started H enc _ => passShifted_lifted os started H enc)
end Go.Proofs.Ytjpccfpmhmddjaa

