/-
  What is proved: append onto a row of the region's own, as a step of a chain.
-/
import Derived.Test.YtdminglglapnlaaM16
import Derived.Test.YtdminglglapnlaaM12
import Derived.Test.YtdminglglapnlaaM11
import Derived.Test.YtdminglglapnlaaM15
import Derived.Deep.CutRange
import Derived.OpenShut
set_option linter.all false
namespace Go
open Go.RowKit
section
variable {P : Program} {ops : Array Oper} {w0 : World}
theorem wpChain_append_own {rest : List Oper} {o : Oper} {a : Act} {Q : Act → World → Prop} {W : World} (hgd : o.guard = none) (s x : Operand) (t : TypeId)
    (ho : o.op = .call { callee := .builtin .append, args := #[s, x], argTypes := #[t, t] })
    (base : Nat) (e : TypeId) (z : Value) (size bytes : Nat) (ht : P.underlying t = some (.slice e)) (hi : P.knows e z size bytes) (hzs : z.cells.size = size) (hsz : 0 < size)
    (v : Value) (n : Nat) (xs : List Value) (hs : a.eval s = v) (hown : W.ownsRow base e size v n xs)
    (xv : Value) (hx : a.eval x = xv) (m : Nat) (news : List Value) (hsrc : ∀ W0, W.grows W0 → SrcAt W0 xv m size news) (h1 : ∀ u ∈ news, u.oneCell' = true)
    (h63 : n + m ≤ maxLen) (hbytes : (n + m) * bytes ≤ 140737488355328) (hb0 : w0.heap.size ≤ base) (hbase : base ≤ W.heap.size)
    (h : ∀ v' W', W'.ownsRow base e size v' (n + m) (xs ++ news) → w0.grows W' → W.heap.size ≤ W'.heap.size → wpChain P ops w0 Q rest (a.put o.dst v') W') :
    wpChain P ops w0 Q (o :: rest) a W := by
  intro W0 hg hg0
  rw [if_pos (by simp [Region.wanted, hgd])]
  obtain ⟨i, hi, hz, hsize, hby⟩ := hi
  have gs := hg.size
  obtain ⟨v', w', hr, h2, h3⟩ := run_append_g (P := P) W0 base t o.type e i z size bytes ht hi hz hsize hby hzs hsz v n xs (hown.grow hg) xv m news (hsrc W0 hg) h1 h63 hbytes (by omega)
  unfold Oper.goesO execOp
  simp only [ho, resolve, invoke, builtin, Sem.run_bind, Sem.run_pure, Result.andThen_ok, List.map_toArray, List.map_cons, List.map_nil, hs, hx, hr]
  have gs2 := h3.size
  have g' := h3.grows (hown.grow hg) hg0 hb0
  exact ⟨g', h v' w' h2 g' (by omega)⟩
end
/-- a slice without elements is a row of the call's own -/
theorem ownsRow_empty {w : World} {b base : Nat} {e : TypeId} {size : Nat} {xs : Array Value} (h : w.heap[b]? = some (.cells xs e)) (hx : xs.size = 0) (hb : base ≤ b) : w.ownsRow base e size (.slice (some ⟨b, 0, none⟩) 0 0) 0 [] :=
  ⟨by simp, .inr ⟨b, 0, xs, rfl, hb, h, by omega, by unfold maxLen; omega, by simpa using hx, by simp⟩⟩
end Go

/-
  What is proved: for MarkMore: worlds in which one register alone has changed; its rows while they grow.
-/
namespace Go
open Go.RowKit
section
variable {P : Program}
/-- append, and where the answer lies -/
theorem wpList_append_at {ops : Array Oper} {w : World} {rest : List Oper} {o : Oper} {a : Act} {Q : Exit → Act → World → Prop} (hgd : o.guard = none) (s x : Operand) (t : TypeId)
    (ho : o.op = .call { callee := .builtin .append, args := #[s, x], argTypes := #[t, t] })
    (base : Nat) (e : TypeId) (z : Value) (size bytes : Nat) (ht : P.underlying t = some (.slice e)) (hi : P.knows e z size bytes) (hzs : z.cells.size = size) (hsz : 0 < size)
    (v : Value) (n : Nat) (xs : List Value) (hs : a.eval s = v) (hown : w.ownsRow base e size v n xs)
    (xv : Value) (hx : a.eval x = xv) (m : Nat) (news : List Value) (hsrc : SrcAt w xv m size news) (h0 : 0 < m) (h1 : ∀ u ∈ news, u.oneCell' = true)
    (h63 : n + m ≤ maxLen) (hbytes : (n + m) * bytes ≤ 140737488355328) (hbase : base ≤ w.heap.size)
    (h : ∀ v' w', w'.ownsRow base e size v' (n + m) (xs ++ news) → w.grownBy w' v.ownBlock → (v'.ownBlock = v.ownBlock ∨ v'.ownBlock = some w.heap.size) → wpList P ops Q rest (a.put o.dst v') w') :
    wpList P ops Q (o :: rest) a w := by
  obtain ⟨i, hi, hz, hsize, hby⟩ := hi
  obtain ⟨A, c, rfl, hl, hA⟩ := hsrc
  obtain ⟨ad, rfl, hc⟩ := hA h0
  refine wpList_plain hgd fun K hK => ?_
  obtain ⟨v', w', hr, h2, h3, -, h4⟩ := run_append_own_at (P := P) w base t o.type e i z size bytes ht hi hz hsize hby hzs hsz v n xs hown ad m c news hl hc h1 h63 hbytes hbase
  unfold Oper.wp execOp
  simp only [ho, resolve, invoke, builtin, Sem.run_bind, Sem.run_pure, Result.andThen_ok, List.map_toArray, List.map_cons, List.map_nil, hs, hx, hr]
  exact hK _ _ (h v' w' h2 h3 h4)
theorem wpChainJ_append_at {ops : Array Oper} {I : World → Prop} {rest : List Oper} {o : Oper} {a : Act} {Q : Act → World → Prop} {W : World} (hgd : o.guard = none) (s x : Operand) (t : TypeId)
    (ho : o.op = .call { callee := .builtin .append, args := #[s, x], argTypes := #[t, t] })
    (base : Nat) (e : TypeId) (z : Value) (size bytes : Nat) (ht : P.underlying t = some (.slice e)) (hi : P.knows e z size bytes) (hzs : z.cells.size = size) (hsz : 0 < size)
    (v : Value) (n : Nat) (xs : List Value) (hs : a.eval s = v) (hown : W.ownsRow base e size v n xs)
    (xv : Value) (hx : a.eval x = xv) (m : Nat) (news : List Value) (hsrc : ∀ W0, W.grows W0 → SrcAt W0 xv m size news) (h0 : 0 < m) (h1 : ∀ u ∈ news, u.oneCell' = true)
    (h63 : n + m ≤ maxLen) (hbytes : (n + m) * bytes ≤ 140737488355328) (hbase : base ≤ W.heap.size)
    (h : ∀ W0 v' w', W.grows W0 → I W0 → w'.ownsRow base e size v' (n + m) (xs ++ news) → W0.grownBy w' v.ownBlock → (v'.ownBlock = v.ownBlock ∨ v'.ownBlock = some W0.heap.size) → I w' ∧ wpChainJ P ops I Q rest (a.put o.dst v') w') :
    wpChainJ P ops I Q (o :: rest) a W := by
  intro W0 hg hI0
  obtain ⟨i, hi, hz, hsize, hby⟩ := hi
  rw [if_pos (by simp [Region.wanted, hgd])]
  obtain ⟨A, c, rfl, hl, hA⟩ := hsrc W0 hg
  obtain ⟨ad, rfl, hc⟩ := hA h0
  obtain ⟨v', w', hr, h2, h3, -, h4⟩ := run_append_own_at (P := P) W0 base t o.type e i z size bytes ht hi hz hsize hby hzs hsz v n xs (hown.grow hg) ad m c news hl hc h1 h63 hbytes (Nat.le_trans hbase hg.size)
  unfold Oper.goesOJ execOp
  simp only [ho, resolve, invoke, builtin, Sem.run_bind, Sem.run_pure, Result.andThen_ok, List.map_toArray, List.map_cons, List.map_nil, hs, hx, hr]
  exact h W0 v' w' hg hI0 h2 h3 h4
end
end Go
namespace Go.Proofs.Ytdminglglapnlaa
open Go.RowKit
/-- the block of a value, if it has one, does not lie in [l, t) -/
def Off (l t : Nat) (v : Value) : Prop := ∀ b, v.ownBlock = some b → b < l ∨ t ≤ b
/-- it lies in [l, t), or from T on -/
def Rg (l t T : Nat) (v : Value) : Prop := ∀ b, v.ownBlock = some b → (l ≤ b ∧ b < t) ∨ T ≤ b
theorem Off.none (l : Nat) (v : Value) : Off l l v := fun b _ => Nat.lt_or_ge b l
theorem Off.less {l t l' t' : Nat} {v : Value} (h : Off l t v) (h1 : l ≤ l') (h2 : t' ≤ t) : Off l' t' v := fun b hb => by have := h b hb; omega
theorem Rg.off {l t T l' t' : Nat} {v : Value} (h : Rg l t T v) (h1 : t ≤ l') (h2 : t' ≤ T) : Off l' t' v := fun b hb => by have := h b hb; omega
theorem Rg.to {l t T : Nat} {W W' : World} {v v' : Value} (h : Rg l t T v) (hT : T ≤ W.heap.size) (hv : v'.ownBlock = v.ownBlock ∨ v'.ownBlock = some W.heap.size) : Rg l t T v' := fun b hb => by
  rcases hv with e | e
  · exact h b (by rw [← e]; exact hb)
  · rw [e] at hb
    cases hb
    exact .inr hT
/-- the box X, and the rows in [l, t), alone have changed -/
structure Tch (X l t : Nat) (Y W : World) : Prop where
  os : W.os = Y.os
  tape : W.tape = Y.tape
  output : W.output = Y.output
  size : Y.heap.size ≤ W.heap.size
  block : ∀ (k : Nat) (o : Obj), Y.heap[k]? = some o → k ≠ X → ((k < l ∨ t ≤ k) ∨ ∃ c, o = .cells c 25) → W.heap[k]? = some o
section
variable {X l t : Nat} {Y W W' : World}
theorem Tch.refl : Tch X l t Y Y := ⟨rfl, rfl, rfl, Nat.le_refl _, fun _ _ h _ _ => h⟩
theorem Tch.then (h : Tch X l t Y W) (g : W.grows W') : Tch X l t Y W' :=
  ⟨g.os.trans h.os, g.tape.trans h.tape, g.output.trans h.output, Nat.le_trans h.size g.size, fun k o h1 h2 h3 => g.heap_of (h.block k o h1 h2 h3)⟩
theorem Tch.own (h : Tch X l t Y W) {base size : Nat} {e : TypeId} {v : Value} {n : Nat} {xs : List Value} (ho : W.ownsRow base e size v n xs) (he : e ≠ 25) (hv : Rg l t Y.heap.size v) (g : W.grownBy W' v.ownBlock) : Tch X l t Y W' :=
  ⟨g.os.trans h.os, g.tape.trans h.tape, g.output.trans h.output, Nat.le_trans h.size g.size, fun k o h1 h2 h3 => by
    have h4 := h.block k o h1 h2 h3
    rw [g.block k (World.lt_of_block h4) ?_]
    · exact h4
    · intro e'
      have h5 := hv k e'.symm
      have h6 := World.lt_of_block h1
      rcases h3 with h3 | ⟨c, rfl⟩
      · omega
      · exact row_block ho h4 he k e'.symm rfl⟩
theorem Tch.setX (h : Tch X l t Y W) (i : Nat) (v : Value) : Tch X l t Y (W.setCell ⟨X, i, none⟩ v) :=
  ⟨h.os, h.tape, h.output, by simpa using h.size, fun k o h1 h2 h3 => by
    rw [World.heap_setCell_map _ _ _ _ (by dsimp only; omega)]
    exact h.block k o h1 h2 h3⟩
theorem Tch.setRow (h : Tch X l t Y W) {base size : Nat} {e : TypeId} {v : Value} {n : Nat} {xs : List Value} (ho : W.ownsRow base e size v n xs) (he : e ≠ 25) (hv : Rg l t Y.heap.size v) {b : Nat} (hb : v.ownBlock = some b) (i : Nat) (u : Value) : Tch X l t Y (W.setCell ⟨b, i, none⟩ u) :=
  ⟨h.os, h.tape, h.output, by simpa using h.size, fun k o h1 h2 h3 => by
    have h4 := h.block k o h1 h2 h3
    have h5 := hv b hb
    have h6 := World.lt_of_block h1
    rw [World.heap_setCell_map _ _ _ _ ?_]
    · exact h4
    · dsimp only
      rintro rfl
      rcases h3 with h3 | ⟨c, rfl⟩
      · omega
      · exact row_block ho h4 he b hb rfl⟩
theorem Tch.row (h : Tch X l t Y W) {base size : Nat} {e : TypeId} {v : Value} {n : Nat} {xs : List Value} (ho : Y.ownsRow base e size v n xs) (h1 : Off l t v) {c : Array Value} (hX : Y.heap[X]? = some (.cells c 25)) (he : e ≠ 25) : W.ownsRow base e size v n xs := by
  have hne := ne_block ho hX he
  refine ⟨ho.1, ?_⟩
  rcases ho.2 with hn | ⟨b, cap, cur, rfl, hb, hgg, rest⟩
  · exact .inl hn
  · exact .inr ⟨b, cap, cur, rfl, hb, h.block b _ hgg (fun e => hne (by rw [e]; rfl)) (.inl (h1 b rfl)), rest⟩
/-- a register that has stayed apart -/
theorem Tch.reg (h : Tch X l t Y W) {base : Nat} {mv cv : Value} {r : Reg} {row : Nat → Value} (ho : RegOwn base Y mv cv r row) (h1 : Off l t mv) (h2 : Off l t cv) (h3 : ∀ m, m < r.nm → Off l t (row m)) {c : Array Value} (hX : Y.heap[X]? = some (.cells c 25)) : RegOwn base W mv cv r row :=
  ⟨⟨h.row ho.1.row' h1 hX (by decide), fun m hm => h.row (ho.1.val' m hm) (h3 m hm) hX (by decide), ho.1.apart, fun m hm b hb => Nat.lt_of_lt_of_le (ho.1.below m hm b hb) h.size⟩, h.row ho.2 h2 hX (by decide)⟩
theorem Tch.grows (h : Tch X l t Y W) {w : World} (g : w.grows Y) (h1 : w.heap.size ≤ X) (h2 : w.heap.size ≤ l) : w.grows W :=
  ⟨h.os.trans g.os, h.tape.trans g.tape, h.output.trans g.output, Nat.le_trans g.size h.size, fun k hk => by
    have gk := g.block k hk
    have : ∃ o, w.heap[k]? = some o := ⟨_, Array.getElem?_eq_getElem hk⟩
    obtain ⟨o, ho⟩ := this
    rw [ho] at gk ⊢
    exact h.block k o gk (by omega) (.inl (by omega))⟩
end
/-! ### the register whose rows grow -/
structure VMarks (base : Nat) (W : World) (mv : Value) (k : Nat) (nv : Nat → Nat) (who : Nat → Int) (row : Nat → Value) (val : Nat → Nat → Int) : Prop where
  row' : W.ownsRow base 65 2 mv k (tableL k 2 (mcell who row))
  val' : ∀ m, m < k → W.ownsRow base 3 1 (row m) (nv m) (valL (nv m) (val m))
  apart : ∀ m m', m < k → m' < k → m ≠ m' → ∀ b, (row m).ownBlock = some b → (row m').ownBlock ≠ some b
section
variable {base : Nat} {W W' : World} {mv : Value} {k nc : Nat} {nv : Nat → Nat} {who : Nat → Int} {row : Nat → Value} {val : Nat → Nat → Int}
theorem MarksOwn.v (h : MarksOwn base W mv k nc who row val) : VMarks base W mv k (fun _ => nc) who row val :=
  ⟨h.row', h.val', fun m m' hm hm' hne b hb e => by
    rcases Nat.lt_or_gt_of_ne hne with h1 | h1
    · exact h.apart m m' h1 hm' b hb e
    · exact h.apart m' m h1 hm b e hb⟩
theorem VMarks.own (h : VMarks base W mv k (fun _ => nc) who row val) : MarksOwn base W mv k nc who row val :=
  ⟨h.row', h.val', fun m m' h1 h2 => h.apart m m' (by omega) h2 (by omega), fun m hm b hb => ((h.val' m hm).lt b hb).2⟩
theorem VMarks.grow (h : VMarks base W mv k nv who row val) (g : W.grows W') : VMarks base W' mv k nv who row val :=
  ⟨h.row'.grow g, fun m hm => (h.val' m hm).grow g, h.apart⟩
theorem VMarks.congr {nv' : Nat → Nat} {val' : Nat → Nat → Int} (h : VMarks base W mv k nv who row val) (hn : ∀ m, m < k → nv m = nv' m) (hv : ∀ m, m < k → ∀ f, f < nv m → val m f = val' m f) : VMarks base W mv k nv' who row val' :=
  ⟨h.row', fun m hm => by
    rw [← hn m hm, ← valL_congr (hv m hm)]
    exact h.val' m hm, h.apart⟩
theorem VMarks.other (h : VMarks base W mv k nv who row val) {base' size' : Nat} {e' : TypeId} {u : Value} {n' : Nat} {ys : List Value} (hu : W.ownsRow base' e' size' u n' ys) (h1 : 65 ≠ e') (h2 : 3 ≠ e') (g : W.grownBy W' u.ownBlock) : VMarks base W' mv k nv who row val :=
  ⟨h.row'.other hu h1 g, fun m hm => (h.val' m hm).other hu h2 g, h.apart⟩
theorem VMarks.set (h : VMarks base W mv k nv who row val) {b : Nat} {c : Array Value} {t : TypeId} (hb : W.heap[b]? = some (.cells c t)) (h1 : 65 ≠ t) (h2 : 3 ≠ t) (i : Nat) (x : Value) : VMarks base (W.setCell ⟨b, i, none⟩ x) mv k nv who row val :=
  ⟨ownsRow_setCell_other h.row' (fun e => row_block h.row' hb h1 _ e rfl) _, fun m hm => ownsRow_setCell_other (h.val' m hm) (fun e => row_block (h.val' m hm) hb h2 _ e rfl) _, h.apart⟩
theorem table_set (n : Nat) (c : Nat → Nat → Value) {i j : Nat} (hi : i < n) (hj : j < 2) (u : Value) : (tableL n 2 c).set (i * 2 + j) u = tableL n 2 (fun a b => if a = i ∧ b = j then u else c a b) := by
  unfold tableL
  apply List.ext_getElem?
  intro x
  rw [List.getElem?_set]
  simp only [List.getElem?_map, List.length_map, List.length_range]
  by_cases hx : x < n * 2
  · rw [List.getElem?_range hx]
    simp only [Option.map_some]
    by_cases e : i * 2 + j = x
    · subst e
      rw [if_pos rfl, if_pos hx, if_pos (by omega)]
    · rw [if_neg e, if_neg (by omega)]
  · rw [List.getElem?_eq_none (by simp; omega)]
    by_cases e : i * 2 + j = x
    · omega
    · rw [if_neg e]; rfl
/-- one mark's values grow by one -/
theorem VMarks.step {mb cap m n : Nat} {v' : Value} (h : VMarks base W (.slice (some ⟨mb, 0, none⟩) k cap) k (fun i => if i < m then n + 1 else n) who row val) (hm : m < k)
    (ho : W'.ownsRow base 3 1 v' (n + 1) (valL n (val m) ++ tableL 1 1 (fun _ _ => .int .i64 (val m n)))) (g : W.grownBy W' (row m).ownBlock) (hb : v'.ownBlock = (row m).ownBlock ∨ v'.ownBlock = some W.heap.size) :
    VMarks base (W'.setCell ⟨mb, m * 2 + 1, none⟩ v') (.slice (some ⟨mb, 0, none⟩) k cap) k (fun i => if i < m + 1 then n + 1 else n) who (fun i => if i = m then v' else row i) val := by
  have hr := h.row'.other (h.val' m hm) (by decide) g
  obtain ⟨cc, hcc⟩ := own_heap hr
  have key : ∀ i, i < k → i ≠ m → (row i).ownBlock ≠ v'.ownBlock ∨ (row i).ownBlock = none := fun i hi hne => by
    cases e : (row i).ownBlock with
    | none => exact .inr rfl
    | some b =>
      left
      rcases hb with h1 | h1
      · rw [h1]; exact fun e' => h.apart i m hi hm hne b e e'.symm
      · rw [h1]
        intro e'
        cases e'
        have := ((h.val' i hi).lt _ e).2
        omega
  refine ⟨?_, fun i hi => ?_, fun i i' hi hi' hne b hb1 hb2 => ?_⟩
  · have h1 := (hr.stored (m * 2 + 1) v').1
    rw [table_set _ _ hm (by omega)] at h1
    have e : tableL k 2 (mcell who (fun i => if i = m then v' else row i)) = tableL k 2 (fun a b => if a = m ∧ b = 1 then v' else mcell who row a b) := tableL_congr (fun i j hi hj => by
      unfold mcell
      dsimp only
      by_cases e1 : i = m
      · have : j = 0 ∨ j = 1 := by omega
        rcases this with rfl | rfl
        · simp
        · simp [e1]
      · simp [e1]) (by omega)
    rw [e]
    exact h1
  · by_cases e : i = m
    · rw [if_pos e, if_pos (by omega), e, valL_snoc]
      exact ownsRow_setCell_other ho (fun e' => row_block ho hcc (by decide) _ e' rfl) _
    · rw [if_neg e]
      have h1 : W'.ownsRow base 3 1 (row i) (if i < m then n + 1 else n) (valL (if i < m then n + 1 else n) (val i)) := (h.val' i hi).kept g (by
        cases e' : (row i).ownBlock with
        | none => exact .inl rfl
        | some b => right; intro e2; exact h.apart i m hi hm e b e' e2.symm)
      have h2 : (if i < m + 1 then n + 1 else n) = if i < m then n + 1 else n := by
        by_cases e3 : i < m
        · rw [if_pos e3, if_pos (by omega)]
        · rw [if_neg e3, if_neg (by omega)]
      rw [h2]
      exact ownsRow_setCell_other h1 (fun e' => row_block h1 hcc (by decide) _ e' rfl) _
  · by_cases e : i = m
    · rw [if_pos e] at hb1
      rw [if_neg (by omega)] at hb2
      rcases key i' hi' (by omega) with h1 | h1
      · exact h1 (by rw [hb1, hb2])
      · rw [h1] at hb2; cases hb2
    · rw [if_neg e] at hb1
      by_cases e2 : i' = m
      · rw [if_pos e2] at hb2
        rcases key i hi e with h1 | h1
        · exact h1 (by rw [hb1, hb2])
        · rw [h1] at hb1; cases hb1
      · rw [if_neg e2] at hb2
        exact h.apart i i' hi hi' hne b hb1 hb2
/-- one mark's maker is another one -/
theorem MarksOwn.whoSet {mb cap m : Nat} (h : MarksOwn base W (.slice (some ⟨mb, 0, none⟩) k cap) k nc who row val) (hm : m < k) (x : Int) : MarksOwn base (W.setCell ⟨mb, m * 2, none⟩ (.int .i64 x)) (.slice (some ⟨mb, 0, none⟩) k cap) k nc (fun i => if i = m then x else who i) row val := by
  obtain ⟨cc, hcc⟩ := own_heap h.row'
  refine ⟨?_, fun i hi => ownsRow_setCell_other (h.val' i hi) (fun e' => row_block (h.val' i hi) hcc (by decide) _ e' rfl) _, h.apart, fun i hi b hb => by simpa using h.below i hi b hb⟩
  have h1 := (h.row'.stored (m * 2 + 0) (.int .i64 x)).1
  rw [table_set _ _ hm (by omega)] at h1
  have e : tableL k 2 (mcell (fun i => if i = m then x else who i) row) = tableL k 2 (fun a b => if a = m ∧ b = 0 then .int .i64 x else mcell who row a b) := tableL_congr (fun i j hi hj => by
    unfold mcell
    dsimp only
    by_cases e1 : i = m
    · have : j = 0 ∨ j = 1 := by omega
      rcases this with rfl | rfl
      · simp [e1]
      · simp
    · simp [e1]) (by omega)
  rw [e]
  exact h1
end
theorem table_one {m sz : Nat} {c : Nat → Nat → Value} (hs : 0 < sz) (h : ∀ i j, i < m → j < sz → (c i j).oneCell' = true) : ∀ u ∈ tableL m sz c, u.oneCell' = true := by
  intro u hu
  obtain ⟨x, hx, rfl⟩ := List.mem_map.1 hu
  rw [List.mem_range] at hx
  exact h _ _ ((Nat.div_lt_iff_lt_mul hs).2 hx) (Nat.mod_lt _ hs)
theorem MarksOwn.one {base : Nat} {W : World} {mv : Value} {k nc : Nat} {who : Nat → Int} {row : Nat → Value} {val : Nat → Nat → Int} (h : MarksOwn base W mv k nc who row val) : ∀ i j, i < k → (mcell who row i j).oneCell' = true := fun i j hi => by
  unfold mcell
  split
  · rfl
  · exact (h.val' i hi).oneCell
theorem MarksOwn.src {base : Nat} {W : World} {mv : Value} {k nc : Nat} {who : Nat → Int} {row : Nat → Value} {val : Nat → Nat → Int} (h : MarksOwn base W mv k nc who row val) : SliceAt W mv k 2 (mcell who row) := h.row'.sliceAt fun i j hi hj => tableL_get _ hi hj
theorem RegOwn.set {base : Nat} {W : World} {mv cv : Value} {r : Reg} {row : Nat → Value} (h : RegOwn base W mv cv r row) {b : Nat} {c : Array Value} (hb : W.heap[b]? = some (.cells c 25)) (i : Nat) (x : Value) : RegOwn base (W.setCell ⟨b, i, none⟩ x) mv cv r row :=
  ⟨h.1.set hb (by decide) (by decide) i x, ownsRow_setCell_other h.2 (fun e => row_block h.2 hb (by decide) _ e rfl) _⟩
/-- a register in rows that lie outside [l, t) -/
def RegF (l t : Nat) (W : World) (v : Value) (r : Reg) : Prop := ∃ base mv cv row, v = .agg #[mv, cv] ∧ RegOwn base W mv cv r row ∧ Off l t mv ∧ Off l t cv ∧ ∀ m, m < r.nm → Off l t (row m)
theorem RegF.grow {l t : Nat} {W W' : World} {v : Value} {r : Reg} (h : RegF l t W v r) (g : W.grows W') : RegF l t W' v r := by
  obtain ⟨base, mv, cv, row, h1, h2, h3⟩ := h
  exact ⟨base, mv, cv, row, h1, h2.grow g, h3⟩
theorem RegF.tch {l t X l' t' : Nat} {Y W : World} {v : Value} {r : Reg} (h : RegF l t Y v r) (k : Tch X l' t' Y W) (h1 : l ≤ l') (h2 : t' ≤ t) {c : Array Value} (hX : Y.heap[X]? = some (.cells c 25)) : RegF l t W v r := by
  obtain ⟨base, mv, cv, row, e, o, a, b, d⟩ := h
  exact ⟨base, mv, cv, row, e, k.reg o (a.less h1 h2) (b.less h1 h2) (fun m hm => (d m hm).less h1 h2) hX, a, b, d⟩
theorem RegF.less {l t l' t' : Nat} {W : World} {v : Value} {r : Reg} (h : RegF l t W v r) (h1 : l ≤ l') (h2 : t' ≤ t) : RegF l' t' W v r := by
  obtain ⟨base, mv, cv, row, e, o, a, b, d⟩ := h
  exact ⟨base, mv, cv, row, e, o, a.less h1 h2, b.less h1 h2, fun m hm => (d m hm).less h1 h2⟩
theorem RegF.at' {l t : Nat} {W : World} {v : Value} {r : Reg} (h : RegF l t W v r) (hr : ∀ m, m < r.nm → r.nv m = r.nc) : RegAt W v r := by
  obtain ⟨base, mv, cv, row, rfl, o, -⟩ := h
  exact o.at' hr
theorem feat_costs (r : Reg) (c : Int) (vs : Nat → Int) : valL (r.nc + 1) (r.feat c vs).cost = valL r.nc r.cost ++ tableL 1 1 (fun _ _ => .int .i64 c) := by
  have e : (r.feat c vs).cost r.nc = c := if_neg (Nat.lt_irrefl _)
  have e2 : valL r.nc (r.feat c vs).cost = valL r.nc r.cost := valL_congr (fun i hi => if_pos hi)
  rw [valL_snoc, e, e2]
theorem feat_val_old (r : Reg) (c : Int) (vs : Nat → Int) (m : Nat) : valL r.nc ((r.feat c vs).val m) = valL r.nc (r.val m) := valL_congr (fun i hi => if_pos hi)
theorem feat_val_new (r : Reg) (c : Int) (vs : Nat → Int) (m : Nat) : (r.feat c vs).val m r.nc = vs m := if_neg (Nat.lt_irrefl _)
theorem tableL_add (c : Nat → Nat → Value) (a sz : Nat) : ∀ b, tableL (a + b) sz c = tableL a sz c ++ tableL b sz (fun i j => c (a + i) j)
  | 0 => by simp [tableL]
  | b + 1 => by
    rw [← Nat.add_assoc, tableL_snoc, tableL_add c a sz b, tableL_snoc, List.append_assoc]
/-- the marks but k -/
theorem less_table (who : Nat → Int) (row : Nat → Value) {n k : Nat} (hk : k < n) : tableL k 2 (mcell who row) ++ tableL (n - (k + 1)) 2 (fun i j => mcell who row (k + 1 + i) j) = tableL (n - 1) 2 (mcell (fun m => who (if m < k then m else m + 1)) (fun m => row (if m < k then m else m + 1))) := by
  rw [show n - 1 = k + (n - (k + 1)) by omega, tableL_add]
  congr 1
  · exact tableL_congr (fun i j hi hj => by unfold mcell; dsimp only; rw [if_pos hi]) (by omega)
  · exact tableL_congr (fun i j hi hj => by unfold mcell; dsimp only; rw [if_neg (show ¬ k + i < k by omega), show k + i + 1 = k + 1 + i by omega]) (by omega)
/-- the register without the mark k, in a new row -/
theorem RegOwn.less {base base' : Nat} {W : World} {mv mv' cv : Value} {r : Reg} {row : Nat → Value} (h : RegOwn base W mv cv r row) {k : Nat} (hk : k < r.nm) (hb : base ≤ base')
    (ho : W.ownsRow base' 65 2 mv' (r.nm - 1) (tableL (r.nm - 1) 2 (mcell (r.less k).who (fun m => row (if m < k then m else m + 1))))) : RegOwn base W mv' cv (r.less k) (fun m => row (if m < k then m else m + 1)) := by
  have lt : ∀ m, m < r.nm - 1 → (if m < k then m else m + 1) < r.nm := fun m hm => by split <;> omega
  refine ⟨⟨ho.down hb, fun m hm => ?_, fun m m' h1 h2 => ?_, fun m hm => h.1.below _ (lt m hm)⟩, h.2⟩
  · exact h.1.val' _ (lt m hm)
  · exact h.1.apart _ _ (by split <;> split <;> omega) (lt m' h2)
theorem SliceAt.first {w : World} {A : Option Addr} {n sz cap k : Nat} {c : Nat → Nat → Value} (h : SliceAt w (.slice A n cap) n sz c) (hk : k ≤ n) (cap' : Nat) (hc : k ≤ cap') (hc2 : cap' ≤ maxLen) : SliceAt w (.slice A k cap') k sz c := by
  obtain ⟨a, cap2, he, h2, h3, h4⟩ := h
  cases he
  exact ⟨_, _, rfl, hc, hc2, fun i j hi hj => h4 i j (by omega) hj⟩
theorem SliceAt.tail {w : World} {b n sz cap S : Nat} {c : Nat → Nat → Value} (hs : 0 < sz) (h : SliceAt w (.slice (some ⟨b, 0, none⟩) n cap) n sz c) (hS : S ≤ n) : SrcAt w (.slice (if cap = S then some ⟨b, 0, none⟩ else some ⟨b, S * sz, none⟩) (n - S) (cap - S)) (n - S) sz (tableL (n - S) sz fun i j => c (S + i) j) := by
  obtain ⟨a, cap2, he, h2, h3, h4⟩ := h
  cases he
  by_cases e : cap = S
  · exact ⟨_, _, rfl, tableL_length _ _ _, fun h => by omega⟩
  · rw [if_neg e]
    refine SliceAt.src hs ⟨_, _, rfl, by omega, by omega, fun i j hi hj => ?_⟩
    obtain ⟨b', o', e, h5⟩ := h4 (S + i) j (by omega) hj
    cases e
    exact ⟨_, _, rfl, by rw [← h5]; congr 2; rw [Nat.add_mul]; omega⟩
theorem SliceAt.last {w : World} {b n sz cap k m cap' : Nat} {c : Nat → Nat → Value} (h : SliceAt w (.slice (some ⟨b, 0, none⟩) n cap) n sz c) (hk : k + m ≤ n) (hc : m ≤ cap') (hc2 : cap' ≤ maxLen) : SliceAt w (.slice (some ⟨b, k * sz, none⟩) m cap') m sz (fun i j => c (k + i) j) := by
  obtain ⟨a, cap2, he, h2, h3, h4⟩ := h
  cases he
  refine ⟨_, _, rfl, hc, hc2, fun i j hi hj => ?_⟩
  obtain ⟨b', o', e, h5⟩ := h4 (k + i) j (by omega) hj
  cases e
  exact ⟨_, _, rfl, by rw [← h5]; congr 2; rw [Nat.add_mul]; omega⟩
theorem MarksOwn.whoC {base : Nat} {W : World} {mv : Value} {k nc : Nat} {who who' : Nat → Int} {row : Nat → Value} {val : Nat → Nat → Int} (h : MarksOwn base W mv k nc who row val) (hw : ∀ m, m < k → who m = who' m) : MarksOwn base W mv k nc who' row val := by
  refine ⟨?_, h.val', h.apart, h.below⟩
  rw [← tableL_congr (c := mcell who row) (fun i j hi hj => by unfold mcell; rw [hw i hi]) (by omega)]
  exact h.row'
end Go.Proofs.Ytdminglglapnlaa

/-
  What is proved: a feature that parts some marks (85), in the law package.
-/
namespace Go.Proofs.Ytdminglglapnlaa
open Go.RowKit
attribute [local irreducible] Go.wpCalm

/-- f parts some marks of a list, or it is -1, and nothing does -/
def Reg.featIs (r : Reg) (L : List Nat) (f : Int) : Prop :=
  (f = -1 ∧ ∀ x ∈ L, ∀ g, g < r.nc → r.val x g = r.val (L.getD 0 0) g) ∨ ∃ g : Nat, f = g ∧ g < r.nc ∧ ∃ x ∈ L, r.val x g ≠ r.val (L.getD 0 0) g
theorem rot_hits (s n g : Nat) (hg : g < n) : ∃ i, i < n ∧ (s + i) % n = g := by
  have hs : s % n < n := Nat.mod_lt _ (by omega)
  by_cases h : s % n ≤ g
  · refine ⟨g - s % n, by omega, ?_⟩
    rw [Nat.add_mod, Nat.mod_eq_of_lt (show g - s % n < n by omega), show s % n + (g - s % n) = g by omega, Nat.mod_eq_of_lt hg]
  · refine ⟨g + n - s % n, by omega, ?_⟩
    rw [Nat.add_mod, Nat.mod_eq_of_lt (show g + n - s % n < n by omega), show s % n + (g + n - s % n) = g + n by omega, Nat.add_mod_right, Nat.mod_eq_of_lt hg]
theorem Reg.feat_none {r : Reg} {L : List Nat} {s : Nat} (h : ∀ i, i < r.nc → ∀ k, k < L.length → r.val (L.getD k 0) ((s + i) % r.nc) = r.val (L.getD 0 0) ((s + i) % r.nc)) : r.featIs L (-1) := by
  refine .inl ⟨rfl, fun x hx g hg => ?_⟩
  obtain ⟨i, hi, he⟩ := rot_hits s r.nc g hg
  obtain ⟨k, hk, rfl⟩ := List.getElem_of_mem hx
  have := h i hi k hk
  rw [he] at this
  rw [← this]
  simp [hk]
set_option maxHeartbeats 2000000 in
theorem feat_c (w : World) (v : Value) (r : Reg) (hv : RegOk w v r) (hr : r.Ok) (lv : Value) (L : List Nat) (hL : ListAt w lv L) (hl : ∀ m ∈ L, m < r.nm) (h0 : 0 < L.length) (bv : Value) (nb : Nat) (b : Nat → Int) (hb : NumsAt .u8 w bv nb b)
    (hbb : ∀ i, i < nb → 0 ≤ b i ∧ b i ≤ 255) (q : Nat) (hq : q ≤ 1000) (hn40 : nb ≤ 40) :
    Calls Try.prog 85 #[v, lv, bv, .int .i64 q] w fun e w' => ∃ f, e = .returned (.int .i64 f) ∧ r.featIs L f ∧ w.grows w' := by
  obtain ⟨mb, mo, mc, cb, co, cc, rb, ro, rc, rfl, hm1, hm2, hc1, hc2, hR⟩ := hv
  obtain ⟨la, lc, rfl, l1, l2, hL⟩ := hL
  obtain ⟨ba, bc, rfl, b1, b2, hB⟩ := hb
  have HR := Lib.hid hR
  have HL := Lib.hid hL
  have Hl := Lib.hid hl
  have hc8 := hr.c8
  have hc0 := hr.c1
  unfold maxLen at hm2 hc2 l2 b2
  clear hR hL hl hr
  go_enter Try.func85, Try.ntmps85
  by_cases hnb : nb = 0
  · subst hnb
    clear hB hbb b1
    go_wp2
    go_loopw [10] (fun i wr => ∃ k : Nat, k ≤ r.nc ∧ i = .int .i64 k ∧ Hid (∀ j, j < k → ∀ x, x < L.length → r.val (L.getD x 0) ((0 + j) % r.nc) = r.val (L.getD 0 0) ((0 + j) % r.nc)) ∧ (w.alloc (.cells #[.slice (some ⟨mb, mo, none⟩) r.nm mc, .slice (some ⟨cb, co, none⟩) r.nc cc] 25)).grows wr) (fun i _ => r.nc - (intOf i).toNat)
    case atStart => exact ⟨0, by omega, rfl, Lib.hid fun j hj => by omega, by (repeat (first | exact World.grows.refl _ | assumption | refine World.grows.alloc ?_ _ | refine World.grows.plus ?_ _ _ | refine World.grows.drew ?_))⟩
    case round =>
      obtain ⟨k, hk, rfl, hk2, hg⟩ := hrel
      obtain ⟨n1, x1, rfl⟩ := World.plus_of hg
      by_cases hlt : k < r.nc
      · have hG : (0 + k) % r.nc < r.nc := Nat.mod_lt _ (by omega)
        have e2 : ((0 + k : Nat) : Int) % (r.nc : Int) = ((0 + k) % r.nc : Nat) := by omega
        have hnx := fun h => Lib.hid (upto_succ hk2.out h)
        obtain ⟨S, hS⟩ : ∃ S : Nat, 0 + k = S := ⟨_, rfl⟩
        obtain ⟨G, hGe⟩ : ∃ G, (0 + k) % r.nc = G := ⟨_, rfl⟩
        simp only [hGe] at hnx
        rw [hGe] at hG
        rw [hGe, hS] at e2
        have e1 : IntKind.i64.wrap ((k : Int)) = S := wrapI (by omega) (by omega)
        have e4 : (S : Int).tmod (r.nc : Int) = G := by rw [Int.tmod_eq_emod_of_nonneg (Int.natCast_nonneg _)]; exact e2
        have hnI : ¬ (r.nc : Int) = 0 := by omega
        have hn0 : ¬ r.nc = 0 := by omega
        have hGI : (G : Int) < r.nc := by omega
        have H2 := Lib.hid hnx
        clear hnx hS hGe hk2
        go_wp2
        clear e1 e2 e4 hnI hn0
        go_loopw [12] (fun i wr => ∃ x : Nat, x ≤ L.length ∧ i = .int .i64 x ∧ Hid (∀ j, j < x → r.val (L.getD j 0) G = r.val (L.getD 0 0) G) ∧ (w.alloc (.cells #[.slice (some ⟨mb, mo, none⟩) r.nm mc, .slice (some ⟨cb, co, none⟩) r.nc cc] 25)).grows wr) (fun i _ => L.length - (intOf i).toNat)
        case atStart => exact ⟨0, by omega, rfl, Lib.hid fun j hj => by omega, by (repeat (first | exact World.grows.refl _ | assumption | refine World.grows.alloc ?_ _ | refine World.grows.plus ?_ _ _ | refine World.grows.drew ?_))⟩
        case round =>
          obtain ⟨x, hx, rfl, hx2, hg2⟩ := hrel
          obtain ⟨n2, x2, rfl⟩ := World.plus_of hg2
          by_cases hlx : x < L.length
          · obtain ⟨b9, o9, rfl, d1⟩ := HL.out x 0 hlx (by omega)
            obtain ⟨_, _, he, d2⟩ := HL.out 0 0 (by omega) (by omega)
            cases he
            simp only [Nat.mul_one, Nat.add_zero, Nat.zero_mul] at d1 d2
            have m1 := Hl.out _ (getD_mem hlx)
            have m2 := Hl.out _ (getD_mem h0)
            have hnx := fun h => Lib.hid (upto_succ hx2.out h)
            have hno : r.val (L.getD x 0) G ≠ r.val (L.getD 0 0) G → Hid (r.featIs L (G : Int)) := fun h => Lib.hid (.inr ⟨G, rfl, hG, _, getD_mem hlx, h⟩)
            obtain ⟨y, hy⟩ : ∃ y, L.getD x 0 = y := ⟨_, rfl⟩
            obtain ⟨z, hz⟩ : ∃ z, L.getD 0 0 = z := ⟨_, rfl⟩
            simp only [hy, hz] at d1 d2 m1 m2 hnx hno
            have c1 := HR.out.row y m1
            have c2 := HR.out.row z m2
            have c3 := HR.out.val y G m1 hG
            have c4 := HR.out.val z G m2 hG
            obtain ⟨q1, q2⟩ := HR.out.cap y m1
            obtain ⟨q3, q4⟩ := HR.out.cap z m2
            unfold maxLen at q2 q4
            by_cases hw : r.val y G = r.val z G
            · have hnn := hnx hw
              rw [hw] at c3
              have HZ := Lib.hid hz
              clear hnx hno hy hz hw
              go_wp2
              (refine wp_region_calm (by kernel_rfl) (by kernel_rfl) ?_; (repeat (refine wpCalm_step (fun K hK => ?_); go_simp; first | (refine hK _ ?_; clear hK K) | (apply Exists.intro; refine ⟨fun n' x' => ?_, hK _ ?_⟩; (fail); clear hK K))); refine wpCalm_nil ?_; intro nq xq)
              go_wp2
              go_roundw
              case rel => exact ⟨x + 1, by omega, by go_num, by rw [HZ.out]; exact hnn, by (repeat (first | exact World.grows.refl _ | assumption | refine World.grows.alloc ?_ _ | refine World.grows.plus ?_ _ _ | refine World.grows.drew ?_))⟩
              case measure => simp [intOf]; omega
            · have hmx := hno hw
              have hwb : (r.val y G == r.val z G) = false := beq_eq_false_iff_ne.2 hw
              clear hnx hno hy hz
              go_wp2
              (refine wp_region_calm (by kernel_rfl) (by kernel_rfl) ?_; (repeat (refine wpCalm_step (fun K hK => ?_); go_simp; first | (refine hK _ ?_; clear hK K) | (apply Exists.intro; refine ⟨fun n' x' => ?_, hK _ ?_⟩; (fail); clear hK K))); refine wpCalm_nil ?_; intro nq xq)
              go_wp2
              (refine bodyPost_ret (v := .int .i64 (G : Nat)) (by simp [results, Try.results85, go_sem]) rfl ?_)
              exact ⟨_, rfl, hmx.out, by (repeat (first | exact World.grows.refl _ | assumption | refine World.grows.alloc ?_ _ | refine World.grows.plus ?_ _ _ | refine World.grows.drew ?_))⟩
          · have hxe : x = L.length := by omega
            have hnn := H2.out (fun j hj => hx2.out j (by omega))
            subst hxe
            go_wp2
            go_roundw
            case rel => exact ⟨k + 1, by omega, by go_num, hnn, by (repeat (first | exact World.grows.refl _ | assumption | refine World.grows.alloc ?_ _ | refine World.grows.plus ?_ _ _ | refine World.grows.drew ?_))⟩
            case measure => simp [intOf]; omega
      · have hke : k = r.nc := by omega
        have hmx : Hid (r.featIs L (-1)) := Lib.hid (Reg.feat_none (s := 0) fun i hi k' hk' => hk2.out i (by omega) k' hk')
        subst hke
        go_wp2
        (refine bodyPost_ret (v := .int .i64 (-1)) (by simp [results, Try.results85, go_sem]) rfl ?_)
        exact ⟨_, rfl, hmx.out, by (repeat (first | exact World.grows.refl _ | assumption | refine World.grows.alloc ?_ _ | refine World.grows.plus ?_ _ _ | refine World.grows.drew ?_))⟩
  · have hi : q % nb < nb := Nat.mod_lt _ (by omega)
    obtain ⟨bb, bo, rfl, e1⟩ := hB (q % nb) 0 hi (by omega)
    obtain ⟨F, hF⟩ : ∃ F : Nat, b (q % nb) = (F : Nat) := ⟨(b (q % nb)).toNat, by have := (hbb _ hi).1; omega⟩
    have hF255 : F ≤ 255 := by have := (hbb _ hi).2; omega
    dsimp only at e1
    rw [hF] at e1
    have e2 : (q : Int) % (nb : Int) = (q % nb : Nat) := by omega
    obtain ⟨T, hT⟩ : ∃ T, q % nb = T := ⟨_, rfl⟩
    rw [hT] at hi e1 e2
    have e3 : (q : Int).tmod (nb : Int) = T := by rw [Int.tmod_eq_emod_of_nonneg (Int.natCast_nonneg _)]; exact e2
    have hnbI : ¬ (nb : Int) = 0 := by omega
    have hnb0 : 0 < nb := by omega
    have hTI : (T : Int) < nb := by omega
    simp only [Nat.mul_one, Nat.add_zero] at e1
    clear hB hbb hF hT
    go_wp2
    go_loopw [10] (fun i wr => ∃ k : Nat, k ≤ r.nc ∧ i = .int .i64 k ∧ Hid (∀ j, j < k → ∀ x, x < L.length → r.val (L.getD x 0) ((F + j) % r.nc) = r.val (L.getD 0 0) ((F + j) % r.nc)) ∧ (w.alloc (.cells #[.slice (some ⟨mb, mo, none⟩) r.nm mc, .slice (some ⟨cb, co, none⟩) r.nc cc] 25)).grows wr) (fun i _ => r.nc - (intOf i).toNat)
    case atStart => exact ⟨0, by omega, rfl, Lib.hid fun j hj => by omega, by (repeat (first | exact World.grows.refl _ | assumption | refine World.grows.alloc ?_ _ | refine World.grows.plus ?_ _ _ | refine World.grows.drew ?_))⟩
    case round =>
      obtain ⟨k, hk, rfl, hk2, hg⟩ := hrel
      obtain ⟨n1, x1, rfl⟩ := World.plus_of hg
      by_cases hlt : k < r.nc
      · have hG : (F + k) % r.nc < r.nc := Nat.mod_lt _ (by omega)
        have e2 : ((F + k : Nat) : Int) % (r.nc : Int) = ((F + k) % r.nc : Nat) := by omega
        have hnx := fun h => Lib.hid (upto_succ hk2.out h)
        obtain ⟨S, hS⟩ : ∃ S : Nat, F + k = S := ⟨_, rfl⟩
        obtain ⟨G, hGe⟩ : ∃ G, (F + k) % r.nc = G := ⟨_, rfl⟩
        simp only [hGe] at hnx
        rw [hGe] at hG
        rw [hGe, hS] at e2
        have e1 : IntKind.i64.wrap ((F : Int) + k) = S := wrapI (by omega) (by omega)
        have e4 : (S : Int).tmod (r.nc : Int) = G := by rw [Int.tmod_eq_emod_of_nonneg (Int.natCast_nonneg _)]; exact e2
        have hnI : ¬ (r.nc : Int) = 0 := by omega
        have hn0 : ¬ r.nc = 0 := by omega
        have hGI : (G : Int) < r.nc := by omega
        have H2 := Lib.hid hnx
        clear hnx hS hGe hk2
        go_wp2
        clear e1 e2 e4 hnI hn0
        go_loopw [12] (fun i wr => ∃ x : Nat, x ≤ L.length ∧ i = .int .i64 x ∧ Hid (∀ j, j < x → r.val (L.getD j 0) G = r.val (L.getD 0 0) G) ∧ (w.alloc (.cells #[.slice (some ⟨mb, mo, none⟩) r.nm mc, .slice (some ⟨cb, co, none⟩) r.nc cc] 25)).grows wr) (fun i _ => L.length - (intOf i).toNat)
        case atStart => exact ⟨0, by omega, rfl, Lib.hid fun j hj => by omega, by (repeat (first | exact World.grows.refl _ | assumption | refine World.grows.alloc ?_ _ | refine World.grows.plus ?_ _ _ | refine World.grows.drew ?_))⟩
        case round =>
          obtain ⟨x, hx, rfl, hx2, hg2⟩ := hrel
          obtain ⟨n2, x2, rfl⟩ := World.plus_of hg2
          by_cases hlx : x < L.length
          · obtain ⟨b9, o9, rfl, d1⟩ := HL.out x 0 hlx (by omega)
            obtain ⟨_, _, he, d2⟩ := HL.out 0 0 (by omega) (by omega)
            cases he
            simp only [Nat.mul_one, Nat.add_zero, Nat.zero_mul] at d1 d2
            have m1 := Hl.out _ (getD_mem hlx)
            have m2 := Hl.out _ (getD_mem h0)
            have hnx := fun h => Lib.hid (upto_succ hx2.out h)
            have hno : r.val (L.getD x 0) G ≠ r.val (L.getD 0 0) G → Hid (r.featIs L (G : Int)) := fun h => Lib.hid (.inr ⟨G, rfl, hG, _, getD_mem hlx, h⟩)
            obtain ⟨y, hy⟩ : ∃ y, L.getD x 0 = y := ⟨_, rfl⟩
            obtain ⟨z, hz⟩ : ∃ z, L.getD 0 0 = z := ⟨_, rfl⟩
            simp only [hy, hz] at d1 d2 m1 m2 hnx hno
            have c1 := HR.out.row y m1
            have c2 := HR.out.row z m2
            have c3 := HR.out.val y G m1 hG
            have c4 := HR.out.val z G m2 hG
            obtain ⟨q1, q2⟩ := HR.out.cap y m1
            obtain ⟨q3, q4⟩ := HR.out.cap z m2
            unfold maxLen at q2 q4
            by_cases hw : r.val y G = r.val z G
            · have hnn := hnx hw
              rw [hw] at c3
              have HZ := Lib.hid hz
              clear hnx hno hy hz hw
              go_wp2
              (refine wp_region_calm (by kernel_rfl) (by kernel_rfl) ?_; (repeat (refine wpCalm_step (fun K hK => ?_); go_simp; first | (refine hK _ ?_; clear hK K) | (apply Exists.intro; refine ⟨fun n' x' => ?_, hK _ ?_⟩; (fail); clear hK K))); refine wpCalm_nil ?_; intro nq xq)
              go_wp2
              go_roundw
              case rel => exact ⟨x + 1, by omega, by go_num, by rw [HZ.out]; exact hnn, by (repeat (first | exact World.grows.refl _ | assumption | refine World.grows.alloc ?_ _ | refine World.grows.plus ?_ _ _ | refine World.grows.drew ?_))⟩
              case measure => simp [intOf]; omega
            · have hmx := hno hw
              have hwb : (r.val y G == r.val z G) = false := beq_eq_false_iff_ne.2 hw
              clear hnx hno hy hz
              go_wp2
              (refine wp_region_calm (by kernel_rfl) (by kernel_rfl) ?_; (repeat (refine wpCalm_step (fun K hK => ?_); go_simp; first | (refine hK _ ?_; clear hK K) | (apply Exists.intro; refine ⟨fun n' x' => ?_, hK _ ?_⟩; (fail); clear hK K))); refine wpCalm_nil ?_; intro nq xq)
              go_wp2
              (refine bodyPost_ret (v := .int .i64 (G : Nat)) (by simp [results, Try.results85, go_sem]) rfl ?_)
              exact ⟨_, rfl, hmx.out, by (repeat (first | exact World.grows.refl _ | assumption | refine World.grows.alloc ?_ _ | refine World.grows.plus ?_ _ _ | refine World.grows.drew ?_))⟩
          · have hxe : x = L.length := by omega
            have hnn := H2.out (fun j hj => hx2.out j (by omega))
            subst hxe
            go_wp2
            go_roundw
            case rel => exact ⟨k + 1, by omega, by go_num, hnn, by (repeat (first | exact World.grows.refl _ | assumption | refine World.grows.alloc ?_ _ | refine World.grows.plus ?_ _ _ | refine World.grows.drew ?_))⟩
            case measure => simp [intOf]; omega
      · have hke : k = r.nc := by omega
        have hmx : Hid (r.featIs L (-1)) := Lib.hid (Reg.feat_none (s := F) fun i hi k' hk' => hk2.out i (by omega) k' hk')
        subst hke
        go_wp2
        (refine bodyPost_ret (v := .int .i64 (-1)) (by simp [results, Try.results85, go_sem]) rfl ?_)
        exact ⟨_, rfl, hmx.out, by (repeat (first | exact World.grows.refl _ | assumption | refine World.grows.alloc ?_ _ | refine World.grows.plus ?_ _ _ | refine World.grows.drew ?_))⟩
end Go.Proofs.Ytdminglglapnlaa

/-
  What is proved: MarkMore (9) answers true.
-/
namespace Go.Proofs.Ytdminglglapnlaa
open Go.RowKit
attribute [local irreducible] Go.wpCalm

theorem tmod_at {a b x : Nat} (h : a % b = x) : (a : Int).tmod (b : Int) = (x : Nat) := by
  rw [Int.tmod_eq_emod_of_nonneg (Int.natCast_nonneg _), ← h]
  exact (Int.natCast_emod _ _).symm
theorem ten_cell {W : World} {b : Nat} {f : Nat → Int} {t : TypeId} (h : W.heap[b]? = some (.cells #[.int .u8 (f 0), .int .u8 (f 1), .int .u8 (f 2), .int .u8 (f 3), .int .u8 (f 4), .int .u8 (f 5), .int .u8 (f 6), .int .u8 (f 7), .int .u8 (f 8), .int .u8 (f 9)] t)) {m : Nat} (hm : m < 10) : W.cell? ⟨b, m, none⟩ = some (.int .u8 (f m)) := by
  have : m = 0 ∨ m = 1 ∨ m = 2 ∨ m = 3 ∨ m = 4 ∨ m = 5 ∨ m = 6 ∨ m = 7 ∨ m = 8 ∨ m = 9 := by omega
  rcases this with rfl | rfl | rfl | rfl | rfl | rfl | rfl | rfl | rfl | rfl <;> exact cell_of_heap h rfl
set_option maxRecDepth 100000 in
set_option maxHeartbeats 8000000 in
theorem more_w (w : World) (rv : Value) (r : Reg) (hr : RegAt w rv r) (n1 n2 n3 : Nat) (h1 : n1 ≤ 255) (h2 : n2 ≤ 255) (h3 : n3 ≤ 65535) (m1 m2 : Nat) (hm1' : m1 ≤ 255) (hm2' : m2 ≤ 255) (n4 : Nat) (h4 : n4 ≤ 65535) (f : Nat → Int) (hf : ∀ i, i < 10 → 0 ≤ f i ∧ f i ≤ 255) :
    Calls Try.prog 9 #[rv, .int .u8 n1, .int .u8 n2, .int .u16 n3, .agg #[.int .u8 m1, .int .u8 m2], .int .u16 n4, .agg #[.int .u8 (f 0), .int .u8 (f 1), .int .u8 (f 2), .int .u8 (f 3), .int .u8 (f 4), .int .u8 (f 5), .int .u8 (f 6), .int .u8 (f 7), .int .u8 (f 8), .int .u8 (f 9)]] w fun e w' => e = .returned (.bool true) ∧ w.grows w' := by
  have h37 := fun W (g : w.grows W) => fine_c W rv r (hr.mono g)
  have Hr := Lib.hid hr
  by_cases hc : r.check = 0
  · have hok := Reg.ok_of hc
    obtain ⟨mb, mo, mc, cb, co, cc, rb, ro, rc, rfl, hm1, hm2, hc1, hc2, hR⟩ := hr.ok hok
    rw [decide_eq_true hc] at h37
    have Hok := Lib.hid hok
    have HR := Lib.hid hR
    have hr1 := hok.m1
    have hr10 := hok.m10
    have hrc1 := hok.c1
    have hrc8 := hok.c8
    obtain ⟨bb1, bb2, bb3, bb4⟩ := Reg.best_bd hok
    have hE2 := Reg.solvE_two hok
    unfold maxLen at hm2 hc2
    clear hR hr hok hc
    go_enter Try.func9, Try.ntmps9
    go_upto_region 1 with fail
    generalize hV : World.alloc _ _ = U
    have gV : w.grows U := by rw [← hV]; (repeat (first | exact World.grows.refl _ | assumption | refine World.grows.alloc ?_ _ | refine World.grows.plus ?_ _ _ | refine World.grows.drew ?_))
    have qa : Hid (U.heap[w.heap.size]? = some (.cells #[.slice (some ⟨mb, mo, none⟩) r.nm mc, .slice (some ⟨cb, co, none⟩) r.nc cc] 25)) := Lib.hid (by rw [← hV]; exact World.grows.heap_of (by (repeat (first | exact World.grows.refl _ | assumption | refine World.grows.alloc ?_ _ | refine World.grows.plus ?_ _ _ | refine World.grows.drew ?_))) (World.heap_at _ _ _ rfl))
    have B1 : Hid (U.heap[w.heap.size + 1]? = some (.cells #[.int .u8 m1, .int .u8 m2] 73)) := Lib.hid (by rw [← hV]; exact World.grows.heap_of (by (repeat (first | exact World.grows.refl _ | assumption | refine World.grows.alloc ?_ _ | refine World.grows.plus ?_ _ _ | refine World.grows.drew ?_))) (World.heap_at _ _ _ (by simp)))
    have B2 : Hid (U.heap[w.heap.size + 1 + 1]? = some (.cells #[.int .u8 (f 0), .int .u8 (f 1), .int .u8 (f 2), .int .u8 (f 3), .int .u8 (f 4), .int .u8 (f 5), .int .u8 (f 6), .int .u8 (f 7), .int .u8 (f 8), .int .u8 (f 9)] 74)) := Lib.hid (by rw [← hV]; exact World.heap_at _ _ _ (by simp))
    have HZ := Lib.hid gV
    obtain ⟨Z, hZ⟩ : ∃ Z, U = Z := ⟨_, rfl⟩
    rw [hZ] at B1 B2
    have HB : Hid (Z.grows U) := Lib.hid (by rw [hZ]; exact World.grows.refl _)
    clear hV gV hZ
    have q10 : U.cell? ⟨w.heap.size, 0, none⟩ = some (.slice (some ⟨mb, mo, none⟩) r.nm mc) := cell_of_heap qa.out rfl; have q11 : U.cell? ⟨w.heap.size, 1, none⟩ = some (.slice (some ⟨cb, co, none⟩) r.nc cc) := cell_of_heap qa.out rfl
    go_wp2_with (go_at_call 99; fail)
    refine (h37 _ (HZ.out.trans (by (repeat (first | exact World.grows.refl _ | assumption | refine World.grows.alloc ?_ _ | refine World.grows.plus ?_ _ _ | refine World.grows.drew ?_))))).mono ?_
    rintro e U ⟨rfl, g⟩
    clear q10 q11
    replace qa := Lib.hid (World.grows.heap_of (World.grows.trans (by (repeat (first | exact World.grows.refl _ | assumption | refine World.grows.alloc ?_ _ | refine World.grows.plus ?_ _ _ | refine World.grows.drew ?_))) g) qa.out); replace HZ := Lib.hid (HZ.out.trans (World.grows.trans (by (repeat (first | exact World.grows.refl _ | assumption | refine World.grows.alloc ?_ _ | refine World.grows.plus ?_ _ _ | refine World.grows.drew ?_))) g)); replace HB := Lib.hid (HB.out.trans (World.grows.trans (by (repeat (first | exact World.grows.refl _ | assumption | refine World.grows.alloc ?_ _ | refine World.grows.plus ?_ _ _ | refine World.grows.drew ?_))) g))
    have q10 : U.cell? ⟨w.heap.size, 0, none⟩ = some (.slice (some ⟨mb, mo, none⟩) r.nm mc) := cell_of_heap qa.out rfl; have q11 : U.cell? ⟨w.heap.size, 1, none⟩ = some (.slice (some ⟨cb, co, none⟩) r.nc cc) := cell_of_heap qa.out rfl
    clear g h37
    have h25 := fun W (g : w.grows W) => best_any (Hr.out.mono g)
    have h32 := fun W (g : w.grows W) => fix_any (Hr.out.mono g)
    obtain ⟨N, hN⟩ : ∃ x, r.bestN = x := ⟨_, rfl⟩
    obtain ⟨C, hC⟩ : ∃ x, r.fixC = x := ⟨_, rfl⟩
    obtain ⟨E, hE⟩ : ∃ x, r.solvE = x := ⟨_, rfl⟩
    simp only [hN, hE] at h25
    simp only [hC, hE] at h32
    rw [hN] at bb1 bb2
    rw [hC] at bb3 bb4
    rw [hE] at hE2
    have HNE := Lib.hid (And.intro hN (And.intro hC hE))
    clear hN hC hE
    go_wp2_with (go_at_call 99; fail)
    refine (h25 _ (HZ.out.trans (by (repeat (first | exact World.grows.refl _ | assumption | refine World.grows.alloc ?_ _ | refine World.grows.plus ?_ _ _ | refine World.grows.drew ?_))))).mono ?_
    rintro e U ⟨bx, ba, bn, bc, rfl, g⟩
    clear q10 q11
    replace qa := Lib.hid (World.grows.heap_of (World.grows.trans (by (repeat (first | exact World.grows.refl _ | assumption | refine World.grows.alloc ?_ _ | refine World.grows.plus ?_ _ _ | refine World.grows.drew ?_))) g) qa.out); replace HZ := Lib.hid (HZ.out.trans (World.grows.trans (by (repeat (first | exact World.grows.refl _ | assumption | refine World.grows.alloc ?_ _ | refine World.grows.plus ?_ _ _ | refine World.grows.drew ?_))) g)); replace HB := Lib.hid (HB.out.trans (World.grows.trans (by (repeat (first | exact World.grows.refl _ | assumption | refine World.grows.alloc ?_ _ | refine World.grows.plus ?_ _ _ | refine World.grows.drew ?_))) g))
    have q10 : U.cell? ⟨w.heap.size, 0, none⟩ = some (.slice (some ⟨mb, mo, none⟩) r.nm mc) := cell_of_heap qa.out rfl; have q11 : U.cell? ⟨w.heap.size, 1, none⟩ = some (.slice (some ⟨cb, co, none⟩) r.nc cc) := cell_of_heap qa.out rfl
    clear g h25
    go_wp2_with (go_at_call 99; fail)
    have gA := World.grows.alloc (World.grows.refl U) (Obj.cells #[.int .i64 bx, .slice ba bn bc] 28)
    refine (h32 _ (HZ.out.trans (by (repeat (first | exact World.grows.refl _ | assumption | refine World.grows.alloc ?_ _ | refine World.grows.plus ?_ _ _ | refine World.grows.drew ?_))))).mono ?_
    rintro e U ⟨fa, fn, fc, rfl, g⟩
    clear q10 q11
    replace qa := Lib.hid (World.grows.heap_of (World.grows.trans (by (repeat (first | exact World.grows.refl _ | assumption | refine World.grows.alloc ?_ _ | refine World.grows.plus ?_ _ _ | refine World.grows.drew ?_))) g) qa.out); replace HZ := Lib.hid (HZ.out.trans (World.grows.trans (by (repeat (first | exact World.grows.refl _ | assumption | refine World.grows.alloc ?_ _ | refine World.grows.plus ?_ _ _ | refine World.grows.drew ?_))) g)); replace HB := Lib.hid (HB.out.trans (World.grows.trans (by (repeat (first | exact World.grows.refl _ | assumption | refine World.grows.alloc ?_ _ | refine World.grows.plus ?_ _ _ | refine World.grows.drew ?_))) g))
    have q10 : U.cell? ⟨w.heap.size, 0, none⟩ = some (.slice (some ⟨mb, mo, none⟩) r.nm mc) := cell_of_heap qa.out rfl; have q11 : U.cell? ⟨w.heap.size, 1, none⟩ = some (.slice (some ⟨cb, co, none⟩) r.nc cc) := cell_of_heap qa.out rfl
    clear g h32 gA
    go_upto_region 5 with fail
    go_cut [65] from 39 to 257 (fun s w' => s = .bool false ∧ Hid (U.grows w'))
    case first =>
      rcases hE2 with hE | hE
      · have hEb : (E != 0) = false := by rw [hE]; rfl
        have hEb2 : (E == 0) = true := by rw [hE]; rfl
        clear hE
        go_wp2
        go_meet
        exact ⟨rfl, Lib.hid (by (repeat (first | exact World.grows.refl _ | assumption | refine World.grows.alloc ?_ _ | refine World.grows.plus ?_ _ _ | refine World.grows.drew ?_)))⟩
      · have hEb : (E != 0) = true := by rw [hE]; rfl
        have hEb2 : (E != 24) = false := by rw [hE]; rfl
        have hEb3 : (E == 0) = false := by rw [hE]; rfl
        have hEb4 : (E == 24) = true := by rw [hE]; rfl
        clear hE
        go_wp2
        go_meet
        exact ⟨rfl, Lib.hid (by (repeat (first | exact World.grows.refl _ | assumption | refine World.grows.alloc ?_ _ | refine World.grows.plus ?_ _ _ | refine World.grows.drew ?_)))⟩
    case rest =>
      obtain ⟨rfl, hv⟩ := hcut
      replace qa := Lib.hid (hv.out.heap_of qa.out)
      replace HZ := Lib.hid (HZ.out.trans hv.out)
      replace HB := Lib.hid (HB.out.trans hv.out)
      clear q10 q11 hv
      have q10 : wc.cell? ⟨w.heap.size, 0, none⟩ = some (.slice (some ⟨mb, mo, none⟩) r.nm mc) := cell_of_heap qa.out rfl
      have q11 : wc.cell? ⟨w.heap.size, 1, none⟩ = some (.slice (some ⟨cb, co, none⟩) r.nc cc) := cell_of_heap qa.out rfl
      obtain ⟨k, hk⟩ : ∃ x : Nat, n1 % r.nm = x := ⟨_, rfl⟩
      obtain ⟨q, hq⟩ : ∃ x : Nat, n2 % r.nc = x := ⟨_, rfl⟩
      have hkl : k < r.nm := by rw [← hk]; exact Nat.mod_lt _ (by omega)
      have hql : q < r.nc := by rw [← hq]; exact Nat.mod_lt _ (by omega)
      have e1 := tmod_at hk
      have e2 := tmod_at hq
      have w1 : IntKind.i64.wrap (n1 : Int) = n1 := wrapI rfl (by omega)
      have w2 : IntKind.i64.wrap (n2 : Int) = n2 := wrapI rfl (by omega)
      have k1 : ¬ (r.nm : Int) = 0 := by omega
      have k2 : ¬ (r.nc : Int) = 0 := by omega
      have k3 : ¬ r.nm = 0 := by omega
      have k4 : ¬ r.nc = 0 := by omega
      clear hk hq
      go_upto_region 7 with (go_at_call 99; fail)
      (refine wp_region_calm (by kernel_rfl) (by kernel_rfl) ?_; (repeat (refine wpCalm_step (fun K hK => ?_); go_simp; first | (refine hK _ ?_; clear hK K) | (apply Exists.intro; refine ⟨fun n' x' => ?_, hK _ ?_⟩; (fail); clear hK K))); refine wpCalm_nil ?_; intro nq xq)
      replace qa := Lib.hid ((World.grows_plus wc nq xq).heap_of qa.out)
      replace HZ := Lib.hid (HZ.out.trans (World.grows_plus wc nq xq))
      replace HB := Lib.hid (HB.out.trans (World.grows_plus wc nq xq))
      clear e1 e2 w1 w2 k1 k2 k3 k4 q10 q11
      generalize wc.plus nq xq = V at qa HZ HB ⊢
      have q10 : V.cell? ⟨w.heap.size, 0, none⟩ = some (.slice (some ⟨mb, mo, none⟩) r.nm mc) := cell_of_heap qa.out rfl
      have q11 : V.cell? ⟨w.heap.size, 1, none⟩ = some (.slice (some ⟨cb, co, none⟩) r.nc cc) := cell_of_heap qa.out rfl
      go_upto_region 8 with (go_at_call 99; fail)
      refine wp_region_invV 12 ds8 [some 78, some 79, some 80, some 81, some 82, some 83, some 84, some 85, some 23, some 24, some 25, some 26] (R8 r (.agg #[.slice (some ⟨mb, mo, none⟩) r.nm mc, .slice (some ⟨cb, co, none⟩) r.nc cc]) V.heap.size) N8 D8 (by kernel_rfl) (by kernel_rfl) (by decide) R8.stays R8.loc R8.new ?_ ?_
      · simp only [List.take_succ_cons, List.take_zero, ds8, List.zip_cons_cons, List.zip_nil_right, List.zip_nil_left, oblV, putL, List.getD_cons_zero, List.getD_cons_succ, and_true, Nat.zero_add, Nat.reduceAdd]
        refine ⟨?_, ?_, ?_, ?_, ?_, ?_, ?_, ?_, ?_, ?_, ?_, ?_⟩
        · intro K val nc xc hK hd
          go_simp
          exact ⟨by (repeat (first | exact World.grows.refl _ | assumption | refine World.grows.alloc ?_ _ | refine World.grows.plus ?_ _ _ | refine World.grows.drew ?_)), hK _ _ (R8.load (i := 0) (by decide) val _) (fun h => absurd h (by decide))⟩
        · intro K val nc xc hK hd
          have e0 := R8.reg (i := 0) (by decide) (hd 0 (by decide))
          rw [e0]
          go_simp
          refine (copied_c _ _ r (Hr.out.mono (HZ.out.trans (World.grows_plus _ _ _))) Hok.out).mono ?_
          rintro e W ⟨ma, ca, mc', cc', row, rfl, hO, g⟩
          exact ⟨_, rfl, g, hK _ _ (R8.first (Cp.of hO) (by simp) (Nat.le_refl _)) (fun h => absurd h (by decide))⟩
        · intro K val nc xc hK hd
          go_simp
          exact ⟨by (repeat (first | exact World.grows.refl _ | assumption | refine World.grows.alloc ?_ _ | refine World.grows.plus ?_ _ _ | refine World.grows.drew ?_)), hK _ _ (R8.load (i := 2) (by decide) val _) (fun h => absurd h (by decide))⟩
        · intro K val nc xc hK hd
          have e0 := R8.reg (i := 2) (by decide) (hd 2 (by decide))
          obtain ⟨lo, hi, c1, c2, c3⟩ := R8.prev hrc1 (i := 1) (by decide) (hd 1 (by decide))
          rw [e0]
          go_simp
          refine (copied_c _ _ r (Hr.out.mono (HZ.out.trans (World.grows_plus _ _ _))) Hok.out).mono ?_
          rintro e W ⟨ma, ca, mc', cc', row, rfl, hO, g⟩
          exact ⟨_, rfl, g, hK _ _ (R8.next (i := 3) (by decide) (c1.grow g) (Cp.of hO) c2 c3 (Nat.le_refl _)) (fun h => absurd h (by decide))⟩
        · intro K val nc xc hK hd
          go_simp
          exact ⟨by (repeat (first | exact World.grows.refl _ | assumption | refine World.grows.alloc ?_ _ | refine World.grows.plus ?_ _ _ | refine World.grows.drew ?_)), hK _ _ (R8.load (i := 4) (by decide) val _) (fun h => absurd h (by decide))⟩
        · intro K val nc xc hK hd
          have e0 := R8.reg (i := 4) (by decide) (hd 4 (by decide))
          obtain ⟨lo, hi, c1, c2, c3⟩ := R8.prev hrc1 (i := 3) (by decide) (hd 3 (by decide))
          rw [e0]
          go_simp
          refine (copied_c _ _ r (Hr.out.mono (HZ.out.trans (World.grows_plus _ _ _))) Hok.out).mono ?_
          rintro e W ⟨ma, ca, mc', cc', row, rfl, hO, g⟩
          exact ⟨_, rfl, g, hK _ _ (R8.next (i := 5) (by decide) (c1.grow g) (Cp.of hO) c2 c3 (Nat.le_refl _)) (fun h => absurd h (by decide))⟩
        · intro K val nc xc hK hd
          go_simp
          exact ⟨by (repeat (first | exact World.grows.refl _ | assumption | refine World.grows.alloc ?_ _ | refine World.grows.plus ?_ _ _ | refine World.grows.drew ?_)), hK _ _ (R8.load (i := 6) (by decide) val _) (fun h => absurd h (by decide))⟩
        · intro K val nc xc hK hd
          have e0 := R8.reg (i := 6) (by decide) (hd 6 (by decide))
          obtain ⟨lo, hi, c1, c2, c3⟩ := R8.prev hrc1 (i := 5) (by decide) (hd 5 (by decide))
          rw [e0]
          go_simp
          refine (copied_c _ _ r (Hr.out.mono (HZ.out.trans (World.grows_plus _ _ _))) Hok.out).mono ?_
          rintro e W ⟨ma, ca, mc', cc', row, rfl, hO, g⟩
          exact ⟨_, rfl, g, hK _ _ (R8.next (i := 7) (by decide) (c1.grow g) (Cp.of hO) c2 c3 (Nat.le_refl _)) (fun h => absurd h (by decide))⟩
        · intro K val nc xc hK hd
          go_simp
          exact ⟨by (repeat (first | exact World.grows.refl _ | assumption | refine World.grows.alloc ?_ _ | refine World.grows.plus ?_ _ _ | refine World.grows.drew ?_)), hK _ _ (R8.box (i := 8) (by decide) (World.heap_at _ _ _ (by simp)) (by omega)) (fun _ => by simp)⟩
        · intro K val nc xc hK hd
          go_simp
          exact ⟨by (repeat (first | exact World.grows.refl _ | assumption | refine World.grows.alloc ?_ _ | refine World.grows.plus ?_ _ _ | refine World.grows.drew ?_)), hK _ _ (R8.box (i := 9) (by decide) (World.heap_at _ _ _ (by simp)) (by omega)) (fun _ => by simp)⟩
        · intro K val nc xc hK hd
          go_simp
          exact ⟨by (repeat (first | exact World.grows.refl _ | assumption | refine World.grows.alloc ?_ _ | refine World.grows.plus ?_ _ _ | refine World.grows.drew ?_)), hK _ _ (R8.box (i := 10) (by decide) (World.heap_at _ _ _ (by simp)) (by omega)) (fun _ => by simp)⟩
        · intro K val nc xc hK hd
          go_simp
          exact ⟨by (repeat (first | exact World.grows.refl _ | assumption | refine World.grows.alloc ?_ _ | refine World.grows.plus ?_ _ _ | refine World.grows.drew ?_)), hK _ _ (R8.box (i := 11) (by decide) (World.heap_at _ _ _ (by simp)) (by omega)) (fun _ => by simp)⟩
      · intro val nc xc hv hd
        obtain ⟨l1, t1, l2, t2, l3, t3, l4, t4, p1, p2, p3, p4, d1, d2, d3, d4, d5, d6, d7⟩ := R8.four hrc1 (hv 3 (by omega)) (hv 5 (by omega)) (hv 7 (by omega))
        have d0 : l1 < t1 := by obtain ⟨z, z1, z2, -⟩ := p1.lt hrc1; omega
        have d8 : l4 < t4 := by obtain ⟨z, z1, z2, -⟩ := p4.lt hrc1; omega
        obtain ⟨X1, ex1, hX1, bX1⟩ := R8.ptr (i := 8) (by omega) (hv 8 (by omega))
        obtain ⟨X2, ex2, hX2, bX2⟩ := R8.ptr (i := 9) (by omega) (hv 9 (by omega))
        obtain ⟨X3, ex3, hX3, bX3⟩ := R8.ptr (i := 10) (by omega) (hv 10 (by omega))
        obtain ⟨X4, ex4, hX4, bX4⟩ := R8.ptr (i := 11) (by omega) (hv 11 (by omega))
        have ne : ∀ i j u v, i < 12 → j < 12 → i ≠ j → 8 ≤ i → 8 ≤ j → val i = .pointer (some ⟨u, 0, none⟩) → val j = .pointer (some ⟨v, 0, none⟩) → u ≠ v := fun i j u v h1 h2 h3 h4 h5 h6 h7 e => hd i j h1 h2 h3 h4 h5 (by rw [h6, h7, e])
        have n12 := ne 8 9 X1 X2 (by omega) (by omega) (by omega) (by omega) (by omega) ex1 ex2
        have n13 := ne 8 10 X1 X3 (by omega) (by omega) (by omega) (by omega) (by omega) ex1 ex3
        have n14 := ne 8 11 X1 X4 (by omega) (by omega) (by omega) (by omega) (by omega) ex1 ex4
        have n23 := ne 9 10 X2 X3 (by omega) (by omega) (by omega) (by omega) (by omega) ex2 ex3
        have n24 := ne 9 11 X2 X4 (by omega) (by omega) (by omega) (by omega) (by omega) ex2 ex4
        have n34 := ne 10 11 X3 X4 (by omega) (by omega) (by omega) (by omega) (by omega) ex3 ex4
        clear ne hd hv
        have hwV := World.lt_of_block qa.out
        have hB2V := World.lt_of_block (HB.out.heap_of B2.out)
        have hgv : V.grows (V.plus nc xc) := World.grows_plus _ _ _
        replace qa := Lib.hid (hgv.heap_of qa.out)
        replace HZ := Lib.hid (HZ.out.trans hgv)
        have HB1 := Lib.hid (hgv.heap_of (HB.out.heap_of B1.out))
        have HB2 := Lib.hid (hgv.heap_of (HB.out.heap_of B2.out))
        clear q10 q11 hgv B1 B2 HB
        obtain ⟨ma1, ca1, mc1, cc1, row1, e1, o1, b11, b12, b13⟩ := p1
        obtain ⟨ma2, ca2, mc2, cc2, row2, e2, o2, b21, b22, b23⟩ := p2
        obtain ⟨ma3, ca3, mc3, cc3, row3, e3, o3, b31, b32, b33⟩ := p3
        obtain ⟨ma4, ca4, mc4, cc4, row4, e4, o4, b41, b42, b43⟩ := p4
        simp only [putL, List.range_succ, List.range_zero, List.nil_append, List.cons_append, List.getD_cons_zero, List.getD_cons_succ, ex1, ex2, ex3, ex4, e1, e2, e3, e4]
        clear ex1 ex2 ex3 ex4 e1 e2 e3 e4
        have s1 : w.heap.size + 2 < X1 := by omega
        have s2 : w.heap.size + 2 < X2 := by omega
        have s3 : w.heap.size + 2 < X3 := by omega
        have s4 : w.heap.size + 2 < X4 := by omega
        have l1b : w.heap.size + 2 < l1 := by omega
        clear hwV hB2V bX1 bX2 bX3 bX4
        generalize V.plus nc xc = Y at *
        clear d1 V
        generalize val 0 = y78, val 2 = y80, val 4 = y82, val 6 = y84
        clear val
        simp only [Act.put, List.setIfInBounds_toArray, List.set_cons_zero, List.set_cons_succ, List.drop_succ_cons, List.drop_zero]
        have O1 := Lib.hid o1
        have O2 := Lib.hid o2
        have O3 := Lib.hid o3
        have O4 := Lib.hid o4
        have QX1 := Lib.hid hX1
        have QX2 := Lib.hid hX2
        have QX3 := Lib.hid hX3
        have QX4 := Lib.hid hX4
        clear o1 o2 o3 o4 hX1 hX2 hX3 hX4
        have x0 := cell_of_heap (i := 0) QX1.out rfl; have x1 := cell_of_heap (i := 1) QX1.out rfl; have f0 := frozen_of_heap QX1.out 0; have f1 := frozen_of_heap QX1.out 1; (iterate 3 go_step); have hT := ((Tch.refl : Tch X1 w.heap.size w.heap.size Y Y).setX 0 (.slice ma1 r.nm mc1)).setX 1 (.slice ca1 r.nc cc1); have hX := store_of_heap (store_of_heap QX1.out 0 (.slice ma1 r.nm mc1)) 1 (.slice ca1 r.nc cc1); generalize World.setCell _ _ _ = Y1 at hT hX ⊢; clear x0 x1 f0 f1; replace O1 := Lib.hid (hT.reg O1.out (Off.none _ _) (Off.none _ _) (fun m _ => Off.none _ _) QX1.out); replace O2 := Lib.hid (hT.reg O2.out (Off.none _ _) (Off.none _ _) (fun m _ => Off.none _ _) QX1.out); replace O3 := Lib.hid (hT.reg O3.out (Off.none _ _) (Off.none _ _) (fun m _ => Off.none _ _) QX1.out); replace O4 := Lib.hid (hT.reg O4.out (Off.none _ _) (Off.none _ _) (fun m _ => Off.none _ _) QX1.out); replace QX1 : Hid (Y1.heap[X1]? = some (.cells #[.slice ma1 r.nm mc1, .slice ca1 r.nc cc1] 25)) := Lib.hid hX; replace QX2 := Lib.hid (hT.block _ _ QX2.out (by omega) (.inr ⟨_, rfl⟩)); replace QX3 := Lib.hid (hT.block _ _ QX3.out (by omega) (.inr ⟨_, rfl⟩)); replace QX4 := Lib.hid (hT.block _ _ QX4.out (by omega) (.inr ⟨_, rfl⟩)); replace qa := Lib.hid (hT.block _ _ qa.out (by omega) (.inr ⟨_, rfl⟩)); replace HB1 := Lib.hid (hT.block _ _ HB1.out (by omega) (.inl (by omega))); replace HB2 := Lib.hid (hT.block _ _ HB2.out (by omega) (.inl (by omega))); replace HZ := Lib.hid (hT.grows HZ.out (by omega) (Nat.le_refl _)); replace d7 := Nat.le_trans d7 hT.size; clear hT hX; clear Y
        have x0 := cell_of_heap (i := 0) QX2.out rfl; have x1 := cell_of_heap (i := 1) QX2.out rfl; have f0 := frozen_of_heap QX2.out 0; have f1 := frozen_of_heap QX2.out 1; (iterate 3 go_step); have hT := ((Tch.refl : Tch X2 w.heap.size w.heap.size Y1 Y1).setX 0 (.slice ma2 r.nm mc2)).setX 1 (.slice ca2 r.nc cc2); have hX := store_of_heap (store_of_heap QX2.out 0 (.slice ma2 r.nm mc2)) 1 (.slice ca2 r.nc cc2); generalize World.setCell _ _ _ = Y2 at hT hX ⊢; clear x0 x1 f0 f1; replace O1 := Lib.hid (hT.reg O1.out (Off.none _ _) (Off.none _ _) (fun m _ => Off.none _ _) QX2.out); replace O2 := Lib.hid (hT.reg O2.out (Off.none _ _) (Off.none _ _) (fun m _ => Off.none _ _) QX2.out); replace O3 := Lib.hid (hT.reg O3.out (Off.none _ _) (Off.none _ _) (fun m _ => Off.none _ _) QX2.out); replace O4 := Lib.hid (hT.reg O4.out (Off.none _ _) (Off.none _ _) (fun m _ => Off.none _ _) QX2.out); replace QX2 : Hid (Y2.heap[X2]? = some (.cells #[.slice ma2 r.nm mc2, .slice ca2 r.nc cc2] 25)) := Lib.hid hX; replace QX1 := Lib.hid (hT.block _ _ QX1.out (by omega) (.inr ⟨_, rfl⟩)); replace QX3 := Lib.hid (hT.block _ _ QX3.out (by omega) (.inr ⟨_, rfl⟩)); replace QX4 := Lib.hid (hT.block _ _ QX4.out (by omega) (.inr ⟨_, rfl⟩)); replace qa := Lib.hid (hT.block _ _ qa.out (by omega) (.inr ⟨_, rfl⟩)); replace HB1 := Lib.hid (hT.block _ _ HB1.out (by omega) (.inl (by omega))); replace HB2 := Lib.hid (hT.block _ _ HB2.out (by omega) (.inl (by omega))); replace HZ := Lib.hid (hT.grows HZ.out (by omega) (Nat.le_refl _)); replace d7 := Nat.le_trans d7 hT.size; clear hT hX; clear Y1
        have x0 := cell_of_heap (i := 0) QX3.out rfl; have x1 := cell_of_heap (i := 1) QX3.out rfl; have f0 := frozen_of_heap QX3.out 0; have f1 := frozen_of_heap QX3.out 1; (iterate 3 go_step); have hT := ((Tch.refl : Tch X3 w.heap.size w.heap.size Y2 Y2).setX 0 (.slice ma3 r.nm mc3)).setX 1 (.slice ca3 r.nc cc3); have hX := store_of_heap (store_of_heap QX3.out 0 (.slice ma3 r.nm mc3)) 1 (.slice ca3 r.nc cc3); generalize World.setCell _ _ _ = Y3 at hT hX ⊢; clear x0 x1 f0 f1; replace O1 := Lib.hid (hT.reg O1.out (Off.none _ _) (Off.none _ _) (fun m _ => Off.none _ _) QX3.out); replace O2 := Lib.hid (hT.reg O2.out (Off.none _ _) (Off.none _ _) (fun m _ => Off.none _ _) QX3.out); replace O3 := Lib.hid (hT.reg O3.out (Off.none _ _) (Off.none _ _) (fun m _ => Off.none _ _) QX3.out); replace O4 := Lib.hid (hT.reg O4.out (Off.none _ _) (Off.none _ _) (fun m _ => Off.none _ _) QX3.out); replace QX3 : Hid (Y3.heap[X3]? = some (.cells #[.slice ma3 r.nm mc3, .slice ca3 r.nc cc3] 25)) := Lib.hid hX; replace QX1 := Lib.hid (hT.block _ _ QX1.out (by omega) (.inr ⟨_, rfl⟩)); replace QX2 := Lib.hid (hT.block _ _ QX2.out (by omega) (.inr ⟨_, rfl⟩)); replace QX4 := Lib.hid (hT.block _ _ QX4.out (by omega) (.inr ⟨_, rfl⟩)); replace qa := Lib.hid (hT.block _ _ qa.out (by omega) (.inr ⟨_, rfl⟩)); replace HB1 := Lib.hid (hT.block _ _ HB1.out (by omega) (.inl (by omega))); replace HB2 := Lib.hid (hT.block _ _ HB2.out (by omega) (.inl (by omega))); replace HZ := Lib.hid (hT.grows HZ.out (by omega) (Nat.le_refl _)); replace d7 := Nat.le_trans d7 hT.size; clear hT hX; clear Y2
        have x0 := cell_of_heap (i := 0) QX4.out rfl; have x1 := cell_of_heap (i := 1) QX4.out rfl; have f0 := frozen_of_heap QX4.out 0; have f1 := frozen_of_heap QX4.out 1; (iterate 3 go_step); have hT := ((Tch.refl : Tch X4 w.heap.size w.heap.size Y3 Y3).setX 0 (.slice ma4 r.nm mc4)).setX 1 (.slice ca4 r.nc cc4); have hX := store_of_heap (store_of_heap QX4.out 0 (.slice ma4 r.nm mc4)) 1 (.slice ca4 r.nc cc4); generalize World.setCell _ _ _ = Y4 at hT hX ⊢; clear x0 x1 f0 f1; replace O1 := Lib.hid (hT.reg O1.out (Off.none _ _) (Off.none _ _) (fun m _ => Off.none _ _) QX4.out); replace O2 := Lib.hid (hT.reg O2.out (Off.none _ _) (Off.none _ _) (fun m _ => Off.none _ _) QX4.out); replace O3 := Lib.hid (hT.reg O3.out (Off.none _ _) (Off.none _ _) (fun m _ => Off.none _ _) QX4.out); replace O4 := Lib.hid (hT.reg O4.out (Off.none _ _) (Off.none _ _) (fun m _ => Off.none _ _) QX4.out); replace QX4 : Hid (Y4.heap[X4]? = some (.cells #[.slice ma4 r.nm mc4, .slice ca4 r.nc cc4] 25)) := Lib.hid hX; replace QX1 := Lib.hid (hT.block _ _ QX1.out (by omega) (.inr ⟨_, rfl⟩)); replace QX2 := Lib.hid (hT.block _ _ QX2.out (by omega) (.inr ⟨_, rfl⟩)); replace QX3 := Lib.hid (hT.block _ _ QX3.out (by omega) (.inr ⟨_, rfl⟩)); replace qa := Lib.hid (hT.block _ _ qa.out (by omega) (.inr ⟨_, rfl⟩)); replace HB1 := Lib.hid (hT.block _ _ HB1.out (by omega) (.inl (by omega))); replace HB2 := Lib.hid (hT.block _ _ HB2.out (by omega) (.inl (by omega))); replace HZ := Lib.hid (hT.grows HZ.out (by omega) (Nat.le_refl _)); replace d7 := Nat.le_trans d7 hT.size; clear hT hX; clear Y3
        go_upto_region 9 with (go_at_call 99; fail)
        obtain ⟨xb, _, hxb⟩ := Joins.ownsRow_form O1.out.1.row' (by omega)
        cases hxb
        obtain ⟨_, _, hxe, hx1, hx2⟩ := row_form O1.out.1.row'
        cases hxe
        unfold maxLen at hx2
        have x0 := cell_of_heap (i := 0) QX1.out rfl
        obtain ⟨S, hS⟩ : ∃ x : Nat, k + 1 = x := ⟨_, rfl⟩
        have hSl : S ≤ r.nm := by omega
        have eS : IntKind.i64.wrap ((k : Int) + 1) = S := wrapI (by omega) (by omega)
        have kI : (k : Int) ≤ mc1 := by omega
        have sI : (S : Int) ≤ r.nm := by omega
        (refine wp_region_chain 12 [0, 5, 11] (by kernel_rfl) (by kernel_rfl) (by decide) ?_; simp only [without, only, withNo, List.take_succ_cons, List.take_zero, List.drop_succ_cons, List.drop_zero, List.take_nil, List.drop_nil, Nat.reduceAdd, Nat.reduceSub, List.filter, List.contains_cons, List.contains_nil, Nat.reduceBEq, Bool.or_false, Bool.false_or, Bool.true_or, Bool.or_true, Bool.or_self, Bool.not_true, Bool.not_false, List.map_cons, List.map_nil]; (repeat (refine wpCalm_step (fun K hK => ?_); go_simp; first | (refine hK _ ?_; clear hK K) | (apply Exists.intro; refine ⟨fun n' x' => ?_, hK _ ?_⟩; (fail); clear hK K))); refine wpCalm_nil ?_)
        (refine wpChain_step (fun K hK nc xc => ?_); go_simp)
        refine ⟨by (repeat (first | exact World.grows.refl _ | assumption | refine World.grows.alloc ?_ _ | refine World.grows.plus ?_ _ _ | refine World.grows.drew ?_)), hK _ _ ?_⟩
        clear hK K
        refine wpChain_append_own rfl (.tmp 86) (.tmp 90) 22 (by rfl) Y4.heap.size 65 (.agg #[.int .i64 0, .slice none 0 0]) 2 32 Try.underlying22 el65 (by rfl) (by omega) _ 0 [] (by rfl) (ownsRow_empty (b := Y4.heap.size + nc) (World.heap_at _ _ _ (by simp)) rfl (by omega)) _ (by rfl) k (tableL k 2 (mcell r.who row1)) (fun W0 g => ?_) (table_one (by omega) (fun i j hi hj => O1.out.1.one i j (by omega))) (by unfold maxLen; omega) (by omega) (Nat.le_refl _) (by simp; omega) ?_
        · show SrcAt W0 (.slice (some ⟨xb, 0, none⟩) k mc1) k 2 _
          exact SliceAt.src (by omega) (SliceAt.mono (SliceAt.first O1.out.1.src (by omega) mc1 (by omega) (by unfold maxLen; omega)) (World.grows.trans (by (repeat (first | exact World.grows.refl _ | assumption | refine World.grows.alloc ?_ _ | refine World.grows.plus ?_ _ _ | refine World.grows.drew ?_))) g))
        intro v1 W1 hv1 hW1 hs1
        refine wpChain_append_own rfl (.tmp 91) (.tmp 96) 22 (by rfl) Y4.heap.size 65 (.agg #[.int .i64 0, .slice none 0 0]) 2 32 Try.underlying22 el65 (by rfl) (by omega) v1 (0 + k) ([] ++ tableL k 2 (mcell r.who row1)) (by rfl) hv1 _ (by rfl) (r.nm - S) (tableL (r.nm - S) 2 (fun i j => mcell r.who row1 (S + i) j)) (fun W0 g => ?_) (table_one (by omega) (fun i j hi hj => O1.out.1.one _ j (by omega))) (by unfold maxLen; omega) (by omega) (Nat.le_refl _) hW1.size ?_
        · simp [Act.eval, Act.put]
          exact SliceAt.tail (by omega) (SliceAt.mono O1.out.1.src (hW1.trans g)) hSl
        intro v2 W2 hv2 hW2 hs2
        (refine wpChain_nil (fun nc xc => ?_))
        rw [show 0 + k + (r.nm - S) = r.nm - 1 by omega, List.nil_append, ← hS, less_table r.who row1 hkl] at hv2
        clear hv1 hW1 hs1 hs2
        obtain ⟨va1, vc1, rfl, -, -⟩ := row_form hv2
        have g5 : Y4.grows (W2.plus nc xc) := hW2.trans (World.grows_plus _ _ _)
        have hv5 := hv2.grow (World.grows_plus W2 nc xc)
        clear hv2 hW2 x0 kI sI eS
        generalize W2.plus nc xc = W5 at g5 hv5 ⊢
        generalize (ite (mc1 = S) _ _ : Option Addr) = A96
        have q5 := g5.heap_of QX1.out
        have y0 := cell_of_heap (i := 0) q5 rfl
        have yf := frozen_of_heap q5 0
        go_upto_region 10 with (go_at_call 99; fail)
        have hT := (Tch.refl.then g5 : Tch X1 w.heap.size w.heap.size Y4 W5).setX 0 (.slice va1 (r.nm - 1) vc1)
        have hX := store_of_heap q5 0 (.slice va1 (r.nm - 1) vc1)
        have hlt5 := hv5.lt
        have hxl := O1.out.1.row'.lt xb rfl
        have XF := ((O1.out.grow g5).less hkl (by omega) hv5).set q5 0 (.slice va1 (r.nm - 1) vc1)
        clear y0 yf hv5 g5
        generalize World.setCell _ _ _ = Y5 at hT hX XF ⊢
        replace O2 := Lib.hid (hT.reg O2.out (Off.none _ _) (Off.none _ _) (fun m _ => Off.none _ _) QX1.out)
        replace O3 := Lib.hid (hT.reg O3.out (Off.none _ _) (Off.none _ _) (fun m _ => Off.none _ _) QX1.out)
        replace O4 := Lib.hid (hT.reg O4.out (Off.none _ _) (Off.none _ _) (fun m _ => Off.none _ _) QX1.out)
        have PX1 : Hid (Y5.heap[X1]? = some (.cells #[.slice va1 (r.nm - 1) vc1, .slice ca1 r.nc cc1] 25)) := Lib.hid hX
        replace QX2 := Lib.hid (hT.block _ _ QX2.out (by omega) (.inr ⟨_, rfl⟩))
        replace QX3 := Lib.hid (hT.block _ _ QX3.out (by omega) (.inr ⟨_, rfl⟩))
        replace QX4 := Lib.hid (hT.block _ _ QX4.out (by omega) (.inr ⟨_, rfl⟩))
        replace qa := Lib.hid (hT.block _ _ qa.out (by omega) (.inr ⟨_, rfl⟩))
        replace HB1 := Lib.hid (hT.block _ _ HB1.out (by omega) (.inl (by omega)))
        replace HB2 := Lib.hid (hT.block _ _ HB2.out (by omega) (.inl (by omega)))
        replace HZ := Lib.hid (hT.grows HZ.out (by omega) (Nat.le_refl _))
        have XG : Hid (RegF l2 t4 Y5 (.agg #[.slice va1 (r.nm - 1) vc1, .slice ca1 r.nc cc1]) (r.less k)) := Lib.hid ⟨_, _, _, _, rfl, XF, fun b hb => by have := hlt5 b hb; omega, fun b hb => by have := b12 b hb; omega, fun m hm b hb => by
          have hm' : m < r.nm - 1 := hm
          have := b13 (if m < k then m else m + 1) (by split <;> omega) b hb
          omega⟩
        replace d7 := Nat.le_trans d7 hT.size
        clear hT hX hlt5 XF QX1 O1 b11 b12 b13 q5 hx1 hx2 hxl
        obtain ⟨C0, hC0⟩ : ∃ x : Nat, n4 % 1000 = x := ⟨_, rfl⟩
        have hC0l : C0 < 1000 := by rw [← hC0]; exact Nat.mod_lt _ (by omega)
        have eC : (n4 : Int).tmod 1000 = C0 := tmod_at hC0
        have wC : IntKind.i64.wrap (n4 : Int) = n4 := wrapI rfl (by omega)
        have wC1 : IntKind.i64.wrap (1 + (C0 : Int)) = 1 + (C0 : Int) := wrapI rfl (by omega)
        have wC2 : wrap64 (1 + (C0 : Int)) = 1 + (C0 : Int) := wrap64_own _ (by omega)
        obtain ⟨yb, _, hyb⟩ := Joins.ownsRow_form O2.out.1.row' (by omega)
        cases hyb
        obtain ⟨yc, _, hyc⟩ := Joins.ownsRow_form O2.out.2 (by omega)
        cases hyc
        obtain ⟨_, _, hye, hy1, hy2⟩ := row_form O2.out.1.row'
        cases hye
        obtain ⟨_, _, hye, hy3, hy4⟩ := row_form O2.out.2
        cases hye
        unfold maxLen at hy2 hy4
        have y1 := cell_of_heap (i := 1) QX2.out rfl
        obtain ⟨vs, hvs⟩ : ∃ g : Nat → Int, g = fun m => (f m).tmod 10 := ⟨_, rfl⟩
        have Rc : Rg l2 t2 Y5.heap.size (.slice (some ⟨yc, 0, none⟩) r.nc cc2) := fun b hb => by have h1 := b22 b hb; have h2 := O2.out.2.lt b hb; omega
        clear hC0
        go_upto_region 11 with (at_builtin; go_loud (refine wpList_append_at rfl _ _ _ (by rfl) l2 2 (.int .i64 0) 1 8 Try.underlying23 el2 (by rfl) (by omega) _ r.nc _ (by rfl) (O2.out.2.grow (World.grows.alloc (World.grows.refl Y5) _)) _ (by rfl) 1 _ (SliceAt.src (by omega) (one_slice Y5 (.int .i64 (1 + (C0 : Int))) 2 _ (by rfl))) (by omega) (one_cell _) (by unfold maxLen; omega) (by omega) (by simp; omega) ?_; intro v9 w9 hown hgb hbk; obtain ⟨va, vc, rfl, -, -⟩ := row_form hown; have hgA := World.grows.alloc (World.grows.refl Y5) (.cells #[.int .i64 (1 + (C0 : Int))] 2); have T9 := (Tch.refl.then hgA : Tch X2 l2 t2 Y5 _).own (O2.out.2.grow hgA) (by decide) Rc hgb; have M9 := (O2.out.1.grow hgA).v.other (O2.out.2.grow hgA) (by decide) (by decide) hgb; have X9 := heap_by' (hgA.heap_of QX2.out) (O2.out.2.grow hgA) (by decide) hgb; have R9 := Rc.to (W := Y5.alloc (.cells #[.int .i64 (1 + (C0 : Int))] 2)) (W' := w9) (by simp) hbk; have HCR9 := Lib.hid R9; have C9 : w9.ownsRow l2 2 1 (.slice va (r.nc + 1) vc) (r.nc + 1) (valL (r.nc + 1) ((r.feat (1 + (C0 : Int)) vs).cost)) := (by rw [feat_costs]; exact hown); have y1 := cell_of_heap (i := 1) X9 rfl; have yf := frozen_of_heap X9 1; clear hown hgb hbk hgA))
        have T8 := T9.setX 1 (.slice va (r.nc + 1) vc)
        have Z8 := store_of_heap X9 1 (.slice va (r.nc + 1) vc)
        have M8 := M9.set X9 (by decide) (by decide) 1 (.slice va (r.nc + 1) vc)
        have C8 := ownsRow_setCell_other (a := ⟨X2, 1, none⟩) C9 (ne_block C9 X9 (by decide)) (.slice va (r.nc + 1) vc)
        clear y1 yf X9 M9 C9 T9 eC wC wC1 wC2
        generalize World.setCell _ _ _ = Y6 at T8 Z8 M8 C8 ⊢
        have hCR := HCR9
        have T8h := Lib.hid T8
        have Z8h := Lib.hid Z8
        have M8h := Lib.hid M8
        have C8h := Lib.hid C8
        have HRv : Hid (∀ i, i < r.nm → Rg l2 t2 Y5.heap.size (row2 i)) := Lib.hid fun i hi b hb => by
          have h1 := b23 i hi b hb
          have h2 := ((O2.out.1.val' i hi).lt b hb).1
          omega
        have hlt8 : w.heap.size + 2 < Y5.heap.size := by omega
        have hyb := b21 yb rfl
        have hyb2 := (O2.out.1.row'.lt yb rfl).1
        clear T8 Z8 M8 C8 O2
        go_wp2
        go_loopw [27] (fun i wr => ∃ (m : Nat) (row : Nat → Value), m ≤ r.nm ∧ i = .int .i64 m ∧ Hid (Tch X2 l2 t2 Y5 wr) ∧ Hid (wr.heap[X2]? = some (.cells #[.slice (some ⟨yb, 0, none⟩) r.nm mc2, .slice va (r.nc + 1) vc] 25)) ∧ Hid (VMarks l2 wr (.slice (some ⟨yb, 0, none⟩) r.nm mc2) r.nm (fun i => if i < m then r.nc + 1 else r.nc) r.who row (r.feat (1 + (C0 : Int)) vs).val) ∧ Hid (∀ i, i < r.nm → Rg l2 t2 Y5.heap.size (row i)) ∧ Hid (wr.ownsRow l2 2 1 (.slice va (r.nc + 1) vc) (r.nc + 1) (valL (r.nc + 1) (r.feat (1 + (C0 : Int)) vs).cost))) (fun i _ => r.nm - (intOf i).toNat)
        case atStart => exact ⟨0, row2, by omega, rfl, T8h, Z8h, Lib.hid (M8h.out.congr (fun m hm => by rw [if_neg (by omega)]) (fun m hm f hf => by show r.val m f = if f < r.nc then r.val m f else _; rw [if_pos hf])), HRv, C8h⟩
        case round =>
          clear T8h Z8h M8h C8h HRv
          obtain ⟨m, row, hm, rfl, hT, hX, hM, hRg, hC⟩ := hrel
          have hTs := hT.out.size
          by_cases hml : m < r.nm
          · have hX0 : wr.cell? ⟨X2, 0, none⟩ = some (.slice (some ⟨yb, 0, none⟩) r.nm mc2) := cell_of_heap hX.out rfl
            have hrow := hM.out.val' m hml
            rw [if_neg (by omega)] at hrow
            obtain ⟨ra, rca, hre, -, -⟩ := row_form hrow
            have hY0 : wr.cell? ⟨yb, m * 2 + 1, none⟩ = some (.slice ra r.nc rca) := by
              have h1 := hM.out.row'.cellAt (m * 2 + 1) (by omega)
              rw [h1, tableL_get _ hml (by omega), ← hre]
              rfl
            have hvH := hT.out.block _ _ HB2.out (by omega) (.inl (.inl (by omega)))
            have hV0 : wr.cell? ⟨w.heap.size + 1 + 1, m, none⟩ = some (.int .u8 (f m)) := ten_cell hvH (by omega)
            obtain ⟨cY, hcY⟩ := own_heap hM.out.row'
            have ne1 : some X2 ≠ (row m).ownBlock := fun e => row_block hrow hX.out (by decide) _ e.symm rfl
            have ne2 : some yb ≠ (row m).ownBlock := fun e => row_block hrow hcY (by decide) _ e.symm rfl
            have ne3 : some (w.heap.size + 1 + 1) ≠ (row m).ownBlock := fun e => row_block hrow hvH (by decide) _ e.symm rfl
            rw [hre] at ne1 ne2 ne3 hrow
            have Hre := Lib.hid hre
            have Hrow := Lib.hid hrow
            obtain ⟨hfm1, hfm2⟩ := hf m (by omega)
            have evs : (f m).tmod 10 = vs m := by rw [hvs]
            have wf : IntKind.i64.wrap (f m) = f m := wrapI rfl (by omega)
            have hmI : (m : Int) < r.nm := by omega
            have hmJ : (m : Int) < 10 := by omega
            have hm10 : m < 10 := by omega
            have HY2 := Lib.hid (And.intro ne1 (And.intro ne2 ne3))
            obtain ⟨I, hIe⟩ : ∃ I : World → Prop, I = fun w' => w'.cell? ⟨X2, 0, none⟩ = some (.slice (some ⟨yb, 0, none⟩) r.nm mc2) ∧ w'.cell? ⟨yb, m * 2 + 1, none⟩ = some (.slice ra r.nc rca) ∧ w'.cell? ⟨w.heap.size + 1 + 1, m, none⟩ = some (.int .u8 (f m)) := ⟨_, rfl⟩
            have hI : ∀ W W', I W → W.grows W' → I W' := by
              rw [hIe]
              rintro W W' ⟨a1, a2, a3⟩ g
              exact ⟨g.cell_of a1, g.cell_of a2, g.cell_of a3⟩
            have hIw : I wr := by rw [hIe]; exact ⟨hX0, hY0, hV0⟩
            have HI : Hid (∀ U, I U → U.cell? ⟨X2, 0, none⟩ = some (.slice (some ⟨yb, 0, none⟩) r.nm mc2) ∧ U.cell? ⟨yb, m * 2 + 1, none⟩ = some (.slice ra r.nc rca) ∧ U.cell? ⟨w.heap.size + 1 + 1, m, none⟩ = some (.int .u8 (f m))) := Lib.hid fun U h => by rw [hIe] at h; exact h
            have HIm : Hid (∀ W0 w' : World, I W0 → W0.grownBy w' (Value.slice ra r.nc rca).ownBlock → I w') := Lib.hid fun W0 w' h hgb => by
              rw [hIe] at h ⊢
              exact ⟨hgb.cell h.1 HY2.out.1, hgb.cell h.2.1 HY2.out.2.1, hgb.cell h.2.2 HY2.out.2.2⟩
            clear hrow hvH hcY hIe hre ne1 ne2 ne3 hY0 hV0
            go_upto_region 14 with (go_at_call 99; fail)
            clear hX0
            (refine wp_region_chainJ 16 [14, 15] (I) (hI) (hIw) (by kernel_rfl) (by kernel_rfl) (by decide) ?_; simp only [without, only, withNo, List.take_succ_cons, List.take_zero, List.drop_succ_cons, List.drop_zero, List.take_nil, List.drop_nil, Nat.reduceAdd, Nat.reduceSub, List.filter, List.contains_cons, List.contains_nil, Nat.reduceBEq, Bool.or_false, Bool.false_or, Bool.true_or, Bool.or_true, Bool.or_self, Bool.not_true, Bool.not_false, List.map_cons, List.map_nil])
            refine wpCalmJ_go rfl (.pointer (some ⟨X2, 0, none⟩)) (fun U hU => by go_simp) ?_
            refine wpCalmJ_go rfl (.slice (some ⟨yb, 0, none⟩) r.nm mc2) (fun U hU => by have e1 := (HI.out U hU).1; go_simp) ?_
            refine wpCalmJ_go rfl (.int .i64 m) (fun U hU => by go_simp) ?_
            refine wpCalmJ_go rfl (.pointer (some ⟨X2, 0, none⟩)) (fun U hU => by go_simp) ?_
            refine wpCalmJ_go rfl (.slice (some ⟨yb, 0, none⟩) r.nm mc2) (fun U hU => by have e1 := (HI.out U hU).1; go_simp) ?_
            refine wpCalmJ_go rfl (.int .i64 m) (fun U hU => by go_simp) ?_
            refine wpCalmJ_go rfl (.pointer (some ⟨yb, m * 2, none⟩)) (fun U hU => by go_simp) ?_
            refine wpCalmJ_go rfl (.pointer (some ⟨yb, m * 2 + 1, none⟩)) (fun U hU => by go_simp) ?_
            refine wpCalmJ_go rfl (.slice ra r.nc rca) (fun U hU => by have e1 := (HI.out U hU).2.1; go_simp) ?_
            refine wpCalmJ_go rfl (.int .i64 m) (fun U hU => by go_simp) ?_
            refine wpCalmJ_go rfl (.pointer (some ⟨w.heap.size + 1 + 1, m, none⟩)) (fun U hU => by go_simp) ?_
            refine wpCalmJ_go rfl (.int .u8 (f m)) (fun U hU => by have e1 := (HI.out U hU).2.2; go_simp) ?_
            refine wpCalmJ_go rfl (.int .i64 (f m)) (fun U hU => by go_simp) ?_
            refine wpCalmJ_go rfl (.int .i64 (vs m)) (fun U hU => by go_simp) ?_
            refine wpCalm_nilJ ?_
            simp only [Act.put, List.setIfInBounds_toArray, List.set_cons_zero, List.set_cons_succ]
            refine wpChain_stepOJ (fun K hK nc xc hgc => ?_)
            go_simp
            refine ⟨hI _ _ hgc (by (repeat (first | exact World.grows.refl _ | assumption | refine World.grows.alloc ?_ _ | refine World.grows.plus ?_ _ _ | refine World.grows.drew ?_))), hK _ _ ?_⟩
            clear hK K
            have gA : wr.grows (World.alloc (wr.plus nc xc) (.cells #[.int .i64 (vs m)] 3)) := by (repeat (first | exact World.grows.refl _ | assumption | refine World.grows.alloc ?_ _ | refine World.grows.plus ?_ _ _ | refine World.grows.drew ?_))
            refine wpChainJ_append_at rfl (.tmp 127) (.tmp 133) 29 (by rfl) l2 3 (.int .i64 0) 1 8 Try.underlying29 el3 (by rfl) (by omega) (.slice ra r.nc rca) r.nc _ (by rfl) (Hrow.out.grow gA) _ (by rfl) 1 _ (fun W0 g => SliceAt.src (by omega) (SliceAt.mono (one_slice (wr.plus nc xc) (.int .i64 (vs m)) 3 _ (by simp)) g)) (by omega) (one_cell _) (by unfold maxLen; omega) (by omega) (by have h1 := gA.size; have h2 := hT.out.size; omega) ?_
            rintro W0 v' w' hgW hI0 hown hgb hbk
            refine ⟨HIm.out _ _ hI0 hgb, ?_⟩
            refine wpChain_nilJ (fun nc2 xc2 => ?_)
            have g0 : wr.grows W0 := gA.trans hgW
            have g9 : w'.grows (w'.plus nc2 xc2) := World.grows_plus _ _ _
            have hown2 := hown.grow g9
            have hgb2 : W0.grownBy (w'.plus nc2 xc2) (Value.slice ra r.nc rca).ownBlock := hgb.trans ⟨g9.os, g9.tape, g9.output, g9.size, fun i hi _ => g9.block i hi⟩
            generalize w'.plus nc2 xc2 = W9 at hown2 hgb2 ⊢
            obtain ⟨va9, vc9, rfl, -, -⟩ := row_form hown2
            have r0 := Hrow.out.grow g0
            have hM0 := hM.out.grow g0
            have hmr := hM0.row'.other r0 (by decide) hgb2
            have hC9 := (hC.out.grow g0).other r0 (by decide) hgb2
            have hX9 := heap_by' (g0.heap_of hX.out) r0 (by decide) hgb2
            have hRm := hRg.out m hml
            rw [Hre.out] at hRm
            have h0s := g0.size
            have hT9 := ((hT.out.then g0).own r0 (by decide) hRm hgb2).setRow hmr (by decide) (fun b hb => by cases hb; exact .inl ⟨hyb2, hyb⟩) (b := yb) rfl (m * 2 + 1) (.slice va9 (r.nc + 1) vc9)
            have hM9 := hM0.step (W' := W9) (v' := .slice va9 (r.nc + 1) vc9) hml (by rw [feat_val_new]; exact hown2) (by rw [Hre.out]; exact hgb2) (by rw [Hre.out]; exact hbk)
            have hRN : Hid (∀ i, i < r.nm → Rg l2 t2 Y5.heap.size (if i = m then .slice va9 (r.nc + 1) vc9 else row i)) := Lib.hid fun i hi => by
              by_cases e : i = m
              · rw [if_pos e]; exact hRm.to (W' := W0) (Nat.le_trans hTs h0s) hbk
              · rw [if_neg e]; exact hRg.out i hi
            have hC8 := ownsRow_setCell_other (a := ⟨yb, m * 2 + 1, none⟩) hC9 (fun e => by
              obtain ⟨c9, hc9⟩ := own_heap hmr
              exact row_block hC9 hc9 (by decide) _ e rfl) (.slice va9 (r.nc + 1) vc9)
            have hX8 := (World.heap_setCell_map W9 ⟨yb, m * 2 + 1, none⟩ (.slice va9 (r.nc + 1) vc9) X2 (by
              obtain ⟨c9, hc9⟩ := own_heap hmr
              intro e
              dsimp only at e
              subst e
              rw [hX9] at hc9
              cases hc9)).trans hX9
            have y0 := hmr.cellAt (m * 2 + 1) (by omega)
            rw [tableL_get _ hml (by omega)] at y0
            have yf : W9.frozen? ⟨yb, m * 2 + 1, none⟩ = false := hmr.frozenAt _
            have y0' : W9.cell? ⟨yb, m * 2 + 1, none⟩ = some (.slice ra r.nc rca) := by rw [y0, ← Hre.out]; rfl
            have HT9 := Lib.hid hT9
            have HM9 := Lib.hid hM9
            have HC9 := Lib.hid hC8
            have HX9 := Lib.hid hX8
            clear y0 hT9 hM9 hC8 hX8 hC9 hX9 hmr hM0 r0 hRm hown hown2 hgb hgb2 hbk hI0 g9 g0 hgW gA hI hIw HI HIm hgc Hrow Hre HY2 hT hX hM hRg hC evs wf hTs h0s
            go_wp2
            case roundEnd => exact ⟨⟨m + 1, _, by omega, by go_num, HT9, HX9, HM9, hRN, HC9⟩, by simp [intOf]; omega⟩
          · have hme : m = r.nm := by omega
            subst hme
            have hTs := hT.out.size
            have hMo := (hM.out.congr (nv' := fun _ => r.nc + 1) (val' := (r.feat (1 + (C0 : Int)) vs).val) (fun i hi => by rw [if_pos hi]) (fun _ _ _ _ => rfl)).own
            have YG : Hid (RegF l3 t4 wr (.agg #[.slice (some ⟨yb, 0, none⟩) r.nm mc2, .slice va (r.nc + 1) vc]) (r.feat (1 + (C0 : Int)) vs)) := Lib.hid ⟨l2, _, _, row, rfl, ⟨hMo, hC.out⟩, fun b hb => by cases hb; exact .inl (Nat.lt_of_lt_of_le hyb d4), (hCR.out.off (by omega) (by omega)), fun i hi => (hRg.out i hi).off (by omega) (by omega)⟩
            replace O3 := Lib.hid (hT.out.reg O3.out (fun b hb => by have h1 := (O3.out.1.row'.lt b hb).1; omega) (fun b hb => by have h1 := (O3.out.2.lt b hb).1; omega) (fun m hm b hb => by have h1 := ((O3.out.1.val' m hm).lt b hb).1; omega) QX2.out)
            replace O4 := Lib.hid (hT.out.reg O4.out (fun b hb => by have h1 := (O4.out.1.row'.lt b hb).1; omega) (fun b hb => by have h1 := (O4.out.2.lt b hb).1; omega) (fun m hm b hb => by have h1 := ((O4.out.1.val' m hm).lt b hb).1; omega) QX2.out)
            replace XG := Lib.hid ((XG.out.tch hT.out (by omega) (by omega) QX2.out).less (l' := l3) (t' := t4) (by omega) (by omega))
            replace PX1 := Lib.hid (hT.out.block _ _ PX1.out (by omega) (.inr ⟨_, rfl⟩))
            replace QX3 := Lib.hid (hT.out.block _ _ QX3.out (by omega) (.inr ⟨_, rfl⟩))
            replace QX4 := Lib.hid (hT.out.block _ _ QX4.out (by omega) (.inr ⟨_, rfl⟩))
            replace qa := Lib.hid (hT.out.block _ _ qa.out (by omega) (.inr ⟨_, rfl⟩))
            replace HB1 := Lib.hid (hT.out.block _ _ HB1.out (by omega) (.inl (.inl (by omega))))
            replace HZ := Lib.hid (hT.out.grows HZ.out (by omega) (by omega))
            have PX2 := hX
            replace d7 := Nat.le_trans d7 hTs
            clear hT hX hM hRg hC hMo hm hml hCR QX2 HB2
            obtain ⟨Y7, rfl⟩ : ∃ Y7, Y7 = wr := ⟨_, rfl⟩
            have p20 : Y7.cell? ⟨X2, 0, none⟩ = some (.slice (some ⟨yb, 0, none⟩) r.nm mc2) := cell_of_heap PX2.out rfl
            obtain ⟨zc, _, hz⟩ := Joins.ownsRow_form O3.out.2 (by omega)
            cases hz
            obtain ⟨_, _, hze, hz3, hz4⟩ := row_form O3.out.2
            cases hze
            unfold maxLen at hz4
            go_upto_region 15 with (go_at_call 99; fail)
            clear p20
            have p31 : Y7.cell? ⟨X3, 1, none⟩ = some (.slice (some ⟨zc, 0, none⟩) r.nc cc3) := cell_of_heap QX3.out rfl
            have z0 : Y7.cell? ⟨zc, q, none⟩ = some (.int .i64 (r.cost q)) := by rw [O3.out.2.cellAt q (by omega), valL_get _ hql]
            have hcq := Hok.out.cost q hql
            have w3 : IntKind.i64.wrap (n3 : Int) = n3 := wrapI rfl (by omega)
            have w4 : IntKind.i64.wrap (r.cost q - (n3 : Int)) = r.cost q - (n3 : Int) := wrapI rfl (by omega)
            have hqI : (q : Int) < r.nc := by omega
            obtain ⟨V, hV⟩ : ∃ V, (if 1 < r.cost q - (n3 : Int) then r.cost q - (n3 : Int) else 1) = V := ⟨_, rfl⟩
            have hVc : V ≤ r.cost q := by rw [← hV]; split <;> omega
            (refine wp_region_tail 12 (by kernel_rfl) (by kernel_rfl) (by decide) ?_; simp only [List.take_succ_cons, List.take_zero, List.drop_succ_cons, List.drop_zero, List.take_nil, List.drop_nil, List.append_nil, List.nil_append, List.cons_append, Nat.reduceAdd, Nat.reduceSub]; (repeat (refine wpCalm_step (fun K hK => ?_); go_simp; first | (refine hK _ ?_; clear hK K) | (apply Exists.intro; refine ⟨fun n' x' => ?_, hK _ ?_⟩; (fail); clear hK K))); refine wpCalm_nil ?_; intro nq xq)
            have gn := World.grows_plus Y7 nq xq
            have zf : (Y7.plus nq xq).frozen? ⟨zc, q, none⟩ = false := (O3.out.2.grow gn).frozenAt _
            replace z0 := gn.cell_of z0
            have hRz : Rg l3 t3 Y7.heap.size (Value.slice (some ⟨zc, 0, none⟩) r.nc cc3) := fun b hb => by have h1 := b32 b hb; have h2 := (O3.out.2.lt b hb).1; omega
            have hTz := Lib.hid (((Tch.refl : Tch X3 l3 t3 Y7 Y7).then gn).setRow (O3.out.2.grow gn) (by decide) hRz (b := zc) rfl q (.int .i64 V))
            obtain ⟨cz, hcz⟩ := own_heap (O3.out.2.grow gn)
            have hMz := Lib.hid ((O3.out.1.grow gn).set hcz (by decide) (by decide) q (.int .i64 V))
            have hCz := ((O3.out.2.grow gn).stored q (.int .i64 V)).1
            rw [valL_set _ _ hql] at hCz
            have HCz := Lib.hid hCz
            have hXz := Lib.hid ((World.heap_setCell_map (Y7.plus nq xq) ⟨zc, q, none⟩ (.int .i64 V) X3 (by
              intro e
              dsimp only at e
              subst e
              rw [gn.heap_of QX3.out] at hcz
              cases hcz)).trans (gn.heap_of QX3.out))
            clear hcz hCz hRz gn p31 w3 w4 hV hcq
            go_upto_region 16 with (go_at_call 99; fail)
            generalize World.setCell (Y7.plus nq xq) _ _ = Y8 at hTz hMz HCz hXz ⊢
            clear zf z0
            have hs8 := hTz.out.size
            have ZG : Hid (RegF l4 t4 Y8 (.agg #[.slice ma3 r.nm mc3, .slice (some ⟨zc, 0, none⟩) r.nc cc3]) (r.cheap q V)) := Lib.hid ⟨l3, _, _, row3, rfl, ⟨hMz.out, HCz.out⟩, fun b hb => .inl (Nat.lt_of_lt_of_le (b31 b hb) d6), fun b hb => .inl (Nat.lt_of_lt_of_le (b32 b hb) d6), fun i hi b hb => .inl (Nat.lt_of_lt_of_le (b33 i hi b hb) d6)⟩
            have XG8 := Lib.hid ((XG.out.tch hTz.out (by omega) (by omega) QX3.out).less (l' := l4) (t' := t4) (by omega) (by omega))
            have YG8 := Lib.hid ((YG.out.tch hTz.out (by omega) (by omega) QX3.out).less (l' := l4) (t' := t4) (by omega) (by omega))
            have P8 := Lib.hid (hTz.out.reg O4.out (fun b hb => by have h1 := (O4.out.1.row'.lt b hb).1; omega) (fun b hb => by have h1 := (O4.out.2.lt b hb).1; omega) (fun m hm b hb => by have h1 := ((O4.out.1.val' m hm).lt b hb).1; omega) QX3.out)
            replace PX1 := Lib.hid (hTz.out.block _ _ PX1.out (by omega) (.inr ⟨_, rfl⟩))
            replace PX2 := Lib.hid (hTz.out.block _ _ PX2.out (by omega) (.inr ⟨_, rfl⟩))
            replace QX4 := Lib.hid (hTz.out.block _ _ QX4.out (by omega) (.inr ⟨_, rfl⟩))
            replace qa := Lib.hid (hTz.out.block _ _ qa.out (by omega) (.inr ⟨_, rfl⟩))
            replace HB1 := Lib.hid (hTz.out.block _ _ HB1.out (by omega) (.inl (.inl (by omega))))
            replace HZ := Lib.hid (hTz.out.grows HZ.out (by omega) (by omega))
            have PX3 := hXz
            replace d7 := Nat.le_trans d7 hs8
            clear hTz hMz HCz hXz XG YG O3 O4 QX3 b31 b32 b33 hs8
            obtain ⟨i1, hi1⟩ : ∃ x : Nat, m1 % r.nm = x := ⟨_, rfl⟩
            obtain ⟨i2, hi2⟩ : ∃ x : Nat, m2 % r.nm = x := ⟨_, rfl⟩
            have hi1l : i1 < r.nm := by rw [← hi1]; exact Nat.mod_lt _ (by omega)
            have hi2l : i2 < r.nm := by rw [← hi2]; exact Nat.mod_lt _ (by omega)
            have e1 := tmod_at hi1
            have e2 := tmod_at hi2
            have w1 : IntKind.i64.wrap (m1 : Int) = m1 := wrapI rfl (by omega)
            have w2 : IntKind.i64.wrap (m2 : Int) = m2 := wrapI rfl (by omega)
            have k1 : ¬ (r.nm : Int) = 0 := by omega
            have k3 : ¬ r.nm = 0 := by omega
            have i1I : (i1 : Int) < r.nm := by omega
            have i2I : (i2 : Int) < r.nm := by omega
            have q10 : Y8.cell? ⟨w.heap.size, 0, none⟩ = some (.slice (some ⟨mb, mo, none⟩) r.nm mc) := cell_of_heap qa.out rfl
            have s0 : Y8.cell? ⟨w.heap.size + 1, 0, none⟩ = some (.int .u8 m1) := cell_of_heap HB1.out rfl
            have s1 : Y8.cell? ⟨w.heap.size + 1, 1, none⟩ = some (.int .u8 m2) := cell_of_heap HB1.out rfl
            have d10 := HZ.out.cell_of (HR.out.who i1 hi1l)
            have d11 := HZ.out.cell_of (HR.out.who i2 hi2l)
            clear hi1 hi2
            (refine wp_region_calm (by kernel_rfl) (by kernel_rfl) ?_; (repeat (refine wpCalm_step (fun K hK => ?_); go_simp; first | (refine hK _ ?_; clear hK K) | (apply Exists.intro; refine ⟨fun n' x' => ?_, hK _ ?_⟩; (fail); clear hK K))); refine wpCalm_nil ?_; intro nq xq)
            clear e1 e2 w1 w2 k1 k3 i1I i2I q10 s0 s1 d10 d11 HB1
            have gn := World.grows_plus Y8 nq xq
            replace ZG := Lib.hid (ZG.out.grow gn)
            replace XG8 := Lib.hid (XG8.out.grow gn)
            replace YG8 := Lib.hid (YG8.out.grow gn)
            replace P8 := Lib.hid (P8.out.grow gn)
            replace PX1 := Lib.hid (gn.heap_of PX1.out)
            replace PX2 := Lib.hid (gn.heap_of PX2.out)
            replace PX3 := Lib.hid (gn.heap_of PX3.out)
            replace QX4 := Lib.hid (gn.heap_of QX4.out)
            replace HZ := Lib.hid (HZ.out.trans gn)
            replace d7 := Nat.le_trans d7 gn.size
            clear gn qa
            generalize Y8.plus nq xq = Y9 at ZG XG8 YG8 P8 PX1 PX2 PX3 QX4 HZ d7 ⊢
            obtain ⟨A, hA⟩ : ∃ A, r.who i1 = A := ⟨_, rfl⟩
            obtain ⟨B, hB⟩ : ∃ B, r.who i2 = B := ⟨_, rfl⟩
            simp only [hA, hB]
            clear hA hB
            obtain ⟨wb, _, hwb⟩ := Joins.ownsRow_form P8.out.1.row' (by omega)
            cases hwb
            obtain ⟨_, _, hwe, hw1, hw2⟩ := row_form P8.out.1.row'
            cases hwe
            unfold maxLen at hw2
            obtain ⟨wh, hwh⟩ : ∃ wh : Nat → Nat → Int, wh = fun m i => if i < m then (r.merge A B).who i else r.who i := ⟨_, rfl⟩
            have HW0 : Hid (wh 0 = r.who) := Lib.hid (by rw [hwh]; rfl)
            have HWc : Hid (∀ m, wh m m = r.who m) := Lib.hid (fun m => by rw [hwh]; exact if_neg (Nat.lt_irrefl m))
            have HWt : Hid (∀ m i, i < m → wh m i = (r.merge A B).who i) := Lib.hid (fun m i hi => by rw [hwh]; exact if_pos hi)
            have HWs : Hid (∀ m, r.who m = A → (fun i => if i = m then B else wh m i) = wh (m + 1)) := Lib.hid (fun m hm => by
              rw [hwh]
              funext i
              dsimp only
              by_cases e : i = m
              · rw [if_pos e, if_pos (by omega), e]
                show B = (if r.who m = A then B else r.who m)
                rw [if_pos hm]
              · rw [if_neg e]
                by_cases e2 : i < m
                · rw [if_pos e2, if_pos (by omega)]
                · rw [if_neg e2, if_neg (by omega)])
            have HWn : Hid (∀ m, ¬ r.who m = A → wh m = wh (m + 1)) := Lib.hid (fun m hm => by
              rw [hwh]
              funext i
              dsimp only
              by_cases e : i = m
              · rw [if_neg (by omega), if_pos (by omega), e]
                show r.who m = (if r.who m = A then B else r.who m)
                rw [if_neg hm]
              · by_cases e2 : i < m
                · rw [if_pos e2, if_pos (by omega)]
                · rw [if_neg e2, if_neg (by omega)])
            clear hwh
            have hwbt := b41 wb rfl
            have hwbl := (P8.out.1.row'.lt wb rfl).1
            have hX4t : X4 ≠ wb := by
              intro e
              obtain ⟨c9, hc9⟩ := own_heap P8.out.1.row'
              have h1 := QX4.out
              rw [e, hc9] at h1
              cases h1
            go_wp2
            go_loopw [30] (fun i wr => ∃ (m : Nat), m ≤ r.nm ∧ i = .int .i64 m ∧ Hid (Tch X4 l4 t4 Y9 wr) ∧ Hid (wr.heap[X4]? = some (.cells #[.slice (some ⟨wb, 0, none⟩) r.nm mc4, .slice ca4 r.nc cc4] 25)) ∧ Hid (MarksOwn l4 wr (.slice (some ⟨wb, 0, none⟩) r.nm mc4) r.nm r.nc (wh m) row4 r.val) ∧ Hid (wr.ownsRow l4 2 1 (.slice ca4 r.nc cc4) r.nc (valL r.nc r.cost))) (fun i _ => r.nm - (intOf i).toNat)
            case atStart => exact ⟨0, by omega, rfl, Lib.hid Tch.refl, QX4, Lib.hid (by rw [HW0.out]; exact P8.out.1), Lib.hid P8.out.2⟩
            case round =>
              obtain ⟨m, hm, rfl, hT, hX, hM, hC⟩ := hrel
              have hX0 : wr.cell? ⟨X4, 0, none⟩ = some (.slice (some ⟨wb, 0, none⟩) r.nm mc4) := cell_of_heap hX.out rfl
              by_cases hml : m < r.nm
              · have hmI : (m : Int) < r.nm := by omega
                have y0 : wr.cell? ⟨wb, m * 2, none⟩ = some (.int .i64 (r.who m)) := by
                  have h1 := hM.out.row'.cellAt (m * 2 + 0) (by omega)
                  rw [tableL_get _ hml (by omega)] at h1
                  rw [← HWc.out m]
                  exact h1
                have yf : wr.frozen? ⟨wb, m * 2, none⟩ = false := hM.out.row'.frozenAt _
                obtain ⟨a0, ha0⟩ : ∃ a0, r.who m = a0 := ⟨_, rfl⟩
                rw [ha0] at y0
                have HA0 := Lib.hid ha0
                clear ha0
                by_cases hq : a0 = A
                · have hws := Lib.hid (HWs.out m (HA0.out.trans hq))
                  subst hq
                  have hT2 := Lib.hid (hT.out.setRow hM.out.row' (by decide) (fun b hb => by cases hb; exact .inl ⟨hwbl, hwbt⟩) (b := wb) rfl (m * 2) (.int .i64 B))
                  have hM2 := Lib.hid (hM.out.whoSet hml B)
                  obtain ⟨cw, hcw⟩ := own_heap hM.out.row'
                  have hC2 := Lib.hid (ownsRow_setCell_other (a := ⟨wb, m * 2, none⟩) hC.out (fun e => row_block hC.out hcw (by decide) _ e rfl) (.int .i64 B))
                  have hX2 := Lib.hid ((World.heap_setCell_map wr ⟨wb, m * 2, none⟩ (.int .i64 B) X4 (Ne.symm hX4t)).trans hX.out)
                  clear hcw
                  go_wp2
                  case roundEnd => exact ⟨⟨m + 1, by omega, by go_num, hT2, hX2, Lib.hid (by rw [← hws.out]; exact hM2.out), hC2⟩, by simp [intOf]; omega⟩
                · have hws := Lib.hid (HWn.out m (fun e => hq (HA0.out.symm.trans e)))
                  go_wp2
                  case roundEnd => exact ⟨⟨m + 1, by omega, by go_num, hT, hX, Lib.hid (by rw [← hws.out]; exact hM.out), hC⟩, by simp [intOf]; omega⟩
              · have hme : m = r.nm := by omega
                subst hme
                have hTs := hT.out.size
                have hMo := hM.out.whoC (fun i hi => HWt.out r.nm i hi)
                have c1 := cell_of_heap (i := 0) (hT.out.block _ _ PX1.out (by omega) (.inr ⟨_, rfl⟩)) rfl
                have c2 := cell_of_heap (i := 1) (hT.out.block _ _ PX1.out (by omega) (.inr ⟨_, rfl⟩)) rfl
                have c3 := cell_of_heap (i := 0) (hT.out.block _ _ PX2.out (by omega) (.inr ⟨_, rfl⟩)) rfl
                have c4 := cell_of_heap (i := 1) (hT.out.block _ _ PX2.out (by omega) (.inr ⟨_, rfl⟩)) rfl
                have c5 := cell_of_heap (i := 0) (hT.out.block _ _ PX3.out (by omega) (.inr ⟨_, rfl⟩)) rfl
                have c6 := cell_of_heap (i := 1) (hT.out.block _ _ PX3.out (by omega) (.inr ⟨_, rfl⟩)) rfl
                have c7 := cell_of_heap (i := 0) hX.out rfl
                have c8 := cell_of_heap (i := 1) hX.out rfl
                replace HZ := Lib.hid (hT.out.grows HZ.out (by omega) (by omega))
                have R1 := Lib.hid ((XG8.out.tch hT.out (by omega) (by omega) QX4.out).at' (fun m hm => Hok.out.nv _ (by show (if m < k then m else m + 1) < r.nm; have hm' : m < r.nm - 1 := hm; split <;> omega)))
                have R2 := Lib.hid ((YG8.out.tch hT.out (by omega) (by omega) QX4.out).at' (fun m hm => rfl))
                have R3 := Lib.hid ((ZG.out.tch hT.out (by omega) (by omega) QX4.out).at' (fun m hm => Hok.out.nv m hm))
                have R4 := Lib.hid (RegOwn.at' (r := r.merge A B) (base := l4) (row := row4) ⟨hMo, hC.out⟩ (fun m hm => Hok.out.nv m hm))
                clear hT hX hM hC hMo hm hml hTs PX1 PX2 PX3 QX4 P8 XG8 YG8 ZG HW0 HWc HWt HWs HWn hX0 hw1 hw2 hwbt hwbl hX4t
                obtain ⟨Ya, rfl⟩ : ∃ Ya, Ya = wr := ⟨_, rfl⟩
                go_upto_region 23 with (go_at_call 99; fail)
                obtain ⟨p, hp⟩ : ∃ p, Ya.heap.size = p := ⟨_, rfl⟩
                have hmore : ∀ (R : Reg) (u g : Nat → Nat), R.Lies r u g → R.check = 0 → (R.solvE = 0 ∨ R.solvE = 24) ∧ (E = 0 → R.solvE = 0 ∧ R.bestN ≤ N ∧ R.fixC ≤ C) := fun R u g hl hc => by
                  have h1 := hl.more Hok.out (Reg.ok_of hc)
                  rw [HNE.out.1, HNE.out.2.1, HNE.out.2.2] at h1
                  exact h1
                have hPb : (Ya.alloc (.cells #[.slice va1 (r.nm - 1) vc1, .slice ca1 r.nc cc1, .slice (some ⟨yb, 0, none⟩) r.nm mc2, .slice va (r.nc + 1) vc, .slice ma3 r.nm mc3, .slice (some ⟨zc, 0, none⟩) r.nc cc3, .slice (some ⟨wb, 0, none⟩) r.nm mc4, .slice ca4 r.nc cc4] 25)).heap[p]? = some (.cells #[.slice va1 (r.nm - 1) vc1, .slice ca1 r.nc cc1, .slice (some ⟨yb, 0, none⟩) r.nm mc2, .slice va (r.nc + 1) vc, .slice ma3 r.nm mc3, .slice (some ⟨zc, 0, none⟩) r.nc cc3, .slice (some ⟨wb, 0, none⟩) r.nm mc4, .slice ca4 r.nc cc4] 25) := World.heap_at _ _ _ hp.symm
                have gA : Ya.grows (Ya.alloc (.cells #[.slice va1 (r.nm - 1) vc1, .slice ca1 r.nc cc1, .slice (some ⟨yb, 0, none⟩) r.nm mc2, .slice va (r.nc + 1) vc, .slice ma3 r.nm mc3, .slice (some ⟨zc, 0, none⟩) r.nc cc3, .slice (some ⟨wb, 0, none⟩) r.nm mc4, .slice ca4 r.nc cc4] 25)) := by (repeat (first | exact World.grows.refl _ | assumption | refine World.grows.alloc ?_ _ | refine World.grows.plus ?_ _ _ | refine World.grows.drew ?_))
                simp only [hp]
                generalize World.alloc Ya _ = Yb at hPb gA ⊢
                have H4 : Hid (∀ i : Nat, i < 4 → ∃ (A1 : Option Addr) (N1 C1 : Nat) (A2 : Option Addr) (N2 C2 : Nat) (R : Reg), Yb.cell? ⟨p, i * 2, none⟩ = some (.slice A1 N1 C1) ∧ Yb.cell? ⟨p, i * 2 + 1, none⟩ = some (.slice A2 N2 C2) ∧ RegAt Yb (.agg #[.slice A1 N1 C1, .slice A2 N2 C2]) R ∧ (R.check = 0 → (R.solvE = 0 ∨ R.solvE = 24) ∧ (E = 0 → R.solvE = 0 ∧ R.bestN ≤ N ∧ R.fixC ≤ C))) := Lib.hid fun i hi => by
                  have : i = 0 ∨ i = 1 ∨ i = 2 ∨ i = 3 := by omega
                  rcases this with rfl | rfl | rfl | rfl
                  · exact ⟨_, _, _, _, _, _, _, cell_of_heap hPb rfl, cell_of_heap hPb rfl, R1.out.mono gA, hmore _ _ _ (Reg.less_lies r hkl)⟩
                  · exact ⟨_, _, _, _, _, _, _, cell_of_heap hPb rfl, cell_of_heap hPb rfl, R2.out.mono gA, hmore _ _ _ (Reg.feat_lies r _ vs)⟩
                  · exact ⟨_, _, _, _, _, _, _, cell_of_heap hPb rfl, cell_of_heap hPb rfl, R3.out.mono gA, hmore _ _ _ (Reg.cheap_lies r hVc)⟩
                  · exact ⟨_, _, _, _, _, _, _, cell_of_heap hPb rfl, cell_of_heap hPb rfl, R4.out.mono gA, hmore _ _ _ (Reg.merge_lies r A B)⟩
                replace HZ := Lib.hid (HZ.out.trans gA)
                clear hPb gA R1 R2 R3 R4 hmore HNE Hok Hr HR hvs hVc hp
                as_aux_lemma =>
                  go_wp2
                  go_loopw [32] (fun i wr => ∃ (m : Nat), m ≤ 4 ∧ i = .int .i64 m ∧ Hid (Yb.grows wr)) (fun i _ => 4 - (intOf i).toNat)
                  case atStart => exact ⟨0, by omega, rfl, Lib.hid (World.grows.refl _)⟩
                  case round =>
                    obtain ⟨m, hm, rfl, hg⟩ := hrel
                    by_cases hml : m < 4
                    · obtain ⟨A1, N1, C1, A2, N2, C2, R, j0, j1, hat, hmr⟩ := H4.out m hml
                      have Hat := Lib.hid hat
                      have Hmr := Lib.hid hmr
                      have J0 := Lib.hid j0
                      have J1 := Lib.hid j1
                      clear hat hmr j0 j1
                      have j0 := hg.out.cell_of J0.out
                      have j1 := hg.out.cell_of J1.out
                      have hmI : (m : Int) < 4 := by omega
                      go_wp2_with (go_at_call 99; fail)
                      refine (fine_c _ _ R (Hat.out.mono (hg.out.trans (by (repeat (first | exact World.grows.refl _ | assumption | refine World.grows.alloc ?_ _ | refine World.grows.plus ?_ _ _ | refine World.grows.drew ?_)))))).mono ?_
                      rintro e U ⟨rfl, g⟩
                      have gU := Lib.hid (hg.out.trans (World.grows.trans (by (repeat (first | exact World.grows.refl _ | assumption | refine World.grows.alloc ?_ _ | refine World.grows.plus ?_ _ _ | refine World.grows.drew ?_))) g))
                      clear g j0 j1 hg
                      by_cases hcx : R.check = 0
                      · rw [decide_eq_true hcx]
                        obtain ⟨hs, hmo⟩ := Hmr.out hcx
                        have h25x := fun W (g : Yb.grows W) => best_any (Hat.out.mono g)
                        have h32x := fun W (g : Yb.grows W) => fix_any (Hat.out.mono g)
                        generalize R.bestN = NR at h25x hmo
                        generalize R.fixC = CR at h32x hmo
                        generalize R.solvE = ER at h25x h32x hmo hs
                        have j0 := gU.out.cell_of J0.out
                        have j1 := gU.out.cell_of J1.out
                        clear hcx Hmr
                        go_wp2_with (go_at_call 99; fail)
                        refine (h25x _ (gU.out.trans (by (repeat (first | exact World.grows.refl _ | assumption | refine World.grows.alloc ?_ _ | refine World.grows.plus ?_ _ _ | refine World.grows.drew ?_))))).mono ?_
                        rintro e U2 ⟨bx2, ba2, bn2, bc2, rfl, g⟩
                        replace j0 := (World.grows.trans (by (repeat (first | exact World.grows.refl _ | assumption | refine World.grows.alloc ?_ _ | refine World.grows.plus ?_ _ _ | refine World.grows.drew ?_))) g).cell_of j0
                        replace j1 := (World.grows.trans (by (repeat (first | exact World.grows.refl _ | assumption | refine World.grows.alloc ?_ _ | refine World.grows.plus ?_ _ _ | refine World.grows.drew ?_))) g).cell_of j1
                        replace gU := Lib.hid (gU.out.trans (World.grows.trans (by (repeat (first | exact World.grows.refl _ | assumption | refine World.grows.alloc ?_ _ | refine World.grows.plus ?_ _ _ | refine World.grows.drew ?_))) g))
                        clear g h25x
                        go_wp2_with (go_at_call 99; fail)
                        refine (h32x _ (gU.out.trans (by (repeat (first | exact World.grows.refl _ | assumption | refine World.grows.alloc ?_ _ | refine World.grows.plus ?_ _ _ | refine World.grows.drew ?_))))).mono ?_
                        rintro e U3 ⟨fa2, fn2, fc2, rfl, g⟩
                        replace gU := Lib.hid (gU.out.trans (World.grows.trans (by (repeat (first | exact World.grows.refl _ | assumption | refine World.grows.alloc ?_ _ | refine World.grows.plus ?_ _ _ | refine World.grows.drew ?_))) g))
                        clear g h32x j0 j1
                        rcases hE2 with hE | hE
                        · obtain ⟨o1, o2, o3⟩ := hmo hE
                          have o4 : ¬ N < NR := by omega
                          have o5 : ¬ C < CR := by omega
                          clear hs hmo o2 o3 H4
                          subst hE
                          subst o1
                          go_wp2
                          case roundEnd => exact ⟨⟨m + 1, by omega, by go_num, Lib.hid (gU.out.trans (by (repeat (first | exact World.grows.refl _ | assumption | refine World.grows.alloc ?_ _ | refine World.grows.plus ?_ _ _ | refine World.grows.drew ?_))))⟩, by simp [intOf]; omega⟩
                        · clear hmo H4
                          subst hE
                          rcases hs with hs | hs
                          · subst hs
                            go_wp2
                            case roundEnd => exact ⟨⟨m + 1, by omega, by go_num, Lib.hid (gU.out.trans (by (repeat (first | exact World.grows.refl _ | assumption | refine World.grows.alloc ?_ _ | refine World.grows.plus ?_ _ _ | refine World.grows.drew ?_))))⟩, by simp [intOf]; omega⟩
                          · subst hs
                            go_wp2
                            case roundEnd => exact ⟨⟨m + 1, by omega, by go_num, Lib.hid (gU.out.trans (by (repeat (first | exact World.grows.refl _ | assumption | refine World.grows.alloc ?_ _ | refine World.grows.plus ?_ _ _ | refine World.grows.drew ?_))))⟩, by simp [intOf]; omega⟩
                      · rw [decide_eq_false hcx]
                        clear hcx Hmr H4
                        go_wp2
                        case roundEnd => exact ⟨⟨m + 1, by omega, by go_num, Lib.hid (gU.out.trans (by (repeat (first | exact World.grows.refl _ | assumption | refine World.grows.alloc ?_ _ | refine World.grows.plus ?_ _ _ | refine World.grows.drew ?_))))⟩, by simp [intOf]; omega⟩
                    · have hme : m = 4 := by omega
                      subst hme
                      have HZ9 := Lib.hid (HZ.out.trans hg.out)
                      clear H4 hg HZ hm hml
                      go_wp2_with (go_at_call 99; fail)
                      refine (works_c _).mono ?_; rintro e U9 ⟨rfl, g⟩; replace HZ9 := Lib.hid (HZ9.out.trans (World.grows.trans (by (repeat (first | exact World.grows.refl _ | assumption | refine World.grows.alloc ?_ _ | refine World.grows.plus ?_ _ _ | refine World.grows.drew ?_))) g)); clear g; go_wp2; (refine bodyPost_ret (v := .bool true) (by simp [results, Try.results9, go_sem]) rfl ?_); exact ⟨rfl, HZ9.out.trans (by (repeat (first | exact World.grows.refl _ | assumption | refine World.grows.alloc ?_ _ | refine World.grows.plus ?_ _ _ | refine World.grows.drew ?_)))⟩
  · rw [decide_eq_false hc] at h37
    obtain ⟨mv, cv, row, rfl, ⟨ma, mc, rfl, -⟩, ⟨ca, cc, rfl, -⟩, -⟩ := hr
    go_enter Try.func9, Try.ntmps9
    go_wp2_with (first | (go_at_call 37; refine (h37 _ (by (repeat (first | exact World.grows.refl _ | assumption | refine World.grows.alloc ?_ _ | refine World.grows.plus ?_ _ _ | refine World.grows.drew ?_)))).mono ?_; rintro e w' ⟨rfl, hg⟩; obtain ⟨n2, x2, rfl⟩ := World.plus_of hg) | (go_at_call 14; refine (works_c _).mono ?_; rintro e w' ⟨rfl, hg⟩; obtain ⟨n2, x2, rfl⟩ := World.plus_of hg)); (refine bodyPost_ret (v := .bool true) (by simp [results, Try.results9, go_sem]) rfl ?_); exact ⟨rfl, by (repeat (first | exact World.grows.refl _ | assumption | refine World.grows.alloc ?_ _ | refine World.grows.plus ?_ _ _ | refine World.grows.drew ?_))⟩
end Go.Proofs.Ytdminglglapnlaa

/-
  What is proved: arguments in fives and sixes; arrays of numbers as arguments.
-/
namespace Go
open Go.ChangeShapes Go.WideShapes Go.ChangeAt

section
variable {H : Type} {enc : TypeId × Value → H} {P : Program} {w : World} {base : Nat} {spare : Nat → Bool} {held : Bool}
theorem trodAll_5 {t1 t2 t3 t4 t5 : TypeId} {args : Array Value} {ds : List (DataW H)} {ps : List MemPlace} (h : DataW.TrodAll enc P w base spare held [t1, t2, t3, t4, t5] args.toList ds ps) :
    ∃ v1 v2 v3 v4 v5 d1 d2 d3 d4 d5 p1 p2 p3 p4 p5, args = #[v1, v2, v3, v4, v5] ∧ ds = [d1, d2, d3, d4, d5] ∧ ps = p1 ++ (p2 ++ (p3 ++ (p4 ++ p5))) ∧ DataW.Trod enc P w base spare held t1 v1 d1 p1 ∧ DataW.Trod enc P w base spare held t2 v2 d2 p2 ∧
      DataW.Trod enc P w base spare held t3 v3 d3 p3 ∧ DataW.Trod enc P w base spare held t4 v4 d4 p4 ∧ DataW.Trod enc P w base spare held t5 v5 d5 p5 := by
  obtain ⟨v1, s1, d1, e1, p1, q1, hargs, rfl, rfl, h1, r1⟩ := trodAll_cons h
  obtain ⟨v2, s2, d2, e2, p2, q2, rfl, rfl, rfl, h2, r2⟩ := trodAll_cons r1
  obtain ⟨v3, s3, d3, e3, p3, q3, rfl, rfl, rfl, h3, r3⟩ := trodAll_cons r2
  obtain ⟨v4, s4, d4, e4, p4, q4, rfl, rfl, rfl, h4, r4⟩ := trodAll_cons r3
  obtain ⟨v5, s5, d5, e5, p5, q5, rfl, rfl, rfl, h5, r5⟩ := trodAll_cons r4
  obtain ⟨rfl, rfl, rfl⟩ := trodAll_nil r5
  exact ⟨v1, v2, v3, v4, v5, d1, d2, d3, d4, d5, p1, p2, p3, p4, p5, by cases args; simp_all, rfl, by simp, h1, h2, h3, h4, h5⟩
theorem trodAll_6 {t1 t2 t3 t4 t5 t6 : TypeId} {args : Array Value} {ds : List (DataW H)} {ps : List MemPlace} (h : DataW.TrodAll enc P w base spare held [t1, t2, t3, t4, t5, t6] args.toList ds ps) :
    ∃ v1 v2 v3 v4 v5 v6 d1 d2 d3 d4 d5 d6 p1 p2 p3 p4 p5 p6, args = #[v1, v2, v3, v4, v5, v6] ∧ ds = [d1, d2, d3, d4, d5, d6] ∧ ps = p1 ++ (p2 ++ (p3 ++ (p4 ++ (p5 ++ p6)))) ∧ DataW.Trod enc P w base spare held t1 v1 d1 p1 ∧ DataW.Trod enc P w base spare held t2 v2 d2 p2 ∧
      DataW.Trod enc P w base spare held t3 v3 d3 p3 ∧ DataW.Trod enc P w base spare held t4 v4 d4 p4 ∧ DataW.Trod enc P w base spare held t5 v5 d5 p5 ∧ DataW.Trod enc P w base spare held t6 v6 d6 p6 := by
  obtain ⟨v1, s1, d1, e1, p1, q1, hargs, rfl, rfl, h1, r1⟩ := trodAll_cons h
  obtain ⟨v2, s2, d2, e2, p2, q2, rfl, rfl, rfl, h2, r2⟩ := trodAll_cons r1
  obtain ⟨v3, s3, d3, e3, p3, q3, rfl, rfl, rfl, h3, r3⟩ := trodAll_cons r2
  obtain ⟨v4, s4, d4, e4, p4, q4, rfl, rfl, rfl, h4, r4⟩ := trodAll_cons r3
  obtain ⟨v5, s5, d5, e5, p5, q5, rfl, rfl, rfl, h5, r5⟩ := trodAll_cons r4
  obtain ⟨v6, s6, d6, e6, p6, q6, rfl, rfl, rfl, h6, r6⟩ := trodAll_cons r5
  obtain ⟨rfl, rfl, rfl⟩ := trodAll_nil r6
  exact ⟨v1, v2, v3, v4, v5, v6, d1, d2, d3, d4, d5, d6, p1, p2, p3, p4, p5, p6, by cases args; simp_all, rfl, by simp, h1, h2, h3, h4, h5, h6⟩
theorem okWide_array {r : Reach} {v : Value} {n : Nat} {e t : TypeId} (ht : P.underlying t = some (.array n e)) (h : Value.okWide P w r base t v) : ∃ cs, v = .agg cs ∧ cs.size = P.cellsOf t := by
  simp only [Value.okWide, ht] at h
  obtain ⟨cs, h1, h2, _⟩ := h
  exact ⟨cs, h1, h2⟩
/-- an array of numbers of one kind -/
theorem array_nums {t e : TypeId} {k : IntKind} {n fuel : Nat} {cs : List Value} {x : DataW H × List MemPlace} (ht : P.underlying t = some (.array n e)) (he : P.underlying e = some (.int k)) (hc : P.cellsOf e = 1) (hn : P.cellsOf t = n)
    (h : DataW.trod enc P w base spare held fuel t cs = some x) : cs.length = n ∧ ∀ i, i < n → ∃ z : Int, cs[i]? = some (.int k z) ∧ (Lit.int k z).wf = true := by
  obtain ⟨xs, m, -, -, hl, hlen, hx⟩ := DataW.trod_array ht h
  refine ⟨by omega, fun i hi => ?_⟩
  have h1 := hx i hi
  rw [hc, Nat.mul_one, List.getElem?_eq_getElem (by omega)] at h1
  obtain ⟨z, e1, _, e2⟩ := DataW.trod_int he h1
  refine ⟨z, ?_, e2⟩
  have h2 : i < cs.length := by omega
  have h3 : (cs.drop i).take 1 = [cs[i]] := by rw [List.drop_eq_getElem_cons h2]; rfl
  rw [h3] at e1
  rw [List.getElem?_eq_getElem h2]
  simpa using e1
end
end Go

/-
  What is proved: seven arguments.
-/
namespace Go
open Go.ChangeShapes Go.WideShapes Go.ChangeAt
section
variable {H : Type} {enc : TypeId × Value → H} {P : Program} {w : World} {base : Nat} {spare : Nat → Bool} {held : Bool}
theorem trodAll_7 {t1 t2 t3 t4 t5 t6 t7 : TypeId} {args : Array Value} {ds : List (DataW H)} {ps : List MemPlace} (h : DataW.TrodAll enc P w base spare held [t1, t2, t3, t4, t5, t6, t7] args.toList ds ps) :
    ∃ v1 v2 v3 v4 v5 v6 v7 d1 d2 d3 d4 d5 d6 d7 p1 p2 p3 p4 p5 p6 p7, args = #[v1, v2, v3, v4, v5, v6, v7] ∧ ds = [d1, d2, d3, d4, d5, d6, d7] ∧ ps = p1 ++ (p2 ++ (p3 ++ (p4 ++ (p5 ++ (p6 ++ p7))))) ∧ DataW.Trod enc P w base spare held t1 v1 d1 p1 ∧ DataW.Trod enc P w base spare held t2 v2 d2 p2 ∧
      DataW.Trod enc P w base spare held t3 v3 d3 p3 ∧ DataW.Trod enc P w base spare held t4 v4 d4 p4 ∧ DataW.Trod enc P w base spare held t5 v5 d5 p5 ∧ DataW.Trod enc P w base spare held t6 v6 d6 p6 ∧ DataW.Trod enc P w base spare held t7 v7 d7 p7 := by
  obtain ⟨v1, s1, d1, e1, p1, q1, hargs, rfl, rfl, h1, r1⟩ := trodAll_cons h
  obtain ⟨v2, s2, d2, e2, p2, q2, rfl, rfl, rfl, h2, r2⟩ := trodAll_cons r1
  obtain ⟨v3, s3, d3, e3, p3, q3, rfl, rfl, rfl, h3, r3⟩ := trodAll_cons r2
  obtain ⟨v4, s4, d4, e4, p4, q4, rfl, rfl, rfl, h4, r4⟩ := trodAll_cons r3
  obtain ⟨v5, s5, d5, e5, p5, q5, rfl, rfl, rfl, h5, r5⟩ := trodAll_cons r4
  obtain ⟨v6, s6, d6, e6, p6, q6, rfl, rfl, rfl, h6, r6⟩ := trodAll_cons r5
  obtain ⟨v7, s7, d7, e7, p7, q7, rfl, rfl, rfl, h7, r7⟩ := trodAll_cons r6
  obtain ⟨rfl, rfl, rfl⟩ := trodAll_nil r7
  exact ⟨v1, v2, v3, v4, v5, v6, v7, d1, d2, d3, d4, d5, d6, d7, p1, p2, p3, p4, p5, p6, p7, by cases args; simp_all, rfl, by simp, h1, h2, h3, h4, h5, h6, h7⟩
end
end Go

