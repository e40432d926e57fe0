/-
  What is proved: append onto a slice without elements and without room, as a step of a chain.
-/
import Derived.Test.YtdminglglapnlaaM6
import Derived.Test.YtdminglglapnlaaM11
import Derived.Test.YtdminglglapnlaaM14
import Derived.Test.YtdminglglapnlaaM5
import Derived.Test.YtdminglglapnlaaM13
import Derived.Test.YtdminglglapnlaaM7
import Derived.Test.YtdminglglapnlaaM2
import Derived.Test.YtdminglglapnlaaM8
import Derived.Test.YtdminglglapnlaaM9
set_option linter.all false
namespace Go
open Go.RowKit
section
variable {P : Program} {ops : Array Oper} {w0 : World}
theorem wpChain_append_fresh {rest : List Oper} {o : Oper} {a : Act} {Q : Act → World → Prop} {W : World} (hgd : o.guard = none) (s x : Operand) (t : TypeId)
    (ho : o.op = .call { callee := .builtin .append, args := #[s, x], argTypes := #[t, t] })
    (e : TypeId) (z : Value) (size bytes : Nat) (ht : P.underlying t = some (.slice e)) (hi : P.knows e z size bytes) (hzs : z.cells.size = size) (hsz : 0 < size)
    (A : Option Addr) (hs : a.eval s = .slice A 0 0) (xv : Value) (hx : a.eval x = xv) (m : Nat) (news : List Value) (hsrc : ∀ W0, W.grows W0 → SrcAt W0 xv m size news) (h0 : 0 < m) (h63 : m ≤ maxLen) (hbytes : m * bytes ≤ 140737488355328)
    (h : ∀ (W0 : World) cap xs, W.grows W0 → m ≤ cap → cap ≤ maxLen → xs.size = cap * size → xs.toList.take (m * size) = news → wpChain P ops w0 Q rest (a.put o.dst (.slice (some ⟨W0.heap.size, 0, none⟩) m cap)) (W0.drew.alloc (.cells xs e))) :
    wpChain P ops w0 Q (o :: rest) a W := by
  intro W0 hg hg0
  rw [if_pos (by simp [Region.wanted, hgd])]
  obtain ⟨cap, xs, hr, h2, h3, h4, h5⟩ := run_append_fresh (P := P) W0 t o.type e z size bytes ht hi hzs hsz A xv m news (hsrc W0 hg) h0 h63 hbytes
  unfold Oper.goesO execOp
  simp only [ho, resolve, invoke, builtin, Sem.run_bind, Sem.run_pure, Result.andThen_ok, List.map_toArray, List.map_cons, List.map_nil, hs, hx, hr]
  exact ⟨hg0.trans ((World.grows.refl _).drew.alloc _), h W0 cap xs hg h2 h3 h4 h5⟩
end
end Go

/-
  What is proved: a register as new memory (44): its marks, its values and its costs lie in rows of the call's own.
-/
namespace Go.Proofs.Ytdminglglapnlaa
open Go.RowKit
attribute [local irreducible] Go.wpCalm

theorem el65 : Try.prog.knows 65 (.agg #[.int .i64 0, .slice none 0 0]) 2 32 := Program.knows_of (by kernel_rfl)
def valL (n : Nat) (f : Nat → Int) : List Value := tableL n 1 (fun i _ => .int .i64 (f i))
/-- k marks of a register in a row of the call's own, each with its values in a row of its own -/
structure MarksOwn (base : Nat) (W : World) (mv : Value) (k nc : Nat) (who : Nat → Int) (row : Nat → Value) (val : Nat → Nat → Int) : Prop where
  row' : W.ownsRow base 65 2 mv k (tableL k 2 (mcell who row))
  val' : ∀ m, m < k → W.ownsRow base 3 1 (row m) nc (valL nc (val m))
  apart : ∀ m m', m < m' → m' < k → ∀ b, (row m).ownBlock = some b → (row m').ownBlock ≠ some b
  below : ∀ m, m < k → ∀ b, (row m).ownBlock = some b → b < W.heap.size
theorem valL_slice {W : World} {base : Nat} {v : Value} {n : Nat} {f : Nat → Int} (h : W.ownsRow base 3 1 v n (valL n f)) : IntsAt W v n f := h.sliceAt fun i j hi hj => tableL_get _ hi hj
section
variable {base : Nat} {W W' : World} {mv : Value} {k nc : Nat} {who : Nat → Int} {row : Nat → Value} {val : Nat → Nat → Int}
theorem MarksOwn.grow (h : MarksOwn base W mv k nc who row val) (g : W.grows W') : MarksOwn base W' mv k nc who row val :=
  ⟨h.row'.grow g, fun m hm => (h.val' m hm).grow g, h.apart, fun m hm b hb => Nat.lt_of_lt_of_le (h.below m hm b hb) g.size⟩
theorem MarksOwn.zero (W : World) (base nc : Nat) (who : Nat → Int) (val : Nat → Nat → Int) : MarksOwn base W (.slice none 0 0) 0 nc who (fun _ => .slice none 0 0) val :=
  ⟨World.ownsRow_nil _ _ _ _, fun m hm => absurd hm (Nat.not_lt_zero _), fun _ _ _ h => absurd h (Nat.not_lt_zero _), fun m hm => absurd hm (Nat.not_lt_zero _)⟩
theorem mark_cells (f : Int) (u : Value) (hu : u.oneCell' = true) : ∀ x ∈ tableL 1 2 (mcell (fun _ => f) (fun _ => u)), x.oneCell' = true := by
  intro x hx
  have : tableL 1 2 (mcell (fun _ => f) (fun _ => u)) = [.int .i64 f, u] := rfl
  rw [this] at hx
  simp at hx
  rcases hx with rfl | rfl
  · rfl
  · exact hu
theorem mark_slice (w : World) (f : Int) (u : Value) (t b : Nat) (hb : b = w.heap.size) : SliceAt (w.alloc (.cells #[.int .i64 f, u] t)) (.slice (some ⟨b, 0, none⟩) 1 1) 1 2 (mcell (fun _ => f) (fun _ => u)) := by
  subst hb
  refine ⟨_, _, rfl, by omega, by unfold maxLen; omega, fun i j hi hj => ⟨_, _, rfl, ?_⟩⟩
  have hi0 : i = 0 := by omega
  subst hi0
  have hj0 : j = 0 ∨ j = 1 := by omega
  rcases hj0 with rfl | rfl <;> simp [go_sem, mcell]
/-- a mark more -/
theorem MarksOwn.push (h : MarksOwn base W mv k nc who row val) {v u : Value} (hown : W'.ownsRow base 65 2 v (k + 1) (tableL k 2 (mcell who row) ++ tableL 1 2 (mcell (fun _ => who k) (fun _ => u)))) (g : W.grownBy W' mv.ownBlock)
    (hu : W.ownsRow base 3 1 u nc (valL nc (val k))) (hnew : ∀ m, m < k → ∀ b, (row m).ownBlock = some b → u.ownBlock ≠ some b) :
    MarksOwn base W' v (k + 1) nc who (fun m => if m < k then row m else u) val := by
  refine ⟨?_, fun m hm => ?_, fun m m' hmm hm' b hb => ?_, fun m hm b hb => ?_⟩
  · have e : tableL (k + 1) 2 (mcell who (fun m => if m < k then row m else u)) = tableL k 2 (mcell who row) ++ tableL 1 2 (mcell (fun _ => who k) (fun _ => u)) := by
      rw [tableL_snoc]
      congr 1
      · exact tableL_congr (fun i j hi hj => by unfold mcell; dsimp only; rw [if_pos hi]) (by omega)
      · show [mcell _ _ k 0, mcell _ _ k 1] = [mcell _ _ 0 0, mcell _ _ 0 1]
        simp [mcell]
    rw [e]
    exact hown
  · try dsimp only
    by_cases e : m < k
    · rw [if_pos e]; exact (h.val' m e).other h.row' (by decide) g
    · have : m = k := by omega
      subst this
      rw [if_neg e]; exact hu.other h.row' (by decide) g
  · try dsimp only at hb ⊢
    rw [if_pos (by omega)] at hb
    by_cases e : m' < k
    · rw [if_pos e]; exact h.apart m m' hmm e b hb
    · rw [if_neg e]; exact hnew m (by omega) b hb
  · try dsimp only at hb
    have gs := g.size
    split at hb
    · have := h.below m (by assumption) b hb; omega
    · have := (hu.lt b hb).2; omega
end
theorem heap_by' {W W' : World} {k : Nat} {c : Array Value} {t : TypeId} (h : W.heap[k]? = some (.cells c t)) {base e size : Nat} {v : Value} {n : Nat} {xs : List Value} (ho : W.ownsRow base e size v n xs) (he : e ≠ t) (g : W.grownBy W' v.ownBlock) : W'.heap[k]? = some (.cells c t) := by
  rw [g.block k (World.lt_of_block h) (fun e' => row_block ho h he k e'.symm rfl)]
  exact h
/-- a box is written -/
theorem MarksOwn.set {base : Nat} {W : World} {mv : Value} {k nc : Nat} {who : Nat → Int} {row : Nat → Value} {val : Nat → Nat → Int} (h : MarksOwn base W mv k nc who row val) {b : Nat} {c : Array Value} {t : TypeId} (hb : W.heap[b]? = some (.cells c t)) (h1 : t ≠ 65) (h2 : t ≠ 3) (i : Nat) (x : Value) : MarksOwn base (W.setCell ⟨b, i, none⟩ x) mv k nc who row val :=
  ⟨ownsRow_setCell_other h.row' (fun e => row_block h.row' hb (Ne.symm h1) _ e rfl) _, fun m hm => ownsRow_setCell_other (h.val' m hm) (fun e => row_block (h.val' m hm) hb (Ne.symm h2) _ e rfl) _, h.apart, fun m hm b hb => by simpa using h.below m hm b hb⟩
/-- a register in rows of the call's own -/
def RegOwn (base : Nat) (W : World) (mv cv : Value) (r : Reg) (row : Nat → Value) : Prop := MarksOwn base W mv r.nm r.nc r.who row r.val ∧ W.ownsRow base 2 1 cv r.nc (valL r.nc r.cost)
theorem RegOwn.at' {base : Nat} {W : World} {mv cv : Value} {r : Reg} {row : Nat → Value} (h : RegOwn base W mv cv r row) (hr : ∀ m, m < r.nm → r.nv m = r.nc) : RegAt W (.agg #[mv, cv]) r :=
  ⟨mv, cv, row, rfl, h.1.row'.sliceAt fun i j hi hj => tableL_get _ hi hj, h.2.sliceAt fun i j hi hj => tableL_get _ hi hj, fun m hm => by rw [hr m hm]; exact valL_slice (h.1.val' m hm)⟩
theorem ints_cells (n : Nat) (f : Nat → Int) : ∀ u ∈ tableL n 1 (fun i _ => Value.int .i64 (f i)), u.oneCell' = true := by
  intro u hu
  obtain ⟨k, -, rfl⟩ := List.mem_map.1 hu
  rfl
theorem src_ints {w : World} {v : Value} {n : Nat} {f : Nat → Int} (h : IntsAt w v n f) : SrcAt w v n 1 (valL n f) := SliceAt.src (by omega) h
set_option maxRecDepth 100000 in
set_option maxHeartbeats 4000000 in
theorem copied_c (w : World) (v : Value) (r : Reg) (hv : RegAt w v r) (hr : r.Ok) :
    Calls Try.prog 44 #[v] w fun e w' => ∃ (ma ca : Option Addr) (mc cc : Nat) (row : Nat → Value), e = .returned (.agg #[.slice ma r.nm mc, .slice ca r.nc cc]) ∧ RegOwn w.heap.size w' (.slice ma r.nm mc) (.slice ca r.nc cc) r row ∧ w.grows w' := by
  obtain ⟨mb, mo, mc, cb, co, cc, rb, ro, rc, rfl, hm1, hm2, hc1, hc2, hR⟩ := hv.ok hr
  have Hcost : Hid (IntsAt w (.slice (some ⟨cb, co, none⟩) r.nc cc) r.nc r.cost) := Lib.hid (by
    obtain ⟨mv, cv, row, he, -, h2, -⟩ := hv
    cases he
    exact h2)
  have HR := Lib.hid hR
  have hr1 := hr.m1
  have hr10 := hr.m10
  have hrc1 := hr.c1
  have hrc8 := hr.c8
  unfold maxLen at hm2 hc2
  clear hR hv hr
  go_enter Try.func44, Try.ntmps44
  go_upto_region 1 with fail
  generalize hV : World.alloc _ _ = V
  have gV : w.grows V := by rw [← hV]; (repeat (first | exact World.grows.refl _ | assumption | refine World.grows.alloc ?_ _ | refine World.grows.plus ?_ _ _ | refine World.grows.drew ?_))
  have qa : V.heap[w.heap.size]? = some (.cells #[.slice (some ⟨mb, mo, none⟩) r.nm mc, .slice (some ⟨cb, co, none⟩) r.nc cc] 25) := by rw [← hV]; exact World.grows.heap_of (by (repeat (first | exact World.grows.refl _ | assumption | refine World.grows.alloc ?_ _ | refine World.grows.plus ?_ _ _ | refine World.grows.drew ?_))) (World.heap_at _ _ _ rfl)
  have qb : V.heap[w.heap.size + 1]? = some (.cells #[.slice none 0 0, .slice none 0 0] 25) := by rw [← hV]; exact World.heap_at _ _ _ (by simp)
  have q10 : V.cell? ⟨w.heap.size, 0, none⟩ = some (.slice (some ⟨mb, mo, none⟩) r.nm mc) := cell_of_heap qa rfl
  have q11 : V.cell? ⟨w.heap.size, 1, none⟩ = some (.slice (some ⟨cb, co, none⟩) r.nc cc) := cell_of_heap qa rfl
  have HZ := Lib.hid gV
  have HA := Lib.hid qa
  have HB := Lib.hid qb
  have hVs : w.heap.size + 2 = V.heap.size := by rw [← hV]; simp
  clear hV gV qa qb
  go_upto_region 2 with (at_builtin; go_loud (refine wpList_append_fresh _ rfl (.tmp 5) (.tmp 7) 23 (by rfl) 2 (.int .i64 0) 1 8 Try.underlying23 el2 (by rfl) (by omega) _ (by rfl) _ (by rfl) r.nc _ (src_ints (Hcost.out.mono (HZ.out.trans (by (repeat (first | exact World.grows.refl _ | assumption | refine World.grows.alloc ?_ _ | refine World.grows.plus ?_ _ _ | refine World.grows.drew ?_)))))) (by omega) (by unfold maxLen; omega) (by omega) ?_; intro cap xs h1 h2 h3 h4; have hC := Lib.hid (ownsRow_of (base := w.heap.size) (World.heap_at _ (.cells xs 2) _ (by simp)) (by omega) h1 h2 h3 h4 (by simp [valL, tableL_length]) : World.ownsRow ((V.alloc (.cells #[] 2)).alloc (.cells xs 2)) w.heap.size 2 1 (.slice (some ⟨V.heap.size + 1, 0, none⟩) r.nc cap) r.nc (valL r.nc r.cost)); clear h3 h4))
  obtain ⟨k3, hk3⟩ : ∃ k, V.heap.size + 1 = k := ⟨_, rfl⟩
  have hX : ((((V.alloc (.cells #[] 2)).alloc (.cells xs 2)).alloc (.cells #[.slice none 0 0, .slice (some ⟨k3, 0, none⟩) r.nc cap] 25)).drew).heap[k3 + 1]? = some (.cells #[.slice none 0 0, .slice (some ⟨k3, 0, none⟩) r.nc cap] 25) := (World.heap_drew _ _).trans (World.heap_at _ _ _ (by simp; omega))
  have hY : V.grows ((((V.alloc (.cells #[] 2)).alloc (.cells xs 2)).alloc (.cells #[.slice none 0 0, .slice (some ⟨k3, 0, none⟩) r.nc cap] 25)).drew) := by (repeat (first | exact World.grows.refl _ | assumption | refine World.grows.alloc ?_ _ | refine World.grows.plus ?_ _ _ | refine World.grows.drew ?_))
  have hC2 := hC.out.grow (w' := (((V.alloc (.cells #[] 2)).alloc (.cells xs 2)).alloc (.cells #[.slice none 0 0, .slice (some ⟨V.heap.size + 1, 0, none⟩) r.nc cap] 25)).drew) (by (repeat (first | exact World.grows.refl _ | assumption | refine World.grows.alloc ?_ _ | refine World.grows.plus ?_ _ _ | refine World.grows.drew ?_)))
  rw [hk3] at hC2 ⊢
  generalize World.drew _ = Y at hX hY hC2 ⊢
  have YA := Lib.hid (hY.heap_of HA.out)
  have YB := Lib.hid (hY.heap_of HB.out)
  have Yg := Lib.hid (HZ.out.trans hY)
  have YX := Lib.hid hX
  have YC := Lib.hid hC2
  have hYs := hY.size
  clear hX hY hC2 hC HA HB HZ q10 q11
  unfold maxLen at h2
  go_wp2
  go_loopw [4] (fun i wr => ∃ (k : Nat) (mv : Value) (row : Nat → Value), k ≤ r.nm ∧ i = .int .i64 k ∧ Hid (MarksOwn w.heap.size wr mv k r.nc r.who row r.val) ∧ Hid (wr.heap[k3 + 1]? = some (.cells #[mv, .slice (some ⟨k3, 0, none⟩) r.nc cap] 25)) ∧ Hid (wr.ownsRow w.heap.size 2 1 (.slice (some ⟨k3, 0, none⟩) r.nc cap) r.nc (valL r.nc r.cost)) ∧
    Hid (wr.heap[w.heap.size]? = some (.cells #[.slice (some ⟨mb, mo, none⟩) r.nm mc, .slice (some ⟨cb, co, none⟩) r.nc cc] 25)) ∧ Hid (wr.heap[w.heap.size + 1]? = some (.cells #[.slice none 0 0, .slice none 0 0] 25)) ∧ Hid (w.grows wr) ∧ w.heap.size + 2 ≤ wr.heap.size) (fun i _ => r.nm - (intOf i).toNat)
  case atStart => exact ⟨0, _, _, by omega, rfl, Lib.hid (MarksOwn.zero _ _ _ _ _), YX, YC, YA, YB, Yg, by omega⟩
  case round =>
    obtain ⟨k, mv, row, hk, rfl, hM, hX, hC, hA, hB, hg, hs⟩ := hrel
    have hk3' : w.heap.size + 2 < k3 + 1 := by omega
    clear hVs hk3 hYs
    obtain ⟨ma, mcap, rfl, -, -⟩ := row_form hM.out.row'
    have q10 : wr.cell? ⟨w.heap.size, 0, none⟩ = some (.slice (some ⟨mb, mo, none⟩) r.nm mc) := cell_of_heap hA.out rfl
    have x0 : wr.cell? ⟨k3 + 1, 0, none⟩ = some (.slice ma k mcap) := cell_of_heap hX.out rfl
    by_cases hlt : k < r.nm
    · have d0 := hg.out.cell_of (HR.out.who k hlt)
      have d1 := hg.out.cell_of (HR.out.row k hlt)
      have hkI : (k : Int) < r.nm := by omega
      have Hv := Lib.hid ((HR.out.ints' hlt).mono hg.out)
      obtain ⟨c1, c2⟩ := HR.out.cap k hlt
      unfold maxLen at c2
      go_wp2
      (refine wp_region_chain 18 [8, 15, 16, 17] (by kernel_rfl) (by kernel_rfl) (by decide) ?_; simp only [without, only, withNo, List.take_succ_cons, List.take_zero, List.drop_succ_cons, List.drop_zero, List.take_nil, List.drop_nil, Nat.reduceAdd, Nat.reduceSub, List.filter, List.contains_cons, List.contains_nil, Nat.reduceBEq, Bool.or_false, Bool.false_or, Bool.true_or, Bool.or_true, Bool.or_self, Bool.not_true, Bool.not_false, List.map_cons, List.map_nil]; (repeat (refine wpCalm_step (fun K hK => ?_); go_simp; first | (refine hK _ ?_; clear hK K) | (apply Exists.intro; refine ⟨fun n' x' => ?_, hK _ ?_⟩; (fail); clear hK K))); refine wpCalm_nil ?_)
      (refine wpChain_step (fun K hK nc xc => ?_); go_simp)
      refine ⟨by (repeat (first | exact World.grows.refl _ | assumption | refine World.grows.alloc ?_ _ | refine World.grows.plus ?_ _ _ | refine World.grows.drew ?_)), hK _ _ ?_⟩
      clear hK K
      refine wpChain_append_fresh rfl (.tmp 25) (.tmp 31) 29 (by rfl) 3 (.int .i64 0) 1 8 Try.underlying29 el3 (by rfl) (by omega) _ (by rfl) _ (by rfl) r.nc _ (fun W0 g => src_ints (Hv.out.mono (World.grows.trans (by (repeat (first | exact World.grows.refl _ | assumption | refine World.grows.alloc ?_ _ | refine World.grows.plus ?_ _ _ | refine World.grows.drew ?_))) g))) (by omega) (by unfold maxLen; omega) (by omega) ?_
      intro W0 cap2 xs2 hg2 e1 e2 e3 e4
      have hW0 : wr.grows W0 := World.grows.trans (by (repeat (first | exact World.grows.refl _ | assumption | refine World.grows.alloc ?_ _ | refine World.grows.plus ?_ _ _ | refine World.grows.drew ?_))) hg2
      have hC2 := Lib.hid (ownsRow_of (base := w.heap.size) (World.heap_at W0.drew (.cells xs2 3) _ rfl) (by have := hW0.size; simp; omega) e1 e2 e3 e4 (by simp [valL, tableL_length]) : World.ownsRow (W0.drew.alloc (.cells xs2 3)) w.heap.size 3 1 (.slice (some ⟨W0.drew.heap.size, 0, none⟩) r.nc cap2) r.nc (valL r.nc (r.val k)))
      have hW2 : wr.grows (W0.drew.alloc (.cells xs2 3)) := World.grows.trans hW0 (by (repeat (first | exact World.grows.refl _ | assumption | refine World.grows.alloc ?_ _ | refine World.grows.plus ?_ _ _ | refine World.grows.drew ?_)))
      have hb2 : wr.heap.size ≤ W0.heap.size := hW0.size
      clear hg2 e1 e3 e4 hW0
      generalize W0.drew.alloc (.cells xs2 3) = W2 at hC2 hW2 ⊢
      (refine wpChain_step (fun K hK nc xc => ?_); go_simp)
      refine (mark_s _ _ _ _ _).mono ?_
      rintro e W3 ⟨rfl, hg3⟩
      refine ⟨_, rfl, hg3, hK _ _ ?_⟩
      clear hK K
      have hW23 : W2.grows W3 := World.grows.trans (by (repeat (first | exact World.grows.refl _ | assumption | refine World.grows.alloc ?_ _ | refine World.grows.plus ?_ _ _ | refine World.grows.drew ?_))) hg3
      clear hg3
      (refine wpChain_step (fun K hK nc xc => ?_); go_simp)
      refine ⟨by (repeat (first | exact World.grows.refl _ | assumption | refine World.grows.alloc ?_ _ | refine World.grows.plus ?_ _ _ | refine World.grows.drew ?_)), hK _ _ ?_⟩
      clear hK K
      (refine wpChain_nil (fun nc xc => ?_))
      rename_i n1 x1 n2 x2
      have e43 : SliceAt (World.plus (World.alloc (W3.plus n2 x2) (.cells #[.int .i64 (r.who k), .slice (some ⟨W0.heap.size, 0, none⟩) r.nc cap2] 65)) nc xc) (.slice (some ⟨W3.heap.size + n2, 0, none⟩) 1 1) 1 2 (mcell (fun _ => r.who k) (fun _ => .slice (some ⟨W0.heap.size, 0, none⟩) r.nc cap2)) := SliceAt.mono (mark_slice (W3.plus n2 x2) (r.who k) _ 65 _ (by simp)) (World.grows_plus _ _ _)
      have hW4 : wr.grows (World.plus (World.alloc (W3.plus n2 x2) (.cells #[.int .i64 (r.who k), .slice (some ⟨W0.heap.size, 0, none⟩) r.nc cap2] 65)) nc xc) := World.grows.trans (hW2.trans hW23) (by (repeat (first | exact World.grows.refl _ | assumption | refine World.grows.alloc ?_ _ | refine World.grows.plus ?_ _ _ | refine World.grows.drew ?_)))
      have hC4 := hC2.out.grow (World.grows.trans hW23 (show W3.grows (World.plus (World.alloc (W3.plus n2 x2) (.cells #[.int .i64 (r.who k), .slice (some ⟨W0.heap.size, 0, none⟩) r.nc cap2] 65)) nc xc) by (repeat (first | exact World.grows.refl _ | assumption | refine World.grows.alloc ?_ _ | refine World.grows.plus ?_ _ _ | refine World.grows.drew ?_))))
      obtain ⟨p2, hp2⟩ : ∃ p, W0.heap.size = p := ⟨_, rfl⟩
      obtain ⟨p3, hp3⟩ : ∃ p, W3.heap.size + n2 = p := ⟨_, rfl⟩
      have hdr : W0.drew.heap.size = p2 := hp2
      rw [hdr] at hC4
      rw [hp2] at hb2
      simp only [hp2, hp3] at e43 hW4 hC4 ⊢
      generalize World.plus (World.alloc _ _) _ _ = W4 at e43 hW4 hC4 ⊢
      clear hp2 hp3 hdr hC2 hW2 hW23
      have M4 := Lib.hid (hM.out.grow hW4)
      have X4 := Lib.hid (hW4.heap_of hX.out)
      have C4 := Lib.hid (hC.out.grow hW4)
      have A4 := Lib.hid (hW4.heap_of hA.out)
      have B4 := Lib.hid (hW4.heap_of hB.out)
      have G4 := Lib.hid (hg.out.trans hW4)
      have U4 := Lib.hid hC4
      have hs4 := hW4.size
      have hnew : Hid (∀ m, m < k → ∀ b, (row m).ownBlock = some b → (Value.slice (some ⟨p2, 0, none⟩) r.nc cap2).ownBlock ≠ some b) := Lib.hid fun m hm b hb e => by
        have h1 := hM.out.below m hm b hb
        simp only [Value.ownBlock, Option.some.injEq] at e
        omega
      clear hM hX hC hA hB hg hW4 hC4 q10 x0 d0 d1
      go_wp2_with (at_builtin; go_loud (refine wpList_append_r _ rfl _ _ _ (by rfl) w.heap.size 65 (.agg #[.int .i64 0, .slice none 0 0]) 2 32 Try.underlying22 el65 (by rfl) (by omega) _ k _ (by rfl) M4.out.row' _ (by rfl) 1 _ (SliceAt.src (by omega) e43) (mark_cells _ _ rfl) (by unfold maxLen; omega) (by omega) (by omega) ?_; intro v9 w9 hown hgb; obtain ⟨va, vc, rfl, -, -⟩ := row_form hown; have M9 := Lib.hid (M4.out.push hown hgb U4.out hnew.out); have X9 := Lib.hid (heap_by' X4.out M4.out.row' (by decide) hgb); have A9 := Lib.hid (heap_by' A4.out M4.out.row' (by decide) hgb); have B9 := Lib.hid (heap_by' B4.out M4.out.row' (by decide) hgb); have C9 := Lib.hid (C4.out.other M4.out.row' (by decide) hgb); have G9 := Lib.hid (hgb.grows M4.out.row' G4.out (Nat.le_refl _)); have hs9 := hgb.size; have y0 : w9.cell? ⟨k3 + 1, 0, none⟩ = some (.slice ma k mcap) := cell_of_heap X9.out rfl; have yf := frozen_of_heap X9.out 0; clear hown hgb))
      have M8 := Lib.hid (M9.out.set X9.out (by decide) (by decide) 0 (.slice va (k + 1) vc))
      have X8 := Lib.hid (store_of_heap X9.out 0 (.slice va (k + 1) vc))
      have C8 := Lib.hid (ownsRow_setCell_other (a := ⟨k3 + 1, 0, none⟩) C9.out (fun e => row_block C9.out X9.out (by decide) _ e rfl) (.slice va (k + 1) vc))
      have A8 := Lib.hid ((World.heap_setCell_map w9 ⟨k3 + 1, 0, none⟩ (.slice va (k + 1) vc) w.heap.size (by dsimp only; omega)).trans A9.out)
      have B8 := Lib.hid ((World.heap_setCell_map w9 ⟨k3 + 1, 0, none⟩ (.slice va (k + 1) vc) (w.heap.size + 1) (by dsimp only; omega)).trans B9.out)
      have G8 := Lib.hid (G9.out.setCell (p := ⟨k3 + 1, 0, none⟩) (by dsimp only; omega) (.slice va (k + 1) vc))
      go_roundw
      case rel => exact ⟨k + 1, _, _, by omega, by go_num, M8, X8, C8, A8, B8, G8, by simp; omega⟩
      case measure => simp [intOf]; omega
    · have hke : k = r.nm := by omega
      have o0 : wr.cell? ⟨w.heap.size + 1, 0, none⟩ = some (.slice none 0 0) := cell_of_heap hB.out rfl
      have o1 : wr.cell? ⟨w.heap.size + 1, 1, none⟩ = some (.slice none 0 0) := cell_of_heap hB.out rfl
      have of0 := frozen_of_heap hB.out 0
      have of1 := frozen_of_heap hB.out 1
      have x1 : wr.cell? ⟨k3 + 1, 1, none⟩ = some (.slice (some ⟨k3, 0, none⟩) r.nc cap) := cell_of_heap hX.out rfl
      subst hke
      go_wp2
      have m8 := (hM.out.set hB.out (by decide) (by decide) 0 (.slice ma r.nm mcap))
      have b8 := store_of_heap hB.out 0 (.slice ma r.nm mcap)
      have c8 := ownsRow_setCell_other (a := ⟨w.heap.size + 1, 0, none⟩) hC.out (fun e => row_block hC.out hB.out (by decide) _ e rfl) (.slice ma r.nm mcap)
      have m9 := m8.set b8 (by decide) (by decide) 1 (.slice (some ⟨k3, 0, none⟩) r.nc cap)
      have b9 := store_of_heap b8 1 (.slice (some ⟨k3, 0, none⟩) r.nc cap)
      have c9 := ownsRow_setCell_other (a := ⟨w.heap.size + 1, 1, none⟩) c8 (fun e => row_block c8 b8 (by decide) _ e rfl) (.slice (some ⟨k3, 0, none⟩) r.nc cap)
      have g9 : w.grows _ := (hg.out.setCell (p := ⟨w.heap.size + 1, 0, none⟩) (by simp) (.slice ma r.nm mcap)).setCell (p := ⟨w.heap.size + 1, 1, none⟩) (by simp) (.slice (some ⟨k3, 0, none⟩) r.nc cap)
      obtain ⟨F, hF⟩ : ∃ F, F = ((wr.setCell ⟨w.heap.size + 1, 0, none⟩ (.slice ma r.nm mcap)).setCell ⟨w.heap.size + 1, 1, none⟩ (.slice (some ⟨k3, 0, none⟩) r.nc cap)) := ⟨_, rfl⟩
      rw [← hF] at m9 b9 c9 g9 ⊢
      have r0 : F.cell? ⟨w.heap.size + 1, 0, none⟩ = some (.slice ma r.nm mcap) := cell_of_heap b9 rfl
      have r1 : F.cell? ⟨w.heap.size + 1, 1, none⟩ = some (.slice (some ⟨k3, 0, none⟩) r.nc cap) := cell_of_heap b9 rfl
      refine bodyPost_ret (v := .agg #[.slice ma r.nm mcap, .slice (some ⟨k3, 0, none⟩) r.nc cap]) (by simp [results, Try.results44, go_sem, r0, r1]) rfl ?_
      exact ⟨_, _, _, _, _, rfl, ⟨m9, c9⟩, g9⟩
end Go.Proofs.Ytdminglglapnlaa

/-
  What is proved: plain words: a set with twins in it costs the utmost.
-/
namespace Go.Proofs.Ytdminglglapnlaa

theorem Reg.twin_cst {r : Reg} (hr : r.Ok) {i k : Nat} (hi : i < r.nm) (hk : k < r.nm) (ht : r.twin i k = true) : ∀ s, s < 2 ^ r.nm → s.testBit i = true → s.testBit k = true → 1099511627776 ≤ r.cst s := by
  obtain ⟨hw, hv⟩ := (r.twin_iff i k).1 ht
  intro s
  induction s using Nat.strongRecOn with
  | _ s ih =>
    intro hs h1 h2
    have hm : r.mixed s = true := (r.mixed_iff s).2 ⟨i, k, hi, hk, h1, h2, hw⟩
    rw [r.cst_eq hs, if_pos hm, r.le_looksR]
    refine ⟨by omega, fun f hf hp => ?_⟩
    have hb := hr.val i f hi hf
    obtain ⟨v, hvv⟩ : ∃ v : Nat, r.val i f = (v : Int) := ⟨(r.val i f).toNat, by omega⟩
    have hv10 : v < 10 := by omega
    have hb1 : (r.part s f (v : Nat)).testBit i = true := by rw [r.testBit_part]; simp [hi, h1, hvv]
    have hb2 : (r.part s f (v : Nat)).testBit k = true := by rw [r.testBit_part]; simp [hk, h2, ← hv f hf, hvv]
    have h3 := ih _ (r.part_less hs hp hv10) (r.part_lt s f (v : Nat)) hb1 hb2
    have h4 := r.le_mostR r.cst s f hv10
    have h5 := hr.cost f hf
    omega
theorem Reg.twins_cst {r : Reg} (hr : r.Ok) (hn : ¬ r.NoTwins) : 1099511627776 ≤ r.cst (2 ^ r.nm - 1) := by
  unfold Reg.NoTwins at hn
  have hn' : ∃ i k, i < k ∧ k < r.nm ∧ r.twin i k = true := by
    apply Classical.byContradiction
    intro h
    refine hn fun i k h1 h2 => ?_
    cases ht : r.twin i k with
    | false => rfl
    | true => exact absurd ⟨i, k, h1, h2, ht⟩ h
  obtain ⟨i, k, h1, h2, ht⟩ := hn'
  have hpos := Nat.two_pow_pos r.nm
  refine Reg.twin_cst hr (by omega) h2 ht _ (by omega) ?_ ?_
  · rw [Nat.testBit_two_pow_sub_one]; simp; omega
  · rw [Nat.testBit_two_pow_sub_one]; simp; omega
end Go.Proofs.Ytdminglglapnlaa

/-
  What is proved: plain words for MarkMore and MarkTurned: a register whose marks lie in another one's, by features that cost no more, has no twins if that one has none, and costs no more, as a tree and as features; costs that are as many times as great.
-/
namespace Go.Proofs.Ytdminglglapnlaa

/-- the marks of r' are marks of r (by u), its features those of r (by g), which cost no more -/
structure Reg.Lies (r' r : Reg) (u g : Nat → Nat) : Prop where
  lt : ∀ a, a < r'.nm → u a < r.nm
  who : ∀ a b, a < r'.nm → b < r'.nm → r.who (u a) = r.who (u b) → r'.who a = r'.who b
  val : ∀ a f, a < r'.nm → f < r.nc → r'.val a (g f) = r.val (u a) f
  glt : ∀ f, f < r.nc → g f < r'.nc
  inj : ∀ f f', f < r.nc → f' < r.nc → g f = g f' → f = f'
  cost : ∀ f, f < r.nc → r'.cost (g f) ≤ r.cost f
theorem Reg.Lies.noTw {r' r : Reg} {u g : Nat → Nat} (h : r'.Lies r u g) (hn : r.NoTwins) : r'.NoTwins := by
  intro i k hik hk
  cases ht : r'.twin i k with
  | false => rfl
  | true =>
    obtain ⟨h1, h2⟩ := (r'.twin_iff i k).1 ht
    have hne : r.who (u i) ≠ r.who (u k) := fun e => h1 (h.who i k (by omega) hk e)
    have htw : r.twin (u i) (u k) = true := (r.twin_iff _ _).2 ⟨hne, fun f hf => by
      rw [← h.val i f (by omega) hf, ← h.val k f hk hf]
      exact h2 _ (h.glt f hf)⟩
    rcases Nat.lt_trichotomy (u i) (u k) with hl | hl | hl
    · rw [hn _ _ hl (h.lt k hk)] at htw; cases htw
    · exact absurd (by rw [hl]) hne
    · rw [r.twin_comm, hn _ _ hl (h.lt i (by omega))] at htw; cases htw
theorem Reg.Lies.cst {r' r : Reg} {u g : Nat → Nat} (h : r'.Lies r u g) (hr : r.Ok) : r'.cst (2 ^ r'.nm - 1) ≤ r.cst (2 ^ r.nm - 1) := by
  have p1 := Nat.two_pow_pos r.nm
  have p2 := Nat.two_pow_pos r'.nm
  refine Reg.Sub.cst (u := u) (g := g) ⟨h.glt, h.cost⟩ (fun f hf => by have := hr.cost f hf; omega) (2 ^ r.nm) _ _ (by omega) (by omega) (by omega) ⟨fun a ha _ => ⟨h.lt a ha, all_bit (h.lt a ha)⟩, fun a b ha hb _ _ => h.who a b ha hb, fun a f ha _ hf => h.val a f ha hf⟩
theorem bitsL_nodup (n s : Nat) : (bitsL n s).Nodup := (List.nodup_range).filter _
theorem map_nodup {g : Nat → Nat} : ∀ (l : List Nat), l.Nodup → (∀ a ∈ l, ∀ b ∈ l, g a = g b → a = b) → (l.map g).Nodup
  | [], _, _ => List.nodup_nil
  | x :: l, h, hi => by
    rw [List.nodup_cons] at h
    rw [List.map_cons, List.nodup_cons]
    refine ⟨fun hm => ?_, map_nodup l h.2 fun a ha b hb => hi a (List.mem_cons_of_mem _ ha) b (List.mem_cons_of_mem _ hb)⟩
    obtain ⟨y, hy, e⟩ := List.mem_map.1 hm
    have := hi y (List.mem_cons_of_mem _ hy) x (List.mem_cons_self ..) e
    exact h.1 (this ▸ hy)
theorem Reg.price_perm (r : Reg) {l l' : List Nat} (h : l.Perm l') : r.price l = r.price l' := by
  induction h with
  | nil => rfl
  | cons x _ ih => simp only [Reg.price, ih]
  | swap x y l => simp only [Reg.price]; omega
  | trans _ _ ih1 ih2 => exact ih1.trans ih2
theorem price_map_le {r' r : Reg} {g : Nat → Nat} : ∀ (l : List Nat), (∀ f ∈ l, r'.cost (g f) ≤ r.cost f) → r'.price (l.map g) ≤ r.price l
  | [], _ => Int.le_refl _
  | f :: l, h => by
    have h1 := h f (List.mem_cons_self ..)
    have h2 := price_map_le l fun f hf => h f (List.mem_cons_of_mem _ hf)
    simp only [List.map_cons, Reg.price]
    omega
/-- those of a register's features that stand for some features of the other one -/
theorem Reg.Lies.bits {r' r : Reg} {u g : Nat → Nat} (h : r'.Lies r u g) (h8 : r.nc ≤ 8) (h8' : r'.nc ≤ 8) {s : Nat} (hs : s < 2 ^ r.nc) : ∃ s', s' < 2 ^ r'.nc ∧ (bitsL 8 s').Perm ((bitsL 8 s).map g) := by
  have hm : ∀ f ∈ bitsL 8 s, f < r.nc := fun f hf => by rw [bitsL_of_le hs h8] at hf; exact (mem_bitsL.1 hf).1
  refine ⟨setTo (fun f => ((bitsL 8 s).map g).contains f) r'.nc, setTo_lt _ _, ?_⟩
  refine (List.perm_ext_iff_of_nodup (bitsL_nodup _ _) (map_nodup _ (bitsL_nodup _ _) fun a ha b hb => h.inj a b (hm a ha) (hm b hb))).2 fun f => ?_
  rw [mem_bitsL, testBit_setTo]
  constructor
  · rintro ⟨_, h2⟩
    simp only [Bool.and_eq_true, decide_eq_true_eq] at h2
    exact List.contains_iff_mem.1 h2.2
  · intro hf
    obtain ⟨x, hx, e⟩ := List.mem_map.1 hf
    have hlt : f < r'.nc := by rw [← e]; exact h.glt x (hm x hx)
    refine ⟨by omega, ?_⟩
    simp only [Bool.and_eq_true, decide_eq_true_eq]
    exact ⟨hlt, List.contains_iff_mem.2 hf⟩
theorem Reg.Lies.fix {r' r : Reg} {u g : Nat → Nat} (h : r'.Lies r u g) (h8 : r.nc ≤ 8) (h8' : r'.nc ≤ 8) (hn : r.NoTwins) : r'.price (bitsL 8 r'.fix) ≤ r.price (bitsL 8 r.fix) := by
  obtain ⟨f1, f2, f3⟩ := Reg.fix_spec h8 hn
  obtain ⟨g1, g2, g3⟩ := Reg.fix_spec h8' (h.noTw hn)
  have hm : ∀ f ∈ bitsL 8 r.fix, f < r.nc := fun f hf => by rw [bitsL_of_le f1 h8] at hf; exact (mem_bitsL.1 hf).1
  obtain ⟨s', h1, h2⟩ := h.bits h8 h8' f1
  have ht : r'.tellB (bitsL 8 s') = true := by
    rw [r'.tellB_iff]
    intro a b hba ha
    have hT := r.tellB_tells (bitsL 8 r.fix) (2 ^ r.nm - 1) f2
    by_cases hw : r'.who a = r'.who b
    · exact .inl hw
    · have hne : r.who (u a) ≠ r.who (u b) := fun e => hw (h.who a b ha (by omega) e)
      obtain ⟨f, hf, hv⟩ := hT (u a) (u b) (h.lt a ha) (h.lt b (by omega)) (all_bit (h.lt a ha)) (all_bit (h.lt b (by omega))) hne
      refine .inr ⟨g f, h2.mem_iff.2 (List.mem_map.2 ⟨f, hf, rfl⟩), ?_⟩
      rw [h.val a f ha (hm f hf), h.val b f (by omega) (hm f hf)]
      exact hv
  have h3 := (Reg.befB_false (g3 s' h1 ht)).1
  have h4 := r'.price_perm h2
  have h5 := price_map_le (r' := r') (r := r) (g := g) (bitsL 8 r.fix) fun f hf => h.cost f (hm f hf)
  omega
/-- what Best and Fixed answer of a register that lies in another one -/
theorem Reg.Lies.all {r' r : Reg} {u g : Nat → Nat} (h : r'.Lies r u g) (hr : r.Ok) (hr' : r'.Ok) (hs : r.solvE = 0) : r'.solvE = 0 ∧ r'.cst (2 ^ r'.nm - 1) ≤ r.cst (2 ^ r.nm - 1) ∧ r'.fixC ≤ r.fixC := by
  obtain ⟨h1, h2⟩ := Reg.solvE_zero.1 hs
  have h3 := Reg.solvE_zero.2 ⟨hr'.check, h.noTw h2⟩
  refine ⟨h3, h.cst hr, ?_⟩
  unfold Reg.fixC
  rw [if_pos h3, if_pos hs]
  exact h.fix hr.c8 hr'.c8 h2
theorem Reg.solvE_two {r : Reg} (hr : r.Ok) : r.solvE = 0 ∨ r.solvE = 24 := by
  by_cases hn : r.NoTwins
  · exact .inl (Reg.solvE_zero.2 ⟨hr.check, hn⟩)
  · exact .inr (Reg.solvE_tw hr.check hn)
/-- two registers that lie in each other -/
theorem Reg.Lies.both {r' r : Reg} {u g u' g' : Nat → Nat} (h : r'.Lies r u g) (h' : r.Lies r' u' g') (hr : r.Ok) (hr' : r'.Ok) : r'.solvE = r.solvE ∧ r'.cst (2 ^ r'.nm - 1) = r.cst (2 ^ r.nm - 1) ∧ r'.fixC = r.fixC := by
  by_cases hs : r.solvE = 0
  · obtain ⟨h1, h2, h3⟩ := h.all hr hr' hs
    obtain ⟨h4, h5, h6⟩ := h'.all hr' hr h1
    exact ⟨by rw [h1, hs], by omega, by omega⟩
  · have hs' : r'.solvE ≠ 0 := fun e => hs (h'.all hr' hr e).1
    have e1 : r.solvE = 24 := (Reg.solvE_two hr).resolve_left hs
    have e2 : r'.solvE = 24 := (Reg.solvE_two hr').resolve_left hs'
    refine ⟨by rw [e1, e2], ?_, by rw [(Reg.fix_no hs).2.1, (Reg.fix_no hs').2.1]⟩
    have c1 := h.cst hr
    have c2 := h'.cst hr'
    omega

/-! ### costs that are as many times as great -/
def Reg.times (r : Reg) (t : Int) : Reg := { r with cost := fun f => r.cost f * t }
theorem Reg.times_noTw (r : Reg) (t : Int) : (r.times t).NoTwins ↔ r.NoTwins := Iff.rfl
theorem Reg.times_price (r : Reg) (t : Int) : ∀ l, (r.times t).price l = t * r.price l
  | [] => by simp [Reg.price]
  | f :: l => by
    simp only [Reg.price, r.times_price t l]
    show r.cost f * t + t * r.price l = _
    rw [Int.mul_add, Int.mul_comm]
theorem Reg.times_fix {r : Reg} {t : Int} (ht : 0 < t) (h8 : r.nc ≤ 8) (hn : r.NoTwins) : (r.times t).price (bitsL 8 (r.times t).fix) = t * r.price (bitsL 8 r.fix) := by
  obtain ⟨f1, f2, f3⟩ := Reg.fix_spec h8 hn
  obtain ⟨g1, g2, g3⟩ := Reg.fix_spec (r := r.times t) h8 hn
  have h1 := (Reg.befB_false (g3 r.fix f1 f2)).1
  have h2 := (Reg.befB_false (f3 (r.times t).fix g1 g2)).1
  rw [r.times_price] at h1 ⊢
  rw [r.times_price] at h1
  have h3 := Int.mul_le_mul_of_nonneg_left h2 (Int.le_of_lt ht)
  omega
theorem Reg.times_most (r : Reg) {t : Int} (ht : 0 < t) {c c' : Nat → Int} (s f : Nat) : ∀ n, (∀ v : Nat, v < n → c' (r.part s f v) = t * c (r.part s f v)) → (r.times t).mostR c' s f n = t * r.mostR c s f n
  | 0, _ => by simp [Reg.mostR]
  | n + 1, h => by
    have ih := r.times_most ht s f n fun v hv => h v (by omega)
    have h1 := h n (by omega)
    show max ((r.times t).mostR c' s f n) (c' (r.part s f (n : Nat))) = t * max (r.mostR c s f n) (c (r.part s f (n : Nat)))
    rw [ih, h1]
    rcases Int.le_total (r.mostR c s f n) (c (r.part s f (n : Nat))) with hl | hl
    · rw [Int.max_eq_right hl, Int.max_eq_right (Int.mul_le_mul_of_nonneg_left hl (Int.le_of_lt ht))]
    · rw [Int.max_eq_left hl, Int.max_eq_left (Int.mul_le_mul_of_nonneg_left hl (Int.le_of_lt ht))]
theorem Reg.times_cst {r : Reg} {t : Int} (ht : 0 < t) (hr : r.Ok) (hr' : (r.times t).Ok) (hn : r.NoTwins) : ∀ (n s : Nat), s < n → s < 2 ^ r.nm → (r.times t).cst s = t * r.cst s
  | 0, _, h, _ => absurd h (by omega)
  | n + 1, s, h, hs => by
    cases hm : r.mixed s with
    | false =>
      rw [r.cst_not hs hm, (r.times t).cst_not hs hm]; simp
    | true =>
      have ih := fun f v (hp : r.parted s f = true) (hv : v < 10) => Reg.times_cst ht hr hr' hn n (r.part s f (v : Nat)) (by have := r.part_less hs hp hv; omega) (r.part_lt _ _ _)
      have most : ∀ f, r.parted s f = true → (r.times t).mostR (r.times t).cst s f 10 = t * r.mostR r.cst s f 10 := fun f hp => r.times_most ht s f 10 fun v hv => ih f v hp hv
      obtain ⟨f, hf, hp, -, he⟩ := Reg.look_some hr hn hs hm
      obtain ⟨f', hf', hp', -, he'⟩ := Reg.look_some hr' hn hs hm
      have hl : r.cst s = r.looksR r.cst s r.nc := by rw [r.cst_eq hs, if_pos hm]
      have hl' : (r.times t).cst s = (r.times t).looksR (r.times t).cst s r.nc := by rw [(r.times t).cst_eq hs]; exact if_pos hm
      have h1 := (r.looksR_le r.cst s r.nc).2 f' hf' hp'
      have h2 := ((r.times t).looksR_le (r.times t).cst s r.nc).2 f hf hp
      rw [← hl] at h1
      rw [← hl'] at h2
      rw [most f' hp'] at he'
      rw [most f hp] at h2
      have c1 : (r.times t).cost f' = r.cost f' * t := rfl
      have c2 : (r.times t).cost f = r.cost f * t := rfl
      rw [c1] at he'
      rw [c2] at h2
      have h3 := Int.mul_le_mul_of_nonneg_left h1 (Int.le_of_lt ht)
      have e3 : t * (r.cost f' + r.mostR r.cst s f' 10) = r.cost f' * t + t * r.mostR r.cst s f' 10 := by rw [Int.mul_add, Int.mul_comm t (r.cost f')]
      have e4 : t * r.cst s = r.cost f * t + t * r.mostR r.cst s f 10 := by rw [he, Int.mul_add, Int.mul_comm t (r.cost f)]
      omega
theorem Reg.times_all {r : Reg} {t : Int} (ht : 0 < t) (hr : r.Ok) (hr' : (r.times t).Ok) : (r.times t).solvE = r.solvE ∧ (r.solvE = 0 → (r.times t).cst (2 ^ r.nm - 1) = t * r.cst (2 ^ r.nm - 1)) ∧ (r.times t).fixC = t * r.fixC := by
  by_cases hn : r.NoTwins
  · have h1 := Reg.solvE_zero.2 ⟨hr.check, hn⟩
    have h2 : (r.times t).solvE = 0 := Reg.solvE_zero.2 ⟨hr'.check, hn⟩
    refine ⟨by rw [h1, h2], fun _ => Reg.times_cst ht hr hr' hn (2 ^ r.nm) _ (by have := Nat.two_pow_pos r.nm; omega) (by have := Nat.two_pow_pos r.nm; omega), ?_⟩
    unfold Reg.fixC
    rw [if_pos h1, if_pos h2]
    exact Reg.times_fix ht hr.c8 hn
  · have h1 := Reg.solvE_tw hr.check hn
    have h2 : (r.times t).solvE = 24 := Reg.solvE_tw hr'.check hn
    refine ⟨by rw [h1, h2], fun h => absurd (h1.symm.trans h) (by decide), ?_⟩
    rw [(Reg.fix_no (r := r) (by rw [h1]; decide)).2.1, (Reg.fix_no (r := r.times t) (by rw [h2]; decide)).2.1]; simp
end Go.Proofs.Ytdminglglapnlaa

/-
  What is proved: plain words for MarkTurned: a register turned round, with other numbers of makers, lies in the first one, and the first one in it.
-/
namespace Go.Proofs.Ytdminglglapnlaa

theorem turn_eq {n f : Nat} (F : Nat) (hf : f < n) : (f + F) % n = if f + F % n < n then f + F % n else f + F % n - n := by
  have hd : F % n < n := Nat.mod_lt _ (by omega)
  rw [Nat.add_mod, Nat.mod_eq_of_lt hf]
  split
  · rename_i h; exact Nat.mod_eq_of_lt h
  · rename_i h
    rw [Nat.mod_eq_sub_mod (by omega), Nat.mod_eq_of_lt (by omega)]
theorem turn_back {n f : Nat} (F : Nat) (hf : f < n) : ((f + (n - F % n)) % n + F) % n = f := by
  have hd : F % n < n := Nat.mod_lt _ (by omega)
  have h1 : (f + (n - F % n)) % n < n := Nat.mod_lt _ (by omega)
  rw [turn_eq F h1]
  rcases Nat.eq_zero_or_pos (F % n) with h0 | h0
  · have e : (f + (n - F % n)) % n = f := by
      rw [h0, Nat.sub_zero, Nat.add_mod_right, Nat.mod_eq_of_lt hf]
    rw [e, h0]
    split <;> omega
  · have e := turn_eq (n := n) (n - F % n) hf
    rw [Nat.mod_eq_of_lt (show n - F % n < n by omega)] at e
    rw [e]
    split <;> split <;> omega
theorem turn_forth {n f : Nat} (F : Nat) (hf : f < n) : ((f + F) % n + (n - F % n)) % n = f := by
  have hd : F % n < n := Nat.mod_lt _ (by omega)
  have h1 : (f + F) % n < n := Nat.mod_lt _ (by omega)
  rw [turn_eq _ h1]
  have e := turn_eq F hf
  rcases Nat.eq_zero_or_pos (F % n) with h0 | h0
  · have e2 : (n - F % n) % n = 0 := by rw [h0, Nat.sub_zero, Nat.mod_self]
    rw [e2, e, h0]
    split <;> (try split) <;> omega
  · have e2 : (n - F % n) % n = n - F % n := Nat.mod_eq_of_lt (by omega)
    rw [e2, e]
    split <;> split <;> omega
/-- a register with its marks and features turned round, and greater numbers of makers -/
def Reg.turn (r : Reg) (up : Int) (M F : Nat) : Reg where
  nc := r.nc
  cost := fun i => r.cost ((i + F) % r.nc)
  nm := r.nm
  who := fun m => r.who ((m + M) % r.nm) + up
  nv := fun _ => r.nc
  val := fun m i => r.val ((m + M) % r.nm) ((i + F) % r.nc)
theorem Reg.turn_lies (r : Reg) (up : Int) (M F : Nat) : (r.turn up M F).Lies r (fun m => (m + M) % r.nm) (fun f => (f + (r.nc - F % r.nc)) % r.nc) where
  lt := fun a ha => Nat.mod_lt _ (Nat.lt_of_le_of_lt (Nat.zero_le _) ha)
  who := fun a b _ _ h => by show r.who _ + up = r.who _ + up; rw [h]
  val := fun a f _ hf => by show r.val _ ((_ + F) % r.nc) = _; rw [turn_back F hf]
  glt := fun f hf => Nat.mod_lt _ (Nat.lt_of_le_of_lt (Nat.zero_le _) hf)
  inj := fun f f' hf hf' h => by
    have h1 := turn_back F hf
    rw [h, turn_back F hf'] at h1
    exact h1.symm
  cost := fun f hf => by show r.cost ((_ + F) % r.nc) ≤ _; rw [turn_back F hf]; exact Int.le_refl _
theorem Reg.lies_turn (r : Reg) (up : Int) (M F : Nat) : r.Lies (r.turn up M F) (fun m => (m + (r.nm - M % r.nm)) % r.nm) (fun f => (f + F) % r.nc) where
  lt := fun a ha => Nat.mod_lt _ (Nat.lt_of_le_of_lt (Nat.zero_le _) ha)
  who := fun a b ha hb h => by
    have h : r.who (((a + (r.nm - M % r.nm)) % r.nm + M) % r.nm) + up = r.who (((b + (r.nm - M % r.nm)) % r.nm + M) % r.nm) + up := h
    rw [turn_back M ha, turn_back M hb] at h
    omega
  val := fun a f ha hf => by
    show _ = r.val (((a + (r.nm - M % r.nm)) % r.nm + M) % r.nm) ((f + F) % r.nc)
    rw [turn_back M ha]
  glt := fun f hf => Nat.mod_lt _ (Nat.lt_of_le_of_lt (Nat.zero_le _) hf)
  inj := fun f f' hf hf' h => by
    have hf : f < r.nc := hf
    have hf' : f' < r.nc := hf'
    have h1 := turn_forth F hf
    rw [h, turn_forth F hf'] at h1
    exact h1.symm
  cost := fun f _ => Int.le_refl _
/-- what Best answers -/
def Reg.bestN (r : Reg) : Int := if r.solvE = 0 then r.cst (2 ^ r.nm - 1) else 0
theorem Reg.turn_all {r : Reg} (hr : r.Ok) {up : Int} {M F : Nat} (hx : (r.turn up M F).Ok) : (r.turn up M F).solvE = r.solvE ∧ (r.turn up M F).bestN = r.bestN ∧ (r.turn up M F).fixC = r.fixC := by
  obtain ⟨h1, h2, h3⟩ := Reg.Lies.both (r.turn_lies up M F) (r.lies_turn up M F) hr hx
  refine ⟨h1, ?_, h3⟩
  unfold Reg.bestN
  rw [h1, h2]
theorem Reg.times_best {r : Reg} {t : Int} (ht : 0 < t) (hr : r.Ok) (hr' : (r.times t).Ok) : (r.times t).solvE = r.solvE ∧ (r.times t).bestN = t * r.bestN ∧ (r.times t).fixC = t * r.fixC := by
  obtain ⟨h1, h2, h3⟩ := Reg.times_all ht hr hr'
  refine ⟨h1, ?_, h3⟩
  unfold Reg.bestN
  rw [h1]
  by_cases h : r.solvE = 0
  · rw [if_pos h, if_pos h]; exact h2 h
  · rw [if_neg h, if_neg h]; simp
theorem Reg.best_bd {r : Reg} (hr : r.Ok) : 0 ≤ r.bestN ∧ r.bestN ≤ 8000 ∧ 0 ≤ r.fixC ∧ r.fixC ≤ 8000 := by
  by_cases h : r.solvE = 0
  · obtain ⟨h1, h2⟩ := Reg.solvE_zero.1 h
    have h3 := Reg.cst_bd hr h2 (s := 2 ^ r.nm - 1) (by have := Nat.two_pow_pos r.nm; omega)
    obtain ⟨f1, f2, f3⟩ := Reg.fix_spec hr.c8 h2
    have hb := costSum_bd hr.cost (bitsL 8 r.fix) (fun f hf => by rw [bitsL_of_le f1 hr.c8] at hf; exact (mem_bitsL.1 hf).1)
    have hl : (bitsL 8 r.fix).length ≤ 8 := bitsL_length_le 8 r.fix
    rw [← r.price_eq] at hb
    unfold Reg.bestN Reg.fixC
    rw [if_pos h, if_pos h]
    omega
  · unfold Reg.bestN
    rw [if_neg h, (Reg.fix_no h).2.1]; omega
end Go.Proofs.Ytdminglglapnlaa

/-
  What is proved: Fixed and Must of the program, both cases in one.
-/
namespace Go.Proofs.Ytdminglglapnlaa
open Go.RowKit

theorem ListAt.shape {w : World} {v : Value} {L : List Nat} (h : ListAt w v L) : ∃ a c, v = .slice a L.length c := by
  obtain ⟨a, c, e, -⟩ := h
  exact ⟨a, c, e⟩
theorem pfix_all (w : World) (v : Value) (r : Reg) (hv : RegAt w v r) :
    Calls Try.prog 32 #[v] w fun e w' => ∃ lv, e = .returned (.tuple #[lv, .int .i64 r.fixC, .int .i64 r.solvE]) ∧ ListAt w' lv r.fixL ∧ w.grows w' := by
  by_cases h : r.solvE = 0
  · have hc : r.fixC = r.price (bitsL 8 r.fix) := by unfold Reg.fixC; rw [if_pos h]
    have hl : r.fixL = bitsL 8 r.fix := by unfold Reg.fixL; rw [if_pos h]
    rw [hc, hl, h]
    exact pfix_c w v r hv h
  · have hc : r.fixC = 0 := by unfold Reg.fixC; rw [if_neg h]
    have hl : r.fixL = [] := by unfold Reg.fixL; rw [if_neg h]
    rw [hc, hl]
    exact (pfix_bad w v r hv h).mono (by
      rintro e w' ⟨rfl, hg⟩
      exact ⟨_, rfl, ListAt.nil _, hg⟩)
theorem pmust_all (w : World) (v : Value) (r : Reg) (hv : RegAt w v r) :
    Calls Try.prog 34 #[v] w fun e w' => ∃ lv, e = .returned (.tuple #[lv, .int .i64 r.solvE]) ∧ ListAt w' lv r.mustR ∧ w.grows w' := by
  by_cases h : r.solvE = 0
  · have hl : r.mustR = r.mustL := by unfold Reg.mustR; rw [if_pos h]
    rw [hl, h]
    exact pmust_c w v r hv h
  · have hl : r.mustR = [] := by unfold Reg.mustR; rw [if_neg h]
    rw [hl]
    exact (pmust_bad w v r hv h).mono (by
      rintro e w' ⟨rfl, hg⟩
      exact ⟨_, rfl, ListAt.nil _, hg⟩)
end Go.Proofs.Ytdminglglapnlaa

/-
  What is proved: contracts for MarkMore and MarkTurned: Best and Fixed, all cases in one; worlds in which two blocks alone have changed.
-/
namespace Go.Proofs.Ytdminglglapnlaa
open Go.RowKit

theorem best_any {w : World} {v : Value} {r : Reg} (hv : RegAt w v r) : Calls Try.prog 25 #[v] w fun e w' => ∃ (x : Int) (a : Option Addr) (n c : Nat), e = .returned (.tuple #[.agg #[.int .i64 x, .slice a n c], .int .i64 r.bestN, .int .i64 r.solvE]) ∧ w.grows w' := by
  by_cases h : r.solvE = 0
  · refine (best_c w v r hv h).mono ?_
    rintro e w' ⟨tv, t, rfl, h1, h2, h3, h4⟩
    obtain ⟨nv, rfl, row, ⟨a, c, rfl, -⟩, -⟩ := h1
    exact ⟨_, _, _, _, by unfold Reg.bestN; rw [if_pos h, h], h4⟩
  · refine (best_bad w v r hv h).mono ?_
    rintro e w' ⟨rfl, h1⟩
    exact ⟨_, _, _, _, by unfold Reg.bestN; rw [if_neg h], h1⟩
theorem fix_any {w : World} {v : Value} {r : Reg} (hv : RegAt w v r) : Calls Try.prog 32 #[v] w fun e w' => ∃ (a : Option Addr) (n c : Nat), e = .returned (.tuple #[.slice a n c, .int .i64 r.fixC, .int .i64 r.solvE]) ∧ w.grows w' := by
  refine (pfix_all w v r hv).mono ?_
  rintro e w' ⟨lv, rfl, h1, h2⟩
  obtain ⟨a, c, rfl⟩ := h1.shape
  exact ⟨_, _, _, rfl, h2⟩
theorem valL_set (n : Nat) (f : Nat → Int) {k : Nat} (hk : k < n) (x : Int) : (valL n f).set k (.int .i64 x) = valL n (fun i => if i = k then x else f i) := by
  unfold valL tableL
  apply List.ext_getElem?
  intro j
  rw [List.getElem?_set]
  simp only [List.getElem?_map, List.length_map, List.length_range, Nat.mul_one, Nat.div_one]
  by_cases hj : j < n
  · rw [List.getElem?_range hj]
    simp only [Option.map_some]
    by_cases e : k = j
    · subst e; rw [if_pos rfl, if_pos hk, if_pos rfl]
    · rw [if_neg e, if_neg (Ne.symm e)]
  · rw [List.getElem?_eq_none (by simp; omega)]
    by_cases e : k = j
    · omega
    · rw [if_neg e]; rfl
theorem valL_snoc (k : Nat) (f : Nat → Int) : valL (k + 1) f = valL k f ++ tableL 1 1 (fun _ _ => .int .i64 (f k)) := by
  unfold valL
  rw [tableL_snoc]
  rfl
theorem valL_get {n : Nat} (f : Nat → Int) {k : Nat} (hk : k < n) : (valL n f)[k]? = some (.int .i64 (f k)) := by
  have := tableL_get (fun i (_ : Nat) => Value.int .i64 (f i)) hk (show 0 < 1 by omega)
  simpa [valL] using this
theorem valL_congr {n : Nat} {f g : Nat → Int} (h : ∀ i, i < n → f i = g i) : valL n f = valL n g := by
  unfold valL
  exact tableL_congr (fun i j hi _ => by rw [h i hi]) (by omega)
/-- all blocks but two stay as they are -/
structure Kq (b1 b2 : Nat) (Y W : World) : Prop where
  os : W.os = Y.os
  tape : W.tape = Y.tape
  output : W.output = Y.output
  size : Y.heap.size ≤ W.heap.size
  block : ∀ (k : Nat) (o : Obj), Y.heap[k]? = some o → k ≠ b1 → k ≠ b2 → W.heap[k]? = some o
section
variable {b1 b2 : Nat} {Y W W' : World}
theorem Kq.refl : Kq b1 b2 Y Y := ⟨rfl, rfl, rfl, Nat.le_refl _, fun _ _ h _ _ => h⟩
theorem Kq.then (h : Kq b1 b2 Y W) (g : W.grows W') : Kq b1 b2 Y W' :=
  ⟨g.os.trans h.os, g.tape.trans h.tape, g.output.trans h.output, Nat.le_trans h.size g.size, fun k o h1 h2 h3 => g.heap_of (h.block k o h1 h2 h3)⟩
theorem Kq.own (h : Kq b1 b2 Y W) {base size : Nat} {e : TypeId} {v : Value} {n : Nat} {xs : List Value} (ho : W.ownsRow base e size v n xs) (hb : Y.heap.size ≤ base) (g : W.grownBy W' v.ownBlock) : Kq b1 b2 Y W' :=
  ⟨g.os.trans h.os, g.tape.trans h.tape, g.output.trans h.output, Nat.le_trans h.size g.size, fun k o h1 h2 h3 => by
    have h4 := h.block k o h1 h2 h3
    rw [g.block k (World.lt_of_block h4) ?_]
    · exact h4
    · intro e
      have := (ho.lt k e.symm).1
      have := World.lt_of_block h1
      omega⟩
theorem Kq.set (h : Kq b1 b2 Y W) {a : Addr} (ha : a.block = b1 ∨ a.block = b2 ∨ Y.heap.size ≤ a.block) (v : Value) : Kq b1 b2 Y (W.setCell a v) :=
  ⟨h.os, h.tape, h.output, by simpa using h.size, fun k o h1 h2 h3 => by
    have := World.lt_of_block h1
    rw [World.heap_setCell_map _ _ _ _ (by omega)]
    exact h.block k o h1 h2 h3⟩
theorem Kq.row (h : Kq b1 b2 Y W) {base size : Nat} {e : TypeId} {v : Value} {n : Nat} {xs : List Value} (ho : Y.ownsRow base e size v n xs) (h1 : v.ownBlock ≠ some b1) (h2 : v.ownBlock ≠ some b2) : W.ownsRow base e size v n xs := by
  refine ⟨ho.1, ?_⟩
  rcases ho.2 with hn | ⟨b, cap, cur, rfl, hb, hgg, rest⟩
  · exact .inl hn
  · exact .inr ⟨b, cap, cur, rfl, hb, h.block b _ hgg (fun e => h1 (by rw [e]; rfl)) (fun e => h2 (by rw [e]; rfl)), rest⟩
theorem own_heap {W : World} {base e size : Nat} {b n cap : Nat} {xs : List Value} (ho : W.ownsRow base e size (.slice (some ⟨b, 0, none⟩) n cap) n xs) : ∃ c, W.heap[b]? = some (.cells c e) := by
  rcases ho.2 with ⟨he, _⟩ | ⟨b', cap', cur, he, _, hh, _⟩
  · cases he
  · cases he; exact ⟨_, hh⟩
theorem ne_block {W : World} {base e size : Nat} {v : Value} {n : Nat} {xs : List Value} (ho : W.ownsRow base e size v n xs) {b : Nat} {c : Array Value} {t : TypeId} (h : W.heap[b]? = some (.cells c t)) (he : e ≠ t) : v.ownBlock ≠ some b := fun e' => row_block ho h he b e' rfl
theorem MarksOwn.kq {base : Nat} {mv : Value} {k nc : Nat} {who : Nat → Int} {row : Nat → Value} {val : Nat → Nat → Int} (h : MarksOwn base Y mv k nc who row val) (hk : Kq b1 b2 Y W) {c1 c2 : Array Value} {t1 t2 : TypeId} (h1 : Y.heap[b1]? = some (.cells c1 t1)) (h2 : Y.heap[b2]? = some (.cells c2 t2)) (e1 : 65 ≠ t1) (e2 : 3 ≠ t1) (e3 : 65 ≠ t2) (e4 : 3 ≠ t2) :
    MarksOwn base W mv k nc who row val :=
  ⟨hk.row h.row' (ne_block h.row' h1 e1) (ne_block h.row' h2 e3), fun m hm => hk.row (h.val' m hm) (ne_block (h.val' m hm) h1 e2) (ne_block (h.val' m hm) h2 e4), h.apart, fun m hm b hb => Nat.lt_of_lt_of_le (h.below m hm b hb) hk.size⟩
end
end Go.Proofs.Ytdminglglapnlaa

/-
  What is proved: plain words for MarkMore: a register without a mark, with a feature more, with a lesser cost, or with two makers taken as one, lies in the register.
-/
namespace Go.Proofs.Ytdminglglapnlaa

/-- without the mark k -/
def Reg.less (r : Reg) (k : Nat) : Reg where
  nc := r.nc
  cost := r.cost
  nm := r.nm - 1
  who := fun m => r.who (if m < k then m else m + 1)
  nv := fun m => r.nv (if m < k then m else m + 1)
  val := fun m => r.val (if m < k then m else m + 1)
theorem Reg.less_lies (r : Reg) {k : Nat} (hk : k < r.nm) : (r.less k).Lies r (fun m => if m < k then m else m + 1) id where
  lt := fun a ha => by
    have ha : a < r.nm - 1 := ha
    split <;> omega
  who := fun _ _ _ _ h => h
  val := fun _ _ _ _ => rfl
  glt := fun _ hf => hf
  inj := fun _ _ _ _ h => h
  cost := fun _ _ => Int.le_refl _
/-- with a feature more, which costs c; the marks' values are vs -/
def Reg.feat (r : Reg) (c : Int) (vs : Nat → Int) : Reg where
  nc := r.nc + 1
  cost := fun f => if f < r.nc then r.cost f else c
  nm := r.nm
  who := r.who
  nv := fun _ => r.nc + 1
  val := fun m f => if f < r.nc then r.val m f else vs m
theorem Reg.feat_lies (r : Reg) (c : Int) (vs : Nat → Int) : (r.feat c vs).Lies r id id where
  lt := fun _ ha => ha
  who := fun _ _ _ _ h => h
  val := fun _ f _ hf => by show (if f < r.nc then _ else _) = _; rw [if_pos hf]; rfl
  glt := fun f hf => Nat.lt_succ_of_lt hf
  inj := fun _ _ _ _ h => h
  cost := fun f hf => by show (if f < r.nc then _ else _) ≤ _; rw [if_pos hf]; exact Int.le_refl _
/-- the feature q costs c -/
def Reg.cheap (r : Reg) (q : Nat) (c : Int) : Reg := { r with cost := fun f => if f = q then c else r.cost f }
theorem Reg.cheap_lies (r : Reg) {q : Nat} {c : Int} (hc : c ≤ r.cost q) : (r.cheap q c).Lies r id id where
  lt := fun _ ha => ha
  who := fun _ _ _ _ h => h
  val := fun _ _ _ _ => rfl
  glt := fun _ hf => hf
  inj := fun _ _ _ _ h => h
  cost := fun f _ => by
    show (if f = q then c else r.cost f) ≤ _
    split
    · rename_i e; rw [e]; exact hc
    · exact Int.le_refl _
/-- the maker a is taken as b -/
def Reg.merge (r : Reg) (a b : Int) : Reg := { r with who := fun m => if r.who m = a then b else r.who m }
theorem Reg.merge_lies (r : Reg) (a b : Int) : (r.merge a b).Lies r id id where
  lt := fun _ ha => ha
  who := fun x y _ _ h => by
    have h : r.who x = r.who y := h
    show (if r.who x = a then b else r.who x) = (if r.who y = a then b else r.who y)
    rw [h]
  val := fun _ _ _ _ => rfl
  glt := fun _ hf => hf
  inj := fun _ _ _ _ h => h
  cost := fun _ _ => Int.le_refl _
/-- what MarkMore asks of a register that lies in another one -/
theorem Reg.Lies.more {r' r : Reg} {u g : Nat → Nat} (h : r'.Lies r u g) (hr : r.Ok) (hr' : r'.Ok) : (r'.solvE = 0 ∨ r'.solvE = 24) ∧ (r.solvE = 0 → r'.solvE = 0 ∧ r'.bestN ≤ r.bestN ∧ r'.fixC ≤ r.fixC) := by
  refine ⟨Reg.solvE_two hr', fun hs => ?_⟩
  obtain ⟨h1, h2, h3⟩ := h.all hr hr' hs
  refine ⟨h1, ?_, h3⟩
  unfold Reg.bestN
  rw [if_pos h1, if_pos hs]
  exact h2
end Go.Proofs.Ytdminglglapnlaa

/-
  What is proved: the law of a region that draws its order, by properties: each operation of the head has a property of its value that stays when memory is made, and leans on those of the operations it waits for; behind the head reads in any order.
-/
namespace Go
open Go.RowKit
variable {P : Program} {ops : Array Oper}

/-- the values of operations, put one after another -/
def putL (dl : List (Option Tmp)) (val : Nat → Value) : List Nat → Act → Act
  | [], a => a
  | i :: l, a => putL dl val l (a.put (dl.getD i none) (val i))
theorem putL_append {dl : List (Option Tmp)} {val : Nat → Value} : ∀ (l1 l2 : List Nat) (a : Act), putL dl val (l1 ++ l2) a = putL dl val l2 (putL dl val l1 a)
  | [], _, _ => rfl
  | _ :: l1, l2, _ => putL_append l1 l2 _
theorem putL_congr {dl : List (Option Tmp)} {val val' : Nat → Value} : ∀ (l : List Nat) (a : Act), (∀ i ∈ l, val i = val' i) → putL dl val l a = putL dl val' l a
  | [], _, _ => rfl
  | i :: l, a, h => by
    unfold putL
    rw [h i (List.mem_cons_self ..)]
    exact putL_congr l _ fun j hj => h j (List.mem_cons_of_mem _ hj)
theorem putL_perm {dl : List (Option Tmp)} {val : Nat → Value} {l l' : List Nat} (hp : l.Perm l') : (∀ i ∈ l, ∀ j ∈ l, i ≠ j → ∀ d, dl.getD i none = some d → dl.getD j none ≠ some d) → ∀ a, putL dl val l a = putL dl val l' a := by
  induction hp with
  | nil => intro _ _; rfl
  | cons x _ ih => intro h a; exact ih (fun i hi j hj => h i (List.mem_cons_of_mem _ hi) j (List.mem_cons_of_mem _ hj)) _
  | swap x y l =>
    intro h a
    unfold putL
    unfold putL
    by_cases e : y = x
    · rw [e]
    · rw [Act.put_comm a (val y) (val x) (h y (by simp) x (by simp) e)]
  | trans h1 _ ih1 ih2 => intro h a; exact (ih1 h a).trans (ih2 (fun i hi j hj => h i (h1.mem_iff.2 hi) j (h1.mem_iff.2 hj)) a)
theorem execOp_putL {dl : List (Option Tmp)} {val : Nat → Value} {o : Oper} (hs : ∀ cs b, o.op ≠ .select cs b) : ∀ (l : List Nat) (a : Act), (∀ i ∈ l, ∀ d, dl.getD i none = some d → d ∉ o.looksAt ops) →
    execOp (putL dl val l a).eval o = execOp a.eval o
  | [], _, _ => rfl
  | i :: l, a, h => (execOp_putL hs l _ (fun j hj => h j (List.mem_cons_of_mem _ hj))).trans (execOp_put o hs a _ _ (h i (List.mem_cons_self ..)))

/-- for all values of these operations that have their properties -/
def depQ (dl : List (Option Tmp)) (R : List (Value → World → Prop)) (W : World) (K : Act → Prop) : List Nat → Act → Prop
  | [], a => K a
  | i :: l, a => ∀ v, R.getD i (fun _ _ => True) v W → depQ dl R W K l (a.put (dl.getD i none) v)
theorem depQ_of {dl : List (Option Tmp)} {R : List (Value → World → Prop)} {W : World} {K : Act → Prop} {val : Nat → Value} : ∀ (l : List Nat) (a : Act), depQ dl R W K l a → (∀ j ∈ l, R.getD j (fun _ _ => True) (val j) W) → K (putL dl val l a)
  | [], _, h, _ => h
  | i :: l, a, h, hv => depQ_of l _ (h (val i) (hv i (List.mem_cons_self ..))) fun j hj => hv j (List.mem_cons_of_mem _ hj)
/-- what is asked of the operations of the head, each with those it leans on -/
def oblQ (P : Program) (dl : List (Option Tmp)) (R : List (Value → World → Prop)) (w0 : World) (a : Act) : List (Oper × List Nat × (Value → World → Prop)) → Prop
  | [] => True
  | (o, D, r) :: l => (∀ K : Value → World → Prop, (∀ v W, r v W → K v W) → ∀ n x, depQ dl R (w0.plus n x) (fun a' => o.goes P a' (w0.plus n x) K) D a) ∧ oblQ P dl R w0 a l
theorem oblQ_at {dl : List (Option Tmp)} {R : List (Value → World → Prop)} {w0 : World} {a : Act} : ∀ (l : List (Oper × List Nat × (Value → World → Prop))), oblQ P dl R w0 a l → ∀ (i : Nat) (o : Oper) (D : List Nat) (r : Value → World → Prop), l[i]? = some (o, D, r) →
    ∀ W, w0.grows W → depQ dl R W (fun a' => Oper.goes P o a' W r) D a
  | [], _, i, o, D, r, h => by simp at h
  | _ :: l, hl, 0, o, D, r, h => by
    cases Option.some.inj h
    intro W hg
    obtain ⟨n, x, rfl⟩ := World.plus_of hg
    exact hl.1 r (fun _ _ h => h) n x
  | _ :: l, hl, i + 1, o, D, r, h => oblQ_at l hl.2 i o D r (by simpa using h)

def Region.invB (ops : Array Oper) (n : Nat) (ds : List (List Nat)) (dl : List (Option Tmp)) : Bool :=
  Region.mixB ops n [] && decide (n ≤ ops.size) &&
  (List.range n).all (fun i => match ops[i]? with
    | some o => o.guard.isNone && decide (dl.getD i none = o.dst) && (ds.getD i []).all (fun j => decide (j < n) && Region.waitsFor .any ops i j) && decide ((ds.getD i []).Nodup) &&
        (List.range n).all (fun j => decide (j = i) || (decide (dl.getD i none = none) || decide (dl.getD j none ≠ dl.getD i none)) && ((ds.getD i []).contains j || match dl.getD j none with | some d => !(o.looksAt ops).contains d | none => true))
    | none => false)

theorem wpAny_of_inv {w0 : World} {a : Act} {R : List (Value → World → Prop)} {Q : Exit → Act → World → Prop} {n : Nat} {ds : List (List Nat)} {dl : List (Option Tmp)} (hB : Region.invB ops n ds dl = true)
    (hheads0 : ∀ (listed : Array Bool) (i0 : Nat), HeadInv .any ops n listed → i0 < n → listed.getD i0 true = false → ∀ t ∈ Region.ready .any ops listed, t < n)
    (hR : ∀ i, Stays (R.getD i (fun _ _ => True)))
    (hop : ∀ i o, i < n → ops[i]? = some o → ∀ W, w0.grows W → depQ dl R W (fun a' => o.goes P a' W (R.getD i (fun _ _ => True))) (ds.getD i []) a)
    (hK : ∀ val W, w0.grows W → (∀ i, i < n → R.getD i (fun _ _ => True) (val i) W) → ∀ listed, HeadInv .any ops n listed → (∀ i, i < n → listed.getD i false = true) → wpAny P .any ops Q (ops.size - n) listed (putL dl val (List.range n) a) W) :
    ∀ (cnt : Nat) (L U : List Nat) (listed : Array Bool) (val : Nat → Value) (W : World), U.length = cnt → L.Nodup → U.Nodup → (∀ i, i ∈ L ↔ i < n ∧ listed.getD i false = true) → (∀ i, i ∈ U ↔ i < n ∧ listed.getD i false = false) →
      HeadInv .any ops n listed → w0.grows W → (∀ i ∈ L, R.getD i (fun _ _ => True) (val i) W) → wpAny P .any ops Q (cnt + (ops.size - n)) listed (putL dl val L a) W := by
  simp only [Region.invB, Bool.and_eq_true, decide_eq_true_eq] at hB
  obtain ⟨⟨hmix, hnle⟩, hall⟩ := hB
  simp only [Region.mixB, Bool.and_eq_true, decide_eq_true_eq] at hmix
  obtain ⟨⟨⟨hsel, _⟩, _⟩, hedge⟩ := hmix
  have hsp := Region.noSelect_spec hsel
  have spec : ∀ i o, i < n → ops[i]? = some o → o.guard = none ∧ dl.getD i none = o.dst ∧ (∀ j ∈ ds.getD i [], j < n ∧ Region.waitsFor .any ops i j = true) ∧ (ds.getD i []).Nodup ∧
      ∀ j, j < n → j ≠ i → (∀ d, dl.getD i none = some d → dl.getD j none ≠ some d) ∧ (j ∉ ds.getD i [] → ∀ d, dl.getD j none = some d → d ∉ o.looksAt ops) := by
    intro i o hi ho
    have h1 := List.all_eq_true.1 hall i (List.mem_range.2 hi)
    simp only [ho, Bool.and_eq_true, decide_eq_true_eq] at h1
    obtain ⟨⟨⟨⟨g1, g2⟩, g3⟩, g4⟩, g5⟩ := h1
    refine ⟨by simpa using g1, g2, fun j hj => ?_, g4, fun j hj hji => ?_⟩
    · have := List.all_eq_true.1 g3 j hj
      simpa using this
    · have h2 := List.all_eq_true.1 g5 j (List.mem_range.2 hj)
      simp only [Bool.or_eq_true, Bool.and_eq_true, decide_eq_true_eq] at h2
      rcases h2 with h2 | ⟨h2, h3⟩
      · exact absurd h2 hji
      · refine ⟨fun d hd hj' => ?_, fun hnd d hd => ?_⟩
        · rcases h2 with h2 | h2
          · rw [hd] at h2; cases h2
          · exact h2 (hj'.trans hd.symm)
        · rcases h3 with h3 | h3
          · exact absurd (by simpa using h3) hnd
          · rw [hd] at h3
            simpa using h3
  have edgeOf : ∀ i o, i < n → ops[i]? = some o → ∀ e ∈ o.after, Region.binds .any e = true → e.on < i := by
    intro i o hi ho e he hb
    have h1 := List.all_eq_true.1 hedge i (List.mem_range.2 hi)
    simp only [ho, Bool.and_eq_true] at h1
    have h2 := Array.all_eq_true_iff_forall_mem.1 h1.1 e he
    simpa only [hb, Bool.not_true, Bool.false_or, decide_eq_true_eq] using h2
  have unwait : ∀ (listed : Array Bool) (i j : Nat), i ∈ Region.ready .any ops listed → Region.waitsFor .any ops i j = true → listed.getD j false = true := by
    intro listed i j hi hw
    obtain ⟨oi, hoi, e, he, hb, hon⟩ := Region.waitsFor_spec hw
    obtain ⟨_, o', ho', hall⟩ := mem_ready.1 hi
    rw [hoi] at ho'; cases ho'
    have := hall e he hb
    rwa [hon] at this
  have at_lt : ∀ i, i < n → ∃ o, ops[i]? = some o := fun i hi => ⟨ops[i]'(by omega), Array.getElem?_eq_getElem (by omega)⟩
  have dst_ne : ∀ i, i < n → ∀ j, j < n → i ≠ j → ∀ d, dl.getD i none = some d → dl.getD j none ≠ some d := fun i hi j hj hij => by
    obtain ⟨o, ho⟩ := at_lt i hi
    exact ((spec i o hi ho).2.2.2.2 j hj (Ne.symm hij)).1
  intro cnt
  induction cnt with
  | zero =>
    intro L U listed val W hc hL hU hLm hUm inv hg hv
    have he : U = [] := List.eq_nil_of_length_eq_zero hc
    have hl : ∀ i, i < n → listed.getD i false = true := fun i hi => by
      cases h : listed.getD i false with
      | true => rfl
      | false =>
        have := (hUm i).2 ⟨hi, h⟩
        rw [he] at this
        cases this
    have hp : L.Perm (List.range n) := (List.perm_ext_iff_of_nodup hL List.nodup_range).2 fun i => by
      rw [hLm, List.mem_range]
      exact ⟨fun h => h.1, fun h => ⟨h, hl i h⟩⟩
    rw [Nat.zero_add, putL_perm hp (fun i hi j hj hij => dst_ne i ((hLm i).1 hi).1 j ((hLm j).1 hj).1 hij)]
    exact hK val W hg (fun i hi => hv i ((hLm i).2 ⟨hi, hl i hi⟩)) listed inv hl
  | succ cnt ih =>
    intro L U listed val W hc hL hU hLm hUm inv hg hv
    rw [show cnt + 1 + (ops.size - n) = (cnt + (ops.size - n)) + 1 by omega]
    obtain ⟨i0, hi0⟩ : ∃ i, i ∈ U := by
      cases U with
      | nil => simp at hc
      | cons x _ => exact ⟨x, List.mem_cons_self ..⟩
    have hi0' := (hUm i0).1 hi0
    have hheads := hheads0 listed i0 inv hi0'.1 (getD_in (by rw [inv.size]; omega) hi0'.2)
    have least : ∀ i, i < n → listed.getD i false = false → ∃ t, t ∈ Region.ready .any ops listed := by
      intro i
      induction i using Nat.strongRecOn with
      | _ i ih2 =>
        intro hi hl
        obtain ⟨o, ho⟩ := at_lt i hi
        by_cases h : ∃ e ∈ o.after, Region.binds .any e = true ∧ listed.getD e.on false = false
        · obtain ⟨e, he, hb, hel⟩ := h
          have := edgeOf i o hi ho e he hb
          exact ih2 e.on this (by omega) hel
        · refine ⟨i, mem_ready.2 ⟨getD_in (by rw [inv.size]; omega) hl, o, ho, fun e he hb => ?_⟩⟩
          cases hq : listed.getD e.on false with
          | true => rfl
          | false => exact absurd ⟨e, he, hb, hq⟩ h
    refine ⟨fun hnil => ?_, fun i hi => ?_⟩
    · exfalso
      obtain ⟨t, ht⟩ := least i0 hi0'.1 hi0'.2
      rw [hnil] at ht
      cases ht
    · have hin := hheads i hi
      have hl : listed.getD i false = false := getD_both (mem_ready.1 hi).1
      have inv' := inv.set hi hin
      obtain ⟨o, ho⟩ := at_lt i hin
      obtain ⟨sg, sd, sw, snd, sl⟩ := spec i o hin ho
      have set_ne : ∀ j, j ≠ i → (listed.setIfInBounds i true).getD j false = listed.getD j false := fun j hji => getD_set_ne false (Ne.symm hji)
      have set_self : (listed.setIfInBounds i true).getD i false = true := by
        have : i < listed.size := by rw [inv.size]; omega
        simp [this]
      have hiL : i ∉ L := fun h => by
        have := ((hLm i).1 h).2
        rw [hl] at this; cases this
      have hDL : ∀ j ∈ ds.getD i [], j ∈ L := fun j hj => (hLm j).2 ⟨(sw j hj).1, unwait listed i j hi (sw j hj).2⟩
      have hexec : execOp (putL dl val L a).eval o = execOp (putL dl val (ds.getD i []) a).eval o := by
        have hp : L.Perm (ds.getD i [] ++ L.filter fun j => !(ds.getD i []).contains j) := by
          refine (List.perm_ext_iff_of_nodup hL (List.nodup_append.2 ⟨snd, hL.filter _, fun x hx y hy e => ?_⟩)).2 fun j => ?_
          · subst e
            have h3 : (ds.getD i []).contains x = true := List.contains_iff_mem.2 hx
            have h4 := (List.mem_filter.1 hy).2
            simp only [h3] at h4
            cases h4
          · rw [List.mem_append, List.mem_filter]
            constructor
            · intro hj
              by_cases h : j ∈ ds.getD i []
              · exact .inl h
              · exact .inr ⟨hj, by simpa using h⟩
            · rintro (h | h)
              · exact hDL j h
              · exact h.1
        rw [putL_perm hp (fun i hi j hj hij => dst_ne i ((hLm i).1 hi).1 j ((hLm j).1 hj).1 hij), putL_append]
        refine execOp_putL (ops := ops) (fun cs b => hsp i o cs b ho) _ _ fun j hj d hd => ?_
        obtain ⟨h1, h2⟩ := List.mem_filter.1 hj
        refine (sl j ((hLm j).1 h1).1 (fun e => hiL (e ▸ h1))).2 (by simpa using h2) d hd
      have hgo := depQ_of (val := val) _ _ (hop i o hin ho W hg) (fun j hj => hv j (hDL j hj))
      have hrest : ∀ v W', W.grows W' → R.getD i (fun _ _ => True) v W' → wpAny P .any ops Q (cnt + (ops.size - n)) (listed.setIfInBounds i true) ((putL dl val L a).put o.dst v) W' := by
        intro v W' g hr
        have e : (putL dl val L a).put o.dst v = putL dl (fun k => if k = i then v else val k) (L ++ [i]) a := by
          rw [putL_append, putL_congr (val' := fun k => if k = i then v else val k) L a (fun j hj => (if_neg (fun h => hiL (by rw [← h]; exact hj))).symm)]
          simp only [putL, if_true, sd]
        rw [e]
        refine ih (L ++ [i]) (U.erase i) _ _ W' ?_ ?_ (hU.erase _) (fun j => ?_) (fun j => ?_) inv' (hg.trans g) (fun j hj => ?_)
        · have := List.length_erase_of_mem ((hUm i).2 ⟨hin, hl⟩)
          omega
        · rw [List.nodup_append]
          refine ⟨hL, List.nodup_cons.2 ⟨by simp, List.nodup_nil⟩, fun x hx y hy e => ?_⟩
          rw [List.mem_singleton] at hy
          exact hiL (by rw [← hy, ← e]; exact hx)
        · rw [List.mem_append, List.mem_singleton, hLm]
          by_cases hji : j = i
          · subst hji
            simp [set_self, hin]
          · rw [set_ne j hji]
            simp [hji]
        · rw [hU.mem_erase_iff, hUm]
          by_cases hji : j = i
          · subst hji
            simp [set_self]
          · rw [set_ne j hji]
            simp [hji]
        · rcases List.mem_append.1 hj with hj | hj
          · have : j ≠ i := fun h => hiL (by rw [← h]; exact hj)
            show R.getD j _ (if j = i then v else val j) W'
            rw [if_neg this]
            exact hR j _ _ _ (hv j hj) g
          · rw [List.mem_singleton] at hj
            subst hj
            show R.getD j _ (if j = j then v else val j) W'
            rw [if_pos rfl]
            exact hr
      unfold wpOp
      simp only [ho]
      rw [if_pos (by simp [Region.wanted, sg])]
      refine .inl ?_
      unfold Oper.wp
      unfold Oper.goes at hgo
      rw [hexec]
      generalize (execOp (putL dl val (ds.getD i []) a).eval o).run P W = r at *
      cases r with
      | halt z w' => simp only [goesUpon] at hgo
      | ok nx w' =>
        cases nx <;> simp only [goesUpon] at hgo <;> simp only [Oper.upon]
        case value u => exact hrest _ _ hgo.1 hgo.2
        case skip => exact hrest _ _ hgo.1 hgo.2
        case enter f args =>
          obtain ⟨rfl, hcall⟩ := hgo
          refine hcall.mono fun e w'' ⟨v, he, g, hp⟩ => ?_
          subst he
          exact hrest _ _ g hp

def Region.invRestB (ops : Array Oper) (n : Nat) (ds : List (List Nat)) (dl : List (Option Tmp)) : Bool :=
  Region.invB ops n ds dl && decide (n < ops.size) && Region.sinkB .any ops n && Region.restB ops n && Region.mixB ops ops.size []

def zipQ : List Oper → List (List Nat) → List (Value → World → Prop) → List (Oper × List Nat × (Value → World → Prop))
  | o :: l, D :: ds, r :: R => (o, D, r) :: zipQ l ds R
  | _, _, _ => []
theorem zipQ_at : ∀ (l : List Oper) (ds : List (List Nat)) (R : List (Value → World → Prop)), l.length ≤ ds.length → l.length ≤ R.length → ∀ i o, l[i]? = some o → (zipQ l ds R)[i]? = some (o, ds.getD i [], R.getD i (fun _ _ => True))
  | [], _, _, _, _, i, o, h => by simp at h
  | _ :: _, [], _, h1, _, _, _, _ => by simp at h1
  | _ :: _, _ :: _, [], _, h2, _, _, _ => by simp at h2
  | x :: l, D :: ds, r :: R, _, _, 0, o, h => by cases Option.some.inj h; rfl
  | x :: l, D :: ds, r :: R, h1, h2, i + 1, o, h => by
    have := zipQ_at l ds R (by simpa using h1) (by simpa using h2) i o (by simpa using h)
    simpa [zipQ] using this

/-- operations that make memory, each with a property that stays, and behind all of them (from n on) operations that only read, in any order -/
theorem wp_region_inv {id : Nat} {Q : Exit → Act → World → Prop} {a : Act} {w : World} {l : List Oper} (n : Nat) (ds : List (List Nat)) (dl : List (Option Tmp)) (R : List (Value → World → Prop)) (hm : P.follows .mixedOrders = true)
    (hB : (Region.invRestB l.toArray n ds dl && decide (n ≤ ds.length)) = true) (hn : n ≤ l.length) (hRn : n ≤ R.length) (hR : ∀ r ∈ R, Stays r)
    (hop : oblQ P dl R w a (zipQ (l.take n) ds R))
    (h : ∀ n' x, depQ dl R (w.plus n' x) (fun a'' => wpCalm P l.toArray (w.plus n' x) (fun a3 => ∀ k y, Q .normal a3 ((w.plus n' x).plus k y)) (l.drop n) a'') (List.range n) a) : (Code.region id l.toArray true).wp P Q a w := by
  simp only [Region.invRestB, Bool.and_eq_true, decide_eq_true_eq] at hB
  obtain ⟨⟨⟨⟨⟨hinv, hlt⟩, hsink⟩, hrest⟩, hmix⟩, hds⟩ := hB
  refine wp_region_any hm ?_
  obtain ⟨n0, x0, h0⟩ := World.more_drew w
  rw [h0]
  have key := wpAny_of_inv (P := P) (ops := l.toArray) (w0 := w) (a := a) (R := R) (Q := Q) (n := n) (ds := ds) (dl := dl) hinv
    (fun listed i0 inv hi0 hun0 t ht => by
      rcases Nat.lt_or_ge t n with h | h
      · exact h
      · exact absurd ht (rest_waits hsink hrest hlt inv _ i0 rfl hi0 hun0 t h))
    (fun i => by
      rw [List.getD_eq_getElem?_getD]
      cases hi : R[i]? with
      | none => exact fun _ _ _ _ _ => trivial
      | some r => exact hR r (List.mem_of_getElem? hi))
    (fun i o hi ho W hg => oblQ_at _ hop i o _ _ (zipQ_at (l.take n) ds R (by simp; omega) (by simp; omega) i o (by rw [List.getElem?_take, if_pos hi]; simpa using ho)) W hg)
    (fun val W hg hv listed inv hall => by
      obtain ⟨n', x, rfl⟩ := World.plus_of hg
      exact wpAny_calm_rest (by simpa using hmix) hn inv hall (depQ_of (val := val) _ _ (h n' x) fun j hj => hv j (List.mem_range.1 hj)))
    n [] (List.range n) (Array.replicate l.toArray.size false) (fun _ => undef) (w.plus n0 x0) (by simp) List.nodup_nil List.nodup_range
    (fun i => ⟨fun h => absurd h List.not_mem_nil, fun h => by rw [getD_replicate_false] at h; exact absurd h.2 (by decide)⟩)
    (fun i => by rw [List.mem_range, getD_replicate_false]; exact ⟨fun h => ⟨h, rfl⟩, fun h => h.1⟩)
    (headInv_start n) (World.grows_plus _ _ _) (fun i hi => by cases hi)
  rw [show n + (l.toArray.size - n) = l.toArray.size by omega] at key
  exact key
end Go

/-
  What is proved: the law of a region that draws its order, by properties, where the blocks that some operations make are pairwise different; behind the head a tail in order.
-/
namespace Go
open Go.RowKit
variable {P : Program} {ops : Array Oper}

theorem wpAny_of_invT {w0 : World} {a : Act} {R : List (Value → World → Prop)} {Q : Exit → Act → World → Prop} {n : Nat} {ds : List (List Nat)} {dl : List (Option Tmp)} (hB : Region.invB ops n ds dl = true)
    (hheads0 : ∀ (listed : Array Bool) (i0 : Nat), HeadInv .any ops n listed → i0 < n → listed.getD i0 true = false → ∀ t ∈ Region.ready .any ops listed, t < n)
    (hR : ∀ i, Stays (R.getD i (fun _ _ => True)))
    {N : Nat → Value → World → Prop} {D : Nat → Nat → Value → Value → Prop} (hD : ∀ i j, i < n → j < n → i ≠ j → ∀ v u W, N i v W → R.getD j (fun _ _ => True) u W → D i j v u ∧ D j i u v)
    (hop : ∀ i o, i < n → ops[i]? = some o → ∀ W, w0.grows W → depQ dl R W (fun a' => o.goes P a' W (fun v W' => R.getD i (fun _ _ => True) v W' ∧ N i v W)) (ds.getD i []) a)
    (hK : ∀ val W, w0.grows W → (∀ i, i < n → R.getD i (fun _ _ => True) (val i) W) → (∀ i j, i < n → j < n → i ≠ j → D i j (val i) (val j)) → ∀ listed, HeadInv .any ops n listed → (∀ i, i < n → listed.getD i false = true) → wpAny P .any ops Q (ops.size - n) listed (putL dl val (List.range n) a) W) :
    ∀ (cnt : Nat) (L U : List Nat) (listed : Array Bool) (val : Nat → Value) (W : World), U.length = cnt → L.Nodup → U.Nodup → (∀ i, i ∈ L ↔ i < n ∧ listed.getD i false = true) → (∀ i, i ∈ U ↔ i < n ∧ listed.getD i false = false) →
      HeadInv .any ops n listed → w0.grows W → (∀ i ∈ L, R.getD i (fun _ _ => True) (val i) W) → (∀ i ∈ L, ∀ j ∈ L, i ≠ j → D i j (val i) (val j)) → wpAny P .any ops Q (cnt + (ops.size - n)) listed (putL dl val L a) W := by
  simp only [Region.invB, Bool.and_eq_true, decide_eq_true_eq] at hB
  obtain ⟨⟨hmix, hnle⟩, hall⟩ := hB
  simp only [Region.mixB, Bool.and_eq_true, decide_eq_true_eq] at hmix
  obtain ⟨⟨⟨hsel, _⟩, _⟩, hedge⟩ := hmix
  have hsp := Region.noSelect_spec hsel
  have spec : ∀ i o, i < n → ops[i]? = some o → o.guard = none ∧ dl.getD i none = o.dst ∧ (∀ j ∈ ds.getD i [], j < n ∧ Region.waitsFor .any ops i j = true) ∧ (ds.getD i []).Nodup ∧
      ∀ j, j < n → j ≠ i → (∀ d, dl.getD i none = some d → dl.getD j none ≠ some d) ∧ (j ∉ ds.getD i [] → ∀ d, dl.getD j none = some d → d ∉ o.looksAt ops) := by
    intro i o hi ho
    have h1 := List.all_eq_true.1 hall i (List.mem_range.2 hi)
    simp only [ho, Bool.and_eq_true, decide_eq_true_eq] at h1
    obtain ⟨⟨⟨⟨g1, g2⟩, g3⟩, g4⟩, g5⟩ := h1
    refine ⟨by simpa using g1, g2, fun j hj => ?_, g4, fun j hj hji => ?_⟩
    · have := List.all_eq_true.1 g3 j hj
      simpa using this
    · have h2 := List.all_eq_true.1 g5 j (List.mem_range.2 hj)
      simp only [Bool.or_eq_true, Bool.and_eq_true, decide_eq_true_eq] at h2
      rcases h2 with h2 | ⟨h2, h3⟩
      · exact absurd h2 hji
      · refine ⟨fun d hd hj' => ?_, fun hnd d hd => ?_⟩
        · rcases h2 with h2 | h2
          · rw [hd] at h2; cases h2
          · exact h2 (hj'.trans hd.symm)
        · rcases h3 with h3 | h3
          · exact absurd (by simpa using h3) hnd
          · rw [hd] at h3
            simpa using h3
  have edgeOf : ∀ i o, i < n → ops[i]? = some o → ∀ e ∈ o.after, Region.binds .any e = true → e.on < i := by
    intro i o hi ho e he hb
    have h1 := List.all_eq_true.1 hedge i (List.mem_range.2 hi)
    simp only [ho, Bool.and_eq_true] at h1
    have h2 := Array.all_eq_true_iff_forall_mem.1 h1.1 e he
    simpa only [hb, Bool.not_true, Bool.false_or, decide_eq_true_eq] using h2
  have unwait : ∀ (listed : Array Bool) (i j : Nat), i ∈ Region.ready .any ops listed → Region.waitsFor .any ops i j = true → listed.getD j false = true := by
    intro listed i j hi hw
    obtain ⟨oi, hoi, e, he, hb, hon⟩ := Region.waitsFor_spec hw
    obtain ⟨_, o', ho', hall⟩ := mem_ready.1 hi
    rw [hoi] at ho'; cases ho'
    have := hall e he hb
    rwa [hon] at this
  have at_lt : ∀ i, i < n → ∃ o, ops[i]? = some o := fun i hi => ⟨ops[i]'(by omega), Array.getElem?_eq_getElem (by omega)⟩
  have dst_ne : ∀ i, i < n → ∀ j, j < n → i ≠ j → ∀ d, dl.getD i none = some d → dl.getD j none ≠ some d := fun i hi j hj hij => by
    obtain ⟨o, ho⟩ := at_lt i hi
    exact ((spec i o hi ho).2.2.2.2 j hj (Ne.symm hij)).1
  intro cnt
  induction cnt with
  | zero =>
    intro L U listed val W hc hL hU hLm hUm inv hg hv hdd
    have he : U = [] := List.eq_nil_of_length_eq_zero hc
    have hl : ∀ i, i < n → listed.getD i false = true := fun i hi => by
      cases h : listed.getD i false with
      | true => rfl
      | false =>
        have := (hUm i).2 ⟨hi, h⟩
        rw [he] at this
        cases this
    have hp : L.Perm (List.range n) := (List.perm_ext_iff_of_nodup hL List.nodup_range).2 fun i => by
      rw [hLm, List.mem_range]
      exact ⟨fun h => h.1, fun h => ⟨h, hl i h⟩⟩
    rw [Nat.zero_add, putL_perm hp (fun i hi j hj hij => dst_ne i ((hLm i).1 hi).1 j ((hLm j).1 hj).1 hij)]
    exact hK val W hg (fun i hi => hv i ((hLm i).2 ⟨hi, hl i hi⟩)) (fun i j hi hj hij => hdd i ((hLm i).2 ⟨hi, hl i hi⟩) j ((hLm j).2 ⟨hj, hl j hj⟩) hij) listed inv hl
  | succ cnt ih =>
    intro L U listed val W hc hL hU hLm hUm inv hg hv hdd
    rw [show cnt + 1 + (ops.size - n) = (cnt + (ops.size - n)) + 1 by omega]
    obtain ⟨i0, hi0⟩ : ∃ i, i ∈ U := by
      cases U with
      | nil => simp at hc
      | cons x _ => exact ⟨x, List.mem_cons_self ..⟩
    have hi0' := (hUm i0).1 hi0
    have hheads := hheads0 listed i0 inv hi0'.1 (getD_in (by rw [inv.size]; omega) hi0'.2)
    have least : ∀ i, i < n → listed.getD i false = false → ∃ t, t ∈ Region.ready .any ops listed := by
      intro i
      induction i using Nat.strongRecOn with
      | _ i ih2 =>
        intro hi hl
        obtain ⟨o, ho⟩ := at_lt i hi
        by_cases h : ∃ e ∈ o.after, Region.binds .any e = true ∧ listed.getD e.on false = false
        · obtain ⟨e, he, hb, hel⟩ := h
          have := edgeOf i o hi ho e he hb
          exact ih2 e.on this (by omega) hel
        · refine ⟨i, mem_ready.2 ⟨getD_in (by rw [inv.size]; omega) hl, o, ho, fun e he hb => ?_⟩⟩
          cases hq : listed.getD e.on false with
          | true => rfl
          | false => exact absurd ⟨e, he, hb, hq⟩ h
    refine ⟨fun hnil => ?_, fun i hi => ?_⟩
    · exfalso
      obtain ⟨t, ht⟩ := least i0 hi0'.1 hi0'.2
      rw [hnil] at ht
      cases ht
    · have hin := hheads i hi
      have hl : listed.getD i false = false := getD_both (mem_ready.1 hi).1
      have inv' := inv.set hi hin
      obtain ⟨o, ho⟩ := at_lt i hin
      obtain ⟨sg, sd, sw, snd, sl⟩ := spec i o hin ho
      have set_ne : ∀ j, j ≠ i → (listed.setIfInBounds i true).getD j false = listed.getD j false := fun j hji => getD_set_ne false (Ne.symm hji)
      have set_self : (listed.setIfInBounds i true).getD i false = true := by
        have : i < listed.size := by rw [inv.size]; omega
        simp [this]
      have hiL : i ∉ L := fun h => by
        have := ((hLm i).1 h).2
        rw [hl] at this; cases this
      have hDL : ∀ j ∈ ds.getD i [], j ∈ L := fun j hj => (hLm j).2 ⟨(sw j hj).1, unwait listed i j hi (sw j hj).2⟩
      have hexec : execOp (putL dl val L a).eval o = execOp (putL dl val (ds.getD i []) a).eval o := by
        have hp : L.Perm (ds.getD i [] ++ L.filter fun j => !(ds.getD i []).contains j) := by
          refine (List.perm_ext_iff_of_nodup hL (List.nodup_append.2 ⟨snd, hL.filter _, fun x hx y hy e => ?_⟩)).2 fun j => ?_
          · subst e
            have h3 : (ds.getD i []).contains x = true := List.contains_iff_mem.2 hx
            have h4 := (List.mem_filter.1 hy).2
            simp only [h3] at h4
            cases h4
          · rw [List.mem_append, List.mem_filter]
            constructor
            · intro hj
              by_cases h : j ∈ ds.getD i []
              · exact .inl h
              · exact .inr ⟨hj, by simpa using h⟩
            · rintro (h | h)
              · exact hDL j h
              · exact h.1
        rw [putL_perm hp (fun i hi j hj hij => dst_ne i ((hLm i).1 hi).1 j ((hLm j).1 hj).1 hij), putL_append]
        refine execOp_putL (ops := ops) (fun cs b => hsp i o cs b ho) _ _ fun j hj d hd => ?_
        obtain ⟨h1, h2⟩ := List.mem_filter.1 hj
        refine (sl j ((hLm j).1 h1).1 (fun e => hiL (e ▸ h1))).2 (by simpa using h2) d hd
      have hgo := depQ_of (val := val) _ _ (hop i o hin ho W hg) (fun j hj => hv j (hDL j hj))
      have hrest : ∀ v W', W.grows W' → R.getD i (fun _ _ => True) v W' ∧ N i v W → wpAny P .any ops Q (cnt + (ops.size - n)) (listed.setIfInBounds i true) ((putL dl val L a).put o.dst v) W' := by
        intro v W' g hrn
        obtain ⟨hr, hnw⟩ := hrn
        have e : (putL dl val L a).put o.dst v = putL dl (fun k => if k = i then v else val k) (L ++ [i]) a := by
          rw [putL_append, putL_congr (val' := fun k => if k = i then v else val k) L a (fun j hj => (if_neg (fun h => hiL (by rw [← h]; exact hj))).symm)]
          simp only [putL, if_true, sd]
        rw [e]
        refine ih (L ++ [i]) (U.erase i) _ _ W' ?_ ?_ (hU.erase _) (fun j => ?_) (fun j => ?_) inv' (hg.trans g) (fun j hj => ?_) (fun j hj k hk hjk => ?_)
        · have := List.length_erase_of_mem ((hUm i).2 ⟨hin, hl⟩)
          omega
        · rw [List.nodup_append]
          refine ⟨hL, List.nodup_cons.2 ⟨by simp, List.nodup_nil⟩, fun x hx y hy e => ?_⟩
          rw [List.mem_singleton] at hy
          exact hiL (by rw [← hy, ← e]; exact hx)
        · rw [List.mem_append, List.mem_singleton, hLm]
          by_cases hji : j = i
          · subst hji
            simp [set_self, hin]
          · rw [set_ne j hji]
            simp [hji]
        · rw [hU.mem_erase_iff, hUm]
          by_cases hji : j = i
          · subst hji
            simp [set_self]
          · rw [set_ne j hji]
            simp [hji]
        · rcases List.mem_append.1 hj with hj | hj
          · have : j ≠ i := fun h => hiL (by rw [← h]; exact hj)
            show R.getD j _ (if j = i then v else val j) W'
            rw [if_neg this]
            exact hR j _ _ _ (hv j hj) g
          · rw [List.mem_singleton] at hj
            subst hj
            show R.getD j _ (if j = j then v else val j) W'
            rw [if_pos rfl]
            exact hr
        · show D j k (if j = i then v else val j) (if k = i then v else val k)
          rcases List.mem_append.1 hj with hj1 | hj1 <;> rcases List.mem_append.1 hk with hk1 | hk1
          · rw [if_neg (fun h => hiL (by rw [← h]; exact hj1)), if_neg (fun h => hiL (by rw [← h]; exact hk1))]
            exact hdd j hj1 k hk1 hjk
          · rw [List.mem_singleton] at hk1
            subst hk1
            rw [if_neg hjk, if_pos rfl]
            exact (hD k j hin ((hLm j).1 hj1).1 (Ne.symm hjk) v (val j) W hnw (hv j hj1)).2
          · rw [List.mem_singleton] at hj1
            subst hj1
            rw [if_pos rfl, if_neg (Ne.symm hjk)]
            exact (hD j k hin ((hLm k).1 hk1).1 hjk v (val k) W hnw (hv k hk1)).1
          · rw [List.mem_singleton] at hj1 hk1
            exact absurd (hj1.trans hk1.symm) hjk
      unfold wpOp
      simp only [ho]
      rw [if_pos (by simp [Region.wanted, sg])]
      refine .inl ?_
      unfold Oper.wp
      unfold Oper.goes at hgo
      rw [hexec]
      generalize (execOp (putL dl val (ds.getD i []) a).eval o).run P W = r at *
      cases r with
      | halt z w' => simp only [goesUpon] at hgo
      | ok nx w' =>
        cases nx <;> simp only [goesUpon] at hgo <;> simp only [Oper.upon]
        case value u => exact hrest _ _ hgo.1 hgo.2
        case skip => exact hrest _ _ hgo.1 hgo.2
        case enter f args =>
          obtain ⟨rfl, hcall⟩ := hgo
          refine hcall.mono fun e w'' ⟨v, he, g, hp⟩ => ?_
          subst he
          exact hrest _ _ g hp


def Region.invTailB (ops : Array Oper) (n : Nat) (ds : List (List Nat)) (dl : List (Option Tmp)) : Bool :=
  Region.invB ops n ds dl && (decide (n = ops.size) || (decide (n < ops.size) && Region.sinkB .any ops n && Region.chainB .any ops n)) &&
  Region.seqB .any ops (ops.size - n) n ((List.range ops.size).map fun i => decide (i < n)).toArray
/-- what is asked of the operations of the head; each may be asked to answer something new, too -/
def oblT (P : Program) (dl : List (Option Tmp)) (R : List (Value → World → Prop)) (w0 : World) (a : Act) : List (Oper × List Nat × (Value → World → Prop) × (Value → World → Prop)) → Prop
  | [] => True
  | (o, D, r, N) :: l => (∀ K : Value → World → Prop, ∀ n x, (∀ v W, r v W → N v (w0.plus n x) → K v W) → depQ dl R (w0.plus n x) (fun a' => o.goes P a' (w0.plus n x) K) D a) ∧ oblT P dl R w0 a l
theorem oblT_at {dl : List (Option Tmp)} {R : List (Value → World → Prop)} {w0 : World} {a : Act} : ∀ (l : List (Oper × List Nat × (Value → World → Prop) × (Value → World → Prop))), oblT P dl R w0 a l → ∀ (i : Nat) (o : Oper) (D : List Nat) (r N : Value → World → Prop), l[i]? = some (o, D, r, N) →
    ∀ W, w0.grows W → depQ dl R W (fun a' => Oper.goes P o a' W (fun v W' => r v W' ∧ N v W)) D a
  | [], _, i, o, D, r, N, h => by simp at h
  | _ :: l, hl, 0, o, D, r, N, h => by
    cases Option.some.inj h
    intro W hg
    obtain ⟨n, x, rfl⟩ := World.plus_of hg
    exact hl.1 _ n x (fun _ _ h1 h2 => ⟨h1, h2⟩)
  | _ :: l, hl, i + 1, o, D, r, N, h => oblT_at l hl.2 i o D r N (by simpa using h)
def zipT : List Oper → List (List Nat) → List (Value → World → Prop) → List (Value → World → Prop) → List (Oper × List Nat × (Value → World → Prop) × (Value → World → Prop))
  | o :: l, D :: ds, r :: R, m :: N => (o, D, r, m) :: zipT l ds R N
  | _, _, _, _ => []
theorem zipT_at : ∀ (l : List Oper) (ds : List (List Nat)) (R N : List (Value → World → Prop)), l.length ≤ ds.length → l.length ≤ R.length → l.length ≤ N.length → ∀ i o, l[i]? = some o → (zipT l ds R N)[i]? = some (o, ds.getD i [], R.getD i (fun _ _ => True), N.getD i (fun _ _ => True))
  | [], _, _, _, _, _, _, i, o, h => by simp at h
  | _ :: _, [], _, _, h1, _, _, _, _, _ => by simp at h1
  | _ :: _, _ :: _, [], _, _, h2, _, _, _, _ => by simp at h2
  | _ :: _, _ :: _, _ :: _, [], _, _, h3, _, _, _ => by simp at h3
  | x :: l, D :: ds, r :: R, m :: N, _, _, _, 0, o, h => by cases Option.some.inj h; rfl
  | x :: l, D :: ds, r :: R, m :: N, h1, h2, h3, i + 1, o, h => by
    have := zipT_at l ds R N (by simpa using h1) (by simpa using h2) (by simpa using h3) i o (by simpa using h)
    simpa [zipT] using this
/-- operations that make memory, each with a property that stays, and something new; behind them a tail in order -/
theorem wp_region_invT {id : Nat} {Q : Exit → Act → World → Prop} {a : Act} {w : World} {l : List Oper} (n : Nat) (ds : List (List Nat)) (dl : List (Option Tmp)) (R N : List (Value → World → Prop)) (D : Nat → Nat → Value → Value → Prop) (hm : P.follows .mixedOrders = true)
    (hB : (Region.invTailB l.toArray n ds dl && decide (n ≤ ds.length)) = true) (hn : n ≤ l.length) (hRn : n ≤ R.length) (hNn : n ≤ N.length) (hR : ∀ r ∈ R, Stays r)
    (hD : ∀ i j, i < n → j < n → i ≠ j → ∀ v u W, N.getD i (fun _ _ => True) v W → R.getD j (fun _ _ => True) u W → D i j v u ∧ D j i u v)
    (hop : oblT P dl R w a (zipT (l.take n) ds R N))
    (h : ∀ (val : Nat → Value) n' x, (∀ i, i < n → R.getD i (fun _ _ => True) (val i) (w.plus n' x)) → (∀ i j, i < n → j < n → i ≠ j → D i j (val i) (val j)) → wpList P l.toArray Q (l.drop n) (putL dl val (List.range n) a) (w.plus n' x)) : (Code.region id l.toArray true).wp P Q a w := by
  simp only [Region.invTailB, Bool.and_eq_true, Bool.or_eq_true, decide_eq_true_eq] at hB
  obtain ⟨⟨⟨hinv, hplan⟩, hseq⟩, hds⟩ := hB
  have hnle : n ≤ l.toArray.size := by simpa using hn
  refine wp_region_any hm ?_
  obtain ⟨n0, x0, h0⟩ := World.more_drew w
  rw [h0]
  have key := wpAny_of_invT (P := P) (ops := l.toArray) (w0 := w) (a := a) (R := R) (Q := Q) (n := n) (ds := ds) (dl := dl) hinv
    (fun listed i0 inv hi0 hun0 => by
      rcases hplan with h | ⟨⟨h1, h2⟩, h3⟩
      · subst h; exact heads_of_all listed
      · exact heads_of_tail h1 h2 h3 listed i0 inv hi0 hun0)
    (fun i => by
      rw [List.getD_eq_getElem?_getD]
      cases hi : R[i]? with
      | none => exact fun _ _ _ _ _ => trivial
      | some r => exact hR r (List.mem_of_getElem? hi))
    (N := fun i => N.getD i (fun _ _ => True)) (D := D) hD
    (fun i o hi ho W hg => oblT_at _ hop i o _ _ _ (zipT_at (l.take n) ds R N (by simp; omega) (by simp; omega) (by simp; omega) i o (by rw [List.getElem?_take, if_pos hi]; simpa using ho)) W hg)
    (fun val W hg hv hdd listed inv hall => by
      obtain ⟨n', x, rfl⟩ := World.plus_of hg
      have hl := seq_listed inv hnle hall
      subst hl
      have hd : (l.drop n).length = l.toArray.size - n := by simp
      have := wpAny_of_seq (Q' := Q) (l.drop n) n _ (putL dl val (List.range n) a) (w.plus n' x) (fun j => by simp [List.getElem?_drop]) (by rw [hd]; exact hseq) (h val n' x hv hdd)
      rwa [hd] at this)
    n [] (List.range n) (Array.replicate l.toArray.size false) (fun _ => undef) (w.plus n0 x0) (by simp) List.nodup_nil List.nodup_range
    (fun i => ⟨fun h => absurd h List.not_mem_nil, fun h => by rw [getD_replicate_false] at h; exact absurd h.2 (by decide)⟩)
    (fun i => by rw [List.mem_range, getD_replicate_false]; exact ⟨fun h => ⟨h, rfl⟩, fun h => h.1⟩)
    (headInv_start n) (World.grows_plus _ _ _) (fun i hi => by cases hi) (fun i hi => by cases hi)
  rw [show n + (l.toArray.size - n) = l.toArray.size by omega] at key
  exact key
end Go

/-
  What is proved: the law of a region that draws its order, by properties of the values of each operation and of those it leans on, where some answers are pairwise different; behind the head a tail in order.
-/
namespace Go
open Go.RowKit
variable {P : Program} {ops : Array Oper}

theorem wpAny_of_invV {w0 : World} {a : Act} {R : Nat → (Nat → Value) → World → Prop} {Q : Exit → Act → World → Prop} {n : Nat} {ds : List (List Nat)} {dl : List (Option Tmp)} (hB : Region.invB ops n ds dl = true)
    (hheads0 : ∀ (listed : Array Bool) (i0 : Nat), HeadInv .any ops n listed → i0 < n → listed.getD i0 true = false → ∀ t ∈ Region.ready .any ops listed, t < n)
    (hR : ∀ i val W W', R i val W → W.grows W' → R i val W')
    (hloc : ∀ i val val' W, (∀ k, k = i ∨ k ∈ ds.getD i [] → val k = val' k) → R i val W → R i val' W)
    {N : Nat → Value → World → Prop} {D : Nat → Nat → Value → Value → Prop} (hD : ∀ i j, i < n → j < n → i ≠ j → ∀ v val W, N i v W → R j val W → D i j v (val j) ∧ D j i (val j) v)
    (hop : ∀ i o, i < n → ops[i]? = some o → ∀ val W, w0.grows W → (∀ j ∈ ds.getD i [], R j val W) → Oper.goes P o (putL dl val (ds.getD i []) a) W (fun v W' => R i (fun k => if k = i then v else val k) W' ∧ N i v W))
    (hK : ∀ val W, w0.grows W → (∀ i, i < n → R i val W) → (∀ i j, i < n → j < n → i ≠ j → D i j (val i) (val j)) → ∀ listed, HeadInv .any ops n listed → (∀ i, i < n → listed.getD i false = true) → wpAny P .any ops Q (ops.size - n) listed (putL dl val (List.range n) a) W) :
    ∀ (cnt : Nat) (L U : List Nat) (listed : Array Bool) (val : Nat → Value) (W : World), U.length = cnt → L.Nodup → U.Nodup → (∀ i, i ∈ L ↔ i < n ∧ listed.getD i false = true) → (∀ i, i ∈ U ↔ i < n ∧ listed.getD i false = false) →
      HeadInv .any ops n listed → w0.grows W → (∀ i ∈ L, R i val W) → (∀ i ∈ L, ∀ j ∈ L, i ≠ j → D i j (val i) (val j)) → wpAny P .any ops Q (cnt + (ops.size - n)) listed (putL dl val L a) W := by
  simp only [Region.invB, Bool.and_eq_true, decide_eq_true_eq] at hB
  obtain ⟨⟨hmix, hnle⟩, hall⟩ := hB
  simp only [Region.mixB, Bool.and_eq_true, decide_eq_true_eq] at hmix
  obtain ⟨⟨⟨hsel, _⟩, _⟩, hedge⟩ := hmix
  have hsp := Region.noSelect_spec hsel
  have spec : ∀ i o, i < n → ops[i]? = some o → o.guard = none ∧ dl.getD i none = o.dst ∧ (∀ j ∈ ds.getD i [], j < n ∧ Region.waitsFor .any ops i j = true) ∧ (ds.getD i []).Nodup ∧
      ∀ j, j < n → j ≠ i → (∀ d, dl.getD i none = some d → dl.getD j none ≠ some d) ∧ (j ∉ ds.getD i [] → ∀ d, dl.getD j none = some d → d ∉ o.looksAt ops) := by
    intro i o hi ho
    have h1 := List.all_eq_true.1 hall i (List.mem_range.2 hi)
    simp only [ho, Bool.and_eq_true, decide_eq_true_eq] at h1
    obtain ⟨⟨⟨⟨g1, g2⟩, g3⟩, g4⟩, g5⟩ := h1
    refine ⟨by simpa using g1, g2, fun j hj => ?_, g4, fun j hj hji => ?_⟩
    · have := List.all_eq_true.1 g3 j hj
      simpa using this
    · have h2 := List.all_eq_true.1 g5 j (List.mem_range.2 hj)
      simp only [Bool.or_eq_true, Bool.and_eq_true, decide_eq_true_eq] at h2
      rcases h2 with h2 | ⟨h2, h3⟩
      · exact absurd h2 hji
      · refine ⟨fun d hd hj' => ?_, fun hnd d hd => ?_⟩
        · rcases h2 with h2 | h2
          · rw [hd] at h2; cases h2
          · exact h2 (hj'.trans hd.symm)
        · rcases h3 with h3 | h3
          · exact absurd (by simpa using h3) hnd
          · rw [hd] at h3
            simpa using h3
  have edgeOf : ∀ i o, i < n → ops[i]? = some o → ∀ e ∈ o.after, Region.binds .any e = true → e.on < i := by
    intro i o hi ho e he hb
    have h1 := List.all_eq_true.1 hedge i (List.mem_range.2 hi)
    simp only [ho, Bool.and_eq_true] at h1
    have h2 := Array.all_eq_true_iff_forall_mem.1 h1.1 e he
    simpa only [hb, Bool.not_true, Bool.false_or, decide_eq_true_eq] using h2
  have unwait : ∀ (listed : Array Bool) (i j : Nat), i ∈ Region.ready .any ops listed → Region.waitsFor .any ops i j = true → listed.getD j false = true := by
    intro listed i j hi hw
    obtain ⟨oi, hoi, e, he, hb, hon⟩ := Region.waitsFor_spec hw
    obtain ⟨_, o', ho', hall⟩ := mem_ready.1 hi
    rw [hoi] at ho'; cases ho'
    have := hall e he hb
    rwa [hon] at this
  have at_lt : ∀ i, i < n → ∃ o, ops[i]? = some o := fun i hi => ⟨ops[i]'(by omega), Array.getElem?_eq_getElem (by omega)⟩
  have dst_ne : ∀ i, i < n → ∀ j, j < n → i ≠ j → ∀ d, dl.getD i none = some d → dl.getD j none ≠ some d := fun i hi j hj hij => by
    obtain ⟨o, ho⟩ := at_lt i hi
    exact ((spec i o hi ho).2.2.2.2 j hj (Ne.symm hij)).1
  intro cnt
  induction cnt with
  | zero =>
    intro L U listed val W hc hL hU hLm hUm inv hg hv hdd
    have he : U = [] := List.eq_nil_of_length_eq_zero hc
    have hl : ∀ i, i < n → listed.getD i false = true := fun i hi => by
      cases h : listed.getD i false with
      | true => rfl
      | false =>
        have := (hUm i).2 ⟨hi, h⟩
        rw [he] at this
        cases this
    have hp : L.Perm (List.range n) := (List.perm_ext_iff_of_nodup hL List.nodup_range).2 fun i => by
      rw [hLm, List.mem_range]
      exact ⟨fun h => h.1, fun h => ⟨h, hl i h⟩⟩
    rw [Nat.zero_add, putL_perm hp (fun i hi j hj hij => dst_ne i ((hLm i).1 hi).1 j ((hLm j).1 hj).1 hij)]
    exact hK val W hg (fun i hi => hv i ((hLm i).2 ⟨hi, hl i hi⟩)) (fun i j hi hj hij => hdd i ((hLm i).2 ⟨hi, hl i hi⟩) j ((hLm j).2 ⟨hj, hl j hj⟩) hij) listed inv hl
  | succ cnt ih =>
    intro L U listed val W hc hL hU hLm hUm inv hg hv hdd
    rw [show cnt + 1 + (ops.size - n) = (cnt + (ops.size - n)) + 1 by omega]
    obtain ⟨i0, hi0⟩ : ∃ i, i ∈ U := by
      cases U with
      | nil => simp at hc
      | cons x _ => exact ⟨x, List.mem_cons_self ..⟩
    have hi0' := (hUm i0).1 hi0
    have hheads := hheads0 listed i0 inv hi0'.1 (getD_in (by rw [inv.size]; omega) hi0'.2)
    have least : ∀ i, i < n → listed.getD i false = false → ∃ t, t ∈ Region.ready .any ops listed := by
      intro i
      induction i using Nat.strongRecOn with
      | _ i ih2 =>
        intro hi hl
        obtain ⟨o, ho⟩ := at_lt i hi
        by_cases h : ∃ e ∈ o.after, Region.binds .any e = true ∧ listed.getD e.on false = false
        · obtain ⟨e, he, hb, hel⟩ := h
          have := edgeOf i o hi ho e he hb
          exact ih2 e.on this (by omega) hel
        · refine ⟨i, mem_ready.2 ⟨getD_in (by rw [inv.size]; omega) hl, o, ho, fun e he hb => ?_⟩⟩
          cases hq : listed.getD e.on false with
          | true => rfl
          | false => exact absurd ⟨e, he, hb, hq⟩ h
    refine ⟨fun hnil => ?_, fun i hi => ?_⟩
    · exfalso
      obtain ⟨t, ht⟩ := least i0 hi0'.1 hi0'.2
      rw [hnil] at ht
      cases ht
    · have hin := hheads i hi
      have hl : listed.getD i false = false := getD_both (mem_ready.1 hi).1
      have inv' := inv.set hi hin
      obtain ⟨o, ho⟩ := at_lt i hin
      obtain ⟨sg, sd, sw, snd, sl⟩ := spec i o hin ho
      have set_ne : ∀ j, j ≠ i → (listed.setIfInBounds i true).getD j false = listed.getD j false := fun j hji => getD_set_ne false (Ne.symm hji)
      have set_self : (listed.setIfInBounds i true).getD i false = true := by
        have : i < listed.size := by rw [inv.size]; omega
        simp [this]
      have hiL : i ∉ L := fun h => by
        have := ((hLm i).1 h).2
        rw [hl] at this; cases this
      have hclosed : ∀ j ∈ L, ∀ k ∈ ds.getD j [], k ∈ L := fun j hj k hk => by
        obtain ⟨oj, hoj⟩ := at_lt j ((hLm j).1 hj).1
        obtain ⟨h1, h2⟩ := (spec j oj ((hLm j).1 hj).1 hoj).2.2.1 k hk
        obtain ⟨oj', hoj', e, he, hb, hon⟩ := Region.waitsFor_spec h2
        have h3 := inv.closed j oj' hoj' ((hLm j).1 hj).2 e he hb
        rw [hon] at h3
        exact (hLm k).2 ⟨h1, h3⟩
      have hDL : ∀ j ∈ ds.getD i [], j ∈ L := fun j hj => (hLm j).2 ⟨(sw j hj).1, unwait listed i j hi (sw j hj).2⟩
      have hexec : execOp (putL dl val L a).eval o = execOp (putL dl val (ds.getD i []) a).eval o := by
        have hp : L.Perm (ds.getD i [] ++ L.filter fun j => !(ds.getD i []).contains j) := by
          refine (List.perm_ext_iff_of_nodup hL (List.nodup_append.2 ⟨snd, hL.filter _, fun x hx y hy e => ?_⟩)).2 fun j => ?_
          · subst e
            have h3 : (ds.getD i []).contains x = true := List.contains_iff_mem.2 hx
            have h4 := (List.mem_filter.1 hy).2
            simp only [h3] at h4
            cases h4
          · rw [List.mem_append, List.mem_filter]
            constructor
            · intro hj
              by_cases h : j ∈ ds.getD i []
              · exact .inl h
              · exact .inr ⟨hj, by simpa using h⟩
            · rintro (h | h)
              · exact hDL j h
              · exact h.1
        rw [putL_perm hp (fun i hi j hj hij => dst_ne i ((hLm i).1 hi).1 j ((hLm j).1 hj).1 hij), putL_append]
        refine execOp_putL (ops := ops) (fun cs b => hsp i o cs b ho) _ _ fun j hj d hd => ?_
        obtain ⟨h1, h2⟩ := List.mem_filter.1 hj
        refine (sl j ((hLm j).1 h1).1 (fun e => hiL (e ▸ h1))).2 (by simpa using h2) d hd
      have hgo := hop i o hin ho val W hg (fun j hj => hv j (hDL j hj))
      have hrest : ∀ v W', W.grows W' → R i (fun k => if k = i then v else val k) W' ∧ N i v W → wpAny P .any ops Q (cnt + (ops.size - n)) (listed.setIfInBounds i true) ((putL dl val L a).put o.dst v) W' := by
        intro v W' g hrn
        obtain ⟨hr, hnw⟩ := hrn
        have e : (putL dl val L a).put o.dst v = putL dl (fun k => if k = i then v else val k) (L ++ [i]) a := by
          rw [putL_append, putL_congr (val' := fun k => if k = i then v else val k) L a (fun j hj => (if_neg (fun h => hiL (by rw [← h]; exact hj))).symm)]
          simp only [putL, if_true, sd]
        rw [e]
        refine ih (L ++ [i]) (U.erase i) _ _ W' ?_ ?_ (hU.erase _) (fun j => ?_) (fun j => ?_) inv' (hg.trans g) (fun j hj => ?_) (fun j hj k hk hjk => ?_)
        · have := List.length_erase_of_mem ((hUm i).2 ⟨hin, hl⟩)
          omega
        · rw [List.nodup_append]
          refine ⟨hL, List.nodup_cons.2 ⟨by simp, List.nodup_nil⟩, fun x hx y hy e => ?_⟩
          rw [List.mem_singleton] at hy
          exact hiL (by rw [← hy, ← e]; exact hx)
        · rw [List.mem_append, List.mem_singleton, hLm]
          by_cases hji : j = i
          · subst hji
            simp [set_self, hin]
          · rw [set_ne j hji]
            simp [hji]
        · rw [hU.mem_erase_iff, hUm]
          by_cases hji : j = i
          · subst hji
            simp [set_self]
          · rw [set_ne j hji]
            simp [hji]
        · rcases List.mem_append.1 hj with hj | hj
          · have : j ≠ i := fun h => hiL (by rw [← h]; exact hj)
            refine hloc j val _ W' (fun k hk => ?_) (hR j _ _ _ (hv j hj) g)
            have hkL : k ∈ L := by
              rcases hk with hk | hk
              · rw [hk]; exact hj
              · exact hclosed j hj k hk
            exact (if_neg (fun h => hiL (by rw [← h]; exact hkL))).symm
          · rw [List.mem_singleton] at hj
            subst hj
            exact hr
        · show D j k (if j = i then v else val j) (if k = i then v else val k)
          rcases List.mem_append.1 hj with hj1 | hj1 <;> rcases List.mem_append.1 hk with hk1 | hk1
          · rw [if_neg (fun h => hiL (by rw [← h]; exact hj1)), if_neg (fun h => hiL (by rw [← h]; exact hk1))]
            exact hdd j hj1 k hk1 hjk
          · rw [List.mem_singleton] at hk1
            subst hk1
            rw [if_neg hjk, if_pos rfl]
            exact (hD k j hin ((hLm j).1 hj1).1 (Ne.symm hjk) v val W hnw (hv j hj1)).2
          · rw [List.mem_singleton] at hj1
            subst hj1
            rw [if_pos rfl, if_neg (Ne.symm hjk)]
            exact (hD j k hin ((hLm k).1 hk1).1 hjk v val W hnw (hv k hk1)).1
          · rw [List.mem_singleton] at hj1 hk1
            exact absurd (hj1.trans hk1.symm) hjk
      unfold wpOp
      simp only [ho]
      rw [if_pos (by simp [Region.wanted, sg])]
      refine .inl ?_
      unfold Oper.wp
      unfold Oper.goes at hgo
      rw [hexec]
      generalize (execOp (putL dl val (ds.getD i []) a).eval o).run P W = r at *
      cases r with
      | halt z w' => simp only [goesUpon] at hgo
      | ok nx w' =>
        cases nx <;> simp only [goesUpon] at hgo <;> simp only [Oper.upon]
        case value u => exact hrest _ _ hgo.1 hgo.2
        case skip => exact hrest _ _ hgo.1 hgo.2
        case enter f args =>
          obtain ⟨rfl, hcall⟩ := hgo
          refine hcall.mono fun e w'' ⟨v, he, g, hp⟩ => ?_
          subst he
          exact hrest _ _ g hp



/-- what is asked of the operations of the head, one after another -/
def oblV (P : Program) (dl : List (Option Tmp)) (R : Nat → (Nat → Value) → World → Prop) (N : Nat → Value → World → Prop) (w0 : World) (a : Act) : Nat → List (Oper × List Nat) → Prop
  | _, [] => True
  | i, (o, D) :: l => (∀ (K : Value → World → Prop) (val : Nat → Value) n x, (∀ v W, R i (fun k => if k = i then v else val k) W → N i v (w0.plus n x) → K v W) → (∀ j ∈ D, R j val (w0.plus n x)) → o.goes P (putL dl val D a) (w0.plus n x) K) ∧ oblV P dl R N w0 a (i + 1) l
theorem oblV_at {dl : List (Option Tmp)} {R : Nat → (Nat → Value) → World → Prop} {N : Nat → Value → World → Prop} {w0 : World} {a : Act} : ∀ (l : List (Oper × List Nat)) (b : Nat), oblV P dl R N w0 a b l → ∀ (i : Nat) (o : Oper) (D : List Nat), l[i]? = some (o, D) →
    ∀ val W, w0.grows W → (∀ j ∈ D, R j val W) → Oper.goes P o (putL dl val D a) W (fun v W' => R (b + i) (fun k => if k = b + i then v else val k) W' ∧ N (b + i) v W)
  | [], _, _, i, o, D, h => by simp at h
  | _ :: l, b, hl, 0, o, D, h => by
    cases Option.some.inj h
    intro val W hg hd
    obtain ⟨n, x, rfl⟩ := World.plus_of hg
    exact hl.1 _ val n x (fun _ _ h1 h2 => ⟨h1, h2⟩) hd
  | _ :: l, b, hl, i + 1, o, D, h => by
    have := oblV_at l (b + 1) hl.2 i o D (by simpa using h)
    rwa [show b + 1 + i = b + (i + 1) by omega] at this
theorem zip_at {α β : Type} (d : β) : ∀ (l : List α) (m : List β), l.length ≤ m.length → ∀ i x, l[i]? = some x → (l.zip m)[i]? = some (x, m.getD i d)
  | [], _, _, i, x, h => by simp at h
  | _ :: _, [], h1, _, _, _ => by simp at h1
  | a :: l, b :: m, _, 0, x, h => by cases Option.some.inj h; rfl
  | a :: l, b :: m, h1, i + 1, x, h => by
    have := zip_at d l m (by simpa using h1) i x (by simpa using h)
    simpa using this
/-- operations that make memory, each with a property of its value and of those it leans on, and something new; behind them a tail in order -/
theorem wp_region_invV {id : Nat} {Q : Exit → Act → World → Prop} {a : Act} {w : World} {l : List Oper} (n : Nat) (ds : List (List Nat)) (dl : List (Option Tmp)) (R : Nat → (Nat → Value) → World → Prop) (N : Nat → Value → World → Prop) (D : Nat → Nat → Value → Value → Prop) (hm : P.follows .mixedOrders = true)
    (hB : (Region.invTailB l.toArray n ds dl && decide (n ≤ ds.length)) = true) (hn : n ≤ l.length) (hR : ∀ i val W W', R i val W → W.grows W' → R i val W')
    (hloc : ∀ i val val' W, (∀ k, k = i ∨ k ∈ ds.getD i [] → val k = val' k) → R i val W → R i val' W)
    (hD : ∀ i j, i < n → j < n → i ≠ j → ∀ v val W, N i v W → R j val W → D i j v (val j) ∧ D j i (val j) v)
    (hop : oblV P dl R N w a 0 ((l.take n).zip ds))
    (h : ∀ (val : Nat → Value) n' x, (∀ i, i < n → R i val (w.plus n' x)) → (∀ i j, i < n → j < n → i ≠ j → D i j (val i) (val j)) → wpList P l.toArray Q (l.drop n) (putL dl val (List.range n) a) (w.plus n' x)) : (Code.region id l.toArray true).wp P Q a w := by
  simp only [Region.invTailB, Bool.and_eq_true, Bool.or_eq_true, decide_eq_true_eq] at hB
  obtain ⟨⟨⟨hinv, hplan⟩, hseq⟩, hds⟩ := hB
  have hnle : n ≤ l.toArray.size := by simpa using hn
  refine wp_region_any hm ?_
  obtain ⟨n0, x0, h0⟩ := World.more_drew w
  rw [h0]
  have key := wpAny_of_invV (P := P) (ops := l.toArray) (w0 := w) (a := a) (R := R) (Q := Q) (n := n) (ds := ds) (dl := dl) hinv
    (fun listed i0 inv hi0 hun0 => by
      rcases hplan with h | ⟨⟨h1, h2⟩, h3⟩
      · subst h; exact heads_of_all listed
      · exact heads_of_tail h1 h2 h3 listed i0 inv hi0 hun0)
    hR hloc (N := N) (D := D) hD
    (fun i o hi ho val W hg hd => by
      have := oblV_at _ 0 hop i o (ds.getD i []) (zip_at [] (l.take n) ds (by simp; omega) i o (by rw [List.getElem?_take, if_pos hi]; simpa using ho)) val W hg hd
      rwa [Nat.zero_add] at this)
    (fun val W hg hv hdd listed inv hall => by
      obtain ⟨n', x, rfl⟩ := World.plus_of hg
      have hl := seq_listed inv hnle hall
      subst hl
      have hd : (l.drop n).length = l.toArray.size - n := by simp
      have := wpAny_of_seq (Q' := Q) (l.drop n) n _ (putL dl val (List.range n) a) (w.plus n' x) (fun j => by simp [List.getElem?_drop]) (by rw [hd]; exact hseq) (h val n' x hv hdd)
      rwa [hd] at this)
    n [] (List.range n) (Array.replicate l.toArray.size false) (fun _ => undef) (w.plus n0 x0) (by simp) List.nodup_nil List.nodup_range
    (fun i => ⟨fun h => absurd h List.not_mem_nil, fun h => by rw [getD_replicate_false] at h; exact absurd h.2 (by decide)⟩)
    (fun i => by rw [List.mem_range, getD_replicate_false]; exact ⟨fun h => ⟨h, rfl⟩, fun h => h.1⟩)
    (headInv_start n) (World.grows_plus _ _ _) (fun i hi => by cases hi) (fun i hi => by cases hi)
  rw [show n + (l.toArray.size - n) = l.toArray.size by omega] at key
  exact key
end Go

/-
  What is proved: copies of a register, each behind the one before.
-/
namespace Go.Proofs.Ytdminglglapnlaa
open Go.RowKit

/-- a copy of a register, whose blocks are from lo on, below hi -/
def Cp (r : Reg) (lo hi : Nat) (W : World) (v : Value) : Prop := ∃ (ma ca : Option Addr) (mc cc : Nat) (row : Nat → Value), v = .agg #[.slice ma r.nm mc, .slice ca r.nc cc] ∧ RegOwn lo W (.slice ma r.nm mc) (.slice ca r.nc cc) r row ∧
  (∀ b, (Value.slice ma r.nm mc).ownBlock = some b → b < hi) ∧ (∀ b, (Value.slice ca r.nc cc).ownBlock = some b → b < hi) ∧ ∀ m, m < r.nm → ∀ b, (row m).ownBlock = some b → b < hi
theorem RegOwn.grow {base : Nat} {W W' : World} {mv cv : Value} {r : Reg} {row : Nat → Value} (h : RegOwn base W mv cv r row) (g : W.grows W') : RegOwn base W' mv cv r row := ⟨h.1.grow g, h.2.grow g⟩
theorem Cp.grow {r : Reg} {lo hi : Nat} {W W' : World} {v : Value} (h : Cp r lo hi W v) (g : W.grows W') : Cp r lo hi W' v := by
  obtain ⟨ma, ca, mc, cc, row, h1, h2, h3⟩ := h
  exact ⟨ma, ca, mc, cc, row, h1, h2.grow g, h3⟩
theorem Cp.of {r : Reg} {lo : Nat} {W : World} {ma ca : Option Addr} {mc cc : Nat} {row : Nat → Value} (h : RegOwn lo W (.slice ma r.nm mc) (.slice ca r.nc cc) r row) : Cp r lo W.heap.size W (.agg #[.slice ma r.nm mc, .slice ca r.nc cc]) :=
  ⟨ma, ca, mc, cc, row, rfl, h, fun b hb => (h.1.row'.lt b hb).2, fun b hb => (h.2.lt b hb).2, fun m hm b hb => h.1.below m hm b hb⟩
/-- what the operations of region 8 answer -/
def R8 (r : Reg) (v0 : Value) (B : Nat) (i : Nat) (val : Nat → Value) (W : World) : Prop :=
  if i = 0 ∨ i = 2 ∨ i = 4 ∨ i = 6 then val i = v0
  else if i = 1 then ∃ lo hi, Cp r lo hi W (val 1) ∧ B ≤ lo ∧ hi ≤ W.heap.size
  else if i = 3 ∨ i = 5 ∨ i = 7 then ∃ lo hi lo' hi', Cp r lo hi W (val (i - 2)) ∧ Cp r lo' hi' W (val i) ∧ B ≤ lo ∧ hi ≤ lo' ∧ hi' ≤ W.heap.size
  else ∃ b, val i = .pointer (some ⟨b, 0, none⟩) ∧ W.heap[b]? = some (.cells #[.slice none 0 0, .slice none 0 0] 25) ∧ B ≤ b
def N8 (i : Nat) (v : Value) (W : World) : Prop := 8 ≤ i → v = .pointer (some ⟨W.heap.size, 0, none⟩)
def D8 (i j : Nat) (v u : Value) : Prop := 8 ≤ i → 8 ≤ j → v ≠ u
theorem R8.stays {r : Reg} {v0 : Value} {B : Nat} (i : Nat) (val : Nat → Value) (W W' : World) (h : R8 r v0 B i val W) (g : W.grows W') : R8 r v0 B i val W' := by
  unfold R8 at h ⊢
  have gs := g.size
  split
  · rename_i h1; rw [if_pos h1] at h; exact h
  · rename_i h1
    rw [if_neg h1] at h
    split
    · rename_i h2
      rw [if_pos h2] at h
      obtain ⟨lo, hi, a1, a2, a3⟩ := h
      exact ⟨lo, hi, a1.grow g, a2, by omega⟩
    · rename_i h2
      rw [if_neg h2] at h
      split
      · rename_i h3
        rw [if_pos h3] at h
        obtain ⟨lo, hi, lo', hi', a1, a2, a3, a4, a5⟩ := h
        exact ⟨lo, hi, lo', hi', a1.grow g, a2.grow g, a3, a4, by omega⟩
      · rename_i h3
        rw [if_neg h3] at h
        obtain ⟨b, h4, h5, h6⟩ := h
        exact ⟨b, h4, g.heap_of h5, h6⟩
def ds8 : List (List Nat) := [[], [0], [], [2, 1], [], [4, 3], [], [6, 5], [], [], [], []]
theorem R8.loc {r : Reg} {v0 : Value} {B : Nat} (i : Nat) (val val' : Nat → Value) (W : World) (he : ∀ k, k = i ∨ k ∈ ds8.getD i [] → val k = val' k) (h : R8 r v0 B i val W) : R8 r v0 B i val' W := by
  unfold R8 at h ⊢
  have hi := he i (.inl rfl)
  rw [← hi]
  by_cases h3 : i = 3 ∨ i = 5 ∨ i = 7
  · have h2 : val (i - 2) = val' (i - 2) := he _ (.inr (by rcases h3 with rfl | rfl | rfl <;> simp [ds8]))
    rw [← h2]
    by_cases h1 : i = 1
    · omega
    · rw [if_neg h1] at h ⊢
      exact h
  · rw [if_neg h3] at h ⊢
    by_cases h1 : i = 1
    · subst h1
      rw [← hi]
      exact h
    · rw [if_neg h1] at h ⊢
      exact h
theorem R8.new {r : Reg} {v0 : Value} {B : Nat} (i j : Nat) (_ : i < 12) (_ : j < 12) (_ : i ≠ j) (v : Value) (val : Nat → Value) (W : World) (hn : N8 i v W) (h : R8 r v0 B j val W) : D8 i j v (val j) ∧ D8 j i (val j) v := by
  have key : 8 ≤ i → 8 ≤ j → v ≠ val j := fun h1 h2 => by
    unfold R8 at h
    rw [if_neg (by omega), if_neg (by omega), if_neg (by omega)] at h
    obtain ⟨b, h3, h4, -⟩ := h
    have := World.lt_of_block h4
    rw [hn h1, h3]
    intro e
    simp only [Value.pointer.injEq, Option.some.injEq, Addr.mk.injEq] at e
    omega
  exact ⟨fun h1 h2 => key h1 h2, fun h1 h2 => (key h2 h1).symm⟩
theorem R8.load {r : Reg} {v0 : Value} {B : Nat} {i : Nat} (hi : i = 0 ∨ i = 2 ∨ i = 4 ∨ i = 6) (val : Nat → Value) (W : World) : R8 r v0 B i (fun k => if k = i then v0 else val k) W := by
  unfold R8
  rw [if_pos hi]
  exact if_pos rfl
theorem R8.reg {r : Reg} {v0 : Value} {B : Nat} {i : Nat} (hi : i = 0 ∨ i = 2 ∨ i = 4 ∨ i = 6) {val : Nat → Value} {W : World} (h : R8 r v0 B i val W) : val i = v0 := by
  unfold R8 at h
  rwa [if_pos hi] at h
theorem R8.first {r : Reg} {v0 : Value} {B lo hi : Nat} {val : Nat → Value} {W : World} {v : Value} (h : Cp r lo hi W v) (h1 : B ≤ lo) (h2 : hi ≤ W.heap.size) : R8 r v0 B 1 (fun k => if k = 1 then v else val k) W := by
  unfold R8
  rw [if_neg (by omega), if_pos rfl]
  exact ⟨lo, hi, h, h1, h2⟩
theorem R8.next {r : Reg} {v0 : Value} {B lo hi lo' hi' : Nat} {i : Nat} (hi3 : i = 3 ∨ i = 5 ∨ i = 7) {val : Nat → Value} {W : World} {v : Value} (h0 : Cp r lo hi W (val (i - 2))) (h : Cp r lo' hi' W v) (h1 : B ≤ lo) (h2 : hi ≤ lo') (h3 : hi' ≤ W.heap.size) : R8 r v0 B i (fun k => if k = i then v else val k) W := by
  unfold R8
  rw [if_neg (by omega), if_neg (by omega), if_pos hi3]
  refine ⟨lo, hi, lo', hi', ?_, ?_, h1, h2, h3⟩
  · dsimp only; rw [if_neg (by omega)]; exact h0
  · dsimp only; rw [if_pos rfl]; exact h
theorem R8.box {r : Reg} {v0 : Value} {B : Nat} {i : Nat} (hi : 8 ≤ i) {val : Nat → Value} {W : World} {b : Nat} (h : W.heap[b]? = some (.cells #[.slice none 0 0, .slice none 0 0] 25)) (hb : B ≤ b) : R8 r v0 B i (fun k => if k = i then .pointer (some ⟨b, 0, none⟩) else val k) W := by
  unfold R8
  rw [if_neg (by omega), if_neg (by omega), if_neg (by omega)]
  exact ⟨b, if_pos rfl, h, hb⟩
theorem Cp.lt {r : Reg} (hc : 1 ≤ r.nc) {lo hi : Nat} {W : World} {v : Value} (h : Cp r lo hi W v) : ∃ b, lo ≤ b ∧ b < hi ∧ ∀ lo' hi', Cp r lo' hi' W v → lo' ≤ b ∧ b < hi' := by
  obtain ⟨ma, ca, mc, cc, row, rfl, h2, h3, h4, h5⟩ := h
  obtain ⟨b, cap, he⟩ := Joins.ownsRow_form h2.2 (by omega)
  cases he
  refine ⟨b, (h2.2.lt b rfl).1, h4 b rfl, fun lo' hi' h' => ?_⟩
  obtain ⟨ma', ca', mc', cc', row', e, k2, k3, k4, k5⟩ := h'
  cases e
  exact ⟨(k2.2.lt b rfl).1, k4 b rfl⟩
theorem R8.prev {r : Reg} (hc : 1 ≤ r.nc) {v0 : Value} {B : Nat} {i : Nat} (hi : i = 1 ∨ i = 3 ∨ i = 5 ∨ i = 7) {val : Nat → Value} {W : World} (h : R8 r v0 B i val W) : ∃ lo hi, Cp r lo hi W (val i) ∧ B ≤ lo ∧ hi ≤ W.heap.size := by
  unfold R8 at h
  rw [if_neg (by omega)] at h
  by_cases h1 : i = 1
  · rw [if_pos h1] at h
    subst h1
    exact h
  · rw [if_neg h1, if_pos (by omega)] at h
    obtain ⟨lo, hi, lo', hi', a1, a2, a3, a4, a5⟩ := h
    obtain ⟨b, b1, b2, -⟩ := a1.lt hc
    exact ⟨lo', hi', a2, by omega, a5⟩
theorem R8.ptr {r : Reg} {v0 : Value} {B : Nat} {i : Nat} (hi : 8 ≤ i) {val : Nat → Value} {W : World} (h : R8 r v0 B i val W) : ∃ b, val i = .pointer (some ⟨b, 0, none⟩) ∧ W.heap[b]? = some (.cells #[.slice none 0 0, .slice none 0 0] 25) ∧ B ≤ b := by
  unfold R8 at h
  rwa [if_neg (by omega), if_neg (by omega), if_neg (by omega)] at h
theorem rows_eq {lo lo' : Nat} {W : World} {mv : Value} {k nc : Nat} {who : Nat → Int} {row row' : Nat → Value} {val val' : Nat → Nat → Int} (h : MarksOwn lo W mv k nc who row val) (h' : MarksOwn lo' W mv k nc who row' val') {m : Nat} (hm : m < k) : row m = row' m := by
  obtain ⟨b, cap, rfl⟩ := Joins.ownsRow_form h.row' (by omega)
  have e1 := h.row'.cellAt (m * 2 + 1) (by omega)
  have e2 := h'.row'.cellAt (m * 2 + 1) (by omega)
  rw [tableL_get _ hm (by omega)] at e1 e2
  rw [e1] at e2
  exact Option.some.inj e2
theorem Cp.both {r : Reg} {lo hi lo' hi' : Nat} {W : World} {v : Value} (h : Cp r lo hi W v) (h' : Cp r lo' hi' W v) : Cp r lo hi' W v := by
  obtain ⟨ma, ca, mc, cc, row, rfl, k2, k3, k4, k5⟩ := h
  obtain ⟨ma', ca', mc', cc', row', e, j2, j3, j4, j5⟩ := h'
  cases e
  exact ⟨ma, ca, mc, cc, row, rfl, k2, j3, j4, fun m hm b hb => j5 m hm b (by rw [← rows_eq k2.1 j2.1 hm]; exact hb)⟩
/-- all four copies, one behind another -/
theorem R8.four {r : Reg} (hc : 1 ≤ r.nc) {v0 : Value} {B : Nat} {val : Nat → Value} {W : World} (h3 : R8 r v0 B 3 val W) (h5 : R8 r v0 B 5 val W) (h7 : R8 r v0 B 7 val W) :
    ∃ l1 t1 l2 t2 l3 t3 l4 t4, Cp r l1 t1 W (val 1) ∧ Cp r l2 t2 W (val 3) ∧ Cp r l3 t3 W (val 5) ∧ Cp r l4 t4 W (val 7) ∧ B ≤ l1 ∧ t1 ≤ l2 ∧ l2 < t2 ∧ t2 ≤ l3 ∧ l3 < t3 ∧ t3 ≤ l4 ∧ t4 ≤ W.heap.size := by
  unfold R8 at h3 h5 h7
  rw [if_neg (by omega), if_neg (by omega), if_pos (by omega)] at h3 h5 h7
  obtain ⟨l1, t1, l2, t2, a1, a2, a3, a4, a5⟩ := h3
  obtain ⟨l2', t2', l3, t3, b1, b2, b3, b4, b5⟩ := h5
  obtain ⟨l3', t3', l4, t4, c1, c2, c3, c4, c5⟩ := h7
  have m2 := a2.both b1
  have m3 := b2.both c1
  obtain ⟨x2, y2, z2, -⟩ := m2.lt hc
  obtain ⟨x3, y3, z3, -⟩ := m3.lt hc
  exact ⟨l1, t1, l2, t2', l3, t3', l4, t4, a1, m2, m3, c2, a3, a4, by omega, b4, by omega, c4, c5⟩
end Go.Proofs.Ytdminglglapnlaa

