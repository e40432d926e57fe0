/-
  What is proved: append onto a slice without elements and without room, as a step of a chain.
-/
import Derived.Test.YtdminglglapnlaaM6
import Derived.Test.YtdminglglapnlaaM11
import Derived.Test.YtdminglglapnlaaM14
import Derived.Test.YtdminglglapnlaaM5
import Derived.Test.YtdminglglapnlaaM13
import Derived.Test.YtdminglglapnlaaM7
import Derived.Test.YtdminglglapnlaaM2
import Derived.Test.YtdminglglapnlaaM8
import Derived.Test.YtdminglglapnlaaM9
import Derived.Test.YtdminglglapnlaaM15
import Derived.Deep.CutRange
import Derived.OpenShut
set_option linter.all false
namespace Go
open Go.RowKit
section
variable {P : Program} {ops : Array Oper} {w0 : World}
theorem wpChain_append_fresh {rest : List Oper} {o : Oper} {a : Act} {Q : Act → World → Prop} {W : World} (hgd : o.guard = none) (s x : Operand) (t : TypeId)
    (ho : o.op = .call { callee := .builtin .append, args := #[s, x], argTypes := #[t, t] })
    (e : TypeId) (z : Value) (size bytes : Nat) (ht : P.underlying t = some (.slice e)) (hi : P.knows e z size bytes) (hzs : z.cells.size = size) (hsz : 0 < size)
    (A : Option Addr) (hs : a.eval s = .slice A 0 0) (xv : Value) (hx : a.eval x = xv) (m : Nat) (news : List Value) (hsrc : ∀ W0, W.grows W0 → SrcAt W0 xv m size news) (h0 : 0 < m) (h63 : m ≤ maxLen) (hbytes : m * bytes ≤ 140737488355328)
    (h : ∀ (W0 : World) cap xs, W.grows W0 → m ≤ cap → cap ≤ maxLen → xs.size = cap * size → xs.toList.take (m * size) = news → wpChain P ops w0 Q rest (a.put o.dst (.slice (some ⟨W0.heap.size, 0, none⟩) m cap)) (W0.drew.alloc (.cells xs e))) :
    wpChain P ops w0 Q (o :: rest) a W := by
  intro W0 hg hg0
  rw [if_pos (by simp [Region.wanted, hgd])]
  obtain ⟨cap, xs, hr, h2, h3, h4, h5⟩ := run_append_fresh (P := P) W0 t o.type e z size bytes ht hi hzs hsz A xv m news (hsrc W0 hg) h0 h63 hbytes
  unfold Oper.goesO execOp
  simp only [ho, resolve, invoke, builtin, Sem.run_bind, Sem.run_pure, Result.andThen_ok, List.map_toArray, List.map_cons, List.map_nil, hs, hx, hr]
  exact ⟨hg0.trans ((World.grows.refl _).drew.alloc _), h W0 cap xs hg h2 h3 h4 h5⟩
end
end Go

/-
  What is proved: a register as new memory (44): its marks, its values and its costs lie in rows of the call's own.
-/
namespace Go.Proofs.Ytdminglglapnlaa
open Go.RowKit
attribute [local irreducible] Go.wpCalm

theorem el65 : Try.prog.knows 65 (.agg #[.int .i64 0, .slice none 0 0]) 2 32 := Program.knows_of (by kernel_rfl)
def valL (n : Nat) (f : Nat → Int) : List Value := tableL n 1 (fun i _ => .int .i64 (f i))
/-- k marks of a register in a row of the call's own, each with its values in a row of its own -/
structure MarksOwn (base : Nat) (W : World) (mv : Value) (k nc : Nat) (who : Nat → Int) (row : Nat → Value) (val : Nat → Nat → Int) : Prop where
  row' : W.ownsRow base 65 2 mv k (tableL k 2 (mcell who row))
  val' : ∀ m, m < k → W.ownsRow base 3 1 (row m) nc (valL nc (val m))
  apart : ∀ m m', m < m' → m' < k → ∀ b, (row m).ownBlock = some b → (row m').ownBlock ≠ some b
  below : ∀ m, m < k → ∀ b, (row m).ownBlock = some b → b < W.heap.size
theorem valL_slice {W : World} {base : Nat} {v : Value} {n : Nat} {f : Nat → Int} (h : W.ownsRow base 3 1 v n (valL n f)) : IntsAt W v n f := h.sliceAt fun i j hi hj => tableL_get _ hi hj
section
variable {base : Nat} {W W' : World} {mv : Value} {k nc : Nat} {who : Nat → Int} {row : Nat → Value} {val : Nat → Nat → Int}
theorem MarksOwn.grow (h : MarksOwn base W mv k nc who row val) (g : W.grows W') : MarksOwn base W' mv k nc who row val :=
  ⟨h.row'.grow g, fun m hm => (h.val' m hm).grow g, h.apart, fun m hm b hb => Nat.lt_of_lt_of_le (h.below m hm b hb) g.size⟩
theorem MarksOwn.zero (W : World) (base nc : Nat) (who : Nat → Int) (val : Nat → Nat → Int) : MarksOwn base W (.slice none 0 0) 0 nc who (fun _ => .slice none 0 0) val :=
  ⟨World.ownsRow_nil _ _ _ _, fun m hm => absurd hm (Nat.not_lt_zero _), fun _ _ _ h => absurd h (Nat.not_lt_zero _), fun m hm => absurd hm (Nat.not_lt_zero _)⟩
theorem mark_cells (f : Int) (u : Value) (hu : u.oneCell' = true) : ∀ x ∈ tableL 1 2 (mcell (fun _ => f) (fun _ => u)), x.oneCell' = true := by
  intro x hx
  have : tableL 1 2 (mcell (fun _ => f) (fun _ => u)) = [.int .i64 f, u] := rfl
  rw [this] at hx
  simp at hx
  rcases hx with rfl | rfl
  · rfl
  · exact hu
theorem mark_slice (w : World) (f : Int) (u : Value) (t b : Nat) (hb : b = w.heap.size) : SliceAt (w.alloc (.cells #[.int .i64 f, u] t)) (.slice (some ⟨b, 0, none⟩) 1 1) 1 2 (mcell (fun _ => f) (fun _ => u)) := by
  subst hb
  refine ⟨_, _, rfl, by omega, by unfold maxLen; omega, fun i j hi hj => ⟨_, _, rfl, ?_⟩⟩
  have hi0 : i = 0 := by omega
  subst hi0
  have hj0 : j = 0 ∨ j = 1 := by omega
  rcases hj0 with rfl | rfl <;> simp [go_sem, mcell]
/-- a mark more -/
theorem MarksOwn.push (h : MarksOwn base W mv k nc who row val) {v u : Value} (hown : W'.ownsRow base 65 2 v (k + 1) (tableL k 2 (mcell who row) ++ tableL 1 2 (mcell (fun _ => who k) (fun _ => u)))) (g : W.grownBy W' mv.ownBlock)
    (hu : W.ownsRow base 3 1 u nc (valL nc (val k))) (hnew : ∀ m, m < k → ∀ b, (row m).ownBlock = some b → u.ownBlock ≠ some b) :
    MarksOwn base W' v (k + 1) nc who (fun m => if m < k then row m else u) val := by
  refine ⟨?_, fun m hm => ?_, fun m m' hmm hm' b hb => ?_, fun m hm b hb => ?_⟩
  · have e : tableL (k + 1) 2 (mcell who (fun m => if m < k then row m else u)) = tableL k 2 (mcell who row) ++ tableL 1 2 (mcell (fun _ => who k) (fun _ => u)) := by
      rw [tableL_snoc]
      congr 1
      · exact tableL_congr (fun i j hi hj => by unfold mcell; dsimp only; rw [if_pos hi]) (by omega)
      · show [mcell _ _ k 0, mcell _ _ k 1] = [mcell _ _ 0 0, mcell _ _ 0 1]
        simp [mcell]
    rw [e]
    exact hown
  · try dsimp only
    by_cases e : m < k
    · rw [if_pos e]; exact (h.val' m e).other h.row' (by decide) g
    · have : m = k := by omega
      subst this
      rw [if_neg e]; exact hu.other h.row' (by decide) g
  · try dsimp only at hb ⊢
    rw [if_pos (by omega)] at hb
    by_cases e : m' < k
    · rw [if_pos e]; exact h.apart m m' hmm e b hb
    · rw [if_neg e]; exact hnew m (by omega) b hb
  · try dsimp only at hb
    have gs := g.size
    split at hb
    · have := h.below m (by assumption) b hb; omega
    · have := (hu.lt b hb).2; omega
end
theorem heap_by' {W W' : World} {k : Nat} {c : Array Value} {t : TypeId} (h : W.heap[k]? = some (.cells c t)) {base e size : Nat} {v : Value} {n : Nat} {xs : List Value} (ho : W.ownsRow base e size v n xs) (he : e ≠ t) (g : W.grownBy W' v.ownBlock) : W'.heap[k]? = some (.cells c t) := by
  rw [g.block k (World.lt_of_block h) (fun e' => row_block ho h he k e'.symm rfl)]
  exact h
/-- a box is written -/
theorem MarksOwn.set {base : Nat} {W : World} {mv : Value} {k nc : Nat} {who : Nat → Int} {row : Nat → Value} {val : Nat → Nat → Int} (h : MarksOwn base W mv k nc who row val) {b : Nat} {c : Array Value} {t : TypeId} (hb : W.heap[b]? = some (.cells c t)) (h1 : t ≠ 65) (h2 : t ≠ 3) (i : Nat) (x : Value) : MarksOwn base (W.setCell ⟨b, i, none⟩ x) mv k nc who row val :=
  ⟨ownsRow_setCell_other h.row' (fun e => row_block h.row' hb (Ne.symm h1) _ e rfl) _, fun m hm => ownsRow_setCell_other (h.val' m hm) (fun e => row_block (h.val' m hm) hb (Ne.symm h2) _ e rfl) _, h.apart, fun m hm b hb => by simpa using h.below m hm b hb⟩
/-- a register in rows of the call's own -/
def RegOwn (base : Nat) (W : World) (mv cv : Value) (r : Reg) (row : Nat → Value) : Prop := MarksOwn base W mv r.nm r.nc r.who row r.val ∧ W.ownsRow base 2 1 cv r.nc (valL r.nc r.cost)
theorem RegOwn.at' {base : Nat} {W : World} {mv cv : Value} {r : Reg} {row : Nat → Value} (h : RegOwn base W mv cv r row) (hr : ∀ m, m < r.nm → r.nv m = r.nc) : RegAt W (.agg #[mv, cv]) r :=
  ⟨mv, cv, row, rfl, h.1.row'.sliceAt fun i j hi hj => tableL_get _ hi hj, h.2.sliceAt fun i j hi hj => tableL_get _ hi hj, fun m hm => by rw [hr m hm]; exact valL_slice (h.1.val' m hm)⟩
theorem ints_cells (n : Nat) (f : Nat → Int) : ∀ u ∈ tableL n 1 (fun i _ => Value.int .i64 (f i)), u.oneCell' = true := by
  intro u hu
  obtain ⟨k, -, rfl⟩ := List.mem_map.1 hu
  rfl
theorem src_ints {w : World} {v : Value} {n : Nat} {f : Nat → Int} (h : IntsAt w v n f) : SrcAt w v n 1 (valL n f) := SliceAt.src (by omega) h
set_option maxRecDepth 100000 in
set_option maxHeartbeats 4000000 in
theorem copied_c (w : World) (v : Value) (r : Reg) (hv : RegAt w v r) (hr : r.Ok) :
    Calls Try.prog 44 #[v] w fun e w' => ∃ (ma ca : Option Addr) (mc cc : Nat) (row : Nat → Value), e = .returned (.agg #[.slice ma r.nm mc, .slice ca r.nc cc]) ∧ RegOwn w.heap.size w' (.slice ma r.nm mc) (.slice ca r.nc cc) r row ∧ w.grows w' := by
  obtain ⟨mb, mo, mc, cb, co, cc, rb, ro, rc, rfl, hm1, hm2, hc1, hc2, hR⟩ := hv.ok hr
  have Hcost : Hid (IntsAt w (.slice (some ⟨cb, co, none⟩) r.nc cc) r.nc r.cost) := Lib.hid (by
    obtain ⟨mv, cv, row, he, -, h2, -⟩ := hv
    cases he
    exact h2)
  have HR := Lib.hid hR
  have hr1 := hr.m1
  have hr10 := hr.m10
  have hrc1 := hr.c1
  have hrc8 := hr.c8
  unfold maxLen at hm2 hc2
  clear hR hv hr
  go_enter Try.func44, Try.ntmps44
  go_upto_region 1 with fail
  generalize hV : World.alloc _ _ = V
  have gV : w.grows V := by rw [← hV]; (repeat (first | exact World.grows.refl _ | assumption | refine World.grows.alloc ?_ _ | refine World.grows.plus ?_ _ _ | refine World.grows.drew ?_))
  have qa : V.heap[w.heap.size]? = some (.cells #[.slice (some ⟨mb, mo, none⟩) r.nm mc, .slice (some ⟨cb, co, none⟩) r.nc cc] 25) := by rw [← hV]; exact World.grows.heap_of (by (repeat (first | exact World.grows.refl _ | assumption | refine World.grows.alloc ?_ _ | refine World.grows.plus ?_ _ _ | refine World.grows.drew ?_))) (World.heap_at _ _ _ rfl)
  have qb : V.heap[w.heap.size + 1]? = some (.cells #[.slice none 0 0, .slice none 0 0] 25) := by rw [← hV]; exact World.heap_at _ _ _ (by simp)
  have q10 : V.cell? ⟨w.heap.size, 0, none⟩ = some (.slice (some ⟨mb, mo, none⟩) r.nm mc) := cell_of_heap qa rfl
  have q11 : V.cell? ⟨w.heap.size, 1, none⟩ = some (.slice (some ⟨cb, co, none⟩) r.nc cc) := cell_of_heap qa rfl
  have HZ := Lib.hid gV
  have HA := Lib.hid qa
  have HB := Lib.hid qb
  have hVs : w.heap.size + 2 = V.heap.size := by rw [← hV]; simp
  clear hV gV qa qb
  go_upto_region 2 with (at_builtin; go_loud (refine wpList_append_fresh _ rfl (.tmp 5) (.tmp 7) 23 (by rfl) 2 (.int .i64 0) 1 8 Try.underlying23 el2 (by rfl) (by omega) _ (by rfl) _ (by rfl) r.nc _ (src_ints (Hcost.out.mono (HZ.out.trans (by (repeat (first | exact World.grows.refl _ | assumption | refine World.grows.alloc ?_ _ | refine World.grows.plus ?_ _ _ | refine World.grows.drew ?_)))))) (by omega) (by unfold maxLen; omega) (by omega) ?_; intro cap xs h1 h2 h3 h4; have hC := Lib.hid (ownsRow_of (base := w.heap.size) (World.heap_at _ (.cells xs 2) _ (by simp)) (by omega) h1 h2 h3 h4 (by simp [valL, tableL_length]) : World.ownsRow ((V.alloc (.cells #[] 2)).alloc (.cells xs 2)) w.heap.size 2 1 (.slice (some ⟨V.heap.size + 1, 0, none⟩) r.nc cap) r.nc (valL r.nc r.cost)); clear h3 h4))
  obtain ⟨k3, hk3⟩ : ∃ k, V.heap.size + 1 = k := ⟨_, rfl⟩
  have hX : ((((V.alloc (.cells #[] 2)).alloc (.cells xs 2)).alloc (.cells #[.slice none 0 0, .slice (some ⟨k3, 0, none⟩) r.nc cap] 25)).drew).heap[k3 + 1]? = some (.cells #[.slice none 0 0, .slice (some ⟨k3, 0, none⟩) r.nc cap] 25) := (World.heap_drew _ _).trans (World.heap_at _ _ _ (by simp; omega))
  have hY : V.grows ((((V.alloc (.cells #[] 2)).alloc (.cells xs 2)).alloc (.cells #[.slice none 0 0, .slice (some ⟨k3, 0, none⟩) r.nc cap] 25)).drew) := by (repeat (first | exact World.grows.refl _ | assumption | refine World.grows.alloc ?_ _ | refine World.grows.plus ?_ _ _ | refine World.grows.drew ?_))
  have hC2 := hC.out.grow (w' := (((V.alloc (.cells #[] 2)).alloc (.cells xs 2)).alloc (.cells #[.slice none 0 0, .slice (some ⟨V.heap.size + 1, 0, none⟩) r.nc cap] 25)).drew) (by (repeat (first | exact World.grows.refl _ | assumption | refine World.grows.alloc ?_ _ | refine World.grows.plus ?_ _ _ | refine World.grows.drew ?_)))
  rw [hk3] at hC2 ⊢
  generalize World.drew _ = Y at hX hY hC2 ⊢
  have YA := Lib.hid (hY.heap_of HA.out)
  have YB := Lib.hid (hY.heap_of HB.out)
  have Yg := Lib.hid (HZ.out.trans hY)
  have YX := Lib.hid hX
  have YC := Lib.hid hC2
  have hYs := hY.size
  clear hX hY hC2 hC HA HB HZ q10 q11
  unfold maxLen at h2
  go_wp2
  go_loopw [4] (fun i wr => ∃ (k : Nat) (mv : Value) (row : Nat → Value), k ≤ r.nm ∧ i = .int .i64 k ∧ Hid (MarksOwn w.heap.size wr mv k r.nc r.who row r.val) ∧ Hid (wr.heap[k3 + 1]? = some (.cells #[mv, .slice (some ⟨k3, 0, none⟩) r.nc cap] 25)) ∧ Hid (wr.ownsRow w.heap.size 2 1 (.slice (some ⟨k3, 0, none⟩) r.nc cap) r.nc (valL r.nc r.cost)) ∧
    Hid (wr.heap[w.heap.size]? = some (.cells #[.slice (some ⟨mb, mo, none⟩) r.nm mc, .slice (some ⟨cb, co, none⟩) r.nc cc] 25)) ∧ Hid (wr.heap[w.heap.size + 1]? = some (.cells #[.slice none 0 0, .slice none 0 0] 25)) ∧ Hid (w.grows wr) ∧ w.heap.size + 2 ≤ wr.heap.size) (fun i _ => r.nm - (intOf i).toNat)
  case atStart => exact ⟨0, _, _, by omega, rfl, Lib.hid (MarksOwn.zero _ _ _ _ _), YX, YC, YA, YB, Yg, by omega⟩
  case round =>
    obtain ⟨k, mv, row, hk, rfl, hM, hX, hC, hA, hB, hg, hs⟩ := hrel
    have hk3' : w.heap.size + 2 < k3 + 1 := by omega
    clear hVs hk3 hYs
    obtain ⟨ma, mcap, rfl, -, -⟩ := row_form hM.out.row'
    have q10 : wr.cell? ⟨w.heap.size, 0, none⟩ = some (.slice (some ⟨mb, mo, none⟩) r.nm mc) := cell_of_heap hA.out rfl
    have x0 : wr.cell? ⟨k3 + 1, 0, none⟩ = some (.slice ma k mcap) := cell_of_heap hX.out rfl
    by_cases hlt : k < r.nm
    · have d0 := hg.out.cell_of (HR.out.who k hlt)
      have d1 := hg.out.cell_of (HR.out.row k hlt)
      have hkI : (k : Int) < r.nm := by omega
      have Hv := Lib.hid ((HR.out.ints' hlt).mono hg.out)
      obtain ⟨c1, c2⟩ := HR.out.cap k hlt
      unfold maxLen at c2
      go_wp2
      (refine wp_region_chain 18 [8, 15, 16, 17] (by kernel_rfl) (by kernel_rfl) (by decide) ?_; simp only [without, only, withNo, List.take_succ_cons, List.take_zero, List.drop_succ_cons, List.drop_zero, List.take_nil, List.drop_nil, Nat.reduceAdd, Nat.reduceSub, List.filter, List.contains_cons, List.contains_nil, Nat.reduceBEq, Bool.or_false, Bool.false_or, Bool.true_or, Bool.or_true, Bool.or_self, Bool.not_true, Bool.not_false, List.map_cons, List.map_nil]; (repeat (refine wpCalm_step (fun K hK => ?_); go_simp; first | (refine hK _ ?_; clear hK K) | (apply Exists.intro; refine ⟨fun n' x' => ?_, hK _ ?_⟩; (fail); clear hK K))); refine wpCalm_nil ?_)
      (refine wpChain_step (fun K hK nc xc => ?_); go_simp)
      refine ⟨by (repeat (first | exact World.grows.refl _ | assumption | refine World.grows.alloc ?_ _ | refine World.grows.plus ?_ _ _ | refine World.grows.drew ?_)), hK _ _ ?_⟩
      clear hK K
      refine wpChain_append_fresh rfl (.tmp 25) (.tmp 31) 29 (by rfl) 3 (.int .i64 0) 1 8 Try.underlying29 el3 (by rfl) (by omega) _ (by rfl) _ (by rfl) r.nc _ (fun W0 g => src_ints (Hv.out.mono (World.grows.trans (by (repeat (first | exact World.grows.refl _ | assumption | refine World.grows.alloc ?_ _ | refine World.grows.plus ?_ _ _ | refine World.grows.drew ?_))) g))) (by omega) (by unfold maxLen; omega) (by omega) ?_
      intro W0 cap2 xs2 hg2 e1 e2 e3 e4
      have hW0 : wr.grows W0 := World.grows.trans (by (repeat (first | exact World.grows.refl _ | assumption | refine World.grows.alloc ?_ _ | refine World.grows.plus ?_ _ _ | refine World.grows.drew ?_))) hg2
      have hC2 := Lib.hid (ownsRow_of (base := w.heap.size) (World.heap_at W0.drew (.cells xs2 3) _ rfl) (by have := hW0.size; simp; omega) e1 e2 e3 e4 (by simp [valL, tableL_length]) : World.ownsRow (W0.drew.alloc (.cells xs2 3)) w.heap.size 3 1 (.slice (some ⟨W0.drew.heap.size, 0, none⟩) r.nc cap2) r.nc (valL r.nc (r.val k)))
      have hW2 : wr.grows (W0.drew.alloc (.cells xs2 3)) := World.grows.trans hW0 (by (repeat (first | exact World.grows.refl _ | assumption | refine World.grows.alloc ?_ _ | refine World.grows.plus ?_ _ _ | refine World.grows.drew ?_)))
      have hb2 : wr.heap.size ≤ W0.heap.size := hW0.size
      clear hg2 e1 e3 e4 hW0
      generalize W0.drew.alloc (.cells xs2 3) = W2 at hC2 hW2 ⊢
      (refine wpChain_step (fun K hK nc xc => ?_); go_simp)
      refine (mark_s _ _ _ _ _).mono ?_
      rintro e W3 ⟨rfl, hg3⟩
      refine ⟨_, rfl, hg3, hK _ _ ?_⟩
      clear hK K
      have hW23 : W2.grows W3 := World.grows.trans (by (repeat (first | exact World.grows.refl _ | assumption | refine World.grows.alloc ?_ _ | refine World.grows.plus ?_ _ _ | refine World.grows.drew ?_))) hg3
      clear hg3
      (refine wpChain_step (fun K hK nc xc => ?_); go_simp)
      refine ⟨by (repeat (first | exact World.grows.refl _ | assumption | refine World.grows.alloc ?_ _ | refine World.grows.plus ?_ _ _ | refine World.grows.drew ?_)), hK _ _ ?_⟩
      clear hK K
      (refine wpChain_nil (fun nc xc => ?_))
      rename_i n1 x1 n2 x2
      have e43 : SliceAt (World.plus (World.alloc (W3.plus n2 x2) (.cells #[.int .i64 (r.who k), .slice (some ⟨W0.heap.size, 0, none⟩) r.nc cap2] 65)) nc xc) (.slice (some ⟨W3.heap.size + n2, 0, none⟩) 1 1) 1 2 (mcell (fun _ => r.who k) (fun _ => .slice (some ⟨W0.heap.size, 0, none⟩) r.nc cap2)) := SliceAt.mono (mark_slice (W3.plus n2 x2) (r.who k) _ 65 _ (by simp)) (World.grows_plus _ _ _)
      have hW4 : wr.grows (World.plus (World.alloc (W3.plus n2 x2) (.cells #[.int .i64 (r.who k), .slice (some ⟨W0.heap.size, 0, none⟩) r.nc cap2] 65)) nc xc) := World.grows.trans (hW2.trans hW23) (by (repeat (first | exact World.grows.refl _ | assumption | refine World.grows.alloc ?_ _ | refine World.grows.plus ?_ _ _ | refine World.grows.drew ?_)))
      have hC4 := hC2.out.grow (World.grows.trans hW23 (show W3.grows (World.plus (World.alloc (W3.plus n2 x2) (.cells #[.int .i64 (r.who k), .slice (some ⟨W0.heap.size, 0, none⟩) r.nc cap2] 65)) nc xc) by (repeat (first | exact World.grows.refl _ | assumption | refine World.grows.alloc ?_ _ | refine World.grows.plus ?_ _ _ | refine World.grows.drew ?_))))
      obtain ⟨p2, hp2⟩ : ∃ p, W0.heap.size = p := ⟨_, rfl⟩
      obtain ⟨p3, hp3⟩ : ∃ p, W3.heap.size + n2 = p := ⟨_, rfl⟩
      have hdr : W0.drew.heap.size = p2 := hp2
      rw [hdr] at hC4
      rw [hp2] at hb2
      simp only [hp2, hp3] at e43 hW4 hC4 ⊢
      generalize World.plus (World.alloc _ _) _ _ = W4 at e43 hW4 hC4 ⊢
      clear hp2 hp3 hdr hC2 hW2 hW23
      have M4 := Lib.hid (hM.out.grow hW4)
      have X4 := Lib.hid (hW4.heap_of hX.out)
      have C4 := Lib.hid (hC.out.grow hW4)
      have A4 := Lib.hid (hW4.heap_of hA.out)
      have B4 := Lib.hid (hW4.heap_of hB.out)
      have G4 := Lib.hid (hg.out.trans hW4)
      have U4 := Lib.hid hC4
      have hs4 := hW4.size
      have hnew : Hid (∀ m, m < k → ∀ b, (row m).ownBlock = some b → (Value.slice (some ⟨p2, 0, none⟩) r.nc cap2).ownBlock ≠ some b) := Lib.hid fun m hm b hb e => by
        have h1 := hM.out.below m hm b hb
        simp only [Value.ownBlock, Option.some.injEq] at e
        omega
      clear hM hX hC hA hB hg hW4 hC4 q10 x0 d0 d1
      go_wp2_with (at_builtin; go_loud (refine wpList_append_r _ rfl _ _ _ (by rfl) w.heap.size 65 (.agg #[.int .i64 0, .slice none 0 0]) 2 32 Try.underlying22 el65 (by rfl) (by omega) _ k _ (by rfl) M4.out.row' _ (by rfl) 1 _ (SliceAt.src (by omega) e43) (mark_cells _ _ rfl) (by unfold maxLen; omega) (by omega) (by omega) ?_; intro v9 w9 hown hgb; obtain ⟨va, vc, rfl, -, -⟩ := row_form hown; have M9 := Lib.hid (M4.out.push hown hgb U4.out hnew.out); have X9 := Lib.hid (heap_by' X4.out M4.out.row' (by decide) hgb); have A9 := Lib.hid (heap_by' A4.out M4.out.row' (by decide) hgb); have B9 := Lib.hid (heap_by' B4.out M4.out.row' (by decide) hgb); have C9 := Lib.hid (C4.out.other M4.out.row' (by decide) hgb); have G9 := Lib.hid (hgb.grows M4.out.row' G4.out (Nat.le_refl _)); have hs9 := hgb.size; have y0 : w9.cell? ⟨k3 + 1, 0, none⟩ = some (.slice ma k mcap) := cell_of_heap X9.out rfl; have yf := frozen_of_heap X9.out 0; clear hown hgb))
      have M8 := Lib.hid (M9.out.set X9.out (by decide) (by decide) 0 (.slice va (k + 1) vc))
      have X8 := Lib.hid (store_of_heap X9.out 0 (.slice va (k + 1) vc))
      have C8 := Lib.hid (ownsRow_setCell_other (a := ⟨k3 + 1, 0, none⟩) C9.out (fun e => row_block C9.out X9.out (by decide) _ e rfl) (.slice va (k + 1) vc))
      have A8 := Lib.hid ((World.heap_setCell_map w9 ⟨k3 + 1, 0, none⟩ (.slice va (k + 1) vc) w.heap.size (by dsimp only; omega)).trans A9.out)
      have B8 := Lib.hid ((World.heap_setCell_map w9 ⟨k3 + 1, 0, none⟩ (.slice va (k + 1) vc) (w.heap.size + 1) (by dsimp only; omega)).trans B9.out)
      have G8 := Lib.hid (G9.out.setCell (p := ⟨k3 + 1, 0, none⟩) (by dsimp only; omega) (.slice va (k + 1) vc))
      go_roundw
      case rel => exact ⟨k + 1, _, _, by omega, by go_num, M8, X8, C8, A8, B8, G8, by simp; omega⟩
      case measure => simp [intOf]; omega
    · have hke : k = r.nm := by omega
      have o0 : wr.cell? ⟨w.heap.size + 1, 0, none⟩ = some (.slice none 0 0) := cell_of_heap hB.out rfl
      have o1 : wr.cell? ⟨w.heap.size + 1, 1, none⟩ = some (.slice none 0 0) := cell_of_heap hB.out rfl
      have of0 := frozen_of_heap hB.out 0
      have of1 := frozen_of_heap hB.out 1
      have x1 : wr.cell? ⟨k3 + 1, 1, none⟩ = some (.slice (some ⟨k3, 0, none⟩) r.nc cap) := cell_of_heap hX.out rfl
      subst hke
      go_wp2
      have m8 := (hM.out.set hB.out (by decide) (by decide) 0 (.slice ma r.nm mcap))
      have b8 := store_of_heap hB.out 0 (.slice ma r.nm mcap)
      have c8 := ownsRow_setCell_other (a := ⟨w.heap.size + 1, 0, none⟩) hC.out (fun e => row_block hC.out hB.out (by decide) _ e rfl) (.slice ma r.nm mcap)
      have m9 := m8.set b8 (by decide) (by decide) 1 (.slice (some ⟨k3, 0, none⟩) r.nc cap)
      have b9 := store_of_heap b8 1 (.slice (some ⟨k3, 0, none⟩) r.nc cap)
      have c9 := ownsRow_setCell_other (a := ⟨w.heap.size + 1, 1, none⟩) c8 (fun e => row_block c8 b8 (by decide) _ e rfl) (.slice (some ⟨k3, 0, none⟩) r.nc cap)
      have g9 : w.grows _ := (hg.out.setCell (p := ⟨w.heap.size + 1, 0, none⟩) (by simp) (.slice ma r.nm mcap)).setCell (p := ⟨w.heap.size + 1, 1, none⟩) (by simp) (.slice (some ⟨k3, 0, none⟩) r.nc cap)
      obtain ⟨F, hF⟩ : ∃ F, F = ((wr.setCell ⟨w.heap.size + 1, 0, none⟩ (.slice ma r.nm mcap)).setCell ⟨w.heap.size + 1, 1, none⟩ (.slice (some ⟨k3, 0, none⟩) r.nc cap)) := ⟨_, rfl⟩
      rw [← hF] at m9 b9 c9 g9 ⊢
      have r0 : F.cell? ⟨w.heap.size + 1, 0, none⟩ = some (.slice ma r.nm mcap) := cell_of_heap b9 rfl
      have r1 : F.cell? ⟨w.heap.size + 1, 1, none⟩ = some (.slice (some ⟨k3, 0, none⟩) r.nc cap) := cell_of_heap b9 rfl
      refine bodyPost_ret (v := .agg #[.slice ma r.nm mcap, .slice (some ⟨k3, 0, none⟩) r.nc cap]) (by simp [results, Try.results44, go_sem, r0, r1]) rfl ?_
      exact ⟨_, _, _, _, _, rfl, ⟨m9, c9⟩, g9⟩
end Go.Proofs.Ytdminglglapnlaa

/-
  What is proved: plain words: a set with twins in it costs the utmost.
-/
namespace Go.Proofs.Ytdminglglapnlaa

theorem Reg.twin_cst {r : Reg} (hr : r.Ok) {i k : Nat} (hi : i < r.nm) (hk : k < r.nm) (ht : r.twin i k = true) : ∀ s, s < 2 ^ r.nm → s.testBit i = true → s.testBit k = true → 1099511627776 ≤ r.cst s := by
  obtain ⟨hw, hv⟩ := (r.twin_iff i k).1 ht
  intro s
  induction s using Nat.strongRecOn with
  | _ s ih =>
    intro hs h1 h2
    have hm : r.mixed s = true := (r.mixed_iff s).2 ⟨i, k, hi, hk, h1, h2, hw⟩
    rw [r.cst_eq hs, if_pos hm, r.le_looksR]
    refine ⟨by omega, fun f hf hp => ?_⟩
    have hb := hr.val i f hi hf
    obtain ⟨v, hvv⟩ : ∃ v : Nat, r.val i f = (v : Int) := ⟨(r.val i f).toNat, by omega⟩
    have hv10 : v < 10 := by omega
    have hb1 : (r.part s f (v : Nat)).testBit i = true := by rw [r.testBit_part]; simp [hi, h1, hvv]
    have hb2 : (r.part s f (v : Nat)).testBit k = true := by rw [r.testBit_part]; simp [hk, h2, ← hv f hf, hvv]
    have h3 := ih _ (r.part_less hs hp hv10) (r.part_lt s f (v : Nat)) hb1 hb2
    have h4 := r.le_mostR r.cst s f hv10
    have h5 := hr.cost f hf
    omega
theorem Reg.twins_cst {r : Reg} (hr : r.Ok) (hn : ¬ r.NoTwins) : 1099511627776 ≤ r.cst (2 ^ r.nm - 1) := by
  unfold Reg.NoTwins at hn
  have hn' : ∃ i k, i < k ∧ k < r.nm ∧ r.twin i k = true := by
    apply Classical.byContradiction
    intro h
    refine hn fun i k h1 h2 => ?_
    cases ht : r.twin i k with
    | false => rfl
    | true => exact absurd ⟨i, k, h1, h2, ht⟩ h
  obtain ⟨i, k, h1, h2, ht⟩ := hn'
  have hpos := Nat.two_pow_pos r.nm
  refine Reg.twin_cst hr (by omega) h2 ht _ (by omega) ?_ ?_
  · rw [Nat.testBit_two_pow_sub_one]; simp; omega
  · rw [Nat.testBit_two_pow_sub_one]; simp; omega
end Go.Proofs.Ytdminglglapnlaa

/-
  What is proved: plain words for MarkMore and MarkTurned: a register whose marks lie in another one's, by features that cost no more, has no twins if that one has none, and costs no more, as a tree and as features; costs that are as many times as great.
-/
namespace Go.Proofs.Ytdminglglapnlaa

/-- the marks of r' are marks of r (by u), its features those of r (by g), which cost no more -/
structure Reg.Lies (r' r : Reg) (u g : Nat → Nat) : Prop where
  lt : ∀ a, a < r'.nm → u a < r.nm
  who : ∀ a b, a < r'.nm → b < r'.nm → r.who (u a) = r.who (u b) → r'.who a = r'.who b
  val : ∀ a f, a < r'.nm → f < r.nc → r'.val a (g f) = r.val (u a) f
  glt : ∀ f, f < r.nc → g f < r'.nc
  inj : ∀ f f', f < r.nc → f' < r.nc → g f = g f' → f = f'
  cost : ∀ f, f < r.nc → r'.cost (g f) ≤ r.cost f
theorem Reg.Lies.noTw {r' r : Reg} {u g : Nat → Nat} (h : r'.Lies r u g) (hn : r.NoTwins) : r'.NoTwins := by
  intro i k hik hk
  cases ht : r'.twin i k with
  | false => rfl
  | true =>
    obtain ⟨h1, h2⟩ := (r'.twin_iff i k).1 ht
    have hne : r.who (u i) ≠ r.who (u k) := fun e => h1 (h.who i k (by omega) hk e)
    have htw : r.twin (u i) (u k) = true := (r.twin_iff _ _).2 ⟨hne, fun f hf => by
      rw [← h.val i f (by omega) hf, ← h.val k f hk hf]
      exact h2 _ (h.glt f hf)⟩
    rcases Nat.lt_trichotomy (u i) (u k) with hl | hl | hl
    · rw [hn _ _ hl (h.lt k hk)] at htw; cases htw
    · exact absurd (by rw [hl]) hne
    · rw [r.twin_comm, hn _ _ hl (h.lt i (by omega))] at htw; cases htw
theorem Reg.Lies.cst {r' r : Reg} {u g : Nat → Nat} (h : r'.Lies r u g) (hr : r.Ok) : r'.cst (2 ^ r'.nm - 1) ≤ r.cst (2 ^ r.nm - 1) := by
  have p1 := Nat.two_pow_pos r.nm
  have p2 := Nat.two_pow_pos r'.nm
  refine Reg.Sub.cst (u := u) (g := g) ⟨h.glt, h.cost⟩ (fun f hf => by have := hr.cost f hf; omega) (2 ^ r.nm) _ _ (by omega) (by omega) (by omega) ⟨fun a ha _ => ⟨h.lt a ha, all_bit (h.lt a ha)⟩, fun a b ha hb _ _ => h.who a b ha hb, fun a f ha _ hf => h.val a f ha hf⟩
theorem bitsL_nodup (n s : Nat) : (bitsL n s).Nodup := (List.nodup_range).filter _
theorem map_nodup {g : Nat → Nat} : ∀ (l : List Nat), l.Nodup → (∀ a ∈ l, ∀ b ∈ l, g a = g b → a = b) → (l.map g).Nodup
  | [], _, _ => List.nodup_nil
  | x :: l, h, hi => by
    rw [List.nodup_cons] at h
    rw [List.map_cons, List.nodup_cons]
    refine ⟨fun hm => ?_, map_nodup l h.2 fun a ha b hb => hi a (List.mem_cons_of_mem _ ha) b (List.mem_cons_of_mem _ hb)⟩
    obtain ⟨y, hy, e⟩ := List.mem_map.1 hm
    have := hi y (List.mem_cons_of_mem _ hy) x (List.mem_cons_self ..) e
    exact h.1 (this ▸ hy)
theorem Reg.price_perm (r : Reg) {l l' : List Nat} (h : l.Perm l') : r.price l = r.price l' := by
  induction h with
  | nil => rfl
  | cons x _ ih => simp only [Reg.price, ih]
  | swap x y l => simp only [Reg.price]; omega
  | trans _ _ ih1 ih2 => exact ih1.trans ih2
theorem price_map_le {r' r : Reg} {g : Nat → Nat} : ∀ (l : List Nat), (∀ f ∈ l, r'.cost (g f) ≤ r.cost f) → r'.price (l.map g) ≤ r.price l
  | [], _ => Int.le_refl _
  | f :: l, h => by
    have h1 := h f (List.mem_cons_self ..)
    have h2 := price_map_le l fun f hf => h f (List.mem_cons_of_mem _ hf)
    simp only [List.map_cons, Reg.price]
    omega
/-- those of a register's features that stand for some features of the other one -/
theorem Reg.Lies.bits {r' r : Reg} {u g : Nat → Nat} (h : r'.Lies r u g) (h8 : r.nc ≤ 8) (h8' : r'.nc ≤ 8) {s : Nat} (hs : s < 2 ^ r.nc) : ∃ s', s' < 2 ^ r'.nc ∧ (bitsL 8 s').Perm ((bitsL 8 s).map g) := by
  have hm : ∀ f ∈ bitsL 8 s, f < r.nc := fun f hf => by rw [bitsL_of_le hs h8] at hf; exact (mem_bitsL.1 hf).1
  refine ⟨setTo (fun f => ((bitsL 8 s).map g).contains f) r'.nc, setTo_lt _ _, ?_⟩
  refine (List.perm_ext_iff_of_nodup (bitsL_nodup _ _) (map_nodup _ (bitsL_nodup _ _) fun a ha b hb => h.inj a b (hm a ha) (hm b hb))).2 fun f => ?_
  rw [mem_bitsL, testBit_setTo]
  constructor
  · rintro ⟨_, h2⟩
    simp only [Bool.and_eq_true, decide_eq_true_eq] at h2
    exact List.contains_iff_mem.1 h2.2
  · intro hf
    obtain ⟨x, hx, e⟩ := List.mem_map.1 hf
    have hlt : f < r'.nc := by rw [← e]; exact h.glt x (hm x hx)
    refine ⟨by omega, ?_⟩
    simp only [Bool.and_eq_true, decide_eq_true_eq]
    exact ⟨hlt, List.contains_iff_mem.2 hf⟩
theorem Reg.Lies.fix {r' r : Reg} {u g : Nat → Nat} (h : r'.Lies r u g) (h8 : r.nc ≤ 8) (h8' : r'.nc ≤ 8) (hn : r.NoTwins) : r'.price (bitsL 8 r'.fix) ≤ r.price (bitsL 8 r.fix) := by
  obtain ⟨f1, f2, f3⟩ := Reg.fix_spec h8 hn
  obtain ⟨g1, g2, g3⟩ := Reg.fix_spec h8' (h.noTw hn)
  have hm : ∀ f ∈ bitsL 8 r.fix, f < r.nc := fun f hf => by rw [bitsL_of_le f1 h8] at hf; exact (mem_bitsL.1 hf).1
  obtain ⟨s', h1, h2⟩ := h.bits h8 h8' f1
  have ht : r'.tellB (bitsL 8 s') = true := by
    rw [r'.tellB_iff]
    intro a b hba ha
    have hT := r.tellB_tells (bitsL 8 r.fix) (2 ^ r.nm - 1) f2
    by_cases hw : r'.who a = r'.who b
    · exact .inl hw
    · have hne : r.who (u a) ≠ r.who (u b) := fun e => hw (h.who a b ha (by omega) e)
      obtain ⟨f, hf, hv⟩ := hT (u a) (u b) (h.lt a ha) (h.lt b (by omega)) (all_bit (h.lt a ha)) (all_bit (h.lt b (by omega))) hne
      refine .inr ⟨g f, h2.mem_iff.2 (List.mem_map.2 ⟨f, hf, rfl⟩), ?_⟩
      rw [h.val a f ha (hm f hf), h.val b f (by omega) (hm f hf)]
      exact hv
  have h3 := (Reg.befB_false (g3 s' h1 ht)).1
  have h4 := r'.price_perm h2
  have h5 := price_map_le (r' := r') (r := r) (g := g) (bitsL 8 r.fix) fun f hf => h.cost f (hm f hf)
  omega
/-- what Best and Fixed answer of a register that lies in another one -/
theorem Reg.Lies.all {r' r : Reg} {u g : Nat → Nat} (h : r'.Lies r u g) (hr : r.Ok) (hr' : r'.Ok) (hs : r.solvE = 0) : r'.solvE = 0 ∧ r'.cst (2 ^ r'.nm - 1) ≤ r.cst (2 ^ r.nm - 1) ∧ r'.fixC ≤ r.fixC := by
  obtain ⟨h1, h2⟩ := Reg.solvE_zero.1 hs
  have h3 := Reg.solvE_zero.2 ⟨hr'.check, h.noTw h2⟩
  refine ⟨h3, h.cst hr, ?_⟩
  unfold Reg.fixC
  rw [if_pos h3, if_pos hs]
  exact h.fix hr.c8 hr'.c8 h2
theorem Reg.solvE_two {r : Reg} (hr : r.Ok) : r.solvE = 0 ∨ r.solvE = 24 := by
  by_cases hn : r.NoTwins
  · exact .inl (Reg.solvE_zero.2 ⟨hr.check, hn⟩)
  · exact .inr (Reg.solvE_tw hr.check hn)
/-- two registers that lie in each other -/
theorem Reg.Lies.both {r' r : Reg} {u g u' g' : Nat → Nat} (h : r'.Lies r u g) (h' : r.Lies r' u' g') (hr : r.Ok) (hr' : r'.Ok) : r'.solvE = r.solvE ∧ r'.cst (2 ^ r'.nm - 1) = r.cst (2 ^ r.nm - 1) ∧ r'.fixC = r.fixC := by
  by_cases hs : r.solvE = 0
  · obtain ⟨h1, h2, h3⟩ := h.all hr hr' hs
    obtain ⟨h4, h5, h6⟩ := h'.all hr' hr h1
    exact ⟨by rw [h1, hs], by omega, by omega⟩
  · have hs' : r'.solvE ≠ 0 := fun e => hs (h'.all hr' hr e).1
    have e1 : r.solvE = 24 := (Reg.solvE_two hr).resolve_left hs
    have e2 : r'.solvE = 24 := (Reg.solvE_two hr').resolve_left hs'
    refine ⟨by rw [e1, e2], ?_, by rw [(Reg.fix_no hs).2.1, (Reg.fix_no hs').2.1]⟩
    have c1 := h.cst hr
    have c2 := h'.cst hr'
    omega

/-! ### costs that are as many times as great -/
def Reg.times (r : Reg) (t : Int) : Reg := { r with cost := fun f => r.cost f * t }
theorem Reg.times_noTw (r : Reg) (t : Int) : (r.times t).NoTwins ↔ r.NoTwins := Iff.rfl
theorem Reg.times_price (r : Reg) (t : Int) : ∀ l, (r.times t).price l = t * r.price l
  | [] => by simp [Reg.price]
  | f :: l => by
    simp only [Reg.price, r.times_price t l]
    show r.cost f * t + t * r.price l = _
    rw [Int.mul_add, Int.mul_comm]
theorem Reg.times_fix {r : Reg} {t : Int} (ht : 0 < t) (h8 : r.nc ≤ 8) (hn : r.NoTwins) : (r.times t).price (bitsL 8 (r.times t).fix) = t * r.price (bitsL 8 r.fix) := by
  obtain ⟨f1, f2, f3⟩ := Reg.fix_spec h8 hn
  obtain ⟨g1, g2, g3⟩ := Reg.fix_spec (r := r.times t) h8 hn
  have h1 := (Reg.befB_false (g3 r.fix f1 f2)).1
  have h2 := (Reg.befB_false (f3 (r.times t).fix g1 g2)).1
  rw [r.times_price] at h1 ⊢
  rw [r.times_price] at h1
  have h3 := Int.mul_le_mul_of_nonneg_left h2 (Int.le_of_lt ht)
  omega
theorem Reg.times_most (r : Reg) {t : Int} (ht : 0 < t) {c c' : Nat → Int} (s f : Nat) : ∀ n, (∀ v : Nat, v < n → c' (r.part s f v) = t * c (r.part s f v)) → (r.times t).mostR c' s f n = t * r.mostR c s f n
  | 0, _ => by simp [Reg.mostR]
  | n + 1, h => by
    have ih := r.times_most ht s f n fun v hv => h v (by omega)
    have h1 := h n (by omega)
    show max ((r.times t).mostR c' s f n) (c' (r.part s f (n : Nat))) = t * max (r.mostR c s f n) (c (r.part s f (n : Nat)))
    rw [ih, h1]
    rcases Int.le_total (r.mostR c s f n) (c (r.part s f (n : Nat))) with hl | hl
    · rw [Int.max_eq_right hl, Int.max_eq_right (Int.mul_le_mul_of_nonneg_left hl (Int.le_of_lt ht))]
    · rw [Int.max_eq_left hl, Int.max_eq_left (Int.mul_le_mul_of_nonneg_left hl (Int.le_of_lt ht))]
theorem Reg.times_cst {r : Reg} {t : Int} (ht : 0 < t) (hr : r.Ok) (hr' : (r.times t).Ok) (hn : r.NoTwins) : ∀ (n s : Nat), s < n → s < 2 ^ r.nm → (r.times t).cst s = t * r.cst s
  | 0, _, h, _ => absurd h (by omega)
  | n + 1, s, h, hs => by
    cases hm : r.mixed s with
    | false =>
      rw [r.cst_not hs hm, (r.times t).cst_not hs hm]; simp
    | true =>
      have ih := fun f v (hp : r.parted s f = true) (hv : v < 10) => Reg.times_cst ht hr hr' hn n (r.part s f (v : Nat)) (by have := r.part_less hs hp hv; omega) (r.part_lt _ _ _)
      have most : ∀ f, r.parted s f = true → (r.times t).mostR (r.times t).cst s f 10 = t * r.mostR r.cst s f 10 := fun f hp => r.times_most ht s f 10 fun v hv => ih f v hp hv
      obtain ⟨f, hf, hp, -, he⟩ := Reg.look_some hr hn hs hm
      obtain ⟨f', hf', hp', -, he'⟩ := Reg.look_some hr' hn hs hm
      have hl : r.cst s = r.looksR r.cst s r.nc := by rw [r.cst_eq hs, if_pos hm]
      have hl' : (r.times t).cst s = (r.times t).looksR (r.times t).cst s r.nc := by rw [(r.times t).cst_eq hs]; exact if_pos hm
      have h1 := (r.looksR_le r.cst s r.nc).2 f' hf' hp'
      have h2 := ((r.times t).looksR_le (r.times t).cst s r.nc).2 f hf hp
      rw [← hl] at h1
      rw [← hl'] at h2
      rw [most f' hp'] at he'
      rw [most f hp] at h2
      have c1 : (r.times t).cost f' = r.cost f' * t := rfl
      have c2 : (r.times t).cost f = r.cost f * t := rfl
      rw [c1] at he'
      rw [c2] at h2
      have h3 := Int.mul_le_mul_of_nonneg_left h1 (Int.le_of_lt ht)
      have e3 : t * (r.cost f' + r.mostR r.cst s f' 10) = r.cost f' * t + t * r.mostR r.cst s f' 10 := by rw [Int.mul_add, Int.mul_comm t (r.cost f')]
      have e4 : t * r.cst s = r.cost f * t + t * r.mostR r.cst s f 10 := by rw [he, Int.mul_add, Int.mul_comm t (r.cost f)]
      omega
theorem Reg.times_all {r : Reg} {t : Int} (ht : 0 < t) (hr : r.Ok) (hr' : (r.times t).Ok) : (r.times t).solvE = r.solvE ∧ (r.solvE = 0 → (r.times t).cst (2 ^ r.nm - 1) = t * r.cst (2 ^ r.nm - 1)) ∧ (r.times t).fixC = t * r.fixC := by
  by_cases hn : r.NoTwins
  · have h1 := Reg.solvE_zero.2 ⟨hr.check, hn⟩
    have h2 : (r.times t).solvE = 0 := Reg.solvE_zero.2 ⟨hr'.check, hn⟩
    refine ⟨by rw [h1, h2], fun _ => Reg.times_cst ht hr hr' hn (2 ^ r.nm) _ (by have := Nat.two_pow_pos r.nm; omega) (by have := Nat.two_pow_pos r.nm; omega), ?_⟩
    unfold Reg.fixC
    rw [if_pos h1, if_pos h2]
    exact Reg.times_fix ht hr.c8 hn
  · have h1 := Reg.solvE_tw hr.check hn
    have h2 : (r.times t).solvE = 24 := Reg.solvE_tw hr'.check hn
    refine ⟨by rw [h1, h2], fun h => absurd (h1.symm.trans h) (by decide), ?_⟩
    rw [(Reg.fix_no (r := r) (by rw [h1]; decide)).2.1, (Reg.fix_no (r := r.times t) (by rw [h2]; decide)).2.1]; simp
end Go.Proofs.Ytdminglglapnlaa

/-
  What is proved: plain words for MarkTurned: a register turned round, with other numbers of makers, lies in the first one, and the first one in it.
-/
namespace Go.Proofs.Ytdminglglapnlaa

theorem turn_eq {n f : Nat} (F : Nat) (hf : f < n) : (f + F) % n = if f + F % n < n then f + F % n else f + F % n - n := by
  have hd : F % n < n := Nat.mod_lt _ (by omega)
  rw [Nat.add_mod, Nat.mod_eq_of_lt hf]
  split
  · rename_i h; exact Nat.mod_eq_of_lt h
  · rename_i h
    rw [Nat.mod_eq_sub_mod (by omega), Nat.mod_eq_of_lt (by omega)]
theorem turn_back {n f : Nat} (F : Nat) (hf : f < n) : ((f + (n - F % n)) % n + F) % n = f := by
  have hd : F % n < n := Nat.mod_lt _ (by omega)
  have h1 : (f + (n - F % n)) % n < n := Nat.mod_lt _ (by omega)
  rw [turn_eq F h1]
  rcases Nat.eq_zero_or_pos (F % n) with h0 | h0
  · have e : (f + (n - F % n)) % n = f := by
      rw [h0, Nat.sub_zero, Nat.add_mod_right, Nat.mod_eq_of_lt hf]
    rw [e, h0]
    split <;> omega
  · have e := turn_eq (n := n) (n - F % n) hf
    rw [Nat.mod_eq_of_lt (show n - F % n < n by omega)] at e
    rw [e]
    split <;> split <;> omega
theorem turn_forth {n f : Nat} (F : Nat) (hf : f < n) : ((f + F) % n + (n - F % n)) % n = f := by
  have hd : F % n < n := Nat.mod_lt _ (by omega)
  have h1 : (f + F) % n < n := Nat.mod_lt _ (by omega)
  rw [turn_eq _ h1]
  have e := turn_eq F hf
  rcases Nat.eq_zero_or_pos (F % n) with h0 | h0
  · have e2 : (n - F % n) % n = 0 := by rw [h0, Nat.sub_zero, Nat.mod_self]
    rw [e2, e, h0]
    split <;> (try split) <;> omega
  · have e2 : (n - F % n) % n = n - F % n := Nat.mod_eq_of_lt (by omega)
    rw [e2, e]
    split <;> split <;> omega
/-- a register with its marks and features turned round, and greater numbers of makers -/
def Reg.turn (r : Reg) (up : Int) (M F : Nat) : Reg where
  nc := r.nc
  cost := fun i => r.cost ((i + F) % r.nc)
  nm := r.nm
  who := fun m => r.who ((m + M) % r.nm) + up
  nv := fun _ => r.nc
  val := fun m i => r.val ((m + M) % r.nm) ((i + F) % r.nc)
theorem Reg.turn_lies (r : Reg) (up : Int) (M F : Nat) : (r.turn up M F).Lies r (fun m => (m + M) % r.nm) (fun f => (f + (r.nc - F % r.nc)) % r.nc) where
  lt := fun a ha => Nat.mod_lt _ (Nat.lt_of_le_of_lt (Nat.zero_le _) ha)
  who := fun a b _ _ h => by show r.who _ + up = r.who _ + up; rw [h]
  val := fun a f _ hf => by show r.val _ ((_ + F) % r.nc) = _; rw [turn_back F hf]
  glt := fun f hf => Nat.mod_lt _ (Nat.lt_of_le_of_lt (Nat.zero_le _) hf)
  inj := fun f f' hf hf' h => by
    have h1 := turn_back F hf
    rw [h, turn_back F hf'] at h1
    exact h1.symm
  cost := fun f hf => by show r.cost ((_ + F) % r.nc) ≤ _; rw [turn_back F hf]; exact Int.le_refl _
theorem Reg.lies_turn (r : Reg) (up : Int) (M F : Nat) : r.Lies (r.turn up M F) (fun m => (m + (r.nm - M % r.nm)) % r.nm) (fun f => (f + F) % r.nc) where
  lt := fun a ha => Nat.mod_lt _ (Nat.lt_of_le_of_lt (Nat.zero_le _) ha)
  who := fun a b ha hb h => by
    have h : r.who (((a + (r.nm - M % r.nm)) % r.nm + M) % r.nm) + up = r.who (((b + (r.nm - M % r.nm)) % r.nm + M) % r.nm) + up := h
    rw [turn_back M ha, turn_back M hb] at h
    omega
  val := fun a f ha hf => by
    show _ = r.val (((a + (r.nm - M % r.nm)) % r.nm + M) % r.nm) ((f + F) % r.nc)
    rw [turn_back M ha]
  glt := fun f hf => Nat.mod_lt _ (Nat.lt_of_le_of_lt (Nat.zero_le _) hf)
  inj := fun f f' hf hf' h => by
    have hf : f < r.nc := hf
    have hf' : f' < r.nc := hf'
    have h1 := turn_forth F hf
    rw [h, turn_forth F hf'] at h1
    exact h1.symm
  cost := fun f _ => Int.le_refl _
/-- what Best answers -/
def Reg.bestN (r : Reg) : Int := if r.solvE = 0 then r.cst (2 ^ r.nm - 1) else 0
theorem Reg.turn_all {r : Reg} (hr : r.Ok) {up : Int} {M F : Nat} (hx : (r.turn up M F).Ok) : (r.turn up M F).solvE = r.solvE ∧ (r.turn up M F).bestN = r.bestN ∧ (r.turn up M F).fixC = r.fixC := by
  obtain ⟨h1, h2, h3⟩ := Reg.Lies.both (r.turn_lies up M F) (r.lies_turn up M F) hr hx
  refine ⟨h1, ?_, h3⟩
  unfold Reg.bestN
  rw [h1, h2]
theorem Reg.times_best {r : Reg} {t : Int} (ht : 0 < t) (hr : r.Ok) (hr' : (r.times t).Ok) : (r.times t).solvE = r.solvE ∧ (r.times t).bestN = t * r.bestN ∧ (r.times t).fixC = t * r.fixC := by
  obtain ⟨h1, h2, h3⟩ := Reg.times_all ht hr hr'
  refine ⟨h1, ?_, h3⟩
  unfold Reg.bestN
  rw [h1]
  by_cases h : r.solvE = 0
  · rw [if_pos h, if_pos h]; exact h2 h
  · rw [if_neg h, if_neg h]; simp
theorem Reg.best_bd {r : Reg} (hr : r.Ok) : 0 ≤ r.bestN ∧ r.bestN ≤ 8000 ∧ 0 ≤ r.fixC ∧ r.fixC ≤ 8000 := by
  by_cases h : r.solvE = 0
  · obtain ⟨h1, h2⟩ := Reg.solvE_zero.1 h
    have h3 := Reg.cst_bd hr h2 (s := 2 ^ r.nm - 1) (by have := Nat.two_pow_pos r.nm; omega)
    obtain ⟨f1, f2, f3⟩ := Reg.fix_spec hr.c8 h2
    have hb := costSum_bd hr.cost (bitsL 8 r.fix) (fun f hf => by rw [bitsL_of_le f1 hr.c8] at hf; exact (mem_bitsL.1 hf).1)
    have hl : (bitsL 8 r.fix).length ≤ 8 := bitsL_length_le 8 r.fix
    rw [← r.price_eq] at hb
    unfold Reg.bestN Reg.fixC
    rw [if_pos h, if_pos h]
    omega
  · unfold Reg.bestN
    rw [if_neg h, (Reg.fix_no h).2.1]; omega
end Go.Proofs.Ytdminglglapnlaa

/-
  What is proved: Fixed and Must of the program, both cases in one.
-/
namespace Go.Proofs.Ytdminglglapnlaa
open Go.RowKit

theorem ListAt.shape {w : World} {v : Value} {L : List Nat} (h : ListAt w v L) : ∃ a c, v = .slice a L.length c := by
  obtain ⟨a, c, e, -⟩ := h
  exact ⟨a, c, e⟩
theorem pfix_all (w : World) (v : Value) (r : Reg) (hv : RegAt w v r) :
    Calls Try.prog 32 #[v] w fun e w' => ∃ lv, e = .returned (.tuple #[lv, .int .i64 r.fixC, .int .i64 r.solvE]) ∧ ListAt w' lv r.fixL ∧ w.grows w' := by
  by_cases h : r.solvE = 0
  · have hc : r.fixC = r.price (bitsL 8 r.fix) := by unfold Reg.fixC; rw [if_pos h]
    have hl : r.fixL = bitsL 8 r.fix := by unfold Reg.fixL; rw [if_pos h]
    rw [hc, hl, h]
    exact pfix_c w v r hv h
  · have hc : r.fixC = 0 := by unfold Reg.fixC; rw [if_neg h]
    have hl : r.fixL = [] := by unfold Reg.fixL; rw [if_neg h]
    rw [hc, hl]
    exact (pfix_bad w v r hv h).mono (by
      rintro e w' ⟨rfl, hg⟩
      exact ⟨_, rfl, ListAt.nil _, hg⟩)
theorem pmust_all (w : World) (v : Value) (r : Reg) (hv : RegAt w v r) :
    Calls Try.prog 34 #[v] w fun e w' => ∃ lv, e = .returned (.tuple #[lv, .int .i64 r.solvE]) ∧ ListAt w' lv r.mustR ∧ w.grows w' := by
  by_cases h : r.solvE = 0
  · have hl : r.mustR = r.mustL := by unfold Reg.mustR; rw [if_pos h]
    rw [hl, h]
    exact pmust_c w v r hv h
  · have hl : r.mustR = [] := by unfold Reg.mustR; rw [if_neg h]
    rw [hl]
    exact (pmust_bad w v r hv h).mono (by
      rintro e w' ⟨rfl, hg⟩
      exact ⟨_, rfl, ListAt.nil _, hg⟩)
end Go.Proofs.Ytdminglglapnlaa

/-
  What is proved: contracts for MarkMore and MarkTurned: Best and Fixed, all cases in one; worlds in which two blocks alone have changed.
-/
namespace Go.Proofs.Ytdminglglapnlaa
open Go.RowKit

theorem best_any {w : World} {v : Value} {r : Reg} (hv : RegAt w v r) : Calls Try.prog 25 #[v] w fun e w' => ∃ (x : Int) (a : Option Addr) (n c : Nat), e = .returned (.tuple #[.agg #[.int .i64 x, .slice a n c], .int .i64 r.bestN, .int .i64 r.solvE]) ∧ w.grows w' := by
  by_cases h : r.solvE = 0
  · refine (best_c w v r hv h).mono ?_
    rintro e w' ⟨tv, t, rfl, h1, h2, h3, h4⟩
    obtain ⟨nv, rfl, row, ⟨a, c, rfl, -⟩, -⟩ := h1
    exact ⟨_, _, _, _, by unfold Reg.bestN; rw [if_pos h, h], h4⟩
  · refine (best_bad w v r hv h).mono ?_
    rintro e w' ⟨rfl, h1⟩
    exact ⟨_, _, _, _, by unfold Reg.bestN; rw [if_neg h], h1⟩
theorem fix_any {w : World} {v : Value} {r : Reg} (hv : RegAt w v r) : Calls Try.prog 32 #[v] w fun e w' => ∃ (a : Option Addr) (n c : Nat), e = .returned (.tuple #[.slice a n c, .int .i64 r.fixC, .int .i64 r.solvE]) ∧ w.grows w' := by
  refine (pfix_all w v r hv).mono ?_
  rintro e w' ⟨lv, rfl, h1, h2⟩
  obtain ⟨a, c, rfl⟩ := h1.shape
  exact ⟨_, _, _, rfl, h2⟩
theorem valL_set (n : Nat) (f : Nat → Int) {k : Nat} (hk : k < n) (x : Int) : (valL n f).set k (.int .i64 x) = valL n (fun i => if i = k then x else f i) := by
  unfold valL tableL
  apply List.ext_getElem?
  intro j
  rw [List.getElem?_set]
  simp only [List.getElem?_map, List.length_map, List.length_range, Nat.mul_one, Nat.div_one]
  by_cases hj : j < n
  · rw [List.getElem?_range hj]
    simp only [Option.map_some]
    by_cases e : k = j
    · subst e; rw [if_pos rfl, if_pos hk, if_pos rfl]
    · rw [if_neg e, if_neg (Ne.symm e)]
  · rw [List.getElem?_eq_none (by simp; omega)]
    by_cases e : k = j
    · omega
    · rw [if_neg e]; rfl
theorem valL_snoc (k : Nat) (f : Nat → Int) : valL (k + 1) f = valL k f ++ tableL 1 1 (fun _ _ => .int .i64 (f k)) := by
  unfold valL
  rw [tableL_snoc]
  rfl
theorem valL_get {n : Nat} (f : Nat → Int) {k : Nat} (hk : k < n) : (valL n f)[k]? = some (.int .i64 (f k)) := by
  have := tableL_get (fun i (_ : Nat) => Value.int .i64 (f i)) hk (show 0 < 1 by omega)
  simpa [valL] using this
theorem valL_congr {n : Nat} {f g : Nat → Int} (h : ∀ i, i < n → f i = g i) : valL n f = valL n g := by
  unfold valL
  exact tableL_congr (fun i j hi _ => by rw [h i hi]) (by omega)
/-- all blocks but two stay as they are -/
structure Kq (b1 b2 : Nat) (Y W : World) : Prop where
  os : W.os = Y.os
  tape : W.tape = Y.tape
  output : W.output = Y.output
  size : Y.heap.size ≤ W.heap.size
  block : ∀ (k : Nat) (o : Obj), Y.heap[k]? = some o → k ≠ b1 → k ≠ b2 → W.heap[k]? = some o
section
variable {b1 b2 : Nat} {Y W W' : World}
theorem Kq.refl : Kq b1 b2 Y Y := ⟨rfl, rfl, rfl, Nat.le_refl _, fun _ _ h _ _ => h⟩
theorem Kq.then (h : Kq b1 b2 Y W) (g : W.grows W') : Kq b1 b2 Y W' :=
  ⟨g.os.trans h.os, g.tape.trans h.tape, g.output.trans h.output, Nat.le_trans h.size g.size, fun k o h1 h2 h3 => g.heap_of (h.block k o h1 h2 h3)⟩
theorem Kq.own (h : Kq b1 b2 Y W) {base size : Nat} {e : TypeId} {v : Value} {n : Nat} {xs : List Value} (ho : W.ownsRow base e size v n xs) (hb : Y.heap.size ≤ base) (g : W.grownBy W' v.ownBlock) : Kq b1 b2 Y W' :=
  ⟨g.os.trans h.os, g.tape.trans h.tape, g.output.trans h.output, Nat.le_trans h.size g.size, fun k o h1 h2 h3 => by
    have h4 := h.block k o h1 h2 h3
    rw [g.block k (World.lt_of_block h4) ?_]
    · exact h4
    · intro e
      have := (ho.lt k e.symm).1
      have := World.lt_of_block h1
      omega⟩
theorem Kq.set (h : Kq b1 b2 Y W) {a : Addr} (ha : a.block = b1 ∨ a.block = b2 ∨ Y.heap.size ≤ a.block) (v : Value) : Kq b1 b2 Y (W.setCell a v) :=
  ⟨h.os, h.tape, h.output, by simpa using h.size, fun k o h1 h2 h3 => by
    have := World.lt_of_block h1
    rw [World.heap_setCell_map _ _ _ _ (by omega)]
    exact h.block k o h1 h2 h3⟩
theorem Kq.row (h : Kq b1 b2 Y W) {base size : Nat} {e : TypeId} {v : Value} {n : Nat} {xs : List Value} (ho : Y.ownsRow base e size v n xs) (h1 : v.ownBlock ≠ some b1) (h2 : v.ownBlock ≠ some b2) : W.ownsRow base e size v n xs := by
  refine ⟨ho.1, ?_⟩
  rcases ho.2 with hn | ⟨b, cap, cur, rfl, hb, hgg, rest⟩
  · exact .inl hn
  · exact .inr ⟨b, cap, cur, rfl, hb, h.block b _ hgg (fun e => h1 (by rw [e]; rfl)) (fun e => h2 (by rw [e]; rfl)), rest⟩
theorem own_heap {W : World} {base e size : Nat} {b n cap : Nat} {xs : List Value} (ho : W.ownsRow base e size (.slice (some ⟨b, 0, none⟩) n cap) n xs) : ∃ c, W.heap[b]? = some (.cells c e) := by
  rcases ho.2 with ⟨he, _⟩ | ⟨b', cap', cur, he, _, hh, _⟩
  · cases he
  · cases he; exact ⟨_, hh⟩
theorem ne_block {W : World} {base e size : Nat} {v : Value} {n : Nat} {xs : List Value} (ho : W.ownsRow base e size v n xs) {b : Nat} {c : Array Value} {t : TypeId} (h : W.heap[b]? = some (.cells c t)) (he : e ≠ t) : v.ownBlock ≠ some b := fun e' => row_block ho h he b e' rfl
theorem MarksOwn.kq {base : Nat} {mv : Value} {k nc : Nat} {who : Nat → Int} {row : Nat → Value} {val : Nat → Nat → Int} (h : MarksOwn base Y mv k nc who row val) (hk : Kq b1 b2 Y W) {c1 c2 : Array Value} {t1 t2 : TypeId} (h1 : Y.heap[b1]? = some (.cells c1 t1)) (h2 : Y.heap[b2]? = some (.cells c2 t2)) (e1 : 65 ≠ t1) (e2 : 3 ≠ t1) (e3 : 65 ≠ t2) (e4 : 3 ≠ t2) :
    MarksOwn base W mv k nc who row val :=
  ⟨hk.row h.row' (ne_block h.row' h1 e1) (ne_block h.row' h2 e3), fun m hm => hk.row (h.val' m hm) (ne_block (h.val' m hm) h1 e2) (ne_block (h.val' m hm) h2 e4), h.apart, fun m hm b hb => Nat.lt_of_lt_of_le (h.below m hm b hb) hk.size⟩
end
end Go.Proofs.Ytdminglglapnlaa

/-
  What is proved: a feature that parts some marks (85), in the law package.
-/
namespace Go.Proofs.Ytdminglglapnlaa
open Go.RowKit
attribute [local irreducible] Go.wpCalm

/-- f parts some marks of a list, or it is -1, and nothing does -/
def Reg.featIs (r : Reg) (L : List Nat) (f : Int) : Prop :=
  (f = -1 ∧ ∀ x ∈ L, ∀ g, g < r.nc → r.val x g = r.val (L.getD 0 0) g) ∨ ∃ g : Nat, f = g ∧ g < r.nc ∧ ∃ x ∈ L, r.val x g ≠ r.val (L.getD 0 0) g
theorem rot_hits (s n g : Nat) (hg : g < n) : ∃ i, i < n ∧ (s + i) % n = g := by
  have hs : s % n < n := Nat.mod_lt _ (by omega)
  by_cases h : s % n ≤ g
  · refine ⟨g - s % n, by omega, ?_⟩
    rw [Nat.add_mod, Nat.mod_eq_of_lt (show g - s % n < n by omega), show s % n + (g - s % n) = g by omega, Nat.mod_eq_of_lt hg]
  · refine ⟨g + n - s % n, by omega, ?_⟩
    rw [Nat.add_mod, Nat.mod_eq_of_lt (show g + n - s % n < n by omega), show s % n + (g + n - s % n) = g + n by omega, Nat.add_mod_right, Nat.mod_eq_of_lt hg]
theorem Reg.feat_none {r : Reg} {L : List Nat} {s : Nat} (h : ∀ i, i < r.nc → ∀ k, k < L.length → r.val (L.getD k 0) ((s + i) % r.nc) = r.val (L.getD 0 0) ((s + i) % r.nc)) : r.featIs L (-1) := by
  refine .inl ⟨rfl, fun x hx g hg => ?_⟩
  obtain ⟨i, hi, he⟩ := rot_hits s r.nc g hg
  obtain ⟨k, hk, rfl⟩ := List.getElem_of_mem hx
  have := h i hi k hk
  rw [he] at this
  rw [← this]
  simp [hk]
set_option maxHeartbeats 2000000 in
theorem feat_c (w : World) (v : Value) (r : Reg) (hv : RegOk w v r) (hr : r.Ok) (lv : Value) (L : List Nat) (hL : ListAt w lv L) (hl : ∀ m ∈ L, m < r.nm) (h0 : 0 < L.length) (bv : Value) (nb : Nat) (b : Nat → Int) (hb : NumsAt .u8 w bv nb b)
    (hbb : ∀ i, i < nb → 0 ≤ b i ∧ b i ≤ 255) (q : Nat) (hq : q ≤ 1000) (hn40 : nb ≤ 40) :
    Calls Try.prog 85 #[v, lv, bv, .int .i64 q] w fun e w' => ∃ f, e = .returned (.int .i64 f) ∧ r.featIs L f ∧ w.grows w' := by
  obtain ⟨mb, mo, mc, cb, co, cc, rb, ro, rc, rfl, hm1, hm2, hc1, hc2, hR⟩ := hv
  obtain ⟨la, lc, rfl, l1, l2, hL⟩ := hL
  obtain ⟨ba, bc, rfl, b1, b2, hB⟩ := hb
  have HR := Lib.hid hR
  have HL := Lib.hid hL
  have Hl := Lib.hid hl
  have hc8 := hr.c8
  have hc0 := hr.c1
  unfold maxLen at hm2 hc2 l2 b2
  clear hR hL hl hr
  go_enter Try.func85, Try.ntmps85
  by_cases hnb : nb = 0
  · subst hnb
    clear hB hbb b1
    go_wp2
    go_loopw [10] (fun i wr => ∃ k : Nat, k ≤ r.nc ∧ i = .int .i64 k ∧ Hid (∀ j, j < k → ∀ x, x < L.length → r.val (L.getD x 0) ((0 + j) % r.nc) = r.val (L.getD 0 0) ((0 + j) % r.nc)) ∧ (w.alloc (.cells #[.slice (some ⟨mb, mo, none⟩) r.nm mc, .slice (some ⟨cb, co, none⟩) r.nc cc] 25)).grows wr) (fun i _ => r.nc - (intOf i).toNat)
    case atStart => exact ⟨0, by omega, rfl, Lib.hid fun j hj => by omega, by (repeat (first | exact World.grows.refl _ | assumption | refine World.grows.alloc ?_ _ | refine World.grows.plus ?_ _ _ | refine World.grows.drew ?_))⟩
    case round =>
      obtain ⟨k, hk, rfl, hk2, hg⟩ := hrel
      obtain ⟨n1, x1, rfl⟩ := World.plus_of hg
      by_cases hlt : k < r.nc
      · have hG : (0 + k) % r.nc < r.nc := Nat.mod_lt _ (by omega)
        have e2 : ((0 + k : Nat) : Int) % (r.nc : Int) = ((0 + k) % r.nc : Nat) := by omega
        have hnx := fun h => Lib.hid (upto_succ hk2.out h)
        obtain ⟨S, hS⟩ : ∃ S : Nat, 0 + k = S := ⟨_, rfl⟩
        obtain ⟨G, hGe⟩ : ∃ G, (0 + k) % r.nc = G := ⟨_, rfl⟩
        simp only [hGe] at hnx
        rw [hGe] at hG
        rw [hGe, hS] at e2
        have e1 : IntKind.i64.wrap ((k : Int)) = S := wrapI (by omega) (by omega)
        have e4 : (S : Int).tmod (r.nc : Int) = G := by rw [Int.tmod_eq_emod_of_nonneg (Int.natCast_nonneg _)]; exact e2
        have hnI : ¬ (r.nc : Int) = 0 := by omega
        have hn0 : ¬ r.nc = 0 := by omega
        have hGI : (G : Int) < r.nc := by omega
        have H2 := Lib.hid hnx
        clear hnx hS hGe hk2
        go_wp2
        clear e1 e2 e4 hnI hn0
        go_loopw [12] (fun i wr => ∃ x : Nat, x ≤ L.length ∧ i = .int .i64 x ∧ Hid (∀ j, j < x → r.val (L.getD j 0) G = r.val (L.getD 0 0) G) ∧ (w.alloc (.cells #[.slice (some ⟨mb, mo, none⟩) r.nm mc, .slice (some ⟨cb, co, none⟩) r.nc cc] 25)).grows wr) (fun i _ => L.length - (intOf i).toNat)
        case atStart => exact ⟨0, by omega, rfl, Lib.hid fun j hj => by omega, by (repeat (first | exact World.grows.refl _ | assumption | refine World.grows.alloc ?_ _ | refine World.grows.plus ?_ _ _ | refine World.grows.drew ?_))⟩
        case round =>
          obtain ⟨x, hx, rfl, hx2, hg2⟩ := hrel
          obtain ⟨n2, x2, rfl⟩ := World.plus_of hg2
          by_cases hlx : x < L.length
          · obtain ⟨b9, o9, rfl, d1⟩ := HL.out x 0 hlx (by omega)
            obtain ⟨_, _, he, d2⟩ := HL.out 0 0 (by omega) (by omega)
            cases he
            simp only [Nat.mul_one, Nat.add_zero, Nat.zero_mul] at d1 d2
            have m1 := Hl.out _ (getD_mem hlx)
            have m2 := Hl.out _ (getD_mem h0)
            have hnx := fun h => Lib.hid (upto_succ hx2.out h)
            have hno : r.val (L.getD x 0) G ≠ r.val (L.getD 0 0) G → Hid (r.featIs L (G : Int)) := fun h => Lib.hid (.inr ⟨G, rfl, hG, _, getD_mem hlx, h⟩)
            obtain ⟨y, hy⟩ : ∃ y, L.getD x 0 = y := ⟨_, rfl⟩
            obtain ⟨z, hz⟩ : ∃ z, L.getD 0 0 = z := ⟨_, rfl⟩
            simp only [hy, hz] at d1 d2 m1 m2 hnx hno
            have c1 := HR.out.row y m1
            have c2 := HR.out.row z m2
            have c3 := HR.out.val y G m1 hG
            have c4 := HR.out.val z G m2 hG
            obtain ⟨q1, q2⟩ := HR.out.cap y m1
            obtain ⟨q3, q4⟩ := HR.out.cap z m2
            unfold maxLen at q2 q4
            by_cases hw : r.val y G = r.val z G
            · have hnn := hnx hw
              rw [hw] at c3
              have HZ := Lib.hid hz
              clear hnx hno hy hz hw
              go_wp2
              (refine wp_region_calm (by kernel_rfl) (by kernel_rfl) ?_; (repeat (refine wpCalm_step (fun K hK => ?_); go_simp; first | (refine hK _ ?_; clear hK K) | (apply Exists.intro; refine ⟨fun n' x' => ?_, hK _ ?_⟩; (fail); clear hK K))); refine wpCalm_nil ?_; intro nq xq)
              go_wp2
              go_roundw
              case rel => exact ⟨x + 1, by omega, by go_num, by rw [HZ.out]; exact hnn, by (repeat (first | exact World.grows.refl _ | assumption | refine World.grows.alloc ?_ _ | refine World.grows.plus ?_ _ _ | refine World.grows.drew ?_))⟩
              case measure => simp [intOf]; omega
            · have hmx := hno hw
              have hwb : (r.val y G == r.val z G) = false := beq_eq_false_iff_ne.2 hw
              clear hnx hno hy hz
              go_wp2
              (refine wp_region_calm (by kernel_rfl) (by kernel_rfl) ?_; (repeat (refine wpCalm_step (fun K hK => ?_); go_simp; first | (refine hK _ ?_; clear hK K) | (apply Exists.intro; refine ⟨fun n' x' => ?_, hK _ ?_⟩; (fail); clear hK K))); refine wpCalm_nil ?_; intro nq xq)
              go_wp2
              (refine bodyPost_ret (v := .int .i64 (G : Nat)) (by simp [results, Try.results85, go_sem]) rfl ?_)
              exact ⟨_, rfl, hmx.out, by (repeat (first | exact World.grows.refl _ | assumption | refine World.grows.alloc ?_ _ | refine World.grows.plus ?_ _ _ | refine World.grows.drew ?_))⟩
          · have hxe : x = L.length := by omega
            have hnn := H2.out (fun j hj => hx2.out j (by omega))
            subst hxe
            go_wp2
            go_roundw
            case rel => exact ⟨k + 1, by omega, by go_num, hnn, by (repeat (first | exact World.grows.refl _ | assumption | refine World.grows.alloc ?_ _ | refine World.grows.plus ?_ _ _ | refine World.grows.drew ?_))⟩
            case measure => simp [intOf]; omega
      · have hke : k = r.nc := by omega
        have hmx : Hid (r.featIs L (-1)) := Lib.hid (Reg.feat_none (s := 0) fun i hi k' hk' => hk2.out i (by omega) k' hk')
        subst hke
        go_wp2
        (refine bodyPost_ret (v := .int .i64 (-1)) (by simp [results, Try.results85, go_sem]) rfl ?_)
        exact ⟨_, rfl, hmx.out, by (repeat (first | exact World.grows.refl _ | assumption | refine World.grows.alloc ?_ _ | refine World.grows.plus ?_ _ _ | refine World.grows.drew ?_))⟩
  · have hi : q % nb < nb := Nat.mod_lt _ (by omega)
    obtain ⟨bb, bo, rfl, e1⟩ := hB (q % nb) 0 hi (by omega)
    obtain ⟨F, hF⟩ : ∃ F : Nat, b (q % nb) = (F : Nat) := ⟨(b (q % nb)).toNat, by have := (hbb _ hi).1; omega⟩
    have hF255 : F ≤ 255 := by have := (hbb _ hi).2; omega
    dsimp only at e1
    rw [hF] at e1
    have e2 : (q : Int) % (nb : Int) = (q % nb : Nat) := by omega
    obtain ⟨T, hT⟩ : ∃ T, q % nb = T := ⟨_, rfl⟩
    rw [hT] at hi e1 e2
    have e3 : (q : Int).tmod (nb : Int) = T := by rw [Int.tmod_eq_emod_of_nonneg (Int.natCast_nonneg _)]; exact e2
    have hnbI : ¬ (nb : Int) = 0 := by omega
    have hnb0 : 0 < nb := by omega
    have hTI : (T : Int) < nb := by omega
    simp only [Nat.mul_one, Nat.add_zero] at e1
    clear hB hbb hF hT
    go_wp2
    go_loopw [10] (fun i wr => ∃ k : Nat, k ≤ r.nc ∧ i = .int .i64 k ∧ Hid (∀ j, j < k → ∀ x, x < L.length → r.val (L.getD x 0) ((F + j) % r.nc) = r.val (L.getD 0 0) ((F + j) % r.nc)) ∧ (w.alloc (.cells #[.slice (some ⟨mb, mo, none⟩) r.nm mc, .slice (some ⟨cb, co, none⟩) r.nc cc] 25)).grows wr) (fun i _ => r.nc - (intOf i).toNat)
    case atStart => exact ⟨0, by omega, rfl, Lib.hid fun j hj => by omega, by (repeat (first | exact World.grows.refl _ | assumption | refine World.grows.alloc ?_ _ | refine World.grows.plus ?_ _ _ | refine World.grows.drew ?_))⟩
    case round =>
      obtain ⟨k, hk, rfl, hk2, hg⟩ := hrel
      obtain ⟨n1, x1, rfl⟩ := World.plus_of hg
      by_cases hlt : k < r.nc
      · have hG : (F + k) % r.nc < r.nc := Nat.mod_lt _ (by omega)
        have e2 : ((F + k : Nat) : Int) % (r.nc : Int) = ((F + k) % r.nc : Nat) := by omega
        have hnx := fun h => Lib.hid (upto_succ hk2.out h)
        obtain ⟨S, hS⟩ : ∃ S : Nat, F + k = S := ⟨_, rfl⟩
        obtain ⟨G, hGe⟩ : ∃ G, (F + k) % r.nc = G := ⟨_, rfl⟩
        simp only [hGe] at hnx
        rw [hGe] at hG
        rw [hGe, hS] at e2
        have e1 : IntKind.i64.wrap ((F : Int) + k) = S := wrapI (by omega) (by omega)
        have e4 : (S : Int).tmod (r.nc : Int) = G := by rw [Int.tmod_eq_emod_of_nonneg (Int.natCast_nonneg _)]; exact e2
        have hnI : ¬ (r.nc : Int) = 0 := by omega
        have hn0 : ¬ r.nc = 0 := by omega
        have hGI : (G : Int) < r.nc := by omega
        have H2 := Lib.hid hnx
        clear hnx hS hGe hk2
        go_wp2
        clear e1 e2 e4 hnI hn0
        go_loopw [12] (fun i wr => ∃ x : Nat, x ≤ L.length ∧ i = .int .i64 x ∧ Hid (∀ j, j < x → r.val (L.getD j 0) G = r.val (L.getD 0 0) G) ∧ (w.alloc (.cells #[.slice (some ⟨mb, mo, none⟩) r.nm mc, .slice (some ⟨cb, co, none⟩) r.nc cc] 25)).grows wr) (fun i _ => L.length - (intOf i).toNat)
        case atStart => exact ⟨0, by omega, rfl, Lib.hid fun j hj => by omega, by (repeat (first | exact World.grows.refl _ | assumption | refine World.grows.alloc ?_ _ | refine World.grows.plus ?_ _ _ | refine World.grows.drew ?_))⟩
        case round =>
          obtain ⟨x, hx, rfl, hx2, hg2⟩ := hrel
          obtain ⟨n2, x2, rfl⟩ := World.plus_of hg2
          by_cases hlx : x < L.length
          · obtain ⟨b9, o9, rfl, d1⟩ := HL.out x 0 hlx (by omega)
            obtain ⟨_, _, he, d2⟩ := HL.out 0 0 (by omega) (by omega)
            cases he
            simp only [Nat.mul_one, Nat.add_zero, Nat.zero_mul] at d1 d2
            have m1 := Hl.out _ (getD_mem hlx)
            have m2 := Hl.out _ (getD_mem h0)
            have hnx := fun h => Lib.hid (upto_succ hx2.out h)
            have hno : r.val (L.getD x 0) G ≠ r.val (L.getD 0 0) G → Hid (r.featIs L (G : Int)) := fun h => Lib.hid (.inr ⟨G, rfl, hG, _, getD_mem hlx, h⟩)
            obtain ⟨y, hy⟩ : ∃ y, L.getD x 0 = y := ⟨_, rfl⟩
            obtain ⟨z, hz⟩ : ∃ z, L.getD 0 0 = z := ⟨_, rfl⟩
            simp only [hy, hz] at d1 d2 m1 m2 hnx hno
            have c1 := HR.out.row y m1
            have c2 := HR.out.row z m2
            have c3 := HR.out.val y G m1 hG
            have c4 := HR.out.val z G m2 hG
            obtain ⟨q1, q2⟩ := HR.out.cap y m1
            obtain ⟨q3, q4⟩ := HR.out.cap z m2
            unfold maxLen at q2 q4
            by_cases hw : r.val y G = r.val z G
            · have hnn := hnx hw
              rw [hw] at c3
              have HZ := Lib.hid hz
              clear hnx hno hy hz hw
              go_wp2
              (refine wp_region_calm (by kernel_rfl) (by kernel_rfl) ?_; (repeat (refine wpCalm_step (fun K hK => ?_); go_simp; first | (refine hK _ ?_; clear hK K) | (apply Exists.intro; refine ⟨fun n' x' => ?_, hK _ ?_⟩; (fail); clear hK K))); refine wpCalm_nil ?_; intro nq xq)
              go_wp2
              go_roundw
              case rel => exact ⟨x + 1, by omega, by go_num, by rw [HZ.out]; exact hnn, by (repeat (first | exact World.grows.refl _ | assumption | refine World.grows.alloc ?_ _ | refine World.grows.plus ?_ _ _ | refine World.grows.drew ?_))⟩
              case measure => simp [intOf]; omega
            · have hmx := hno hw
              have hwb : (r.val y G == r.val z G) = false := beq_eq_false_iff_ne.2 hw
              clear hnx hno hy hz
              go_wp2
              (refine wp_region_calm (by kernel_rfl) (by kernel_rfl) ?_; (repeat (refine wpCalm_step (fun K hK => ?_); go_simp; first | (refine hK _ ?_; clear hK K) | (apply Exists.intro; refine ⟨fun n' x' => ?_, hK _ ?_⟩; (fail); clear hK K))); refine wpCalm_nil ?_; intro nq xq)
              go_wp2
              (refine bodyPost_ret (v := .int .i64 (G : Nat)) (by simp [results, Try.results85, go_sem]) rfl ?_)
              exact ⟨_, rfl, hmx.out, by (repeat (first | exact World.grows.refl _ | assumption | refine World.grows.alloc ?_ _ | refine World.grows.plus ?_ _ _ | refine World.grows.drew ?_))⟩
          · have hxe : x = L.length := by omega
            have hnn := H2.out (fun j hj => hx2.out j (by omega))
            subst hxe
            go_wp2
            go_roundw
            case rel => exact ⟨k + 1, by omega, by go_num, hnn, by (repeat (first | exact World.grows.refl _ | assumption | refine World.grows.alloc ?_ _ | refine World.grows.plus ?_ _ _ | refine World.grows.drew ?_))⟩
            case measure => simp [intOf]; omega
      · have hke : k = r.nc := by omega
        have hmx : Hid (r.featIs L (-1)) := Lib.hid (Reg.feat_none (s := F) fun i hi k' hk' => hk2.out i (by omega) k' hk')
        subst hke
        go_wp2
        (refine bodyPost_ret (v := .int .i64 (-1)) (by simp [results, Try.results85, go_sem]) rfl ?_)
        exact ⟨_, rfl, hmx.out, by (repeat (first | exact World.grows.refl _ | assumption | refine World.grows.alloc ?_ _ | refine World.grows.plus ?_ _ _ | refine World.grows.drew ?_))⟩
end Go.Proofs.Ytdminglglapnlaa

/-
  What is proved: MarkTurned (10) answers true.
-/
namespace Go.Proofs.Ytdminglglapnlaa
open Go.RowKit
attribute [local irreducible] Go.wpCalm

theorem tmod_of {a b x : Nat} (h : a % b = x) : (a : Int).tmod (b : Int) = (x : Nat) := by
  rw [Int.tmod_eq_emod_of_nonneg (Int.natCast_nonneg _), ← h]
  exact (Int.natCast_emod _ _).symm
set_option maxRecDepth 100000 in
set_option maxHeartbeats 8000000 in
theorem turned_w (w : World) (rv : Value) (r : Reg) (hr : RegAt w rv r) (z1 z2 z3 z4 : Int) (hz1 : 0 ≤ z1 ∧ z1 ≤ 255) (hz2 : 0 ≤ z2 ∧ z2 ≤ 255) (hz3 : 0 ≤ z3 ∧ z3 ≤ 255) (hz4 : 0 ≤ z4 ∧ z4 ≤ 255) :
    Calls Try.prog 10 #[rv, .int .u8 z1, .int .u8 z2, .int .u8 z3, .int .u8 z4] w fun e w' => e = .returned (.bool true) ∧ w.grows w' := by
  obtain ⟨n1, rfl⟩ : ∃ n : Nat, z1 = (n : Int) := ⟨z1.toNat, by omega⟩
  obtain ⟨n2, rfl⟩ : ∃ n : Nat, z2 = (n : Int) := ⟨z2.toNat, by omega⟩
  obtain ⟨n3, rfl⟩ : ∃ n : Nat, z3 = (n : Int) := ⟨z3.toNat, by omega⟩
  obtain ⟨n4, rfl⟩ : ∃ n : Nat, z4 = (n : Int) := ⟨z4.toNat, by omega⟩
  have h37 := fun W (g : w.grows W) => fine_c W rv r (hr.mono g)
  have Hr := Lib.hid hr
  by_cases hc : r.check = 0
  · have hok := Reg.ok_of hc
    obtain ⟨mb, mo, mc, cb, co, cc, rb, ro, rc, rfl, hm1, hm2, hc1, hc2, hR⟩ := hr.ok hok
    rw [decide_eq_true hc] at h37
    have Hok := Lib.hid hok
    have HR := Lib.hid hR
    have hr1 := hok.m1
    have hr10 := hok.m10
    have hrc1 := hok.c1
    have hrc8 := hok.c8
    obtain ⟨bb1, bb2, bb3, bb4⟩ := Reg.best_bd hok
    have hE2 := Reg.solvE_two hok
    unfold maxLen at hm2 hc2
    clear hR hr hok hc
    go_enter Try.func10, Try.ntmps10
    go_upto_region 1 with fail
    generalize hV : World.alloc _ _ = U
    have gV : w.grows U := by rw [← hV]; (repeat (first | exact World.grows.refl _ | assumption | refine World.grows.alloc ?_ _ | refine World.grows.plus ?_ _ _ | refine World.grows.drew ?_))
    have qa : Hid (U.heap[w.heap.size]? = some (.cells #[.slice (some ⟨mb, mo, none⟩) r.nm mc, .slice (some ⟨cb, co, none⟩) r.nc cc] 25)) := Lib.hid (by rw [← hV]; exact World.heap_at _ _ _ rfl)
    have HZ := Lib.hid gV
    clear hV gV
    have q10 : U.cell? ⟨w.heap.size, 0, none⟩ = some (.slice (some ⟨mb, mo, none⟩) r.nm mc) := cell_of_heap qa.out rfl; have q11 : U.cell? ⟨w.heap.size, 1, none⟩ = some (.slice (some ⟨cb, co, none⟩) r.nc cc) := cell_of_heap qa.out rfl
    go_wp2_with (go_at_call 99; fail)
    refine (h37 _ (HZ.out.trans (by (repeat (first | exact World.grows.refl _ | assumption | refine World.grows.alloc ?_ _ | refine World.grows.plus ?_ _ _ | refine World.grows.drew ?_))))).mono ?_
    rintro e U ⟨rfl, g⟩
    clear q10 q11
    replace qa := Lib.hid (World.grows.heap_of (World.grows.trans (by (repeat (first | exact World.grows.refl _ | assumption | refine World.grows.alloc ?_ _ | refine World.grows.plus ?_ _ _ | refine World.grows.drew ?_))) g) qa.out); replace HZ := Lib.hid (HZ.out.trans (World.grows.trans (by (repeat (first | exact World.grows.refl _ | assumption | refine World.grows.alloc ?_ _ | refine World.grows.plus ?_ _ _ | refine World.grows.drew ?_))) g))
    have q10 : U.cell? ⟨w.heap.size, 0, none⟩ = some (.slice (some ⟨mb, mo, none⟩) r.nm mc) := cell_of_heap qa.out rfl; have q11 : U.cell? ⟨w.heap.size, 1, none⟩ = some (.slice (some ⟨cb, co, none⟩) r.nc cc) := cell_of_heap qa.out rfl
    clear g h37
    have h25 := fun W (g : w.grows W) => best_any (Hr.out.mono g)
    have h32 := fun W (g : w.grows W) => fix_any (Hr.out.mono g)
    obtain ⟨N, hN⟩ : ∃ x, r.bestN = x := ⟨_, rfl⟩
    obtain ⟨C, hC⟩ : ∃ x, r.fixC = x := ⟨_, rfl⟩
    obtain ⟨E, hE⟩ : ∃ x, r.solvE = x := ⟨_, rfl⟩
    simp only [hN, hE] at h25
    simp only [hC, hE] at h32
    rw [hN] at bb1 bb2
    rw [hC] at bb3 bb4
    rw [hE] at hE2
    have HNE := Lib.hid (And.intro hN (And.intro hC hE))
    clear hN hC hE
    go_wp2_with (go_at_call 99; fail)
    refine (h25 _ (HZ.out.trans (by (repeat (first | exact World.grows.refl _ | assumption | refine World.grows.alloc ?_ _ | refine World.grows.plus ?_ _ _ | refine World.grows.drew ?_))))).mono ?_
    rintro e U ⟨bx, ba, bn, bc, rfl, g⟩
    clear q10 q11
    replace qa := Lib.hid (World.grows.heap_of (World.grows.trans (by (repeat (first | exact World.grows.refl _ | assumption | refine World.grows.alloc ?_ _ | refine World.grows.plus ?_ _ _ | refine World.grows.drew ?_))) g) qa.out); replace HZ := Lib.hid (HZ.out.trans (World.grows.trans (by (repeat (first | exact World.grows.refl _ | assumption | refine World.grows.alloc ?_ _ | refine World.grows.plus ?_ _ _ | refine World.grows.drew ?_))) g))
    have q10 : U.cell? ⟨w.heap.size, 0, none⟩ = some (.slice (some ⟨mb, mo, none⟩) r.nm mc) := cell_of_heap qa.out rfl; have q11 : U.cell? ⟨w.heap.size, 1, none⟩ = some (.slice (some ⟨cb, co, none⟩) r.nc cc) := cell_of_heap qa.out rfl
    clear g h25
    go_wp2_with (go_at_call 99; fail)
    have gA := World.grows.alloc (World.grows.refl U) (Obj.cells #[.int .i64 bx, .slice ba bn bc] 28)
    refine (h32 _ (HZ.out.trans (by (repeat (first | exact World.grows.refl _ | assumption | refine World.grows.alloc ?_ _ | refine World.grows.plus ?_ _ _ | refine World.grows.drew ?_))))).mono ?_
    rintro e U ⟨fa, fn, fc, rfl, g⟩
    clear q10 q11
    replace qa := Lib.hid (World.grows.heap_of (World.grows.trans (by (repeat (first | exact World.grows.refl _ | assumption | refine World.grows.alloc ?_ _ | refine World.grows.plus ?_ _ _ | refine World.grows.drew ?_))) g) qa.out); replace HZ := Lib.hid (HZ.out.trans (World.grows.trans (by (repeat (first | exact World.grows.refl _ | assumption | refine World.grows.alloc ?_ _ | refine World.grows.plus ?_ _ _ | refine World.grows.drew ?_))) g))
    have q10 : U.cell? ⟨w.heap.size, 0, none⟩ = some (.slice (some ⟨mb, mo, none⟩) r.nm mc) := cell_of_heap qa.out rfl; have q11 : U.cell? ⟨w.heap.size, 1, none⟩ = some (.slice (some ⟨cb, co, none⟩) r.nc cc) := cell_of_heap qa.out rfl
    clear g h32 gA
    go_upto_region 5 with fail
    go_cut [65] from 39 to 226 (fun s w' => s = .bool false ∧ Hid (U.grows w'))
    case first =>
      rcases hE2 with hE | hE
      · have hEb : (E != 0) = false := by rw [hE]; rfl
        have hEb2 : (E == 0) = true := by rw [hE]; rfl
        clear hE
        go_wp2
        go_meet
        exact ⟨rfl, Lib.hid (by (repeat (first | exact World.grows.refl _ | assumption | refine World.grows.alloc ?_ _ | refine World.grows.plus ?_ _ _ | refine World.grows.drew ?_)))⟩
      · have hEb : (E != 0) = true := by rw [hE]; rfl
        have hEb2 : (E != 24) = false := by rw [hE]; rfl
        have hEb3 : (E == 0) = false := by rw [hE]; rfl
        have hEb4 : (E == 24) = true := by rw [hE]; rfl
        clear hE
        go_wp2
        go_meet
        exact ⟨rfl, Lib.hid (by (repeat (first | exact World.grows.refl _ | assumption | refine World.grows.alloc ?_ _ | refine World.grows.plus ?_ _ _ | refine World.grows.drew ?_)))⟩
    case rest =>
      obtain ⟨rfl, hv⟩ := hcut
      replace qa := Lib.hid (hv.out.heap_of qa.out)
      replace HZ := Lib.hid (HZ.out.trans hv.out)
      clear q10 q11 hv
      have q10 : wc.cell? ⟨w.heap.size, 0, none⟩ = some (.slice (some ⟨mb, mo, none⟩) r.nm mc) := cell_of_heap qa.out rfl
      have q11 : wc.cell? ⟨w.heap.size, 1, none⟩ = some (.slice (some ⟨cb, co, none⟩) r.nc cc) := cell_of_heap qa.out rfl
      obtain ⟨t0, ht0⟩ : ∃ x : Nat, n4 % 5 = x := ⟨_, rfl⟩
      have htl : t0 < 5 := by rw [← ht0]; exact Nat.mod_lt _ (by omega)
      have e4 : (n4 : Int).tmod 5 = t0 := tmod_of ht0
      have w4 : IntKind.i64.wrap (n4 : Int) = n4 := wrapI rfl (by omega)
      clear ht0
      have hwB := World.lt_of_block qa.out
      go_wp2_with (go_at_call 99; fail)
      refine (copied_c _ _ r (Hr.out.mono (HZ.out.trans (by (repeat (first | exact World.grows.refl _ | assumption | refine World.grows.alloc ?_ _ | refine World.grows.plus ?_ _ _ | refine World.grows.drew ?_))))) Hok.out).mono ?_
      rintro e U ⟨ya, yca, ym, ycc, yrow, rfl, hO, g⟩
      replace qa := Lib.hid (g.heap_of qa.out)
      replace HZ := Lib.hid (HZ.out.trans g)
      have hwU := g.size
      obtain ⟨B0, hB0⟩ : ∃ x, wc.heap.size = x := ⟨_, rfl⟩
      rw [hB0] at hO hwU hwB
      clear q10 q11 g hB0
      go_upto_region 9 with fail
      obtain ⟨kx, hkx⟩ : ∃ x, U.heap.size = x := ⟨_, rfl⟩
      have hbx : ((U.alloc (.cells #[.slice none 0 0, .slice none 0 0] 25)).alloc (.cells #[.slice ya r.nm ym, .slice yca r.nc ycc] 25)).heap[kx]? = some (.cells #[.slice none 0 0, .slice none 0 0] 25) := World.grows.heap_of (by (repeat (first | exact World.grows.refl _ | assumption | refine World.grows.alloc ?_ _ | refine World.grows.plus ?_ _ _ | refine World.grows.drew ?_))) (World.heap_at _ _ _ hkx.symm)
      have hby : ((U.alloc (.cells #[.slice none 0 0, .slice none 0 0] 25)).alloc (.cells #[.slice ya r.nm ym, .slice yca r.nc ycc] 25)).heap[kx + 1]? = some (.cells #[.slice ya r.nm ym, .slice yca r.nc ycc] 25) := World.heap_at _ _ _ (by simp [hkx])
      have gU : U.grows ((U.alloc (.cells #[.slice none 0 0, .slice none 0 0] 25)).alloc (.cells #[.slice ya r.nm ym, .slice yca r.nc ycc] 25)) := by (repeat (first | exact World.grows.refl _ | assumption | refine World.grows.alloc ?_ _ | refine World.grows.plus ?_ _ _ | refine World.grows.drew ?_))
      obtain ⟨b2, ycc2, he⟩ := Joins.ownsRow_form hO.2 (by omega)
      cases he
      have hb2 := hO.2.lt b2 rfl
      rw [hkx] at hwU hb2 ⊢
      have hO1 := hO.1.grow gU
      have hO2 := hO.2.grow gU
      have hYs : ((U.alloc (.cells #[.slice none 0 0, .slice none 0 0] 25)).alloc (.cells #[.slice ya r.nm ym, .slice (some ⟨b2, 0, none⟩) r.nc ycc] 25)).heap.size = kx + 2 := by simp [hkx]
      generalize World.alloc _ _ = Y at hbx hby gU hO1 hO2 hYs ⊢
      have Ya := Lib.hid (gU.heap_of qa.out)
      have Yz := Lib.hid (HZ.out.trans gU)
      have YO1 := Lib.hid hO1
      have YO2 := Lib.hid hO2
      have Ybx := Lib.hid hbx
      have Yby := Lib.hid hby
      obtain ⟨_, _, he2, hy1, hy2⟩ := row_form hO2
      cases he2
      unfold maxLen at hy2
      have q10 : Y.cell? ⟨w.heap.size, 0, none⟩ = some (.slice (some ⟨mb, mo, none⟩) r.nm mc) := cell_of_heap Ya.out rfl
      have q11 : Y.cell? ⟨w.heap.size, 1, none⟩ = some (.slice (some ⟨cb, co, none⟩) r.nc cc) := cell_of_heap Ya.out rfl
      clear hO hO1 hO2 hbx hby gU hkx qa HZ
      have HkU := Lib.hid hwU
      (refine wp_region_calm (by kernel_rfl) (by kernel_rfl) ?_; (repeat (refine wpCalm_step (fun K hK => ?_); go_simp; first | (refine hK _ ?_; clear hK K) | (apply Exists.intro; refine ⟨fun n' x' => ?_, hK _ ?_⟩; (fail); clear hK K))); refine wpCalm_nil ?_; intro nq xq)
      have hY2 : Y.grows (Y.plus nq xq) := World.grows_plus _ _ _
      generalize Y.plus nq xq = Y2 at hY2 ⊢
      clear q10 q11
      go_wp2
      go_loopw [22] (fun i wr => ∃ (k : Nat) (cv : Value), k ≤ r.nc ∧ i = .int .i64 k ∧ Hid (Kq kx b2 Y wr) ∧ Hid (w.grows wr) ∧ Hid (wr.heap[kx]? = some (.cells #[.slice none 0 0, cv] 25)) ∧ Hid (wr.ownsRow (kx + 2) 2 1 cv k (valL k (fun i => r.cost ((i + n3) % r.nc)))) ∧
        Hid (wr.ownsRow B0 2 1 (.slice (some ⟨b2, 0, none⟩) r.nc ycc) r.nc (valL r.nc (fun i => if i < k then r.cost i * (1 + (t0 : Int)) else r.cost i)))) (fun i _ => r.nc - (intOf i).toNat)
      case atStart => exact ⟨0, .slice none 0 0, by omega, rfl, Lib.hid (Kq.refl.then hY2), Lib.hid (Yz.out.trans hY2), Lib.hid (hY2.heap_of Ybx.out), Lib.hid (World.ownsRow_nil _ _ _ _), Lib.hid (by simpa using YO2.out.grow hY2)⟩
      case round =>
        obtain ⟨k, cv, hk, rfl, hQ, hg, hX, hC, hS⟩ := hrel
        have ha := Lib.hid (hQ.out.block _ _ Ya.out (by omega) (by omega))
        have hby := Lib.hid (hQ.out.block _ _ Yby.out (by omega) (by omega))
        obtain ⟨ca2, cc2, rfl, -, -⟩ := row_form hC.out
        have hsz := hQ.out.size
        by_cases hlt : k < r.nc
        · have q11 : wr.cell? ⟨w.heap.size, 1, none⟩ = some (.slice (some ⟨cb, co, none⟩) r.nc cc) := cell_of_heap ha.out rfl
          have x1 : wr.cell? ⟨kx, 1, none⟩ = some (.slice ca2 k cc2) := cell_of_heap hX.out rfl
          have y1 : wr.cell? ⟨kx + 1, 1, none⟩ = some (.slice (some ⟨b2, 0, none⟩) r.nc ycc) := cell_of_heap hby.out rfl
          obtain ⟨G, hG⟩ : ∃ x : Nat, (k + n3) % r.nc = x := ⟨_, rfl⟩
          have hGl : G < r.nc := by rw [← hG]; exact Nat.mod_lt _ (by omega)
          have HG := Lib.hid hG
          obtain ⟨S, hSe⟩ : ∃ x : Nat, k + n3 = x := ⟨_, rfl⟩
          have e1 : IntKind.i64.wrap ((k : Int) + n3) = S := wrapI (by omega) (by omega)
          rw [hSe] at hG
          have e2 := tmod_of hG
          have w3 : IntKind.i64.wrap (n3 : Int) = n3 := wrapI rfl (by omega)
          have d0 := hg.out.cell_of (HR.out.cost G hGl)
          have hnI : ¬ (r.nc : Int) = 0 := by omega
          have hn0 : ¬ r.nc = 0 := by omega
          have hGI : (G : Int) < r.nc := by omega
          clear hG hSe
          go_wp2
          (refine wp_region_chain 13 [12] (by kernel_rfl) (by kernel_rfl) (by decide) ?_; simp only [without, only, withNo, List.take_succ_cons, List.take_zero, List.drop_succ_cons, List.drop_zero, List.take_nil, List.drop_nil, Nat.reduceAdd, Nat.reduceSub, List.filter, List.contains_cons, List.contains_nil, Nat.reduceBEq, Bool.or_false, Bool.false_or, Bool.true_or, Bool.or_true, Bool.or_self, Bool.not_true, Bool.not_false, List.map_cons, List.map_nil]; (repeat (refine wpCalm_step (fun K hK => ?_); go_simp; first | (refine hK _ ?_; clear hK K) | (apply Exists.intro; refine ⟨fun n' x' => ?_, hK _ ?_⟩; (fail); clear hK K))); refine wpCalm_nil ?_)
          (refine wpChain_step (fun K hK nc xc => ?_); go_simp)
          refine ⟨by (repeat (first | exact World.grows.refl _ | assumption | refine World.grows.alloc ?_ _ | refine World.grows.plus ?_ _ _ | refine World.grows.drew ?_)), hK _ _ ?_⟩
          clear hK K q11 d0 e1 e2
          (refine wpChain_nil (fun nc xc => ?_))
          rename_i n8 x8
          have e43 : SliceAt (World.plus (World.alloc (wr.plus n8 x8) (.cells #[.int .i64 (r.cost G)] 2)) nc xc) (.slice (some ⟨wr.heap.size + n8, 0, none⟩) 1 1) 1 1 (fun _ _ => .int .i64 (r.cost G)) := SliceAt.mono (one_slice (wr.plus n8 x8) _ 2 _ (by simp)) (World.grows_plus _ _ _)
          have hW4 : wr.grows (World.plus (World.alloc (wr.plus n8 x8) (.cells #[.int .i64 (r.cost G)] 2)) nc xc) := by (repeat (first | exact World.grows.refl _ | assumption | refine World.grows.alloc ?_ _ | refine World.grows.plus ?_ _ _ | refine World.grows.drew ?_))
          obtain ⟨p3, hp3⟩ : ∃ p, wr.heap.size + n8 = p := ⟨_, rfl⟩
          simp only [hp3] at e43 ⊢
          generalize World.plus (World.alloc _ _) _ _ = W4 at e43 hW4 ⊢
          clear hp3 x1 y1
          have Q4 := Lib.hid (hQ.out.then hW4)
          have G4 := Lib.hid (hg.out.trans hW4)
          have X4 := Lib.hid (hW4.heap_of hX.out)
          have C4 := Lib.hid (hC.out.grow hW4)
          have S4 := Lib.hid (hS.out.grow hW4)
          have hs4 := Q4.out.size
          have hCn : Hid ((Value.slice ca2 k cc2).ownBlock ≠ some b2) := Lib.hid fun e => by have h1 := (C4.out.lt b2 e).1; omega
          clear hQ hg hX hC hS ha hby hW4
          go_upto_region 14 with (at_builtin; go_loud (refine wpList_append_r _ rfl _ _ _ (by rfl) (kx + 2) 2 (.int .i64 0) 1 8 Try.underlying23 el2 (by rfl) (by omega) _ k _ (by rfl) C4.out _ (by rfl) 1 _ (SliceAt.src (by omega) e43) (one_cell _) (by unfold maxLen; omega) (by omega) (by omega) ?_; intro v9 w9 hown hgb; obtain ⟨va, vc, rfl, -, -⟩ := row_form hown; have Q9 := Lib.hid (Q4.out.own C4.out (by omega) hgb); have G9 := Lib.hid (hgb.grows C4.out G4.out (by omega)); have X9 := Lib.hid (heap_by' X4.out C4.out (by decide) hgb); have C9 : Hid (w9.ownsRow (kx + 2) 2 1 (.slice va (k + 1) vc) (k + 1) (valL (k + 1) (fun i => r.cost ((i + n3) % r.nc)))) := Lib.hid (by rw [valL_snoc, HG.out]; exact hown); have S9 := Lib.hid (S4.out.kept hgb (.inr (fun e => hCn.out e.symm))); have x1 : w9.cell? ⟨kx, 1, none⟩ = some (.slice ca2 k cc2) := cell_of_heap X9.out rfl; have xf := frozen_of_heap X9.out 1; clear hown hgb))
          have Q8 := Lib.hid (Q9.out.set (a := ⟨kx, 1, none⟩) (.inl rfl) (.slice va (k + 1) vc))
          have G8 := Lib.hid (G9.out.setCell (p := ⟨kx, 1, none⟩) (by dsimp only; omega) (.slice va (k + 1) vc))
          have X8 := Lib.hid (store_of_heap X9.out 1 (.slice va (k + 1) vc))
          have C8 := Lib.hid (ownsRow_setCell_other (a := ⟨kx, 1, none⟩) C9.out (ne_block C9.out X9.out (by decide)) (.slice va (k + 1) vc))
          have S8 := Lib.hid (ownsRow_setCell_other (a := ⟨kx, 1, none⟩) S9.out (ne_block S9.out X9.out (by decide)) (.slice va (k + 1) vc))
          generalize World.setCell _ _ _ = W8 at Q8 G8 X8 C8 S8 ⊢
          clear Q9 G9 X9 C9 S9 x1 xf Q4 G4 X4 C4 S4 hs4
          have y0 : W8.cell? ⟨kx + 1, 1, none⟩ = some (.slice (some ⟨b2, 0, none⟩) r.nc ycc) := cell_of_heap (Q8.out.block _ _ Yby.out (by omega) (by omega)) rfl
          have s0 : W8.cell? ⟨b2, k, none⟩ = some (.int .i64 (r.cost k)) := by
            rw [S8.out.cellAt k (by omega), valL_get _ hlt, if_neg (by omega)]
          have sf : W8.frozen? ⟨b2, k, none⟩ = false := S8.out.frozenAt k
          have hck := Hok.out.cost k hlt
          obtain ⟨T, hT⟩ : ∃ T, r.cost k * (1 + (t0 : Int)) = T := ⟨_, rfl⟩
          have hT0 : 0 ≤ T := by rw [← hT]; exact Int.mul_nonneg (by omega) (by omega)
          have hT5 : T ≤ 1000 * 5 := by rw [← hT]; exact Int.mul_le_mul (by omega) (by omega) (by omega) (by omega)
          have wT : IntKind.i64.wrap (r.cost k * (1 + (t0 : Int))) = T := wrapI hT (by omega)
          have wT2 : wrap64 (r.cost k * (1 + (t0 : Int))) = T := by rw [hT]; exact wrap64_own _ (by omega)
          have HT := Lib.hid hT
          have hkI : (k : Int) < r.nc := by omega
          clear hT
          go_wp2
          have S7 : Hid (World.ownsRow (W8.setCell ⟨b2, k, none⟩ (.int .i64 T)) B0 2 1 (.slice (some ⟨b2, 0, none⟩) r.nc ycc) r.nc (valL r.nc (fun i => if i < k + 1 then r.cost i * (1 + (t0 : Int)) else r.cost i))) := Lib.hid (by
            have h1 := (S8.out.stored k (.int .i64 T)).1
            rw [valL_set _ _ hlt] at h1
            rw [valL_congr (g := fun i => if i = k then T else if i < k then r.cost i * (1 + (t0 : Int)) else r.cost i) (fun i hi => by
              by_cases h9 : i = k
              · rw [if_pos h9, if_pos (by omega), h9, HT.out]
              · rw [if_neg h9]
                by_cases h8 : i < k
                · rw [if_pos h8, if_pos (by omega)]
                · rw [if_neg h8, if_neg (by omega)])]
            exact h1)
          have Q7 := Lib.hid (Q8.out.set (a := ⟨b2, k, none⟩) (.inr (.inl rfl)) (.int .i64 T))
          have G7 := Lib.hid (G8.out.setCell (p := ⟨b2, k, none⟩) (by dsimp only; omega) (.int .i64 T))
          have X7 := Lib.hid ((World.heap_setCell_map W8 ⟨b2, k, none⟩ (.int .i64 T) kx (by dsimp only; omega)).trans X8.out)
          have C7 := Lib.hid (ownsRow_setCell_other (a := ⟨b2, k, none⟩) C8.out (fun e => by have h1 := (C8.out.lt b2 e).1; omega) (.int .i64 T))
          generalize World.setCell _ _ _ = W7 at S7 Q7 G7 X7 C7 ⊢
          clear S8 Q8 G8 X8 C8 y0 s0 sf wT wT2
          go_roundw
          case rel => exact ⟨k + 1, _, by omega, by go_num, Q7, G7, X7, C7, S7⟩
          case measure => simp [intOf]; omega
        · have hke : k = r.nc := by omega
          subst hke
          have C1 : Hid (wr.ownsRow (kx + 2) 2 1 (.slice ca2 r.nc cc2) r.nc (valL r.nc (fun i => r.cost ((i + n3) % r.nc)))) := hC
          have S1 : Hid (wr.ownsRow B0 2 1 (.slice (some ⟨b2, 0, none⟩) r.nc ycc) r.nc (valL r.nc (r.times (1 + (t0 : Int))).cost)) := Lib.hid (by
            rw [valL_congr (g := fun i => if i < r.nc then r.cost i * (1 + (t0 : Int)) else r.cost i) (fun i hi => by rw [if_pos hi]; rfl)]
            exact hS.out)
          clear hC hS ha hby hk hlt
          obtain ⟨Wa, rfl⟩ : ∃ Wa, Wa = wr := ⟨_, rfl⟩
          go_wp2
          go_loopw [23] (fun i wr => ∃ (m : Nat) (mv : Value) (row : Nat → Value), m ≤ r.nm ∧ i = .int .i64 m ∧ Hid (Kq kx b2 Y wr) ∧ Hid (w.grows wr) ∧ Hid (wr.heap[kx]? = some (.cells #[mv, .slice ca2 r.nc cc2] 25)) ∧ Hid (MarksOwn (kx + 2) wr mv m r.nc (r.turn n1 n2 n3).who row (r.turn n1 n2 n3).val) ∧
            Hid (wr.ownsRow (kx + 2) 2 1 (.slice ca2 r.nc cc2) r.nc (valL r.nc (fun i => r.cost ((i + n3) % r.nc)))) ∧ Hid (wr.ownsRow B0 2 1 (.slice (some ⟨b2, 0, none⟩) r.nc ycc) r.nc (valL r.nc (r.times (1 + (t0 : Int))).cost))) (fun i _ => r.nm - (intOf i).toNat)
          case atStart => exact ⟨0, _, _, by omega, rfl, hQ, hg, hX, Lib.hid (MarksOwn.zero _ _ _ _ _), C1, S1⟩
          case round =>
            clear hQ hg hX C1 S1 hsz
            obtain ⟨m, mv, row, hm, rfl, hQ, hg, hX, hM, hC, hS⟩ := hrel
            have ha := Lib.hid (hQ.out.block _ _ Ya.out (by omega) (by omega))
            obtain ⟨ma2, mc2, rfl, -, -⟩ := row_form hM.out.row'
            have hsz := hQ.out.size
            by_cases hml : m < r.nm
            · have q10 : wr.cell? ⟨w.heap.size, 0, none⟩ = some (.slice (some ⟨mb, mo, none⟩) r.nm mc) := cell_of_heap ha.out rfl
              obtain ⟨R, hR⟩ : ∃ x : Nat, (m + n2) % r.nm = x := ⟨_, rfl⟩
              have hRl : R < r.nm := by rw [← hR]; exact Nat.mod_lt _ (by omega)
              have HRR := Lib.hid hR
              obtain ⟨S, hSe⟩ : ∃ x : Nat, m + n2 = x := ⟨_, rfl⟩
              have e1 : IntKind.i64.wrap ((m : Int) + n2) = S := wrapI (by omega) (by omega)
              rw [hSe] at hR
              have e2 := tmod_of hR
              have w2 : IntKind.i64.wrap (n2 : Int) = n2 := wrapI rfl (by omega)
              have d0 := hg.out.cell_of (HR.out.who R hRl)
              have d1 := hg.out.cell_of (HR.out.row R hRl)
              have hnI : ¬ (r.nm : Int) = 0 := by omega
              have hn0 : ¬ r.nm = 0 := by omega
              have hRI : (R : Int) < r.nm := by omega
              clear hR hSe
              go_wp2
              (refine wp_region_chain 11 [10] (by kernel_rfl) (by kernel_rfl) (by decide) ?_; simp only [without, only, withNo, List.take_succ_cons, List.take_zero, List.drop_succ_cons, List.drop_zero, List.take_nil, List.drop_nil, Nat.reduceAdd, Nat.reduceSub, List.filter, List.contains_cons, List.contains_nil, Nat.reduceBEq, Bool.or_false, Bool.false_or, Bool.true_or, Bool.or_true, Bool.or_self, Bool.not_true, Bool.not_false, List.map_cons, List.map_nil]; (repeat (refine wpCalm_step (fun K hK => ?_); go_simp; first | (refine hK _ ?_; clear hK K) | (apply Exists.intro; refine ⟨fun n' x' => ?_, hK _ ?_⟩; (fail); clear hK K))); refine wpCalm_nil ?_)
              (refine wpChain_step (fun K hK nc xc => ?_); go_simp)
              refine ⟨by (repeat (first | exact World.grows.refl _ | assumption | refine World.grows.alloc ?_ _ | refine World.grows.plus ?_ _ _ | refine World.grows.drew ?_)), hK _ _ ?_⟩
              clear hK K q10 d0 d1 e1 e2
              (refine wpChain_nil (fun nc xc => ?_))
              rename_i n8 x8
              obtain ⟨p, hp⟩ : ∃ p, wr.heap.size + n8 = p := ⟨_, rfl⟩
              have hW4 : wr.grows (World.plus (World.alloc (wr.plus n8 x8) (.cells #[.int .i64 0, .slice none 0 0] 65)) nc xc) := by (repeat (first | exact World.grows.refl _ | assumption | refine World.grows.alloc ?_ _ | refine World.grows.plus ?_ _ _ | refine World.grows.drew ?_))
              have hP4 : (World.plus (World.alloc (wr.plus n8 x8) (.cells #[.int .i64 0, .slice none 0 0] 65)) nc xc).heap[p]? = some (.cells #[.int .i64 0, .slice none 0 0] 65) := World.grows.heap_of (World.grows_plus _ _ _) (World.heap_at _ _ _ (by simp [hp]))
              simp only [hp]
              generalize World.plus (World.alloc _ _) _ _ = W4 at hW4 hP4 ⊢
              have p0 : W4.cell? ⟨p, 0, none⟩ = some (.int .i64 0) := cell_of_heap hP4 rfl
              have p1 : W4.cell? ⟨p, 1, none⟩ = some (.slice none 0 0) := cell_of_heap hP4 rfl
              have pf0 := frozen_of_heap hP4 0
              have pf1 := frozen_of_heap hP4 1
              have hpw : wr.heap.size ≤ p := by omega
              go_upto_region 19 with fail
              have hPb := store_of_heap (store_of_heap hP4 0 (.int .i64 (r.who R))) 1 (.slice (some ⟨rb R, ro R, none⟩) r.nc (rc R))
              have hWb := (hW4.setCell (p := ⟨p, 0, none⟩) hpw (.int .i64 (r.who R))).setCell (p := ⟨p, 1, none⟩) hpw (.slice (some ⟨rb R, ro R, none⟩) r.nc (rc R))
              generalize World.setCell _ _ _ = Wb at hPb hWb ⊢
              clear p0 p1 pf0 pf1 hW4 hP4 hp
              have p0 : Wb.cell? ⟨p, 0, none⟩ = some (.int .i64 (r.who R)) := cell_of_heap hPb rfl
              have HPb : Hid (Wb.heap[p]? = some (.cells #[.int .i64 (r.who R), .slice (some ⟨rb R, ro R, none⟩) r.nc (rc R)] 65)) := Lib.hid hPb
              have HWb := Lib.hid hWb
              have hbs := hWb.size
              have hwR := Hok.out.who R hRl
              have wn1 : IntKind.i64.wrap (n1 : Int) = n1 := wrapI rfl (by omega)
              have wR : IntKind.i64.wrap (r.who R + n1) = r.who R + n1 := wrapI rfl (by omega)
              obtain ⟨qb, hqb⟩ : ∃ x, Wb.heap.size = x := ⟨_, rfl⟩
              clear hPb hWb
              go_upto_region 20 with fail
              have hQb : (Wb.alloc (.cells #[.int .i64 (r.who R + n1), .slice none 0 0] 65)).heap[qb]? = some (.cells #[.int .i64 (r.who R + n1), .slice none 0 0] 65) := World.heap_at _ _ _ hqb.symm
              have hWq : Wb.grows (Wb.alloc (.cells #[.int .i64 (r.who R + n1), .slice none 0 0] 65)) := by (repeat (first | exact World.grows.refl _ | assumption | refine World.grows.alloc ?_ _ | refine World.grows.plus ?_ _ _ | refine World.grows.drew ?_))
              have hqs : (Wb.alloc (.cells #[.int .i64 (r.who R + n1), .slice none 0 0] 65)).heap.size = qb + 1 := by simp [hqb]
              rw [hqb] at hbs
              generalize World.alloc _ _ = Wq at hQb hWq hqs ⊢
              have HQb := Lib.hid hQb
              have HWq := Lib.hid hWq
              clear hQb hWq p0 wR wn1
              go_wp2
              go_loopw [26] (fun i wr => ∃ (f : Nat) (u : Value), f ≤ r.nc ∧ i = .int .i64 f ∧ Hid (Wb.grows wr) ∧ Hid (wr.heap[qb]? = some (.cells #[.int .i64 (r.who R + n1), u] 65)) ∧ Hid (wr.ownsRow (qb + 1) 3 1 u f (valL f (fun i => r.val R ((i + n3) % r.nc)))) ∧ qb + 1 ≤ wr.heap.size) (fun i _ => r.nc - (intOf i).toNat)
              case atStart => exact ⟨0, .slice none 0 0, by omega, rfl, HWq, HQb, Lib.hid (World.ownsRow_nil _ _ _ _), by omega⟩
              case round =>
                obtain ⟨f, u, hf, rfl, hWg, hQc, hU, hus⟩ := hrel
                obtain ⟨ua, uc, rfl, -, -⟩ := row_form hU.out
                by_cases hfl : f < r.nc
                · obtain ⟨G, hG⟩ : ∃ x : Nat, (f + n3) % r.nc = x := ⟨_, rfl⟩
                  have hGl : G < r.nc := by rw [← hG]; exact Nat.mod_lt _ (by omega)
                  have HG := Lib.hid hG
                  obtain ⟨S, hSe⟩ : ∃ x : Nat, f + n3 = x := ⟨_, rfl⟩
                  have e1 : IntKind.i64.wrap ((f : Int) + n3) = S := wrapI (by omega) (by omega)
                  rw [hSe] at hG
                  have e2 := tmod_of hG
                  have w3 : IntKind.i64.wrap (n3 : Int) = n3 := wrapI rfl (by omega)
                  have hgz := hg.out.trans (HWb.out.trans hWg.out)
                  have d0 := hgz.cell_of (HR.out.val R G hRl hGl)
                  have p1 : wr.cell? ⟨p, 1, none⟩ = some (.slice (some ⟨rb R, ro R, none⟩) r.nc (rc R)) := cell_of_heap (hWg.out.heap_of HPb.out) rfl
                  have v1 : wr.cell? ⟨qb, 1, none⟩ = some (.slice ua f uc) := cell_of_heap hQc.out rfl
                  obtain ⟨r1, r2⟩ := HR.out.cap R hRl
                  unfold maxLen at r2
                  have hnI : ¬ (r.nc : Int) = 0 := by omega
                  have hn0 : ¬ r.nc = 0 := by omega
                  have hGI : (G : Int) < r.nc := by omega
                  clear hG hSe hgz
                  go_wp2
                  (refine wp_region_chain 13 [12] (by kernel_rfl) (by kernel_rfl) (by decide) ?_; simp only [without, only, withNo, List.take_succ_cons, List.take_zero, List.drop_succ_cons, List.drop_zero, List.take_nil, List.drop_nil, Nat.reduceAdd, Nat.reduceSub, List.filter, List.contains_cons, List.contains_nil, Nat.reduceBEq, Bool.or_false, Bool.false_or, Bool.true_or, Bool.or_true, Bool.or_self, Bool.not_true, Bool.not_false, List.map_cons, List.map_nil]; (repeat (refine wpCalm_step (fun K hK => ?_); go_simp; first | (refine hK _ ?_; clear hK K) | (apply Exists.intro; refine ⟨fun n' x' => ?_, hK _ ?_⟩; (fail); clear hK K))); refine wpCalm_nil ?_)
                  (refine wpChain_step (fun K hK nc xc => ?_); go_simp)
                  refine ⟨by (repeat (first | exact World.grows.refl _ | assumption | refine World.grows.alloc ?_ _ | refine World.grows.plus ?_ _ _ | refine World.grows.drew ?_)), hK _ _ ?_⟩
                  clear hK K d0 e1 e2 p1 v1
                  (refine wpChain_nil (fun nc xc => ?_))
                  rename_i n8 x8
                  obtain ⟨p3, hp3⟩ : ∃ p, wr.heap.size + n8 = p := ⟨_, rfl⟩
                  have e43 : SliceAt (World.plus (World.alloc (wr.plus n8 x8) (.cells #[.int .i64 (r.val R G)] 3)) nc xc) (.slice (some ⟨wr.heap.size + n8, 0, none⟩) 1 1) 1 1 (fun _ _ => .int .i64 (r.val R G)) := SliceAt.mono (one_slice (wr.plus n8 x8) _ 3 _ (by simp)) (World.grows_plus _ _ _)
                  have hW4 : wr.grows (World.plus (World.alloc (wr.plus n8 x8) (.cells #[.int .i64 (r.val R G)] 3)) nc xc) := by (repeat (first | exact World.grows.refl _ | assumption | refine World.grows.alloc ?_ _ | refine World.grows.plus ?_ _ _ | refine World.grows.drew ?_))
                  simp only [hp3] at e43 ⊢
                  generalize World.plus (World.alloc _ _) _ _ = W4 at e43 hW4 ⊢
                  clear hp3
                  have U4 := Lib.hid (hU.out.grow hW4)
                  have V4 := Lib.hid (hW4.heap_of hQc.out)
                  have G4 := Lib.hid (hWg.out.trans hW4)
                  have hs4 := hW4.size
                  clear hU hQc hWg hW4
                  go_wp2_with (at_builtin; go_loud (refine wpList_append_r _ rfl _ _ _ (by rfl) (qb + 1) 3 (.int .i64 0) 1 8 Try.underlying29 el3 (by rfl) (by omega) _ f _ (by rfl) U4.out _ (by rfl) 1 _ (SliceAt.src (by omega) e43) (one_cell _) (by unfold maxLen; omega) (by omega) (by omega) ?_; intro v9 w9 hown hgb; obtain ⟨va, vc, rfl, -, -⟩ := row_form hown; have V9 := Lib.hid (heap_by' V4.out U4.out (by decide) hgb); have G9 := Lib.hid (hgb.grows U4.out G4.out (by omega)); have U9 : Hid (w9.ownsRow (qb + 1) 3 1 (.slice va (f + 1) vc) (f + 1) (valL (f + 1) (fun i => r.val R ((i + n3) % r.nc)))) := Lib.hid (by rw [valL_snoc, HG.out]; exact hown); have v1 : w9.cell? ⟨qb, 1, none⟩ = some (.slice ua f uc) := cell_of_heap V9.out rfl; have vf := frozen_of_heap V9.out 1; have hs9 := hgb.size; clear hown hgb))
                  have V8 := Lib.hid (store_of_heap V9.out 1 (.slice va (f + 1) vc))
                  have G8 := Lib.hid (G9.out.setCell (p := ⟨qb, 1, none⟩) (by dsimp only; omega) (.slice va (f + 1) vc))
                  have U8 := Lib.hid (ownsRow_setCell_other (a := ⟨qb, 1, none⟩) U9.out (ne_block U9.out V9.out (by decide)) (.slice va (f + 1) vc))
                  have hs8 : qb + 1 ≤ (w9.setCell ⟨qb, 1, none⟩ (.slice va (f + 1) vc)).heap.size := by simp; omega
                  generalize World.setCell _ _ _ = W8 at V8 G8 U8 hs8 ⊢
                  clear V9 G9 U9 v1 vf U4 V4 G4
                  go_roundw
                  case rel => exact ⟨f + 1, _, by omega, by go_num, G8, V8, U8, hs8⟩
                  case measure => simp [intOf]; omega
                · have hfe : f = r.nc := by omega
                  subst hfe
                  have hgz := Lib.hid (HWb.out.trans hWg.out)
                  have Q5 := Lib.hid (hQ.out.then hgz.out)
                  have G5 := Lib.hid (hg.out.trans hgz.out)
                  have X5 := Lib.hid (hgz.out.heap_of hX.out)
                  have M5 := Lib.hid (hM.out.grow hgz.out)
                  have C5 := Lib.hid (hC.out.grow hgz.out)
                  have S5 := Lib.hid (hS.out.grow hgz.out)
                  have hnew : Hid (∀ a, a < m → ∀ b, (row a).ownBlock = some b → (Value.slice ua r.nc uc).ownBlock ≠ some b) := Lib.hid fun a h9 b hb e => by
                    have h1 := hM.out.below a h9 b hb
                    have h2 := (hU.out.lt b e).1
                    omega
                  have x0 : wr.cell? ⟨kx, 0, none⟩ = some (.slice ma2 m mc2) := cell_of_heap X5.out rfl
                  have v0 : wr.cell? ⟨qb, 0, none⟩ = some (.int .i64 (r.who R + n1)) := cell_of_heap hQc.out rfl
                  have v1 : wr.cell? ⟨qb, 1, none⟩ = some (.slice ua r.nc uc) := cell_of_heap hQc.out rfl
                  clear hQ hg hX hM hC hS hgz ha
                  have hwm : Hid ((r.turn n1 n2 n3).who m = r.who R + n1) := Lib.hid (by show r.who ((m + n2) % r.nm) + n1 = _; rw [HRR.out])
                  have hvm : Hid (wr.ownsRow (kx + 2) 3 1 (.slice ua r.nc uc) r.nc (valL r.nc ((r.turn n1 n2 n3).val m))) := Lib.hid (by
                    have h1 := hU.out.down (base' := kx + 2) (by omega)
                    rw [valL_congr (g := fun i => r.val R ((i + n3) % r.nc)) (fun i hi => by show r.val ((m + n2) % r.nm) ((i + n3) % r.nc) = _; rw [HRR.out])]
                    exact h1)
                  go_wp2_with (at_builtin; go_loud (refine wpList_append_r _ rfl _ _ _ (by rfl) (kx + 2) 65 (.agg #[.int .i64 0, .slice none 0 0]) 2 32 Try.underlying22 el65 (by rfl) (by omega) _ m _ (by rfl) (M5.out.row'.grow (by (repeat (first | exact World.grows.refl _ | assumption | refine World.grows.alloc ?_ _ | refine World.grows.plus ?_ _ _ | refine World.grows.drew ?_)))) _ (by rfl) 1 _ (SliceAt.src (by omega) (mark_slice _ (r.who R + n1) (.slice ua r.nc uc) 65 _ (by simp))) (mark_cells _ _ rfl) (by unfold maxLen; omega) (by omega) (by simp; omega) ?_; intro v9 w9 hown hgb; obtain ⟨va, vc, rfl, -, -⟩ := row_form hown; have M6 := M5.out.grow (World.grows.alloc (World.grows.refl wr) (.cells #[.int .i64 (r.who R + n1), .slice ua r.nc uc] 65)); have hgA := World.grows.alloc (World.grows.refl wr) (.cells #[.int .i64 (r.who R + n1), .slice ua r.nc uc] 65); have M9 := Lib.hid (M6.push (by rw [hwm.out]; exact hown) hgb (hvm.out.grow hgA) hnew.out); have Q9 := Lib.hid ((Q5.out.then hgA).own M6.row' (by omega) hgb); have G9 := Lib.hid (hgb.grows M6.row' (G5.out.trans hgA) (by omega)); have X9 := Lib.hid (heap_by' (hgA.heap_of X5.out) M6.row' (by decide) hgb); have C9 := Lib.hid ((C5.out.grow hgA).other M6.row' (by decide) hgb); have S9 := Lib.hid ((S5.out.grow hgA).other M6.row' (by decide) hgb); have x0 : w9.cell? ⟨kx, 0, none⟩ = some (.slice ma2 m mc2) := cell_of_heap X9.out rfl; have xf := frozen_of_heap X9.out 0; clear hown hgb M6 hgA))
                  have Q8 := Lib.hid (Q9.out.set (a := ⟨kx, 0, none⟩) (.inl rfl) (.slice va (m + 1) vc))
                  have G8 := Lib.hid (G9.out.setCell (p := ⟨kx, 0, none⟩) (by dsimp only; omega) (.slice va (m + 1) vc))
                  have X8 := Lib.hid (store_of_heap X9.out 0 (.slice va (m + 1) vc))
                  have M8 := Lib.hid (M9.out.set X9.out (by decide) (by decide) 0 (.slice va (m + 1) vc))
                  have C8 := Lib.hid (ownsRow_setCell_other (a := ⟨kx, 0, none⟩) C9.out (ne_block C9.out X9.out (by decide)) (.slice va (m + 1) vc))
                  have S8 := Lib.hid (ownsRow_setCell_other (a := ⟨kx, 0, none⟩) S9.out (ne_block S9.out X9.out (by decide)) (.slice va (m + 1) vc))
                  generalize World.setCell _ _ _ = W8 at Q8 G8 X8 M8 C8 S8 ⊢
                  clear Q9 G9 X9 M9 C9 S9 Q5 G5 X5 M5 C5 S5 x0 xf
                  go_roundw
                  case rel => exact ⟨m + 1, _, _, by omega, by go_num, Q8, G8, X8, M8, C8, S8⟩
                  case measure => simp [intOf]; omega
            · have hme : m = r.nm := by omega
              subst hme
              have hx : Hid (RegAt wr (.agg #[.slice ma2 r.nm mc2, .slice ca2 r.nc cc2]) (r.turn n1 n2 n3)) := Lib.hid (RegOwn.at' (r := r.turn n1 n2 n3) (base := kx + 2) (row := row) ⟨hM.out, hC.out⟩ (fun m hm => rfl))
              have hyy : Hid (RegAt wr (.agg #[.slice ya r.nm ym, .slice (some ⟨b2, 0, none⟩) r.nc ycc]) (r.times (1 + (t0 : Int)))) := Lib.hid (by
                obtain ⟨cb9, hb9⟩ := own_heap YO2.out
                exact RegOwn.at' (r := r.times (1 + (t0 : Int))) (base := B0) (row := yrow) ⟨YO1.out.kq hQ.out Ybx.out hb9 (by decide) (by decide) (by decide) (by decide), hS.out⟩ (fun m hm => Hok.out.nv m hm))
              have hbyh := hQ.out.block _ _ Yby.out (by omega) (by omega)
              have x0 : wr.cell? ⟨kx, 0, none⟩ = some (.slice ma2 r.nm mc2) := cell_of_heap hX.out rfl
              have x1 : wr.cell? ⟨kx, 1, none⟩ = some (.slice ca2 r.nc cc2) := cell_of_heap hX.out rfl
              have Hx := Lib.hid (And.intro x0 x1)
              have Hy : Hid (wr.heap[kx + 1]? = some (.cells #[.slice ya r.nm ym, .slice (some ⟨b2, 0, none⟩) r.nc ycc] 25)) := Lib.hid hbyh
              have h37x := fun W (g : wr.grows W) => fine_c W _ (r.turn n1 n2 n3) (hx.out.mono g)
              have h37y := fun W (g : wr.grows W) => fine_c W _ (r.times (1 + (t0 : Int))) (hyy.out.mono g)
              clear hQ hX hM hC hS ha hbyh hml hm hsz
              as_aux_lemma =>
                go_upto_if 155 with (go_at_call 37; refine (h37x _ (by (repeat (first | exact World.grows.refl _ | assumption | refine World.grows.alloc ?_ _ | refine World.grows.plus ?_ _ _ | refine World.grows.drew ?_)))).mono ?_; rintro e U ⟨rfl, g⟩; have gU := World.grows.trans (show wr.grows _ by (repeat (first | exact World.grows.refl _ | assumption | refine World.grows.alloc ?_ _ | refine World.grows.plus ?_ _ _ | refine World.grows.drew ?_))) g; clear g)
                go_cut [] from 27 to 226 (fun w' => Hid (wr.grows w'))
                case first =>
                  clear x0 x1
                  by_cases hcx : (r.turn n1 n2 n3).check = 0
                  · rw [decide_eq_true hcx]
                    have hxo := Reg.ok_of hcx
                    obtain ⟨t1, t2, t3⟩ := Reg.turn_all Hok.out hxo
                    have h25x := fun W (g : wr.grows W) => best_any (hx.out.mono g)
                    have h32x := fun W (g : wr.grows W) => fix_any (hx.out.mono g)
                    simp only [t1, t2, HNE.out.1, HNE.out.2.2] at h25x
                    simp only [t1, t3, HNE.out.2.1, HNE.out.2.2] at h32x
                    have x0 := gU.cell_of Hx.out.1
                    have x1 := gU.cell_of Hx.out.2
                    clear hcx hxo t1 t2 t3 h37x h37y
                    go_wp2_with (go_at_call 99; fail)
                    refine (h25x _ (gU.trans (by (repeat (first | exact World.grows.refl _ | assumption | refine World.grows.alloc ?_ _ | refine World.grows.plus ?_ _ _ | refine World.grows.drew ?_))))).mono ?_
                    rintro e U2 ⟨bx2, ba2, bn2, bc2, rfl, g⟩
                    replace x0 := g.cell_of x0
                    replace x1 := g.cell_of x1
                    replace gU := gU.trans g
                    clear g h25x
                    go_wp2_with (go_at_call 99; fail)
                    refine (h32x _ (gU.trans (by (repeat (first | exact World.grows.refl _ | assumption | refine World.grows.alloc ?_ _ | refine World.grows.plus ?_ _ _ | refine World.grows.drew ?_))))).mono ?_
                    rintro e U3 ⟨fa2, fn2, fc2, rfl, g⟩
                    replace gU := gU.trans (World.grows.trans (by (repeat (first | exact World.grows.refl _ | assumption | refine World.grows.alloc ?_ _ | refine World.grows.plus ?_ _ _ | refine World.grows.drew ?_))) g)
                    clear g h32x x0 x1
                    go_wp2
                    go_meet
                    exact Lib.hid (gU.trans (by (repeat (first | exact World.grows.refl _ | assumption | refine World.grows.alloc ?_ _ | refine World.grows.plus ?_ _ _ | refine World.grows.drew ?_))))
                  · rw [decide_eq_false hcx]
                    clear hcx
                    go_wp2
                    go_meet
                    exact Lib.hid gU
                case rest =>
                  have y0 : wc.cell? ⟨kx + 1, 0, none⟩ = some (.slice ya r.nm ym) := cell_of_heap (hcut.out.heap_of Hy.out) rfl
                  have y1 : wc.cell? ⟨kx + 1, 1, none⟩ = some (.slice (some ⟨b2, 0, none⟩) r.nc ycc) := cell_of_heap (hcut.out.heap_of Hy.out) rfl
                  have HZ9 := Lib.hid (hg.out.trans hcut.out)
                  clear x0 x1 h37x
                  go_wp2_with (go_at_call 99; fail)
                  refine (h37y _ (hcut.out.trans (by (repeat (first | exact World.grows.refl _ | assumption | refine World.grows.alloc ?_ _ | refine World.grows.plus ?_ _ _ | refine World.grows.drew ?_))))).mono ?_
                  rintro e U ⟨rfl, g⟩
                  replace y0 := g.cell_of y0
                  replace y1 := g.cell_of y1
                  have gU := hcut.out.trans g
                  replace HZ9 := Lib.hid (HZ9.out.trans g)
                  clear g h37y
                  by_cases hcy : (r.times (1 + (t0 : Int))).check = 0
                  · rw [decide_eq_true hcy]
                    have hyo := Reg.ok_of hcy
                    obtain ⟨t1, t2, t3⟩ := Reg.times_best (show (0 : Int) < 1 + (t0 : Int) by omega) Hok.out hyo
                    have h25y := fun W (g : wr.grows W) => best_any (hyy.out.mono g)
                    have h32y := fun W (g : wr.grows W) => fix_any (hyy.out.mono g)
                    obtain ⟨PN, hPN⟩ : ∃ x, (1 + (t0 : Int)) * N = x := ⟨_, rfl⟩
                    obtain ⟨PC, hPC⟩ : ∃ x, (1 + (t0 : Int)) * C = x := ⟨_, rfl⟩
                    simp only [t1, t2, HNE.out.1, HNE.out.2.2, hPN] at h25y
                    simp only [t1, t3, HNE.out.2.1, HNE.out.2.2, hPC] at h32y
                    have n0 : 0 ≤ PN := by rw [← hPN]; exact Int.mul_nonneg (by omega) bb1
                    have n9 : PN ≤ 5 * 8000 := by rw [← hPN]; exact Int.mul_le_mul (by omega) bb2 bb1 (by omega)
                    have c0 : 0 ≤ PC := by rw [← hPC]; exact Int.mul_nonneg (by omega) bb3
                    have c9 : PC ≤ 5 * 8000 := by rw [← hPC]; exact Int.mul_le_mul (by omega) bb4 bb3 (by omega)
                    have wN : IntKind.i64.wrap ((1 + (t0 : Int)) * N) = PN := wrapI hPN (by omega)
                    have wN2 : wrap64 ((1 + (t0 : Int)) * N) = PN := by rw [hPN]; exact wrap64_own _ (by omega)
                    have wC : IntKind.i64.wrap ((1 + (t0 : Int)) * C) = PC := wrapI hPC (by omega)
                    have wC2 : wrap64 ((1 + (t0 : Int)) * C) = PC := by rw [hPC]; exact wrap64_own _ (by omega)
                    clear hcy hyo t1 t2 t3 hPN hPC
                    go_wp2_with (go_at_call 99; fail)
                    refine (h25y _ (gU.trans (by (repeat (first | exact World.grows.refl _ | assumption | refine World.grows.alloc ?_ _ | refine World.grows.plus ?_ _ _ | refine World.grows.drew ?_))))).mono ?_
                    rintro e U2 ⟨bx2, ba2, bn2, bc2, rfl, g⟩
                    replace y0 := g.cell_of y0
                    replace y1 := g.cell_of y1
                    replace gU := gU.trans g
                    replace HZ9 := Lib.hid (HZ9.out.trans g)
                    clear g h25y
                    go_wp2_with (go_at_call 99; fail)
                    refine (h32y _ (gU.trans (by (repeat (first | exact World.grows.refl _ | assumption | refine World.grows.alloc ?_ _ | refine World.grows.plus ?_ _ _ | refine World.grows.drew ?_))))).mono ?_
                    rintro e U3 ⟨fa2, fn2, fc2, rfl, g⟩
                    replace HZ9 := Lib.hid (HZ9.out.trans (World.grows.trans (by (repeat (first | exact World.grows.refl _ | assumption | refine World.grows.alloc ?_ _ | refine World.grows.plus ?_ _ _ | refine World.grows.drew ?_))) g))
                    clear g h32y y0 y1
                    go_wp2_with (go_at_call 99; fail)
                    refine (works_c _).mono ?_; rintro e U9 ⟨rfl, g⟩; replace HZ9 := Lib.hid (HZ9.out.trans (World.grows.trans (by (repeat (first | exact World.grows.refl _ | assumption | refine World.grows.alloc ?_ _ | refine World.grows.plus ?_ _ _ | refine World.grows.drew ?_))) g)); clear g; go_wp2; (refine bodyPost_ret (v := .bool true) (by simp [results, Try.results10, go_sem]) rfl ?_); exact ⟨rfl, HZ9.out.trans (by (repeat (first | exact World.grows.refl _ | assumption | refine World.grows.alloc ?_ _ | refine World.grows.plus ?_ _ _ | refine World.grows.drew ?_)))⟩
                  · rw [decide_eq_false hcy]
                    clear hcy
                    go_wp2_with (go_at_call 99; fail)
                    refine (works_c _).mono ?_; rintro e U9 ⟨rfl, g⟩; replace HZ9 := Lib.hid (HZ9.out.trans (World.grows.trans (by (repeat (first | exact World.grows.refl _ | assumption | refine World.grows.alloc ?_ _ | refine World.grows.plus ?_ _ _ | refine World.grows.drew ?_))) g)); clear g; go_wp2; (refine bodyPost_ret (v := .bool true) (by simp [results, Try.results10, go_sem]) rfl ?_); exact ⟨rfl, HZ9.out.trans (by (repeat (first | exact World.grows.refl _ | assumption | refine World.grows.alloc ?_ _ | refine World.grows.plus ?_ _ _ | refine World.grows.drew ?_)))⟩
  · rw [decide_eq_false hc] at h37
    obtain ⟨mv, cv, row, rfl, ⟨ma, mc, rfl, -⟩, ⟨ca, cc, rfl, -⟩, -⟩ := hr
    go_enter Try.func10, Try.ntmps10
    go_wp2_with (first | (go_at_call 37; refine (h37 _ (by (repeat (first | exact World.grows.refl _ | assumption | refine World.grows.alloc ?_ _ | refine World.grows.plus ?_ _ _ | refine World.grows.drew ?_)))).mono ?_; rintro e w' ⟨rfl, hg⟩; obtain ⟨n2, x2, rfl⟩ := World.plus_of hg) | (go_at_call 14; refine (works_c _).mono ?_; rintro e w' ⟨rfl, hg⟩; obtain ⟨n2, x2, rfl⟩ := World.plus_of hg)); (refine bodyPost_ret (v := .bool true) (by simp [results, Try.results10, go_sem]) rfl ?_); exact ⟨rfl, by (repeat (first | exact World.grows.refl _ | assumption | refine World.grows.alloc ?_ _ | refine World.grows.plus ?_ _ _ | refine World.grows.drew ?_))⟩
end Go.Proofs.Ytdminglglapnlaa

/-
  What is proved: arguments in fives and sixes; arrays of numbers as arguments.
-/
namespace Go
open Go.ChangeShapes Go.WideShapes Go.ChangeAt

section
variable {H : Type} {enc : TypeId × Value → H} {P : Program} {w : World} {base : Nat} {spare : Nat → Bool} {held : Bool}
theorem trodAll_5 {t1 t2 t3 t4 t5 : TypeId} {args : Array Value} {ds : List (DataW H)} {ps : List MemPlace} (h : DataW.TrodAll enc P w base spare held [t1, t2, t3, t4, t5] args.toList ds ps) :
    ∃ v1 v2 v3 v4 v5 d1 d2 d3 d4 d5 p1 p2 p3 p4 p5, args = #[v1, v2, v3, v4, v5] ∧ ds = [d1, d2, d3, d4, d5] ∧ ps = p1 ++ (p2 ++ (p3 ++ (p4 ++ p5))) ∧ DataW.Trod enc P w base spare held t1 v1 d1 p1 ∧ DataW.Trod enc P w base spare held t2 v2 d2 p2 ∧
      DataW.Trod enc P w base spare held t3 v3 d3 p3 ∧ DataW.Trod enc P w base spare held t4 v4 d4 p4 ∧ DataW.Trod enc P w base spare held t5 v5 d5 p5 := by
  obtain ⟨v1, s1, d1, e1, p1, q1, hargs, rfl, rfl, h1, r1⟩ := trodAll_cons h
  obtain ⟨v2, s2, d2, e2, p2, q2, rfl, rfl, rfl, h2, r2⟩ := trodAll_cons r1
  obtain ⟨v3, s3, d3, e3, p3, q3, rfl, rfl, rfl, h3, r3⟩ := trodAll_cons r2
  obtain ⟨v4, s4, d4, e4, p4, q4, rfl, rfl, rfl, h4, r4⟩ := trodAll_cons r3
  obtain ⟨v5, s5, d5, e5, p5, q5, rfl, rfl, rfl, h5, r5⟩ := trodAll_cons r4
  obtain ⟨rfl, rfl, rfl⟩ := trodAll_nil r5
  exact ⟨v1, v2, v3, v4, v5, d1, d2, d3, d4, d5, p1, p2, p3, p4, p5, by cases args; simp_all, rfl, by simp, h1, h2, h3, h4, h5⟩
theorem trodAll_6 {t1 t2 t3 t4 t5 t6 : TypeId} {args : Array Value} {ds : List (DataW H)} {ps : List MemPlace} (h : DataW.TrodAll enc P w base spare held [t1, t2, t3, t4, t5, t6] args.toList ds ps) :
    ∃ v1 v2 v3 v4 v5 v6 d1 d2 d3 d4 d5 d6 p1 p2 p3 p4 p5 p6, args = #[v1, v2, v3, v4, v5, v6] ∧ ds = [d1, d2, d3, d4, d5, d6] ∧ ps = p1 ++ (p2 ++ (p3 ++ (p4 ++ (p5 ++ p6)))) ∧ DataW.Trod enc P w base spare held t1 v1 d1 p1 ∧ DataW.Trod enc P w base spare held t2 v2 d2 p2 ∧
      DataW.Trod enc P w base spare held t3 v3 d3 p3 ∧ DataW.Trod enc P w base spare held t4 v4 d4 p4 ∧ DataW.Trod enc P w base spare held t5 v5 d5 p5 ∧ DataW.Trod enc P w base spare held t6 v6 d6 p6 := by
  obtain ⟨v1, s1, d1, e1, p1, q1, hargs, rfl, rfl, h1, r1⟩ := trodAll_cons h
  obtain ⟨v2, s2, d2, e2, p2, q2, rfl, rfl, rfl, h2, r2⟩ := trodAll_cons r1
  obtain ⟨v3, s3, d3, e3, p3, q3, rfl, rfl, rfl, h3, r3⟩ := trodAll_cons r2
  obtain ⟨v4, s4, d4, e4, p4, q4, rfl, rfl, rfl, h4, r4⟩ := trodAll_cons r3
  obtain ⟨v5, s5, d5, e5, p5, q5, rfl, rfl, rfl, h5, r5⟩ := trodAll_cons r4
  obtain ⟨v6, s6, d6, e6, p6, q6, rfl, rfl, rfl, h6, r6⟩ := trodAll_cons r5
  obtain ⟨rfl, rfl, rfl⟩ := trodAll_nil r6
  exact ⟨v1, v2, v3, v4, v5, v6, d1, d2, d3, d4, d5, d6, p1, p2, p3, p4, p5, p6, by cases args; simp_all, rfl, by simp, h1, h2, h3, h4, h5, h6⟩
theorem okWide_array {r : Reach} {v : Value} {n : Nat} {e t : TypeId} (ht : P.underlying t = some (.array n e)) (h : Value.okWide P w r base t v) : ∃ cs, v = .agg cs ∧ cs.size = P.cellsOf t := by
  simp only [Value.okWide, ht] at h
  obtain ⟨cs, h1, h2, _⟩ := h
  exact ⟨cs, h1, h2⟩
/-- an array of numbers of one kind -/
theorem array_nums {t e : TypeId} {k : IntKind} {n fuel : Nat} {cs : List Value} {x : DataW H × List MemPlace} (ht : P.underlying t = some (.array n e)) (he : P.underlying e = some (.int k)) (hc : P.cellsOf e = 1) (hn : P.cellsOf t = n)
    (h : DataW.trod enc P w base spare held fuel t cs = some x) : cs.length = n ∧ ∀ i, i < n → ∃ z : Int, cs[i]? = some (.int k z) ∧ (Lit.int k z).wf = true := by
  obtain ⟨xs, m, -, -, hl, hlen, hx⟩ := DataW.trod_array ht h
  refine ⟨by omega, fun i hi => ?_⟩
  have h1 := hx i hi
  rw [hc, Nat.mul_one, List.getElem?_eq_getElem (by omega)] at h1
  obtain ⟨z, e1, _, e2⟩ := DataW.trod_int he h1
  refine ⟨z, ?_, e2⟩
  have h2 : i < cs.length := by omega
  have h3 : (cs.drop i).take 1 = [cs[i]] := by rw [List.drop_eq_getElem_cons h2]; rfl
  rw [h3] at e1
  rw [List.getElem?_eq_getElem h2]
  simpa using e1
end
end Go

/-
  What is proved: the statement MarkTurned, at every input.
-/
namespace Go.Proofs.Ytdminglglapnlaa
open Go.ChangeShapes Go.WideShapes Go.ChangeAt Go.RowKit

set_option maxRecDepth 100000 in
theorem markTurned_lifted (os : Os) (started : os.Started) (H : Type) (enc : TypeId × Value → H) :
    ReturnsInHanded {} Try.checked os 10 .any (Rows.markTurnedSpec.pre6 enc Try.prog Try.f10 Rows.markTurnedRow.domain false) (Rows.markTurnedSpec.post enc Try.prog Try.f10 false true false false) := by
  refine law_lifted (C := Try.checked) (tb := 4) started own_c laid_c (by kernel_rfl) Try.func10 (of_decide_eq_true (by kernel_rfl))
    (ChangeSpec.witness6 (enc := enc) (C := Try.checked) false ⟨#[], #[.agg #[.slice none 0 0, .slice none 0 0], .int .u8 0, .int .u8 0, .int .u8 0, .int .u8 0], []⟩ 8 (by kernel_rfl) (by kernel_rfl) (by kernel_rfl) (by kernel_rfl))
    rfl Try.underlying4 rfl (fun ds hl => ?_) (fun W base args ds ps hval hA => ?_)
  · match ds, hl with
    | [d1, d2, d3, d4, d5], _ => exact ⟨rfl, rfl, rfl⟩
  · have hA' : DataW.TrodAll enc Try.prog W 0 (fun _ => true) true Try.f10.params.toList args.toList ds ps := hA
    have hval' : ∀ (j : Nat) t v, Try.f10.params[j]? = some t → args[j]? = some v → Value.okWide Try.prog W .any base t v := hval
    rw [Try.params10] at hA' hval'
    obtain ⟨v1, v2, v3, v4, v5, d1, d2, d3, d4, d5, p1, p2, p3, p4, p5, rfl, rfl, rfl, h1, h2, h3, h4, h5⟩ := trodAll_5 hA'
    obtain ⟨r1, hr1⟩ := reg_of (hval' 0 25 v1 rfl rfl) h1
    obtain ⟨z2, rfl, -, -, hw2⟩ := open_int Try.underlying5 (hval' 1 5 v2 rfl rfl) h2; have hz2 := lit_u8 hw2
    obtain ⟨z3, rfl, -, -, hw3⟩ := open_int Try.underlying5 (hval' 2 5 v3 rfl rfl) h3; have hz3 := lit_u8 hw3
    obtain ⟨z4, rfl, -, -, hw4⟩ := open_int Try.underlying5 (hval' 3 5 v4 rfl rfl) h4; have hz4 := lit_u8 hw4
    obtain ⟨z5, rfl, -, -, hw5⟩ := open_int Try.underlying5 (hval' 4 5 v5 rfl rfl) h5; have hz5 := lit_u8 hw5
    exact turned_w W v1 r1 hr1 z2 z3 z4 z5 hz2 hz3 hz4 hz5

theorem markTurned_holds : Rows.MarkTurnedSaid :=
  OpenClaim.holds_of_wide 10 Try.f10 rfl rfl rfl rfl rfl rfl rfl ⟨rfl, rfl, rfl, rfl, rfl⟩ rfl rfl rfl rfl rfl (by kernel_rfl) Try.func10 (by kernel_rfl)
    (of_decide_eq_true (by kernel_rfl)) (by unfold Func.isWrapper; first | (rw [if_pos (by decide +kernel)]; kernel_rfl) | (rw [if_neg (by decide +kernel)]; exact ⟨rfl, rfl⟩))
    (fun os started H enc _ => markTurned_lifted os started H enc)
end Go.Proofs.Ytdminglglapnlaa

