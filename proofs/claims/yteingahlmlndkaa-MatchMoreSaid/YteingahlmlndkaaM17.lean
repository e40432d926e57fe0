/-
  What is proved: a stock of some of a stock's things, and how its rows lie (plain).
-/
import Derived.Test.YteingahlmlndkaaM15
import Derived.Test.YteingahlmlndkaaM10
import Derived.Test.YteingahlmlndkaaM12
import Derived.Test.YteingahlmlndkaaM5
import Derived.Test.YteingahlmlndkaaM8
import Derived.Test.YteingahlmlndkaaM16
import Derived.Deep.CutRange
import Derived.Test.YteingahlmlndkaaM13
set_option linter.all false
namespace Go.Proofs.Yteingahlmlndkaa
open Go.RowKit
/-- the stock of these things -/
def Stk.sub (s : Stk) (L : List Nat) : Stk := { s with nt := L.length, tk := fun i => s.tk (L.getD i 0), tw := fun i => s.tw (L.getD i 0), tg := fun i => s.tg (L.getD i 0) }
theorem Stk.Ok.sub {s : Stk} (h : s.Ok) {L : List Nat} (hl : L.length ≤ 16) (hL : ∀ t ∈ L, t < s.nt) : (s.sub L).Ok := by
  have key : ∀ i, i < L.length → L.getD i 0 < s.nt := fun i hi => by
    rw [List.getD_eq_getElem?_getD, List.getElem?_eq_getElem hi]
    exact hL _ (List.getElem_mem hi)
  exact ⟨hl, h.m20, fun i hi => h.tk _ (key i hi), fun i hi => h.tg _ (key i hi), fun i hi => h.tw _ (key i hi), h.ma, h.mb, h.wide⟩
/-- the cells of these things, one behind the other -/
def rowsT (s : Stk) (L : List Nat) : List Value := L.flatMap fun t => [tcell s t 0, tcell s t 1, tcell s t 2]
/-! ### without one or two things -/
def woutP (x y : Int) (t : Nat) : Bool := !decide ((t : Int) = x) && !decide ((t : Int) = y)
def woutL (n : Nat) (x y : Int) : List Nat := filtL (woutP x y) n
end Go.Proofs.Yteingahlmlndkaa

/-
  What is proved: how many best pairings there are, by one thing's mates (plain).
-/
namespace Go.Proofs.Yteingahlmlndkaa
/-- the best pairings in which the thing t goes with u (u = t: stays alone) -/
def cntT (A : Nat → Nat → Bool) (S : Nat → Bool) (t u : Nat) : Nat :=
  if u = t then (if nu A (less1 (less1 S t) u) 16 = nu A S 16 then cnt A (less1 (less1 S t) u) 16 else 0)
  else if A t u = true ∧ nu A (less1 (less1 S t) u) 16 + 1 = nu A S 16 then cnt A (less1 (less1 S t) u) 16 else 0
end Go.Proofs.Yteingahlmlndkaa

/-
  What is proved: what the kinds say of best pairings (plain).
-/
namespace Go.Proofs.Yteingahlmlndkaa
section
variable {s : Stk}
theorem spare_none (h16 : s.nt ≤ 16) {t : Nat} (ht : t < s.nt) (h : ∀ k, s.adj t k = false) : Spare s.adj (belowN s.nt) 16 t := by
  obtain ⟨m, hm⟩ := mx_has (s := s) h16
  refine ⟨by unfold belowN; exact decide_eq_true ht, m, hm, Classical.byContradiction fun hne => ?_⟩
  have := (hm.isM.ok t hne).2
  rw [h] at this
  cases this
theorem kind_two (h16 : s.nt ≤ 16) {t : Nat} (ht : t < s.nt) : kindN s.adj s.nt t = 2 ↔ ¬ Spare s.adj (belowN s.nt) 16 t := by
  by_cases h0 : ∀ k, s.adj t k = false
  · rw [kindN_0 h0]
    exact ⟨fun h => (by cases h), fun h => absurd (spare_none h16 ht h0) h⟩
  · by_cases h1 : Spare s.adj (belowN s.nt) 16 t
    · rw [kindN_1 h0 h1]
      exact ⟨fun h => (by cases h), fun h => absurd h1 h⟩
    · rw [kindN_2 h0 h1]
      exact ⟨fun _ => h1, fun _ => rfl⟩
/-- without a thing -/
theorem kind_less (h16 : s.nt ≤ 16) {t : Nat} (ht : t < s.nt) : if kindN s.adj s.nt t = 2 then nu s.adj (less1 (belowN s.nt) t) 16 + 1 = nu s.adj (belowN s.nt) 16 else nu s.adj (less1 (belowN s.nt) t) 16 = nu s.adj (belowN s.nt) 16 := by
  have hbt : belowN s.nt t = true := by unfold belowN; exact decide_eq_true ht
  have hS := below16 h16
  by_cases h : kindN s.adj s.nt t = 2
  · rw [if_pos h]
    have h1 := (kind_two h16 ht).1 h
    obtain ⟨m, hm⟩ := mx_has (s := s) h16
    obtain ⟨h2, h3, -⟩ := less_max hS hm hbt h1
    have h4 := nu_mx s.adj_symm hS hm
    have h5 := nu_mx s.adj_symm (less1_lt hS t) h2
    omega
  · rw [if_neg h]
    have h1 : Spare s.adj (belowN s.nt) 16 t := Classical.byContradiction fun h1 => h ((kind_two h16 ht).2 h1)
    exact (Spare.iff_nu s.adj_symm hS hbt).1 h1
end
end Go.Proofs.Yteingahlmlndkaa

/-
  What is proved: a stock with one thing more, a wider one, one with two kinds more that go together: how many pairs their best pairings have (plain).
-/
namespace Go.Proofs.Yteingahlmlndkaa
open Go.RowKit
theorem nu_mono {A B : Nat → Nat → Bool} (hA : ∀ a b, A a b = A b a) (hB : ∀ a b, B a b = B b a) {S : Nat → Bool} {n : Nat} (hS : ∀ t, S t = true → t < n) (h : ∀ t u, A t u = true → B t u = true) : nu A S n ≤ nu B S n := by
  obtain ⟨m, hm⟩ := Mx.exists A S n
  have h1 := nu_mx hA hS hm
  have h2 := le_nu hB hS (hm.isM.mono h fun _ e => e)
  omega
/-- one thing more -/
def Stk.oneMore (s : Stk) (k w g : Int) : Stk := { s with nt := s.nt + 1, tk := fun i => if i < s.nt then s.tk i else k, tw := fun i => if i < s.nt then s.tw i else w, tg := fun i => if i < s.nt then s.tg i else g }
theorem tcell_more {s : Stk} {k w g : Int} {i : Nat} (hi : i < s.nt) (j : Nat) : tcell (s.oneMore k w g) i j = tcell s i j := by
  unfold tcell Stk.oneMore
  simp only [if_pos hi]
theorem tcell_last {s : Stk} {k w g : Int} : [tcell (s.oneMore k w g) s.nt 0, tcell (s.oneMore k w g) s.nt 1, tcell (s.oneMore k w g) s.nt 2] = [Value.int .i64 k, .int .i64 w, .int .i64 g] := by
  unfold tcell Stk.oneMore
  simp
theorem adj_more {s : Stk} {k w g : Int} {i l : Nat} (hi : i < s.nt) (hl : l < s.nt) : s.adj i l = (s.oneMore k w g).adj i l := by
  have h1 : i < (s.oneMore k w g).nt := Nat.lt_succ_of_lt hi
  have h2 : l < (s.oneMore k w g).nt := Nat.lt_succ_of_lt hl
  rw [Stk.adj_suits hi hl, Stk.adj_suits h1 h2]
  unfold Stk.suits Stk.oneMore
  simp only [if_pos hi, if_pos hl]
  rfl
theorem less_more (n : Nat) : less1 (belowN (n + 1)) n = belowN n := by
  funext v
  rw [Bool.eq_iff_iff, less1_iff]
  unfold belowN
  rw [decide_eq_true_eq, decide_eq_true_eq]
  omega
theorem more_nu {s : Stk} {k w g : Int} (h : (s.oneMore k w g).nt ≤ 16) : nu s.adj (belowN s.nt) 16 ≤ nu (s.oneMore k w g).adj (belowN (s.oneMore k w g).nt) 16 ∧ nu (s.oneMore k w g).adj (belowN (s.oneMore k w g).nt) 16 ≤ nu s.adj (belowN s.nt) 16 + 1 := by
  have hn : s.nt + 1 ≤ 16 := h
  have e1 : nu s.adj (belowN s.nt) 16 = nu (s.oneMore k w g).adj (belowN s.nt) 16 :=
    (nu_other (s.oneMore k w g).adj_symm s.adj_symm fun j => num_other (s.oneMore k w g).adj_symm (s.oneMore k w g).adj_irr (fun i => i) 16 (belowN s.nt) (belowN s.nt) (fun a h1 ha => ⟨h1, ha⟩) (fun a b _ _ ha hb => ⟨fun e => e, adj_more (belowN_lt ha) (belowN_lt hb)⟩) (fun x hx1 hx => ⟨x, hx1, hx, rfl⟩) j).1
  have e2 := kind_less (s := s.oneMore k w g) h (t := s.nt) (Nat.lt_succ_self _)
  rw [show belowN (s.oneMore k w g).nt = belowN (s.nt + 1) from rfl, less_more, ← e1] at e2
  rw [show belowN (s.oneMore k w g).nt = belowN (s.nt + 1) from rfl]
  split at e2 <;> omega
/-- a wider one -/
def Stk.wider (s : Stk) (d : Int) : Stk := { s with wide := s.wide + d }
theorem wider_nu {s : Stk} (h16 : s.nt ≤ 16) {d : Int} (hd : 0 ≤ d) : nu s.adj (belowN s.nt) 16 ≤ nu (s.wider d).adj (belowN (s.wider d).nt) 16 := by
  refine nu_mono s.adj_symm (s.wider d).adj_symm (fun t ht => by have := belowN_lt ht; omega) fun i l e => ?_
  unfold Stk.adj Stk.suits Stk.wider at *
  rw [show ({ s with wide := s.wide + d } : Stk).goes = s.goes from rfl]
  simp only [Bool.and_eq_true, decide_eq_true_eq, Bool.or_eq_true, Bool.not_eq_true', decide_eq_false_iff_not] at e ⊢
  obtain ⟨⟨h1, h2⟩, ⟨⟨⟨h3, h4⟩, h5⟩, h6⟩⟩ := e
  exact ⟨⟨h1, h2⟩, ⟨⟨⟨h3, by omega, by omega⟩, h5⟩, h6⟩⟩
/-- two kinds more that go together -/
def Stk.mateMore (s : Stk) (a b : Int) : Stk := { s with nm := s.nm + 1, ma := fun i => if i < s.nm then s.ma i else a, mb := fun i => if i < s.nm then s.mb i else b }
theorem mcell_more {s : Stk} {a b : Int} {i : Nat} (hi : i < s.nm) (j : Nat) : mcell (s.mateMore a b) i j = mcell s i j := by
  unfold mcell Stk.mateMore
  simp only [if_pos hi]
theorem mcell_last {s : Stk} {a b : Int} : [mcell (s.mateMore a b) s.nm 0, mcell (s.mateMore a b) s.nm 1] = [Value.int .i64 a, .int .i64 b] := by
  unfold mcell Stk.mateMore
  simp
theorem goes_more {s : Stk} {a b x y : Int} (h : s.goes x y = true) : (s.mateMore a b).goes x y = true := by
  unfold Stk.goes Stk.mateMore at *
  rw [List.any_eq_true] at h ⊢
  obtain ⟨i, hi, h⟩ := h
  have h1 := List.mem_range.1 hi
  refine ⟨i, List.mem_range.2 (by dsimp only; omega), ?_⟩
  simp only [if_pos h1]
  exact h
theorem mate_nu {s : Stk} (h16 : s.nt ≤ 16) {a b : Int} : nu s.adj (belowN s.nt) 16 ≤ nu (s.mateMore a b).adj (belowN (s.mateMore a b).nt) 16 := by
  refine nu_mono s.adj_symm (s.mateMore a b).adj_symm (fun t ht => by have := belowN_lt ht; omega) fun i l e => ?_
  unfold Stk.adj Stk.suits at *
  simp only [Bool.and_eq_true] at e ⊢
  exact ⟨e.1, e.2.1, goes_more e.2.2⟩
/-! ### as rows of memory -/
theorem tab_congr {sz : Nat} {c c' : Nat → Nat → Value} : ∀ {m : Nat}, (∀ i j, i < m → j < sz → c i j = c' i j) → tableL m sz c = tableL m sz c'
  | 0, _ => by simp [tableL]
  | m + 1, h => by
    rw [tableL_snoc, tableL_snoc, tab_congr fun i j hi hj => h i j (by omega) hj, List.map_congr_left fun j hj => h m j (by omega) (List.mem_range.1 hj)]
theorem tcells_more (s : Stk) (k w g : Int) : tableL s.nt 3 (tcell s) ++ tableL 1 3 (fun _ j => if j = 0 then Value.int .i64 k else if j = 1 then .int .i64 w else .int .i64 g) = tableL (s.nt + 1) 3 (tcell (s.oneMore k w g)) := by
  rw [tableL_snoc _ s.nt 3, tab_congr fun i j hi _ => (tcell_more (k := k) (w := w) (g := g) hi j).symm]
  congr 1
  exact (tcell_last (s := s) (k := k) (w := w) (g := g)).symm
theorem mcells_more (s : Stk) (a b : Int) : tableL s.nm 2 (mcell s) ++ tableL 1 2 (fun _ j => if j = 0 then Value.int .i64 a else .int .i64 b) = tableL (s.nm + 1) 2 (mcell (s.mateMore a b)) := by
  rw [tableL_snoc _ s.nm 2, tab_congr fun i j hi _ => (mcell_more (a := a) (b := b) hi j).symm]
  congr 1
  exact (mcell_last (s := s) (a := a) (b := b)).symm
end Go.Proofs.Yteingahlmlndkaa

/-
  What is proved: append onto a slice without elements and without room, as a step of a chain.
-/
namespace Go
open Go.RowKit
section
variable {P : Program} {ops : Array Oper} {w0 : World}
end
end Go

/-
  What is proved: append onto a row of the region's own, as a step of a chain.
-/
namespace Go
open Go.RowKit
section
variable {P : Program} {ops : Array Oper} {w0 : World}
end
/-- a slice without elements is a row of the call's own -/
theorem ownsRow_empty {w : World} {b base : Nat} {e : TypeId} {size : Nat} {xs : Array Value} (h : w.heap[b]? = some (.cells xs e)) (hx : xs.size = 0) (hb : base ≤ b) : w.ownsRow base e size (.slice (some ⟨b, 0, none⟩) 0 0) 0 [] :=
  ⟨by simp, .inr ⟨b, 0, xs, rfl, hb, h, by omega, by unfold maxLen; omega, by simpa using hx, by simp⟩⟩
end Go

/-
  What is proved: a stock without one or two things (40).
-/
namespace Go.Proofs.Yteingahlmlndkaa
open Go.RowKit
attribute [local irreducible] Go.wpCalm rowV
theorem el62 : Try.prog.knows 62 (.agg #[.int .i64 0, .int .i64 0, .int .i64 0]) 3 24 := Program.knows_of (by kernel_rfl)
/-- blocks that stand, when a row of the call's own grows -/
theorem KpS.own {w U U' : World} {P : List (Nat × Obj)} {v : Value} {base : Nat} {e : TypeId} {sz n : Nat} {xs : List Value} (h : KpS w P U) (ho : U.ownsRow base e sz v n xs) (hg : U.grownBy U' v.ownBlock) (hb : w.heap.size ≤ base) (hP : ∀ y ∈ P, y.1 < base) : KpS w P U' :=
  ⟨hg.grows ho h.g hb, fun y hy => (hg.block y.1 (World.lt_of_block (h.at_ y hy)) (fun e => by have := (ho.lt _ e.symm).1; have := hP y hy; omega)).trans (h.at_ y hy)⟩
theorem one_thing (w : World) (x y z : Value) (t b : Nat) (hb : b = w.heap.size) : SliceAt (w.alloc (.cells #[x, y, z] t)) (.slice (some ⟨b, 0, none⟩) 1 1) 1 3 (fun _ j => if j = 0 then x else if j = 1 then y else z) := by
  subst hb
  refine ⟨_, _, rfl, by omega, by unfold maxLen; omega, fun i j hi hj => ⟨_, _, rfl, ?_⟩⟩
  have hi0 : i = 0 := by omega
  subst hi0
  have h := World.heap_at w (.cells #[x, y, z] t) _ rfl
  rcases (show j = 0 ∨ j = 1 ∨ j = 2 by omega) with rfl | rfl | rfl <;> exact cell_of_heap h rfl
theorem KpS.things {w U : World} {s : Stk} {v : Value} {P : List (Nat × Obj)} (h : KpS w P U) (ht : SliceAt w v s.nt 3 (tcell s)) {i : Nat} (hi : i < s.nt) {sa : Option Addr} {sc : Nat} (hv : v = .slice sa s.nt sc) : ∃ b o, sa = some ⟨b, o, none⟩ ∧ U.cell? ⟨b, o + i * 3, none⟩ = some (.int .i64 (s.tk i)) ∧ U.cell? ⟨b, o + i * 3 + 1, none⟩ = some (.int .i64 (s.tw i)) ∧ U.cell? ⟨b, o + i * 3 + 2, none⟩ = some (.int .i64 (s.tg i)) := by
  subst hv
  obtain ⟨A, c, he, -, -, hc⟩ := ht.mono h.g
  cases he
  obtain ⟨b, o, rfl, c0⟩ := hc i 0 hi (by omega)
  obtain ⟨b', o', e', c1⟩ := hc i 1 hi (by omega)
  obtain ⟨b'', o'', e'', c2⟩ := hc i 2 hi (by omega)
  cases e'
  cases e''
  exact ⟨b, o, rfl, c0, c1, c2⟩
end Go.Proofs.Yteingahlmlndkaa

/-
  What is proved: append onto an empty slice as an operation that makes memory; the kinds of a pair in memory.
-/
namespace Go.Proofs.Yteingahlmlndkaa
open Go.RowKit
attribute [local irreducible] Go.wpCalm
theorem goes_append_empty {o : Oper} {a : Act} {W : World} {K : Value → World → Prop} (s x : Operand) (t : TypeId) (ho : o.op = .call { callee := .builtin .append, args := #[s, x], argTypes := #[t, t] })
    (base : Nat) (e : TypeId) (z : Value) (size bytes : Nat) (ht : Try.prog.underlying t = some (.slice e)) (hi : Try.prog.knows e z size bytes) (hzs : z.cells.size = size) (hsz : 0 < size)
    (A : Option Addr) (hs : a.eval s = .slice A 0 0) (hA : W.ownsRow base e size (.slice A 0 0) 0 []) (hbase : base ≤ W.heap.size)
    (xv : Value) (hx : a.eval x = xv) (m : Nat) (news : List Value) (hsrc : SrcAt W xv m size news) (h63 : m ≤ maxLen) (hbytes : m * bytes ≤ 140737488355328)
    (hK : ∀ v' w', w'.ownsRow base e size v' m news → W.grows w' → K v' w') : o.goes Try.prog a W K := by
  rcases Nat.eq_zero_or_pos m with h0 | h0
  · subst h0
    obtain ⟨B, c, rfl, hl, -⟩ := hsrc
    obtain ⟨i, hi1, hz, rfl, rfl⟩ := hi
    have hn : news = [] := List.eq_nil_of_length_eq_zero (by simpa using hl)
    subst hn
    have hr : (Builtin.append_ #[t, t] o.type #[.slice A 0 0, .slice B 0 c]).run Try.prog W = .ok (.slice A 0 0) W := by
      cases A <;> cases B <;> simp [Builtin.append_, run_underlying ht, sizeOf, typeInfo, hi1, Builtin.lenOf, Builtin.firstCells, storeCells, loadCells, loadCellsFrom]
    unfold Oper.goes execOp
    simp only [ho, resolve, invoke, builtin, Sem.run_bind, Sem.run_pure, Result.andThen_ok, List.map_toArray, List.map_cons, List.map_nil, hs, hx, hr]
    exact ⟨World.grows.refl _, hK _ _ hA (World.grows.refl _)⟩
  · obtain ⟨cap, xs, hr, h1, h2, h3, h4⟩ := run_append_fresh (P := Try.prog) W t o.type e z size bytes ht hi hzs hsz A xv m news hsrc h0 h63 hbytes
    have g : W.grows (W.drew.alloc (.cells xs e)) := (World.grows.refl W).drew.alloc _
    have hl : news.length = m * size := by
      obtain ⟨_, _, _, hl, _⟩ := hsrc
      exact hl
    unfold Oper.goes execOp
    simp only [ho, resolve, invoke, builtin, Sem.run_bind, Sem.run_pure, Result.andThen_ok, List.map_toArray, List.map_cons, List.map_nil, hs, hx, hr]
    exact ⟨g, hK _ _ (ownsRow_of (World.heap_at _ _ _ rfl) (show base ≤ W.heap.size from hbase) h1 h2 h3 h4 hl) g⟩
theorem el63 : Try.prog.knows 63 (.agg #[.int .i64 0, .int .i64 0]) 2 16 := Program.knows_of (by kernel_rfl)
theorem one_mate (w : World) (x y : Value) (t b : Nat) (hb : b = w.heap.size) : SliceAt (w.alloc (.cells #[x, y] t)) (.slice (some ⟨b, 0, none⟩) 1 1) 1 2 (fun _ j => if j = 0 then x else y) := by
  subst hb
  refine ⟨_, _, rfl, by omega, by unfold maxLen; omega, fun i j hi hj => ⟨_, _, rfl, ?_⟩⟩
  have hi0 : i = 0 := by omega
  subst hi0
  rcases (show j = 0 ∨ j = 1 by omega) with rfl | rfl <;> simp [go_sem]
end Go.Proofs.Yteingahlmlndkaa

/-
  What is proved: the law of a region that draws its order, by a property of all that has been done so far (an operation may write into what another one has made).
-/
namespace Go
open Go.RowKit
variable {P : Program} {ops : Array Oper}
def zipV (l : List Oper) (ds : List (List Nat)) : List (Oper × List Nat) := l.zip ds
theorem zipV_at (l : List Oper) (ds : List (List Nat)) (h0 : l.length ≤ ds.length) (_ : l.length ≤ ds.length) (i : Nat) (o : Oper) (h : l[i]? = some o) : (zipV l ds)[i]? = some (o, ds.getD i []) := by
  unfold zipV
  have hi : i < l.length := (List.getElem?_eq_some_iff.1 h).1
  rw [List.getElem?_zip_eq_some]
  exact ⟨h, by rw [List.getD_eq_getElem?_getD, List.getElem?_eq_getElem (by omega)]; rfl⟩
/-- what is asked of the operations of the head -/
def oblV (P : Program) (dl : List (Option Tmp)) (J : (Nat → Bool) → (Nat → Value) → World → Prop) (w0 : World) (a : Act) : Nat → List (Oper × List Nat) → Prop
  | _, [] => True
  | i, (o, D) :: l => (∀ L val n x (K : Value → World → Prop), J L val (w0.plus n x) → L i = false → (∀ j ∈ D, L j = true) → (∀ v W', J (fun j => if j = i then true else L j) (fun j => if j = i then v else val j) W' → K v W') → o.goesO P (putL dl val D a) w0 (w0.plus n x) K) ∧ oblV P dl J w0 a (i + 1) l
theorem oblV_at {dl : List (Option Tmp)} {J : (Nat → Bool) → (Nat → Value) → World → Prop} {w0 : World} {a : Act} : ∀ (l : List (Oper × List Nat)) (b : Nat), oblV P dl J w0 a b l → ∀ (i : Nat) (o : Oper) (D : List Nat), l[i]? = some (o, D) →
    ∀ L val W, w0.grows W → J L val W → L (b + i) = false → (∀ j ∈ D, L j = true) → Oper.goesO P o (putL dl val D a) w0 W (fun v W' => J (fun j => if j = b + i then true else L j) (fun j => if j = b + i then v else val j) W')
  | [], _, _, i, o, D, h => by simp at h
  | _ :: l, b, hl, 0, o, D, h => by
    cases Option.some.inj h
    intro L val W hg hJ h1 h2
    obtain ⟨n, x, rfl⟩ := World.plus_of hg
    exact hl.1 L val n x _ hJ h1 h2 (fun _ _ h => h)
  | _ :: l, b, hl, i + 1, o, D, h => by
    have := oblV_at l (b + 1) hl.2 i o D (by simpa using h)
    rw [show b + 1 + i = b + (i + 1) by omega] at this
    exact this
theorem wpAny_of_invV {w0 : World} {a : Act} {J : (Nat → Bool) → (Nat → Value) → World → Prop} {Q : Exit → Act → World → Prop} {n : Nat} {ds : List (List Nat)} {dl : List (Option Tmp)} (hB : Region.invB ops n ds dl = true)
    (hheads0 : ∀ (listed : Array Bool) (i0 : Nat), HeadInv .any ops n listed → i0 < n → listed.getD i0 true = false → ∀ t ∈ Region.ready .any ops listed, t < n)
    (hop : ∀ i o, i < n → ops[i]? = some o → ∀ L val W, w0.grows W → J L val W → L i = false → (∀ j ∈ ds.getD i [], L j = true) → o.goesO P (putL dl val (ds.getD i []) a) w0 W (fun v W' => J (fun j => if j = i then true else L j) (fun j => if j = i then v else val j) W'))
    (hK : ∀ L val W, w0.grows W → J L val W → (∀ i, i < n → L i = true) → ∀ listed, HeadInv .any ops n listed → (∀ i, i < n → listed.getD i false = true) → wpAny P .any ops Q (ops.size - n) listed (putL dl val (List.range n) a) W) :
    ∀ (cnt : Nat) (L U : List Nat) (listed : Array Bool) (val : Nat → Value) (W : World), U.length = cnt → L.Nodup → U.Nodup → (∀ i, i ∈ L ↔ i < n ∧ listed.getD i false = true) → (∀ i, i ∈ U ↔ i < n ∧ listed.getD i false = false) →
      HeadInv .any ops n listed → w0.grows W → J (fun i => listed.getD i false) val W → wpAny P .any ops Q (cnt + (ops.size - n)) listed (putL dl val L a) W := by
  simp only [Region.invB, Bool.and_eq_true, decide_eq_true_eq] at hB
  obtain ⟨⟨hmix, hnle⟩, hall⟩ := hB
  simp only [Region.mixB, Bool.and_eq_true, decide_eq_true_eq] at hmix
  obtain ⟨⟨⟨hsel, _⟩, _⟩, hedge⟩ := hmix
  have hsp := Region.noSelect_spec hsel
  have spec : ∀ i o, i < n → ops[i]? = some o → o.guard = none ∧ dl.getD i none = o.dst ∧ (∀ j ∈ ds.getD i [], j < n ∧ Region.waitsFor .any ops i j = true) ∧ (ds.getD i []).Nodup ∧
      ∀ j, j < n → j ≠ i → (∀ d, dl.getD i none = some d → dl.getD j none ≠ some d) ∧ (j ∉ ds.getD i [] → ∀ d, dl.getD j none = some d → d ∉ o.looksAt ops) := by
    intro i o hi ho
    have h1 := List.all_eq_true.1 hall i (List.mem_range.2 hi)
    simp only [ho, Bool.and_eq_true, decide_eq_true_eq] at h1
    obtain ⟨⟨⟨⟨g1, g2⟩, g3⟩, g4⟩, g5⟩ := h1
    refine ⟨by simpa using g1, g2, fun j hj => ?_, g4, fun j hj hji => ?_⟩
    · have := List.all_eq_true.1 g3 j hj
      simpa using this
    · have h2 := List.all_eq_true.1 g5 j (List.mem_range.2 hj)
      simp only [Bool.or_eq_true, Bool.and_eq_true, decide_eq_true_eq] at h2
      rcases h2 with h2 | ⟨h2, h3⟩
      · exact absurd h2 hji
      · refine ⟨fun d hd hj' => ?_, fun hnd d hd => ?_⟩
        · rcases h2 with h2 | h2
          · rw [hd] at h2; cases h2
          · exact h2 (hj'.trans hd.symm)
        · rcases h3 with h3 | h3
          · exact absurd (by simpa using h3) hnd
          · rw [hd] at h3
            simpa using h3
  have edgeOf : ∀ i o, i < n → ops[i]? = some o → ∀ e ∈ o.after, Region.binds .any e = true → e.on < i := by
    intro i o hi ho e he hb
    have h1 := List.all_eq_true.1 hedge i (List.mem_range.2 hi)
    simp only [ho, Bool.and_eq_true] at h1
    have h2 := Array.all_eq_true_iff_forall_mem.1 h1.1 e he
    simpa only [hb, Bool.not_true, Bool.false_or, decide_eq_true_eq] using h2
  have unwait : ∀ (listed : Array Bool) (i j : Nat), i ∈ Region.ready .any ops listed → Region.waitsFor .any ops i j = true → listed.getD j false = true := by
    intro listed i j hi hw
    obtain ⟨oi, hoi, e, he, hb, hon⟩ := Region.waitsFor_spec hw
    obtain ⟨_, o', ho', hall⟩ := mem_ready.1 hi
    rw [hoi] at ho'; cases ho'
    have := hall e he hb
    rwa [hon] at this
  have at_lt : ∀ i, i < n → ∃ o, ops[i]? = some o := fun i hi => ⟨ops[i]'(by omega), Array.getElem?_eq_getElem (by omega)⟩
  have dst_ne : ∀ i, i < n → ∀ j, j < n → i ≠ j → ∀ d, dl.getD i none = some d → dl.getD j none ≠ some d := fun i hi j hj hij => by
    obtain ⟨o, ho⟩ := at_lt i hi
    exact ((spec i o hi ho).2.2.2.2 j hj (Ne.symm hij)).1
  intro cnt
  induction cnt with
  | zero =>
    intro L U listed val W hc hL hU hLm hUm inv hg hv
    have he : U = [] := List.eq_nil_of_length_eq_zero hc
    have hl : ∀ i, i < n → listed.getD i false = true := fun i hi => by
      cases h : listed.getD i false with
      | true => rfl
      | false =>
        have := (hUm i).2 ⟨hi, h⟩
        rw [he] at this
        cases this
    have hp : L.Perm (List.range n) := (List.perm_ext_iff_of_nodup hL List.nodup_range).2 fun i => by
      rw [hLm, List.mem_range]
      exact ⟨fun h => h.1, fun h => ⟨h, hl i h⟩⟩
    rw [Nat.zero_add, putL_perm hp (fun i hi j hj hij => dst_ne i ((hLm i).1 hi).1 j ((hLm j).1 hj).1 hij)]
    exact hK _ val W hg hv hl listed inv hl
  | succ cnt ih =>
    intro L U listed val W hc hL hU hLm hUm inv hg hv
    rw [show cnt + 1 + (ops.size - n) = (cnt + (ops.size - n)) + 1 by omega]
    obtain ⟨i0, hi0⟩ : ∃ i, i ∈ U := by
      cases U with
      | nil => simp at hc
      | cons x _ => exact ⟨x, List.mem_cons_self ..⟩
    have hi0' := (hUm i0).1 hi0
    have hheads := hheads0 listed i0 inv hi0'.1 (getD_in (by rw [inv.size]; omega) hi0'.2)
    have least : ∀ i, i < n → listed.getD i false = false → ∃ t, t ∈ Region.ready .any ops listed := by
      intro i
      induction i using Nat.strongRecOn with
      | _ i ih2 =>
        intro hi hl
        obtain ⟨o, ho⟩ := at_lt i hi
        by_cases h : ∃ e ∈ o.after, Region.binds .any e = true ∧ listed.getD e.on false = false
        · obtain ⟨e, he, hb, hel⟩ := h
          have := edgeOf i o hi ho e he hb
          exact ih2 e.on this (by omega) hel
        · refine ⟨i, mem_ready.2 ⟨getD_in (by rw [inv.size]; omega) hl, o, ho, fun e he hb => ?_⟩⟩
          cases hq : listed.getD e.on false with
          | true => rfl
          | false => exact absurd ⟨e, he, hb, hq⟩ h
    refine ⟨fun hnil => ?_, fun i hi => ?_⟩
    · exfalso
      obtain ⟨t, ht⟩ := least i0 hi0'.1 hi0'.2
      rw [hnil] at ht
      cases ht
    · have hin := hheads i hi
      have hl : listed.getD i false = false := getD_both (mem_ready.1 hi).1
      have inv' := inv.set hi hin
      obtain ⟨o, ho⟩ := at_lt i hin
      obtain ⟨sg, sd, sw, snd, sl⟩ := spec i o hin ho
      have set_ne : ∀ j, j ≠ i → (listed.setIfInBounds i true).getD j false = listed.getD j false := fun j hji => getD_set_ne false (Ne.symm hji)
      have set_self : (listed.setIfInBounds i true).getD i false = true := by
        have : i < listed.size := by rw [inv.size]; omega
        simp [this]
      have hiL : i ∉ L := fun h => by
        have := ((hLm i).1 h).2
        rw [hl] at this; cases this
      have hDL : ∀ j ∈ ds.getD i [], j ∈ L := fun j hj => (hLm j).2 ⟨(sw j hj).1, unwait listed i j hi (sw j hj).2⟩
      have hexec : execOp (putL dl val L a).eval o = execOp (putL dl val (ds.getD i []) a).eval o := by
        have hp : L.Perm (ds.getD i [] ++ L.filter fun j => !(ds.getD i []).contains j) := by
          refine (List.perm_ext_iff_of_nodup hL (List.nodup_append.2 ⟨snd, hL.filter _, fun x hx y hy e => ?_⟩)).2 fun j => ?_
          · subst e
            have h3 : (ds.getD i []).contains x = true := List.contains_iff_mem.2 hx
            have h4 := (List.mem_filter.1 hy).2
            simp only [h3] at h4
            cases h4
          · rw [List.mem_append, List.mem_filter]
            constructor
            · intro hj
              by_cases h : j ∈ ds.getD i []
              · exact .inl h
              · exact .inr ⟨hj, by simpa using h⟩
            · rintro (h | h)
              · exact hDL j h
              · exact h.1
        rw [putL_perm hp (fun i hi j hj hij => dst_ne i ((hLm i).1 hi).1 j ((hLm j).1 hj).1 hij), putL_append]
        refine execOp_putL (ops := ops) (fun cs b => hsp i o cs b ho) _ _ fun j hj d hd => ?_
        obtain ⟨h1, h2⟩ := List.mem_filter.1 hj
        refine (sl j ((hLm j).1 h1).1 (fun e => hiL (e ▸ h1))).2 (by simpa using h2) d hd
      have hgo := hop i o hin ho _ val W hg hv hl fun j hj => unwait listed i j hi (sw j hj).2
      have hrest : ∀ v W', w0.grows W' → J (fun j => if j = i then true else listed.getD j false) (fun j => if j = i then v else val j) W' → wpAny P .any ops Q (cnt + (ops.size - n)) (listed.setIfInBounds i true) ((putL dl val L a).put o.dst v) W' := by
        intro v W' g hr
        have e : (putL dl val L a).put o.dst v = putL dl (fun k => if k = i then v else val k) (L ++ [i]) a := by
          rw [putL_append, putL_congr (val' := fun k => if k = i then v else val k) L a (fun j hj => (if_neg (fun h => hiL (by rw [← h]; exact hj))).symm)]
          simp only [putL, if_true, sd]
        rw [e]
        refine ih (L ++ [i]) (U.erase i) _ _ W' ?_ ?_ (hU.erase _) (fun j => ?_) (fun j => ?_) inv' g ?_
        · have := List.length_erase_of_mem ((hUm i).2 ⟨hin, hl⟩)
          omega
        · rw [List.nodup_append]
          refine ⟨hL, List.nodup_cons.2 ⟨by simp, List.nodup_nil⟩, fun x hx y hy e => ?_⟩
          rw [List.mem_singleton] at hy
          exact hiL (by rw [← hy, ← e]; exact hx)
        · rw [List.mem_append, List.mem_singleton, hLm]
          by_cases hji : j = i
          · subst hji
            simp [set_self, hin]
          · rw [set_ne j hji]
            simp [hji]
        · rw [hU.mem_erase_iff, hUm]
          by_cases hji : j = i
          · subst hji
            simp [set_self]
          · rw [set_ne j hji]
            simp [hji]
        · have ef : (fun j => (listed.setIfInBounds i true).getD j false) = fun j => if j = i then true else listed.getD j false := funext fun j => by
            by_cases hji : j = i
            · rw [if_pos hji, hji, set_self]
            · rw [if_neg hji, set_ne j hji]
          rw [ef]
          exact hr
      unfold wpOp
      simp only [ho]
      rw [if_pos (by simp [Region.wanted, sg])]
      refine .inl ?_
      unfold Oper.wp
      unfold Oper.goesO at hgo
      rw [hexec]
      generalize (execOp (putL dl val (ds.getD i []) a).eval o).run P W = r at *
      cases r with
      | halt z w' => simp only [goesUponO] at hgo
      | ok nx w' =>
        cases nx <;> simp only [goesUponO] at hgo <;> simp only [Oper.upon]
        case value u => exact hrest _ _ hgo.1 hgo.2
        case skip => exact hrest _ _ hgo.1 hgo.2
        case enter f args =>
          obtain ⟨rfl, hcall⟩ := hgo
          refine hcall.mono fun e w'' ⟨v, he, g, hp⟩ => ?_
          subst he
          exact hrest _ _ g hp

theorem wp_region_invV {id : Nat} {Q : Exit → Act → World → Prop} {a : Act} {w : World} {l : List Oper} (n : Nat) (ds : List (List Nat)) (dl : List (Option Tmp)) (J : (Nat → Bool) → (Nat → Value) → World → Prop) (hm : P.follows .mixedOrders = true)
    (hB : (Region.invTailB l.toArray n ds dl && decide (n ≤ ds.length)) = true) (hn : n ≤ l.length) (hJ : ∀ n x val, J (fun _ => false) val (w.plus n x))
    (hop : oblV P dl J w a 0 (zipV (l.take n) ds))
    (h : ∀ (L : Nat → Bool) (val : Nat → Value) W, w.grows W → J L val W → (∀ i, i < n → L i = true) → wpList P l.toArray Q (l.drop n) (putL dl val (List.range n) a) W) : (Code.region id l.toArray true).wp P Q a w := by
  simp only [Region.invTailB, Bool.and_eq_true, Bool.or_eq_true, decide_eq_true_eq] at hB
  obtain ⟨⟨⟨hinv, hplan⟩, hseq⟩, hds⟩ := hB
  have hnle : n ≤ l.toArray.size := by simpa using hn
  refine wp_region_any hm ?_
  obtain ⟨n0, x0, h0⟩ := World.more_drew w
  rw [h0]
  have key := wpAny_of_invV (P := P) (ops := l.toArray) (w0 := w) (a := a) (J := J) (Q := Q) (n := n) (ds := ds) (dl := dl) hinv
    (fun listed i0 inv hi0 hun0 => by
      rcases hplan with h | ⟨⟨h1, h2⟩, h3⟩
      · subst h; exact heads_of_all listed
      · exact heads_of_tail h1 h2 h3 listed i0 inv hi0 hun0)
    (fun i o hi ho L val W hg => by have := oblV_at _ 0 hop i o _ (zipV_at (l.take n) ds (by simp; omega) (by simp; omega) i o (by rw [List.getElem?_take, if_pos hi]; simpa using ho)) L val W hg; rw [Nat.zero_add] at this; exact this)
    (fun L val W hg hv hL listed inv hall => by
      have hl := seq_listed inv hnle hall
      subst hl
      have hd : (l.drop n).length = l.toArray.size - n := by simp
      have := wpAny_of_seq (Q' := Q) (l.drop n) n _ (putL dl val (List.range n) a) W (fun j => by simp [List.getElem?_drop]) (by rw [hd]; exact hseq) (h L val W hg hv hL)
      rwa [hd] at this)
    n [] (List.range n) (Array.replicate l.toArray.size false) (fun _ => undef) (w.plus n0 x0) (by simp) List.nodup_nil List.nodup_range
    (fun i => ⟨fun h => absurd h List.not_mem_nil, fun h => by rw [getD_replicate_false] at h; exact absurd h.2 (by decide)⟩)
    (fun i => by rw [List.mem_range, getD_replicate_false]; exact ⟨fun h => ⟨h, rfl⟩, fun h => h.1⟩)
    (headInv_start n) (World.grows_plus _ _ _) (by rw [show (fun i => (Array.replicate l.toArray.size false).getD i false) = fun _ => false from funext fun i => getD_replicate_false ..]; exact hJ _ _ _)
  rw [show n + (l.toArray.size - n) = l.toArray.size by omega] at key
  exact key
end Go

/-
  What is proved: the answers about a valid stock, in the words of the statements.
-/
namespace Go.Proofs.Yteingahlmlndkaa
open Go.RowKit
attribute [local irreducible] Go.wpCalm rowV
section
variable {X : World} {tv : Value} {s : Stk}
theorem v_best (h : StkAt X tv s) (hok : s.Ok) {N : Nat} (hN : nu s.adj (belowN s.nt) 16 = N) : Calls Try.prog 27 #[tv] X fun e w' => ∃ a c m, e = .returned (.tuple #[.slice a s.nt c, .int .i64 (N : Nat), .int .i64 0]) ∧ Mx s.adj (belowN s.nt) 16 m ∧ IntsAt w' (.slice a s.nt c) s.nt (mvI m) ∧ X.grows w' := by
  refine (bestF_ok X tv s h hok).mono ?_
  rintro e w' ⟨u, m, rfl, hm, hu, g⟩
  rw [hN]
  obtain ⟨a, c, rfl, -⟩ := id hu
  exact ⟨a, c, m, rfl, hm, hu, g⟩
/-- the list of all kinds -/
noncomputable def kindsF (s : Stk) (i : Nat) : Int := ((((List.range s.nt).map (kindN s.adj s.nt)).getD i 0 : Nat) : Int)
end
end Go.Proofs.Yteingahlmlndkaa

/-
  What is proved: MatchMore (9) answers true.
-/
namespace Go.Proofs.Yteingahlmlndkaa
open Go.RowKit
attribute [local irreducible] Go.wpCalm rowV
def kM (c : Value) (v : Value) (_ : World) : Prop := v = c
theorem st_kM (c : Value) : Stays (kM c) := fun _ _ _ h _ => h
def kMT (_ : Value) (_ : World) : Prop := True
/-- three boxes for three values, and what is stored into them, in whatever order -/
structure JM (S : Array Value) (c : Nat) (L : Nat → Bool) (val : Nat → Value) (W : World) : Prop where
  load : ∀ i, i < 3 → L i = true → val i = .agg S
  box : ∀ i, i < 3 → L (i + 3) = true → ∃ b, val (i + 3) = .pointer (some ⟨b, 0, none⟩) ∧ c ≤ b ∧ W.heap[b]? = some (.cells (if L (i + 6) = true then S else #[.slice none 0 0, .slice none 0 0, .int .i64 0]) 25)
  ne : ∀ i k, i < 3 → k < 3 → i ≠ k → L (i + 3) = true → L (k + 3) = true → val (i + 3) ≠ val (k + 3)
  st : ∀ i, i < 3 → L (i + 6) = true → L (i + 3) = true
def JM.set (L : Nat → Bool) (i : Nat) : Nat → Bool := fun j => if j = i then true else L j
theorem JM.loads {S : Array Value} {c : Nat} {L : Nat → Bool} {val : Nat → Value} {W : World} (h : JM S c L val W) {i : Nat} (hi : i < 3) {v : Value} (hv : v = .agg S) : JM S c (fun j => if j = i then true else L j) (fun j => if j = i then v else val j) W := by
  have e3 : ∀ k, k + 3 ≠ i := fun k => by omega
  have e6 : ∀ k, k + 6 ≠ i := fun k => by omega
  refine ⟨fun k hk hL => ?_, fun k hk hL => ?_, fun k l hk hl hkl hL hL' => ?_, fun k hk hL => ?_⟩
  · by_cases e : k = i
    · rw [if_pos e, hv]
    · rw [if_neg e] at hL ⊢
      exact h.load k hk hL
  · simp only [if_neg (e3 k), if_neg (e6 k)] at hL ⊢
    exact h.box k hk hL
  · simp only [if_neg (e3 k), if_neg (e3 l)] at hL hL' ⊢
    exact h.ne k l hk hl hkl hL hL'
  · simp only [if_neg (e3 k), if_neg (e6 k)] at hL ⊢
    exact h.st k hk hL
theorem JM.makes {S : Array Value} {c : Nat} {L : Nat → Bool} {val : Nat → Value} {W : World} (h : JM S c L val W) {i : Nat} (hi : i < 3) (hL0 : L (i + 3) = false) (hc : c ≤ W.heap.size) {b : Nat} (hb : b = W.heap.size) : JM S c (fun j => if j = i + 3 then true else L j) (fun j => if j = i + 3 then .pointer (some ⟨b, 0, none⟩) else val j) (W.alloc (.cells #[.slice none 0 0, .slice none 0 0, .int .i64 0] 25)) := by
  have e3 : ∀ k, k < 3 → k ≠ i + 3 := fun k hk => by omega
  have e6 : ∀ k, k + 6 ≠ i + 3 := fun k => by omega
  have hL6 : L (i + 6) = false := by
    cases h6 : L (i + 6) with
    | false => rfl
    | true => rw [h.st i hi h6] at hL0; cases hL0
  have g : W.grows (W.alloc (.cells #[.slice none 0 0, .slice none 0 0, .int .i64 0] 25)) := (World.grows.refl _).alloc _
  have hold : ∀ k, k < 3 → L (k + 3) = true → Value.pointer (some ⟨b, 0, none⟩) ≠ val (k + 3) := fun k hk hL e => by
    obtain ⟨b', e', _, h3⟩ := h.box k hk hL
    rw [e'] at e
    cases e
    have := World.lt_of_block h3
    omega
  refine ⟨fun k hk hL => ?_, fun k hk hL => ?_, fun k l hk hl hkl hL hL' => ?_, fun k hk hL => ?_⟩
  · simp only [if_neg (e3 k hk)] at hL ⊢
    exact h.load k hk hL
  · simp only [if_neg (e6 k)] at hL ⊢
    by_cases e : k = i
    · subst e
      rw [if_pos rfl, hL6]
      exact ⟨b, rfl, by omega, World.heap_at _ _ _ hb⟩
    · have e' : ¬ k + 3 = i + 3 := by omega
      rw [if_neg e'] at hL ⊢
      obtain ⟨b', h1, h2, h3⟩ := h.box k hk hL
      exact ⟨b', h1, h2, g.heap_of h3⟩
  · by_cases e : k = i
    · have e' : ¬ l + 3 = i + 3 := by omega
      simp only [if_neg e'] at hL' ⊢
      rw [e, if_pos rfl]
      exact hold l hl hL'
    · have e' : ¬ k + 3 = i + 3 := by omega
      simp only [if_neg e'] at hL ⊢
      by_cases e2 : l = i
      · rw [e2, if_pos rfl]
        exact fun e => hold k hk hL e.symm
      · have e2' : ¬ l + 3 = i + 3 := by omega
        simp only [if_neg e2'] at hL' ⊢
        exact h.ne k l hk hl hkl hL hL'
  · simp only [if_neg (e6 k)] at hL
    by_cases e : k = i
    · simp only [e, if_pos]
    · have e' : ¬ k + 3 = i + 3 := by omega
      simp only [if_neg e']
      exact h.st k hk hL
theorem JM.stores {S : Array Value} {c : Nat} {L : Nat → Bool} {val : Nat → Value} {W : World} (h : JM S c L val W) {i : Nat} (hi : i < 3) (hL3 : L (i + 3) = true) {b : Nat} (hb : val (i + 3) = .pointer (some ⟨b, 0, none⟩)) {v : Value} : JM S c (fun j => if j = i + 6 then true else L j) (fun j => if j = i + 6 then v else val j) (W.putObj b (.cells S 25)) := by
  have e3 : ∀ k, k < 3 → ¬ k + 3 = i + 6 := fun k hk => by omega
  have e0 : ∀ k, k < 3 → ¬ k = i + 6 := fun k hk => by omega
  refine ⟨fun k hk hL => ?_, fun k hk hL => ?_, fun k l hk hl hkl hL hL' => ?_, fun k hk hL => ?_⟩
  · simp only [if_neg (e0 k hk)] at hL ⊢
    exact h.load k hk hL
  · simp only [if_neg (e3 k hk)] at hL ⊢
    obtain ⟨b', h1, h2, h3⟩ := h.box k hk hL
    by_cases e : k = i
    · subst e
      rw [hb] at h1
      cases h1
      refine ⟨b, hb, h2, ?_⟩
      rw [if_pos (by simp)]
      exact World.putObj_heap_same (World.lt_of_block h3)
    · have e' : ¬ k + 6 = i + 6 := by omega
      rw [if_neg e']
      have hne : b' ≠ b := fun e2 => h.ne k i hk hi e hL hL3 (by rw [h1, hb, e2])
      exact ⟨b', h1, h2, (World.putObj_heap_other hne).trans h3⟩
  · simp only [if_neg (e3 k hk), if_neg (e3 l hl)] at hL hL' ⊢
    exact h.ne k l hk hl hkl hL hL'
  · by_cases e : k = i
    · simp only [if_neg (e3 k hk)]
      rw [e]
      exact hL3
    · have e' : ¬ k + 6 = i + 6 := by omega
      simp only [if_neg e', if_neg (e3 k hk)] at hL ⊢
      exact h.st k hk hL
def kM0 (n e sz : Nat) (v : Value) (W : World) : Prop := ∃ b, v = .slice (some ⟨b, 0, none⟩) 0 0 ∧ W.ownsRow n e sz v 0 []
theorem st_kM0 (n e sz : Nat) : Stays (kM0 n e sz) := fun _ _ _ h g => by
  obtain ⟨b, h1, h2⟩ := h
  exact ⟨b, h1, h2.grow g⟩
def kMr (n e sz m : Nat) (l : List Value) (v : Value) (W : World) : Prop := W.ownsRow n e sz v m l
theorem st_kMr (n e sz m : Nat) (l : List Value) : Stays (kMr n e sz m l) := fun _ _ _ h g => World.ownsRow.grow h g
def kM1 (sz : Nat) (c : Nat → Nat → Value) (v : Value) (W : World) : Prop := SliceAt W v 1 sz c
theorem st_kM1 (sz : Nat) (c : Nat → Nat → Value) : Stays (kM1 sz c) := fun _ _ _ h g => SliceAt.mono h g
/-- a store into one of the blocks that stand -/
theorem KpS.setAt {w U : World} {P P' : List (Nat × Obj)} {b n : Nat} {xs : Array Value} {t : TypeId} {v : Value} (h : KpS w P U) (hb : w.heap.size ≤ b) (hx : U.heap[b]? = some (.cells xs t)) (hP : ∀ y ∈ P', y = (b, .cells (xs.setIfInBounds n v) t) ∨ (y ∈ P ∧ y.1 ≠ b)) : KpS w P' (U.setCell ⟨b, n, none⟩ v) :=
  ⟨h.g.setCell (p := ⟨b, n, none⟩) hb v, fun y hy => by
    rcases hP y hy with rfl | ⟨h1, h2⟩
    · exact store_of_heap hx n v
    · exact (World.heap_setCell_map _ _ _ _ (show b ≠ y.1 from fun e => h2 e.symm)).trans (h.at_ y h1)⟩
theorem one_mate_cells (a b : Int) : ∀ u ∈ tableL 1 2 (fun _ j => if j = 0 then Value.int .i64 a else .int .i64 b), u.oneCell' = true := by
  intro u hu
  have e : tableL 1 2 (fun _ j => if j = 0 then Value.int .i64 a else .int .i64 b) = [.int .i64 a, .int .i64 b] := rfl
  rw [e] at hu
  simp at hu
  rcases hu with rfl | rfl <;> rfl
theorem one_thing_cells (a b c : Int) : ∀ u ∈ tableL 1 3 (fun _ j => if j = 0 then Value.int .i64 a else if j = 1 then .int .i64 b else .int .i64 c), u.oneCell' = true := by
  intro u hu
  have e : tableL 1 3 (fun _ j => if j = 0 then Value.int .i64 a else if j = 1 then .int .i64 b else .int .i64 c) = [.int .i64 a, .int .i64 b, .int .i64 c] := rfl
  rw [e] at hu
  simp at hu
  rcases hu with rfl | rfl | rfl <;> rfl
theorem wr_more {a : Int} {Z : Nat} (h : 0 ≤ a ∧ a ≤ 10000) (hZ : Z ≤ 65535) : IntKind.i64.wrap (Z : Int) = Z ∧ wrap64 (Z : Int) = Z ∧ IntKind.i64.wrap (a + (Z : Int)) = a + (Z : Int) ∧ wrap64 (a + (Z : Int)) = a + (Z : Int) := by
  have h1 : (Z : Int) ≤ 65535 := by omega
  have h2 : wrap64 (a + (Z : Int)) = a + (Z : Int) := by unfold wrap64; omega
  have h3 : wrap64 (Z : Int) = (Z : Int) := by unfold wrap64; omega
  exact ⟨wrapI rfl ⟨by omega, by omega⟩, h3, wrapI rfl ⟨by omega, by omega⟩, h2⟩
theorem s25 : (Try.prog.info? 25).map (·.size) = some 3 := by kernel_rfl
set_option maxRecDepth 100000 in
set_option maxHeartbeats 8000000 in
theorem more_w (w : World) (tv : Value) (s : Stk) (ht : StkAt w tv s) (mk mw mg : Int) (z3 : Int) (hz3 : 0 ≤ z3 ∧ z3 ≤ 65535) (ma mb : Int) : Calls Try.prog 9 #[tv, .agg #[.int .i64 mk, .int .i64 mw, .int .i64 mg], .int .u16 z3, .agg #[.int .i64 ma, .int .i64 mb]] w fun e w' => e = .returned (.bool true) ∧ w.grows w' := by
  have HT := Lib.hid ht
  obtain ⟨Z, rfl⟩ : ∃ Z : Nat, z3 = (Z : Nat) := ⟨z3.toNat, by omega⟩
  have hZ : Z ≤ 65535 := by omega
  obtain ⟨sv, vv, rfl, hT, hM⟩ := ht
  have HTh := Lib.hid hT
  have HMt := Lib.hid hM
  obtain ⟨sa, sc, rfl, -⟩ := hT
  obtain ⟨va, vc, rfl, -⟩ := hM
  clear hz3
  go_enter Try.func9, Try.ntmps9
  obtain ⟨x1, hx1⟩ : ∃ x, w.heap.size = x := ⟨_, rfl⟩
  go_upto_region 1 with fail
  have k1 : KpS w [(x1 + 1 + 1, Obj.cells #[.int .i64 ma, .int .i64 mb] 63), (x1 + 1, Obj.cells #[.int .i64 mk, .int .i64 mw, .int .i64 mg] 62), (x1, Obj.cells #[.slice sa s.nt sc, .slice va s.nm vc, .int .i64 s.wide] 25)] (((w.alloc (Obj.cells #[.slice sa s.nt sc, .slice va s.nm vc, .int .i64 s.wide] 25)).alloc (Obj.cells #[.int .i64 mk, .int .i64 mw, .int .i64 mg] 62)).alloc (Obj.cells #[.int .i64 ma, .int .i64 mb] 63)) :=
    (((KpS.mk (by (repeat (first | exact World.grows.refl _ | assumption | refine World.grows.alloc ?_ _ | refine World.grows.plus ?_ _ _ | refine World.grows.drew ?_))) (fun y hy => absurd hy List.not_mem_nil)).add (alloc_old (alloc_old (World.heap_at w _ _ hx1.symm)))).add (alloc_old (World.heap_at _ _ _ (by simp [hx1])))).add (World.heap_at _ _ _ (by simp [hx1]))
  generalize ((w.alloc (Obj.cells #[.slice sa s.nt sc, .slice va s.nm vc, .int .i64 s.wide] 25)).alloc (Obj.cells #[.int .i64 mk, .int .i64 mw, .int .i64 mg] 62)).alloc (Obj.cells #[.int .i64 ma, .int .i64 mb] 63) = W1 at k1 ⊢
  have HK := Lib.hid k1
  clear k1
  have q0 := cell_of_heap (i := 0) HK.out.drop.drop.hd rfl
  have q1 := cell_of_heap (i := 1) HK.out.drop.drop.hd rfl
  have q2 := cell_of_heap (i := 2) HK.out.drop.drop.hd rfl
  go_wp2_with (go_at_call 99; fail)
  refine (fine_c _ _ s (HT.out.mono (HK.out.g.trans (by (repeat (first | exact World.grows.refl _ | assumption | refine World.grows.alloc ?_ _ | refine World.grows.plus ?_ _ _ | refine World.grows.drew ?_)))))).mono ?_
  rintro e U ⟨rfl, g⟩
  replace HK := Lib.hid (HK.out.mono (World.grows.trans (by (repeat (first | exact World.grows.refl _ | assumption | refine World.grows.alloc ?_ _ | refine World.grows.plus ?_ _ _ | refine World.grows.drew ?_))) g)); replace q0 := cell_of_heap (i := 0) HK.out.drop.drop.hd rfl; replace q1 := cell_of_heap (i := 1) HK.out.drop.drop.hd rfl; replace q2 := cell_of_heap (i := 2) HK.out.drop.drop.hd rfl; clear g
  by_cases hc : s.check = 0
  · rw [decide_eq_true hc]
    have hok := (Stk.ok_iff s).1 hc
    have h16 := hok.n16
    have h20 := hok.m20
    have HOk := Lib.hid hok
    clear hc hok
    go_upto_region 3 with fail
    obtain ⟨c1, hc1⟩ : ∃ x, U.heap.size = x := ⟨_, rfl⟩
    have hxc : x1 + 3 ≤ c1 := by rw [← hc1]; exact World.lt_of_block HK.out.hd
    have HC1 : Hid (U.heap.size = c1) := Lib.hid hc1
    clear hc1
    refine wp_region_invV 9 [[], [], [], [], [], [], [3, 0], [4, 1], [5, 2]] [some 24, some 25, some 26, some 9, some 10, some 11, none, none, none] (JM #[.slice sa s.nt sc, .slice va s.nm vc, .int .i64 s.wide] c1) (by kernel_rfl) (by kernel_rfl) (by decide) (fun _ _ _ => ⟨fun _ _ h => absurd h Bool.false_ne_true, fun _ _ h => absurd h Bool.false_ne_true, fun _ _ _ _ _ h => absurd h Bool.false_ne_true, fun _ _ h => absurd h Bool.false_ne_true⟩) ?_ ?_
    · simp only [List.take_succ_cons, List.take_zero, List.take_nil, zipV, List.zip_cons_cons, List.zip_nil_right, List.zip_nil_left, oblV, and_true]
      refine ⟨?_, ?_, ?_, ?_, ?_, ?_, ?_, ?_, ?_⟩
      · intro L val nc xc K hJ hL hD hK
        dsimp only [putL]
        go_simp
        exact ⟨World.grows_plus _ _ _, hK _ _ (hJ.loads (i := 0) (by omega) rfl)⟩
      · intro L val nc xc K hJ hL hD hK
        dsimp only [putL]
        go_simp
        exact ⟨World.grows_plus _ _ _, hK _ _ (hJ.loads (i := 1) (by omega) rfl)⟩
      · intro L val nc xc K hJ hL hD hK
        dsimp only [putL]
        go_simp
        exact ⟨World.grows_plus _ _ _, hK _ _ (hJ.loads (i := 2) (by omega) rfl)⟩
      · intro L val nc xc K hJ hL hD hK
        dsimp only [putL]
        go_simp
        exact ⟨by (repeat (first | exact World.grows.refl _ | assumption | refine World.grows.alloc ?_ _ | refine World.grows.plus ?_ _ _ | refine World.grows.drew ?_)), hK _ _ (hJ.makes (i := 0) (by omega) hL (by rw [← HC1.out]; simp) (by simp))⟩
      · intro L val nc xc K hJ hL hD hK
        dsimp only [putL]
        go_simp
        exact ⟨by (repeat (first | exact World.grows.refl _ | assumption | refine World.grows.alloc ?_ _ | refine World.grows.plus ?_ _ _ | refine World.grows.drew ?_)), hK _ _ (hJ.makes (i := 1) (by omega) hL (by rw [← HC1.out]; simp) (by simp))⟩
      · intro L val nc xc K hJ hL hD hK
        dsimp only [putL]
        go_simp
        exact ⟨by (repeat (first | exact World.grows.refl _ | assumption | refine World.grows.alloc ?_ _ | refine World.grows.plus ?_ _ _ | refine World.grows.drew ?_)), hK _ _ (hJ.makes (i := 2) (by omega) hL (by rw [← HC1.out]; simp) (by simp))⟩
      · intro L val nc xc K hJ hL hD hK
        have h3 := hD 3 (by simp)
        have e0 := hJ.load 0 (by omega) (hD 0 (by simp))
        obtain ⟨b, e3, hb, hx⟩ := hJ.box 0 (by omega) h3
        rw [show L (0 + 6) = false from hL] at hx
        refine goesO_store_row 25 (.tmp 9) (.tmp 24) rfl b _ #[.slice sa s.nt sc, .slice va s.nm vc, .int .i64 s.wide] hx (by simp only [putL]; simp [go_sem, e0, e3]) (by simp only [putL]; simp [go_sem, e0, e3]) s25 rfl (by simp [Value.oneCell']) ⟨World.putObj_grows (World.grows_plus _ _ _) _ (by rw [HC1.out]; exact hb), hK _ _ (hJ.stores (i := 0) (by omega) h3 e3)⟩
      · intro L val nc xc K hJ hL hD hK
        have h3 := hD 4 (by simp)
        have e0 := hJ.load 1 (by omega) (hD 1 (by simp))
        obtain ⟨b, e3, hb, hx⟩ := hJ.box 1 (by omega) h3
        rw [show L (1 + 6) = false from hL] at hx
        refine goesO_store_row 25 (.tmp 10) (.tmp 25) rfl b _ #[.slice sa s.nt sc, .slice va s.nm vc, .int .i64 s.wide] hx (by simp only [putL]; simp [go_sem, e0, e3]) (by simp only [putL]; simp [go_sem, e0, e3]) s25 rfl (by simp [Value.oneCell']) ⟨World.putObj_grows (World.grows_plus _ _ _) _ (by rw [HC1.out]; exact hb), hK _ _ (hJ.stores (i := 1) (by omega) h3 e3)⟩
      · intro L val nc xc K hJ hL hD hK
        have h3 := hD 5 (by simp)
        have e0 := hJ.load 2 (by omega) (hD 2 (by simp))
        obtain ⟨b, e3, hb, hx⟩ := hJ.box 2 (by omega) h3
        rw [show L (2 + 6) = false from hL] at hx
        refine goesO_store_row 25 (.tmp 11) (.tmp 26) rfl b _ #[.slice sa s.nt sc, .slice va s.nm vc, .int .i64 s.wide] hx (by simp only [putL]; simp [go_sem, e0, e3]) (by simp only [putL]; simp [go_sem, e0, e3]) s25 rfl (by simp [Value.oneCell']) ⟨World.putObj_grows (World.grows_plus _ _ _) _ (by rw [HC1.out]; exact hb), hK _ _ (hJ.stores (i := 2) (by omega) h3 e3)⟩
    · intro L val V gN hJ hall
      obtain ⟨b1, e3, s1, y1⟩ := hJ.box 0 (by omega) (hall 3 (by omega))
      obtain ⟨b2, e4, s2, y2⟩ := hJ.box 1 (by omega) (hall 4 (by omega))
      obtain ⟨b3, e5, s3, y3⟩ := hJ.box 2 (by omega) (hall 5 (by omega))
      rw [if_pos (hall 6 (by omega))] at y1
      rw [if_pos (hall 7 (by omega))] at y2
      rw [if_pos (hall 8 (by omega))] at y3
      have h12 : b1 ≠ b2 := fun e => hJ.ne 0 1 (by omega) (by omega) (by omega) (hall 3 (by omega)) (hall 4 (by omega)) (by rw [e3, e4, e])
      have h13 : b1 ≠ b3 := fun e => hJ.ne 0 2 (by omega) (by omega) (by omega) (hall 3 (by omega)) (hall 5 (by omega)) (by rw [e3, e5, e])
      have h23 : b2 ≠ b3 := fun e => hJ.ne 1 2 (by omega) (by omega) (by omega) (hall 4 (by omega)) (hall 5 (by omega)) (by rw [e4, e5, e])
      have e0 := hJ.load 0 (by omega) (hall 0 (by omega))
      have e1 := hJ.load 1 (by omega) (hall 1 (by omega))
      have e2 := hJ.load 2 (by omega) (hall 2 (by omega))
      rw [show List.range 9 = [0, 1, 2, 3, 4, 5, 6, 7, 8] from rfl]
      simp only [Nat.zero_add, Nat.reduceAdd] at e3 e4 e5
      simp only [putL, List.getD_cons_zero, List.getD_cons_succ, e0, e1, e2, e3, e4, e5, List.drop_succ_cons, List.drop_zero]
      clear hJ hall e0 e1 e2 e3 e4 e5
      refine wpList_nil ?_
      replace HK := Lib.hid ((((HK.out.mono gN).add y3).add y2).add y1)
      clear y1 y2 y3 gN q0 q1 q2
      go_upto_region 4 with fail
      have q0 := cell_of_heap (i := 0) HK.out.drop.drop.drop.drop.drop.hd rfl
      have t0 := cell_of_heap (i := 0) HK.out.drop.drop.drop.drop.hd rfl
      have t1 := cell_of_heap (i := 1) HK.out.drop.drop.drop.drop.hd rfl
      have t2 := cell_of_heap (i := 2) HK.out.drop.drop.drop.drop.hd rfl
      obtain ⟨c2, hc2⟩ : ∃ x, V.heap.size = x := ⟨_, rfl⟩
      have HC2 : Hid (V.heap.size = c2) := Lib.hid hc2
      clear hc2
      refine wp_region_invT 6 [[], [], [1], [0, 2], [], [4]] [some 27, some 28, some 29, some 30, some 31, some 32] [kM0 c2 62 3, kM (.pointer (some ⟨x1, 0, none⟩)), kM (.slice sa s.nt sc), kMr c2 62 3 s.nt (tableL s.nt 3 (tcell s)), kM (.agg #[.int .i64 mk, .int .i64 mw, .int .i64 mg]), kM1 3 (fun _ j => if j = 0 then .int .i64 mk else if j = 1 then .int .i64 mw else .int .i64 mg)] [kMT, kMT, kMT, kMT, kMT, kMT] (fun _ _ _ _ => True) (by kernel_rfl) (by kernel_rfl) (by decide) (by simp) (by simp) (fun r hr => by simp only [List.mem_cons, List.not_mem_nil, or_false] at hr; rcases hr with rfl | rfl | rfl | rfl | rfl | rfl <;> first | exact st_kM0 _ _ _ | exact st_kM _ | exact st_kMr _ _ _ _ _ | exact st_kM1 _ _) (fun _ _ _ _ _ _ _ _ _ _ => ⟨trivial, trivial⟩) ?_ ?_
      · simp only [List.take_succ_cons, List.take_zero, zipT, oblT, depQ, List.getD_cons_zero, List.getD_cons_succ, and_true]
        refine ⟨?_, ?_, ?_, ?_, ?_, ?_⟩
        · intro K nc xc hK
          go_simp
          exact ⟨by (repeat (first | exact World.grows.refl _ | assumption | refine World.grows.alloc ?_ _ | refine World.grows.plus ?_ _ _ | refine World.grows.drew ?_)), hK _ _ ⟨_, rfl, ownsRow_empty (World.heap_at _ _ _ (by simp)) rfl (by rw [← HC2.out]; simp)⟩ trivial⟩
        · intro K nc xc hK
          go_simp
          exact ⟨by (repeat (first | exact World.grows.refl _ | assumption | refine World.grows.alloc ?_ _ | refine World.grows.plus ?_ _ _ | refine World.grows.drew ?_)), hK _ _ rfl trivial⟩
        · intro K nc xc hK v0 h0
          obtain rfl : v0 = _ := h0
          go_simp
          exact ⟨by (repeat (first | exact World.grows.refl _ | assumption | refine World.grows.alloc ?_ _ | refine World.grows.plus ?_ _ _ | refine World.grows.drew ?_)), hK _ _ rfl trivial⟩
        · intro K nc xc hK v0 h0 v2 h2
          obtain ⟨b0, rfl, h0o⟩ := h0
          obtain rfl : v2 = _ := h2
          exact goes_append_empty (.tmp 27) (.tmp 29) 22 rfl c2 62 (.agg #[.int .i64 0, .int .i64 0, .int .i64 0]) 3 24 Try.underlying22 el62 (by rfl) (by omega) _ (by simp [go_sem]) h0o (by rw [← HC2.out]; simp) _ (by simp [go_sem]) s.nt _ (SliceAt.src (by omega) (HTh.out.mono (HK.out.g.trans (World.grows_plus _ _ _)))) (by unfold maxLen; omega) (by omega) fun v' w' h1 _ => hK _ _ h1 trivial
        · intro K nc xc hK
          go_simp
          exact ⟨by (repeat (first | exact World.grows.refl _ | assumption | refine World.grows.alloc ?_ _ | refine World.grows.plus ?_ _ _ | refine World.grows.drew ?_)), hK _ _ rfl trivial⟩
        · intro K nc xc hK v0 h0
          obtain rfl : v0 = _ := h0
          go_simp
          exact ⟨by (repeat (first | exact World.grows.refl _ | assumption | refine World.grows.alloc ?_ _ | refine World.grows.plus ?_ _ _ | refine World.grows.drew ?_)), hK _ _ (one_thing _ _ _ _ _ _ (by simp)) trivial⟩
      · intro val nc xc hv hd
        obtain ⟨b0, e0, -⟩ := hv 0 (by omega)
        have e1 : val 1 = .pointer (some ⟨x1, 0, none⟩) := hv 1 (by omega)
        have e2 : val 2 = .slice sa s.nt sc := hv 2 (by omega)
        have h3 : (V.plus nc xc).ownsRow c2 62 3 (val 3) s.nt (tableL s.nt 3 (tcell s)) := hv 3 (by omega)
        have e4 : val 4 = .agg #[.int .i64 mk, .int .i64 mw, .int .i64 mg] := hv 4 (by omega)
        have h5 : SliceAt (V.plus nc xc) (val 5) 1 3 (fun _ j => if j = 0 then .int .i64 mk else if j = 1 then .int .i64 mw else .int .i64 mg) := hv 5 (by omega)
        obtain ⟨v3, e3⟩ : ∃ x, val 3 = x := ⟨_, rfl⟩
        obtain ⟨v5, e5⟩ : ∃ x, val 5 = x := ⟨_, rfl⟩
        rw [e3] at h3
        rw [e5] at h5
        have gN := World.grows_plus V nc xc
        have hb1c : b1 < c2 := by rw [← HC2.out]; exact World.lt_of_block HK.out.hd
        have hb2c : b2 < c2 := by rw [← HC2.out]; exact World.lt_of_block HK.out.drop.hd
        have hb3c : b3 < c2 := by rw [← HC2.out]; exact World.lt_of_block HK.out.drop.drop.hd
        clear hv hd q0 t0 t1 t2
        generalize V.plus nc xc = V6 at h3 h5 gN ⊢
        rw [show List.range 6 = [0, 1, 2, 3, 4, 5] from rfl]
        simp only [putL, List.getD_cons_zero, List.getD_cons_succ, e0, e1, e2, e3, e4, e5, List.drop_succ_cons, List.drop_zero]
        clear e0 e1 e2 e3 e4 e5
        refine wpList_append_r _ rfl (.tmp 30) (.tmp 32) 22 (by rfl) c2 62 (.agg #[.int .i64 0, .int .i64 0, .int .i64 0]) 3 24 Try.underlying22 el62 (by rfl) (by omega) v3 s.nt _ (by simp [go_sem]) h3 v5 (by simp [go_sem]) 1 _ (SliceAt.src (by omega) h5) (one_thing_cells _ _ _) (by unfold maxLen; omega) (by omega) (by rw [← HC2.out]; exact gN.size) ?_
        intro v7 V7 hown hgb
        have gV7 : V.grows V7 := hgb.grows h3 gN (by rw [HC2.out]; exact Nat.le_refl _)
        obtain ⟨a7, c7, rfl, -, -⟩ := row_form hown
        rw [tcells_more] at hown
        replace HK := Lib.hid (HK.out.mono gV7)
        have y1 : V7.cell? ⟨b1, 0, none⟩ = some (.slice sa s.nt sc) := cell_of_heap HK.out.hd rfl
        have yf := frozen_of_heap HK.out.hd 0
        have K8 : Hid (KpS w [(b1, Obj.cells #[.slice a7 (s.nt + 1) c7, .slice va s.nm vc, .int .i64 s.wide] 25), (b2, Obj.cells #[.slice sa s.nt sc, .slice va s.nm vc, .int .i64 s.wide] 25), (b3, Obj.cells #[.slice sa s.nt sc, .slice va s.nm vc, .int .i64 s.wide] 25), (x1 + 1 + 1, Obj.cells #[.int .i64 ma, .int .i64 mb] 63), (x1 + 1, Obj.cells #[.int .i64 mk, .int .i64 mw, .int .i64 mg] 62), (x1, Obj.cells #[.slice sa s.nt sc, .slice va s.nm vc, .int .i64 s.wide] 25)] (V7.setCell ⟨b1, 0, none⟩ (.slice a7 (s.nt + 1) c7))) := Lib.hid (HK.out.setAt (by omega) HK.out.hd (by
          intro y hy
          simp only [List.mem_cons, List.not_mem_nil, or_false] at hy
          rcases hy with rfl | rfl | rfl | rfl | rfl | rfl
          · exact .inl rfl
          all_goals exact .inr ⟨by simp, by dsimp only; omega⟩))
        have O8 : Hid ((V7.setCell ⟨b1, 0, none⟩ (.slice a7 (s.nt + 1) c7)).ownsRow c2 62 3 (.slice a7 (s.nt + 1) c7) (s.nt + 1) (tableL (s.nt + 1) 3 (tcell (s.oneMore mk mw mg)))) := Lib.hid (hown.set (p := ⟨b1, 0, none⟩) hb1c _)
        clear HK gN h3 h5 hown hgb gV7
        generalize hV8 : V7.setCell ⟨b1, 0, none⟩ (.slice a7 (s.nt + 1) c7) = V8 at K8 O8
        go_upto_region 5 with fail
        clear hV8 y1 yf
        obtain ⟨w1, w1b, w2, w2b⟩ := wr_more HOk.out.wide hZ
        have y1 : V8.cell? ⟨b2, 2, none⟩ = some (.int .i64 s.wide) := cell_of_heap K8.out.drop.hd rfl
        have yf := frozen_of_heap K8.out.drop.hd 2
        have K9 : Hid (KpS w [(b1, Obj.cells #[.slice a7 (s.nt + 1) c7, .slice va s.nm vc, .int .i64 s.wide] 25), (b2, Obj.cells #[.slice sa s.nt sc, .slice va s.nm vc, .int .i64 (s.wide + (Z : Int))] 25), (b3, Obj.cells #[.slice sa s.nt sc, .slice va s.nm vc, .int .i64 s.wide] 25), (x1 + 1 + 1, Obj.cells #[.int .i64 ma, .int .i64 mb] 63), (x1 + 1, Obj.cells #[.int .i64 mk, .int .i64 mw, .int .i64 mg] 62), (x1, Obj.cells #[.slice sa s.nt sc, .slice va s.nm vc, .int .i64 s.wide] 25)] (V8.setCell ⟨b2, 2, none⟩ (.int .i64 (s.wide + (Z : Int))))) := Lib.hid (K8.out.setAt (by omega) K8.out.drop.hd (by
          intro y hy
          simp only [List.mem_cons, List.not_mem_nil, or_false] at hy
          rcases hy with rfl | rfl | rfl | rfl | rfl | rfl
          rotate_left
          · exact .inl rfl
          all_goals exact .inr ⟨by simp, by dsimp only; omega⟩))
        have O9 : Hid ((V8.setCell ⟨b2, 2, none⟩ (.int .i64 (s.wide + (Z : Int)))).ownsRow c2 62 3 (.slice a7 (s.nt + 1) c7) (s.nt + 1) (tableL (s.nt + 1) 3 (tcell (s.oneMore mk mw mg)))) := Lib.hid (O8.out.set (p := ⟨b2, 2, none⟩) hb2c _)
        clear K8 O8
        generalize hV9 : V8.setCell ⟨b2, 2, none⟩ (.int .i64 (s.wide + (Z : Int))) = V9 at K9 O9
        go_upto_region 6 with fail
        clear hV9 y1 yf w1 w1b w2 w2b
        have q1 := cell_of_heap (i := 1) K9.out.drop.drop.drop.drop.drop.hd rfl
        have t0 := cell_of_heap (i := 0) K9.out.drop.drop.drop.hd rfl
        have t1 := cell_of_heap (i := 1) K9.out.drop.drop.drop.hd rfl
        obtain ⟨c3, hc3⟩ : ∃ x, V9.heap.size = x := ⟨_, rfl⟩
        have HC3 : Hid (V9.heap.size = c3) := Lib.hid hc3
        clear hc3
        refine wp_region_invT 6 [[], [], [1], [0, 2], [], [4]] [some 41, some 42, some 43, some 44, some 45, some 46] [kM0 c3 63 2, kM (.pointer (some ⟨x1, 1, none⟩)), kM (.slice va s.nm vc), kMr c3 63 2 s.nm (tableL s.nm 2 (mcell s)), kM (.agg #[.int .i64 ma, .int .i64 mb]), kM1 2 (fun _ j => if j = 0 then .int .i64 ma else .int .i64 mb)] [kMT, kMT, kMT, kMT, kMT, kMT] (fun _ _ _ _ => True) (by kernel_rfl) (by kernel_rfl) (by decide) (by simp) (by simp) (fun r hr => by simp only [List.mem_cons, List.not_mem_nil, or_false] at hr; rcases hr with rfl | rfl | rfl | rfl | rfl | rfl <;> first | exact st_kM0 _ _ _ | exact st_kM _ | exact st_kMr _ _ _ _ _ | exact st_kM1 _ _) (fun _ _ _ _ _ _ _ _ _ _ => ⟨trivial, trivial⟩) ?_ ?_
        · simp only [List.take_succ_cons, List.take_zero, zipT, oblT, depQ, List.getD_cons_zero, List.getD_cons_succ, and_true]
          refine ⟨?_, ?_, ?_, ?_, ?_, ?_⟩
          · intro K nc xc hK
            go_simp
            exact ⟨by (repeat (first | exact World.grows.refl _ | assumption | refine World.grows.alloc ?_ _ | refine World.grows.plus ?_ _ _ | refine World.grows.drew ?_)), hK _ _ ⟨_, rfl, ownsRow_empty (World.heap_at _ _ _ (by simp)) rfl (by rw [← HC3.out]; simp)⟩ trivial⟩
          · intro K nc xc hK
            go_simp
            exact ⟨by (repeat (first | exact World.grows.refl _ | assumption | refine World.grows.alloc ?_ _ | refine World.grows.plus ?_ _ _ | refine World.grows.drew ?_)), hK _ _ rfl trivial⟩
          · intro K nc xc hK v0 h0
            obtain rfl : v0 = _ := h0
            go_simp
            exact ⟨by (repeat (first | exact World.grows.refl _ | assumption | refine World.grows.alloc ?_ _ | refine World.grows.plus ?_ _ _ | refine World.grows.drew ?_)), hK _ _ rfl trivial⟩
          · intro K nc xc hK v0 h0 v2 h2
            obtain ⟨b0, rfl, h0o⟩ := h0
            obtain rfl : v2 = _ := h2
            exact goes_append_empty (.tmp 41) (.tmp 43) 23 rfl c3 63 (.agg #[.int .i64 0, .int .i64 0]) 2 16 Try.underlying23 el63 (by rfl) (by omega) _ (by simp [go_sem]) h0o (by rw [← HC3.out]; simp) _ (by simp [go_sem]) s.nm _ (SliceAt.src (by omega) (HMt.out.mono (K9.out.g.trans (World.grows_plus _ _ _)))) (by unfold maxLen; omega) (by omega) fun v' w' h1 _ => hK _ _ h1 trivial
          · intro K nc xc hK
            go_simp
            exact ⟨by (repeat (first | exact World.grows.refl _ | assumption | refine World.grows.alloc ?_ _ | refine World.grows.plus ?_ _ _ | refine World.grows.drew ?_)), hK _ _ rfl trivial⟩
          · intro K nc xc hK v0 h0
            obtain rfl : v0 = _ := h0
            go_simp
            exact ⟨by (repeat (first | exact World.grows.refl _ | assumption | refine World.grows.alloc ?_ _ | refine World.grows.plus ?_ _ _ | refine World.grows.drew ?_)), hK _ _ (one_mate _ _ _ _ _ (by simp)) trivial⟩
        · intro val nc xc hv hd
          obtain ⟨b5, e0, -⟩ := hv 0 (by omega)
          have e1 : val 1 = .pointer (some ⟨x1, 1, none⟩) := hv 1 (by omega)
          have e2 : val 2 = .slice va s.nm vc := hv 2 (by omega)
          have h3 : (V9.plus nc xc).ownsRow c3 63 2 (val 3) s.nm (tableL s.nm 2 (mcell s)) := hv 3 (by omega)
          have e4 : val 4 = .agg #[.int .i64 ma, .int .i64 mb] := hv 4 (by omega)
          have h5 : SliceAt (V9.plus nc xc) (val 5) 1 2 (fun _ j => if j = 0 then .int .i64 ma else .int .i64 mb) := hv 5 (by omega)
          obtain ⟨v8, e3⟩ : ∃ x, val 3 = x := ⟨_, rfl⟩
          obtain ⟨v9, e5⟩ : ∃ x, val 5 = x := ⟨_, rfl⟩
          rw [e3] at h3
          rw [e5] at h5
          have gN := World.grows_plus V9 nc xc
          have hb1d : b1 < c3 := by rw [← HC3.out]; exact World.lt_of_block K9.out.hd
          have hb2d : b2 < c3 := by rw [← HC3.out]; exact World.lt_of_block K9.out.drop.hd
          have hb3d : b3 < c3 := by rw [← HC3.out]; exact World.lt_of_block K9.out.drop.drop.hd
          clear hv hd q1 t0 t1
          generalize V9.plus nc xc = V10 at h3 h5 gN ⊢
          rw [show List.range 6 = [0, 1, 2, 3, 4, 5] from rfl]
          simp only [putL, List.getD_cons_zero, List.getD_cons_succ, e0, e1, e2, e3, e4, e5, List.drop_succ_cons, List.drop_zero]
          clear e0 e1 e2 e3 e4 e5
          refine wpList_append_r _ rfl (.tmp 44) (.tmp 46) 23 (by rfl) c3 63 (.agg #[.int .i64 0, .int .i64 0]) 2 16 Try.underlying23 el63 (by rfl) (by omega) v8 s.nm _ (by simp [go_sem]) h3 v9 (by simp [go_sem]) 1 _ (SliceAt.src (by omega) h5) (one_mate_cells _ _) (by unfold maxLen; omega) (by omega) (by rw [← HC3.out]; exact gN.size) ?_
          intro v11 V11 hown hgb
          have gV11 : V9.grows V11 := hgb.grows h3 gN (by rw [HC3.out]; exact Nat.le_refl _)
          obtain ⟨a8, c8, rfl, -, -⟩ := row_form hown
          rw [mcells_more] at hown
          replace K9 := Lib.hid (K9.out.mono gV11)
          have y1 : V11.cell? ⟨b3, 1, none⟩ = some (.slice va s.nm vc) := cell_of_heap K9.out.drop.drop.hd rfl
          have yf := frozen_of_heap K9.out.drop.drop.hd 1
          have K12 : Hid (KpS w [(b1, Obj.cells #[.slice a7 (s.nt + 1) c7, .slice va s.nm vc, .int .i64 s.wide] 25), (b2, Obj.cells #[.slice sa s.nt sc, .slice va s.nm vc, .int .i64 (s.wide + (Z : Int))] 25), (b3, Obj.cells #[.slice sa s.nt sc, .slice a8 (s.nm + 1) c8, .int .i64 s.wide] 25), (x1 + 1 + 1, Obj.cells #[.int .i64 ma, .int .i64 mb] 63), (x1 + 1, Obj.cells #[.int .i64 mk, .int .i64 mw, .int .i64 mg] 62), (x1, Obj.cells #[.slice sa s.nt sc, .slice va s.nm vc, .int .i64 s.wide] 25)] (V11.setCell ⟨b3, 1, none⟩ (.slice a8 (s.nm + 1) c8))) := Lib.hid (K9.out.setAt (by omega) K9.out.drop.drop.hd (by
            intro y hy
            simp only [List.mem_cons, List.not_mem_nil, or_false] at hy
            rcases hy with rfl | rfl | rfl | rfl | rfl | rfl
            rotate_left 2
            · exact .inl rfl
            all_goals exact .inr ⟨by simp, by dsimp only; omega⟩))
          have S12 : Hid (SliceAt (V11.setCell ⟨b3, 1, none⟩ (.slice a8 (s.nm + 1) c8)) (.slice a8 (s.nm + 1) c8) (s.nm + 1) 2 (mcell (s.mateMore ma mb))) := Lib.hid ((hown.set (p := ⟨b3, 1, none⟩) hb3d _).sliceAt fun i j hi hj => tableL_get _ hi hj)
          have O12 : Hid (SliceAt (V11.setCell ⟨b3, 1, none⟩ (.slice a8 (s.nm + 1) c8)) (.slice a7 (s.nt + 1) c7) (s.nt + 1) 3 (tcell (s.oneMore mk mw mg))) := Lib.hid (((O9.out.grow gV11).set (p := ⟨b3, 1, none⟩) hb3c _).sliceAt fun i j hi hj => tableL_get _ hi hj)
          clear K9 O9 gN h3 h5 hown hgb gV11
          generalize hV12 : V11.setCell ⟨b3, 1, none⟩ (.slice a8 (s.nm + 1) c8) = V12 at K12 S12 O12
          go_upto_region 7 with fail
          clear hV12 y1 yf
          obtain ⟨NU, hNU⟩ : ∃ x, nu s.adj (belowN s.nt) 16 = x := ⟨_, rfl⟩
          have HNU := Lib.hid hNU
          clear hNU
          have q0 := cell_of_heap (i := 0) K12.out.drop.drop.drop.drop.drop.hd rfl
          have q1 := cell_of_heap (i := 1) K12.out.drop.drop.drop.drop.drop.hd rfl
          have q2 := cell_of_heap (i := 2) K12.out.drop.drop.drop.drop.drop.hd rfl
          go_wp2_with (go_at_call 99; fail)
          refine (v_best (HT.out.mono K12.out.g) HOk.out HNU.out).mono ?_
          rintro e V13 ⟨a5, c5, m5, rfl, -, -, g⟩
          replace K12 := Lib.hid (K12.out.mono g)
          replace S12 := Lib.hid (SliceAt.mono S12.out g)
          replace O12 := Lib.hid (SliceAt.mono O12.out g)
          clear g q0 q1 q2
          have x0 := cell_of_heap (i := 0) K12.out.hd rfl
          have x1' := cell_of_heap (i := 1) K12.out.hd rfl
          have x2 := cell_of_heap (i := 2) K12.out.hd rfl
          have y0 := cell_of_heap (i := 0) K12.out.drop.hd rfl
          have y1 := cell_of_heap (i := 1) K12.out.drop.hd rfl
          have y2 := cell_of_heap (i := 2) K12.out.drop.hd rfl
          have z0 := cell_of_heap (i := 0) K12.out.drop.drop.hd rfl
          have z1 := cell_of_heap (i := 1) K12.out.drop.drop.hd rfl
          have z2 := cell_of_heap (i := 2) K12.out.drop.drop.hd rfl
          go_wp2
          obtain ⟨c4, hc4⟩ : ∃ x, V13.heap.size = x := ⟨_, rfl⟩
          simp only [hc4]
          obtain ⟨V14, hV14⟩ : ∃ X, V13.alloc (.cells #[.slice a7 (s.nt + 1) c7, .slice va s.nm vc, .int .i64 s.wide, .slice sa s.nt sc, .slice va s.nm vc, .int .i64 (s.wide + (Z : Int)), .slice sa s.nt sc, .slice a8 (s.nm + 1) c8, .int .i64 s.wide] 25) = X := ⟨_, rfl⟩
          have g14 : V13.grows V14 := by rw [← hV14]; exact (World.grows.refl _).alloc _
          have H14 : Hid (V14.heap[c4]? = some (.cells #[.slice a7 (s.nt + 1) c7, .slice va s.nm vc, .int .i64 s.wide, .slice sa s.nt sc, .slice va s.nm vc, .int .i64 (s.wide + (Z : Int)), .slice sa s.nt sc, .slice a8 (s.nm + 1) c8, .int .i64 s.wide] 25)) := Lib.hid (by rw [← hV14]; exact World.heap_at _ _ _ hc4.symm)
          have GW : Hid (w.grows V14) := Lib.hid (K12.out.g.trans g14)
          have HX : Hid (∀ t, t < 3 → ∃ (A B : Option Addr) (n m cA cB : Nat) (wd : Int) (x : Stk), V14.cell? ⟨c4, t * 3, none⟩ = some (.slice A n cA) ∧ V14.cell? ⟨c4, t * 3 + 1, none⟩ = some (.slice B m cB) ∧ V14.cell? ⟨c4, t * 3 + 2, none⟩ = some (.int .i64 wd) ∧ StkAt V14 (.agg #[.slice A n cA, .slice B m cB, .int .i64 wd]) x ∧ (x.nt ≤ 16 → NU ≤ nu x.adj (belowN x.nt) 16 ∧ (t = 0 → nu x.adj (belowN x.nt) 16 ≤ NU + 1))) := Lib.hid fun t ht => by
            rcases (show t = 0 ∨ t = 1 ∨ t = 2 by omega) with rfl | rfl | rfl
            · refine ⟨_, _, _, _, _, _, _, s.oneMore mk mw mg, cell_of_heap H14.out rfl, cell_of_heap H14.out rfl, cell_of_heap H14.out rfl, ⟨_, _, rfl, SliceAt.mono O12.out g14, SliceAt.mono HMt.out GW.out⟩, fun h => ?_⟩
              have := more_nu (s := s) (k := mk) (w := mw) (g := mg) h
              rw [HNU.out] at this
              exact ⟨this.1, fun _ => this.2⟩
            · refine ⟨_, _, _, _, _, _, _, s.wider (Z : Int), cell_of_heap H14.out rfl, cell_of_heap H14.out rfl, cell_of_heap H14.out rfl, ⟨_, _, rfl, SliceAt.mono HTh.out GW.out, SliceAt.mono HMt.out GW.out⟩, fun h => ?_⟩
              have := wider_nu (s := s) h16 (d := (Z : Int)) (by omega)
              rw [HNU.out] at this
              exact ⟨this, fun h => absurd h (by decide)⟩
            · refine ⟨_, _, _, _, _, _, _, s.mateMore ma mb, cell_of_heap H14.out rfl, cell_of_heap H14.out rfl, cell_of_heap H14.out rfl, ⟨_, _, rfl, SliceAt.mono HTh.out GW.out, SliceAt.mono S12.out g14⟩, fun h => ?_⟩
              have := mate_nu (s := s) h16 (a := ma) (b := mb)
              rw [HNU.out] at this
              exact ⟨this, fun h => absurd h (by decide)⟩
          clear x0 x1' x2 y0 y1 y2 z0 z1 z2 K12 S12 O12 hc4 g14
          rw [hV14]
          clear hV14 H14 HTh HMt
          have hNU16 : NU ≤ 16 := by rw [← HNU.out]; have := nu_le s.adj_symm (below16 h16); omega
          go_loopw [16] (fun i16 wr => ∃ t : Nat, t ≤ 3 ∧ i16 = .int .i64 (t : Nat) ∧ Hid (V14.grows wr)) (fun i16 _ => 3 - (intOf i16).toNat)
          case atStart => exact ⟨0, by omega, rfl, Lib.hid (World.grows.refl _)⟩
          case round => as_aux_lemma =>
            obtain ⟨t, ht, rfl, HG⟩ := hrel
            by_cases hlt : t < 3
            · have hltI : (t : Int) < 3 := by omega
              obtain ⟨A, B, n, m, cA, cB, wd, x, d0, d1, d2, hX, hn⟩ := HX.out t hlt
              have HXt := Lib.hid (hX.mono HG.out)
              have HN := Lib.hid hn
              replace d0 := HG.out.cell_of d0
              replace d1 := HG.out.cell_of d1
              replace d2 := HG.out.cell_of d2
              clear hX hn
              go_wp2_with (go_at_call 99; fail)
              refine (fine_c _ _ x HXt.out).mono ?_
              rintro e V15 ⟨rfl, g⟩
              replace HG := Lib.hid (HG.out.trans g)
              replace HXt := Lib.hid (HXt.out.mono g)
              replace d0 := g.cell_of d0
              replace d1 := g.cell_of d1
              replace d2 := g.cell_of d2
              clear g
              by_cases hx : x.check = 0
              · rw [decide_eq_true hx]
                have hxo := (Stk.ok_iff x).1 hx
                have HXo := Lib.hid hxo
                obtain ⟨hn1, hn2⟩ := HN.out hxo.n16
                obtain ⟨NX, hNX⟩ : ∃ z, nu x.adj (belowN x.nt) 16 = z := ⟨_, rfl⟩
                have HNX := Lib.hid hNX
                rw [hNX] at hn1 hn2
                have b1' : ¬ (NX : Int) < NU := by omega
                have b2' : t = 0 → ¬ (NU : Int) + 1 < NX := fun h => by have := hn2 h; omega
                clear hx hxo hNX hn1 hn2
                go_wp2_with (go_at_call 99; fail)
                refine (v_best HXt.out HXo.out HNX.out).mono ?_
                rintro e V16 ⟨a6, c6, m6, rfl, -, -, g⟩
                replace HG := Lib.hid (HG.out.trans g)
                clear g d0 d1 d2 HXt HN
                by_cases h0 : t = 0
                · have m0 : ((t : Int) == 0) = true := by simp; omega
                  have b2'' := b2' h0
                  clear h0 b2'
                  go_wp2
                  case roundEnd => exact ⟨⟨t + 1, by omega, by go_num, HG⟩, by simp [intOf]; omega⟩
                · have m0 : ((t : Int) == 0) = false := by simp; omega
                  clear h0 b2'
                  go_wp2
                  case roundEnd => exact ⟨⟨t + 1, by omega, by go_num, HG⟩, by simp [intOf]; omega⟩
              · rw [decide_eq_false hx]
                clear hx
                go_wp2
                case roundEnd => exact ⟨⟨t + 1, by omega, by go_num, HG⟩, by simp [intOf]; omega⟩
            · have hltI : ¬ (t : Int) < 3 := by omega
              go_wp2_with (go_at_call 99; fail)
              refine (works_c _).mono ?_
              rintro e U9 ⟨rfl, g⟩
              replace HG := Lib.hid (HG.out.trans g)
              clear g
              go_wp2
              (refine bodyPost_ret (v := .bool true) (by simp [results, Try.results9, go_sem]) rfl ?_)
              exact ⟨rfl, GW.out.trans (HG.out.trans (by (repeat (first | exact World.grows.refl _ | assumption | refine World.grows.alloc ?_ _ | refine World.grows.plus ?_ _ _ | refine World.grows.drew ?_))))⟩
  · rw [decide_eq_false hc]
    clear hc
    go_wp2_with (go_at_call 99; fail); refine (works_c _).mono ?_; rintro e U9 ⟨rfl, g⟩; replace HK := Lib.hid (HK.out.mono (World.grows.trans (by (repeat (first | exact World.grows.refl _ | assumption | refine World.grows.alloc ?_ _ | refine World.grows.plus ?_ _ _ | refine World.grows.drew ?_))) g)); clear g; go_wp2; (refine bodyPost_ret (v := .bool true) (by simp [results, Try.results9, go_sem]) rfl ?_); exact ⟨rfl, HK.out.g.trans (by (repeat (first | exact World.grows.refl _ | assumption | refine World.grows.alloc ?_ _ | refine World.grows.plus ?_ _ _ | refine World.grows.drew ?_)))⟩
end Go.Proofs.Yteingahlmlndkaa

/-
  What is proved: the statement MatchMore, at every input.
-/
namespace Go.Proofs.Yteingahlmlndkaa
open Go.ChangeShapes Go.WideShapes Go.ChangeAt Go.RowKit

set_option maxRecDepth 100000 in
theorem matchMore_lifted (os : Os) (started : os.Started) (H : Type) (enc : TypeId × Value → H) :
    ReturnsInHanded {} Try.checked os 9 .any (Rows.matchMoreSpec.pre6 enc Try.prog Try.f9 Rows.matchMoreRow.domain false) (Rows.matchMoreSpec.post enc Try.prog Try.f9 false true false false) := by
  refine law_lifted (C := Try.checked) (tb := 4) started own_c laid_c (by kernel_rfl) Try.func9 (of_decide_eq_true (by kernel_rfl))
    (ChangeSpec.witness6 (enc := enc) (C := Try.checked) false ⟨#[], #[.agg #[.slice none 0 0, .slice none 0 0, .int .i64 0], .agg #[.int .i64 0, .int .i64 0, .int .i64 0], .int .u16 0, .agg #[.int .i64 0, .int .i64 0]], []⟩ 8 (by kernel_rfl) (by kernel_rfl) (by kernel_rfl) (by kernel_rfl))
    rfl Try.underlying4 rfl (fun ds hl => ?_) (fun W base args ds ps hval hA => ?_)
  · match ds, hl with
    | [d1, d2, d3, d4], _ => exact ⟨rfl, rfl, rfl⟩
  · have hA' : DataW.TrodAll enc Try.prog W 0 (fun _ => true) true Try.f9.params.toList args.toList ds ps := hA
    have hval' : ∀ (j : Nat) t v, Try.f9.params[j]? = some t → args[j]? = some v → Value.okWide Try.prog W .any base t v := hval
    rw [Try.params9] at hA' hval'
    obtain ⟨v1, v2, v3, v4, d1, d2, d3, d4, p1, p2, p3, p4, rfl, rfl, rfl, h1, h2, h3, h4⟩ := trodAll_four hA'
    obtain ⟨s1, hs1⟩ := stock_of (hval' 0 25 v1 rfl rfl) h1
    obtain ⟨a2, b2, c2, rfl⟩ := thing_of (hval' 1 62 v2 rfl rfl) h2
    obtain ⟨z3, rfl, -, -, hw3⟩ := open_int Try.underlying55 (hval' 2 55 v3 rfl rfl) h3; have hz3 := lit_u16 hw3
    obtain ⟨a4, b4, rfl⟩ := two_of (hval' 3 63 v4 rfl rfl) h4
    exact more_w W v1 s1 hs1 a2 b2 c2 z3 hz3 a4 b4

theorem matchMore_holds : Rows.MatchMoreSaid :=
  OpenClaim.holds_of_wide 9 Try.f9 rfl rfl rfl rfl rfl rfl rfl ⟨rfl, rfl, rfl, rfl, rfl⟩ rfl rfl rfl rfl rfl (by kernel_rfl) Try.func9 (by kernel_rfl)
    (of_decide_eq_true (by kernel_rfl)) (by unfold Func.isWrapper; first | (rw [if_pos (by decide +kernel)]; kernel_rfl) | (rw [if_neg (by decide +kernel)]; exact ⟨rfl, rfl⟩))
    (fun os started H enc _ => matchMore_lifted os started H enc)
end Go.Proofs.Yteingahlmlndkaa

