/-
  What is proved: the answers about a valid stock, in the words of the statements.
-/
import Derived.Test.YteingahlmlndkaaM16
import Derived.Test.YteingahlmlndkaaM13
import Derived.Test.YteingahlmlndkaaM15
import Derived.Test.YteingahlmlndkaaM12
set_option linter.all false
namespace Go.Proofs.Yteingahlmlndkaa
open Go.RowKit
attribute [local irreducible] Go.wpCalm rowV
section
variable {X : World} {tv : Value} {s : Stk}
/-- the list of all kinds -/
noncomputable def kindsF (s : Stk) (i : Nat) : Int := ((((List.range s.nt).map (kindN s.adj s.nt)).getD i 0 : Nat) : Int)
theorem v_kinds (h : StkAt X tv s) (hok : s.Ok) : Calls Try.prog 32 #[tv] X fun e w' => ∃ a c, e = .returned (.tuple #[.slice a s.nt c, .int .i64 0]) ∧ IntsAt w' (.slice a s.nt c) s.nt (kindsF s) ∧ X.grows w' := by
  refine (kinds_ok X tv s h hok).mono ?_
  rintro e w' ⟨u, rfl, hu, g⟩
  have hu2 : IntsAt w' u s.nt (kindsF s) := by
    have : ((List.range s.nt).map (kindN s.adj s.nt)).length = s.nt := by rw [List.length_map, List.length_range]
    unfold ListAt at hu
    rw [this] at hu
    exact hu
  obtain ⟨a, c, rfl, -⟩ := id hu2
  exact ⟨a, c, rfl, hu2, g⟩
theorem v_rcheck (h : StkAt X tv s) {C : Nat} (hC : s.check = C) : Calls Try.prog 24 #[tv] X fun e w' => e = .returned (.int .i64 (C : Nat)) ∧ X.grows w' := by
  have := rcheck_c X tv s h
  rw [hC] at this
  exact this
end
end Go.Proofs.Yteingahlmlndkaa

/-
  What is proved: all best pairings by the definition (31): rows in memory, and what is counted (plain).
-/
namespace Go.Proofs.Yteingahlmlndkaa
open Go.RowKit
/-- rows of n numbers that lie in these blocks -/
def OutI (n : Nat) (Q : List (Nat × Obj)) (vals : List Value) (rs : List (List Int)) : Prop := (∀ y ∈ Q, ∃ c, y.2 = .cells c 3) ∧ vals.length = rs.length ∧ ∀ (i : Nat) (x : Value), vals[i]? = some x → ∃ (A : Option Addr) (c : Nat) (r : List Int), x = .slice A n c ∧ rs[i]? = some r ∧ r.length = n ∧ ∀ U : World, (∀ y ∈ Q, U.heap[y.1]? = some y.2) → IntsAt U x n (lst r)
theorem OutI.nil (n : Nat) (Q : List (Nat × Obj)) (hQ : ∀ y ∈ Q, ∃ c, y.2 = .cells c 3) : OutI n Q [] [] := ⟨hQ, rfl, fun i x h => by simp at h⟩
theorem OutI.more {n : Nat} {Q : List (Nat × Obj)} {vals : List Value} {rs : List (List Int)} (h : OutI n Q vals rs) (b : Nat) (c : Array Value) : OutI n ((b, .cells c 3) :: Q) vals rs :=
  ⟨fun y hy => by rcases List.mem_cons.1 hy with rfl | hy; exact ⟨_, rfl⟩; exact h.1 y hy, h.2.1, fun i x hx => by
    obtain ⟨A, cp, r, h1, h2, h3, h4⟩ := h.2.2 i x hx
    exact ⟨A, cp, r, h1, h2, h3, fun U hU => h4 U fun y hy => hU y (List.mem_cons_of_mem _ hy)⟩⟩
/-- a row more -/
theorem OutI.snoc {n : Nat} {Q : List (Nat × Obj)} {vals : List Value} {rs : List (List Int)} (h : OutI n Q vals rs) {x : Value} {r : List Int} (hx : ∃ (A : Option Addr) (c : Nat), x = .slice A n c) (hr : r.length = n) (hU : ∀ U : World, (∀ y ∈ Q, U.heap[y.1]? = some y.2) → IntsAt U x n (lst r)) : OutI n Q (vals ++ [x]) (rs ++ [r]) := by
  refine ⟨h.1, by simp [h.2.1], fun i u hu => ?_⟩
  by_cases hi : i < vals.length
  · rw [List.getElem?_append_left hi] at hu
    obtain ⟨A, cp, r', h1, h2, h3, h4⟩ := h.2.2 i u hu
    exact ⟨A, cp, r', h1, by rw [List.getElem?_append_left (by rw [← h.2.1]; exact hi)]; exact h2, h3, h4⟩
  · have hi2 := (List.getElem?_eq_some_iff.1 hu).1
    rw [List.length_append] at hi2
    simp at hi2
    have : i = vals.length := by omega
    subst this
    rw [List.getElem?_append_right (by omega)] at hu
    simp at hu
    subst hu
    obtain ⟨A, c, rfl⟩ := hx
    exact ⟨A, c, r, rfl, by simp [h.2.1], hr, hU⟩
theorem OutI.row {n : Nat} {Q : List (Nat × Obj)} {vals : List Value} {rs : List (List Int)} (h : OutI n Q vals rs) {i : Nat} (hi : i < rs.length) : ∃ (A : Option Addr) (c : Nat) (r : List Int), vals[i]? = some (.slice A n c) ∧ rs[i]? = some r ∧ r.length = n ∧ ∀ U : World, (∀ y ∈ Q, U.heap[y.1]? = some y.2) → IntsAt U (.slice A n c) n (lst r) := by
  have hvl : i < vals.length := by rw [h.2.1]; exact hi
  have hv : vals[i]? = some vals[i] := List.getElem?_eq_getElem hvl
  obtain ⟨A, c, r, h1, h2, h3, h4⟩ := h.2.2 i _ hv
  rw [h1] at hv h4
  exact ⟨A, c, r, hv, h2, h3, h4⟩
/-- a block of numbers is a row -/
theorem row_block {U : World} {b n cap : Nat} {cur : Array Value} {r : List Int} (h : U.heap[b]? = some (.cells cur 3)) (h1 : n ≤ cap) (h2 : cap ≤ maxLen) (hr : r.length = n) (hc : ∀ i, i < n → cur[i]? = some (.int .i64 (lst r i))) : IntsAt U (.slice (some ⟨b, 0, none⟩) n cap) n (lst r) :=
  ⟨_, cap, rfl, h1, h2, fun i j hi hj => ⟨b, 0, rfl, cell_of_heap h (by rw [show 0 + i * 1 + j = i by omega]; exact hc i hi)⟩⟩
/-- pairs of a row -/
def prR (n : Nat) (r : List Int) : Nat := cntB (fun v => decide ((v : Int) < lst r v)) n
def mostR (n : Nat) : List (List Int) → Nat
  | [] => 0
  | r :: l => max (prR n r) (mostR n l)
theorem mostR_snoc (n : Nat) (l : List (List Int)) (r : List Int) : mostR n (l ++ [r]) = max (mostR n l) (prR n r) := by
  induction l with
  | nil => show max _ 0 = max 0 _; omega
  | cons x l ih =>
    show max _ (mostR n (l ++ [r])) = max (max _ _) _
    rw [ih]; omega
theorem mostR_le (n : Nat) : ∀ l : List (List Int), mostR n l ≤ n
  | [] => Nat.zero_le _
  | r :: l => by
    have h1 := mostR_le n l
    have h2 := cntB_le (fun v => decide ((v : Int) < lst r v)) n
    show max (prR n r) _ ≤ n
    unfold prR
    omega
/-- all best pairings, by the definition -/
def allB (A : Nat → Nat → Bool) (n : Nat) : List (List Int) := (allR A n n).filter fun r => decide (prR n r = mostR n (allR A n n))
theorem stepA_len (A : Nat → Nat → Bool) (n i : Nat) (p : List Int) : (stepA A n i p).length ≤ n + 1 := by
  unfold stepA
  split
  · simp
  · rw [List.length_cons, List.length_map]
    have := List.length_filter_le (fun k => decide (i < k) && (p.getD k 0 == -2 && A i k)) (List.range n)
    rw [List.length_range] at this
    omega
theorem flat_len {α β : Type} {f : α → List β} {B : Nat} (h : ∀ x, (f x).length ≤ B) : ∀ l : List α, (l.flatMap f).length ≤ l.length * B
  | [] => Nat.zero_le _
  | x :: l => by
    rw [List.flatMap_cons, List.length_append, List.length_cons, Nat.succ_mul]
    have := flat_len h l
    have := h x
    omega
theorem allR_bound (A : Nat → Nat → Bool) {n : Nat} (hn : n ≤ 8) : ∀ i, i ≤ n → (allR A n i).length ≤ 9 ^ i
  | 0, _ => by show 1 ≤ 1; omega
  | i + 1, h => by
    have h1 := allR_bound A hn i (by omega)
    have h2 := flat_len (f := stepA A n i) (B := n + 1) (fun p => stepA_len A n i p) (allR A n i)
    show ((allR A n i).flatMap (stepA A n i)).length ≤ 9 ^ (i + 1)
    rw [Nat.pow_succ]
    have h3 : (allR A n i).length * (n + 1) ≤ 9 ^ i * 9 := Nat.mul_le_mul h1 (by omega)
    omega
theorem allR_max (A : Nat → Nat → Bool) {n : Nat} (hn : n ≤ 8) (i : Nat) (hi : i ≤ n) : (allR A n i).length ≤ 43046721 := by
  have h1 := allR_bound A hn i hi
  have h2 : 9 ^ i ≤ 9 ^ 8 := Nat.pow_le_pow_right (by omega) (by omega)
  have h3 : (9 : Nat) ^ 8 = 43046721 := by decide
  omega
/-- what has been made of the row p when things below k have been tried -/
def partA' (A : Nat → Nat → Bool) (n i k : Nat) (p : List Int) : List (List Int) := p.set i (-1) :: ((List.range k).filter fun k => decide (i < k) && (p.getD k 0 == -2 && A i k)).map fun (k : Nat) => (p.set i (k : Int)).set k (i : Int)
theorem partA_start (A : Nat → Nat → Bool) (n i : Nat) (p : List Int) : partA' A n i (i + 1) p = [p.set i (-1)] := by
  unfold partA'
  rw [List.filter_eq_nil_iff.2 (fun k hk => by have := List.mem_range.1 hk; simp; omega)]
  rfl
theorem partA_succ (A : Nat → Nat → Bool) (n : Nat) {i k : Nat} (hik : i < k) (p : List Int) : partA' A n i (k + 1) p = if (p.getD k 0 == -2 && A i k) = true then partA' A n i k p ++ [(p.set i (k : Int)).set k (i : Int)] else partA' A n i k p := by
  unfold partA'
  rw [List.range_succ, List.filter_append, List.map_append]
  cases h : (p.getD k 0 == -2 && A i k) with
  | true =>
    rw [if_pos rfl]
    have : [k].filter (fun k => decide (i < k) && (p.getD k 0 == -2 && A i k)) = [k] := by rw [List.filter_cons, if_pos (by rw [h, decide_eq_true hik]; rfl)]; rfl
    rw [this]
    rfl
  | false =>
    rw [if_neg Bool.false_ne_true]
    have : [k].filter (fun k => decide (i < k) && (p.getD k 0 == -2 && A i k)) = [] := by rw [List.filter_cons, if_neg (by rw [h, Bool.and_false]; exact Bool.false_ne_true)]; rfl
    rw [this, List.map_nil, List.append_nil]
theorem partA_len (A : Nat → Nat → Bool) (n i k : Nat) (p : List Int) : (partA' A n i k p).length ≤ k + 1 := by
  unfold partA'
  rw [List.length_cons, List.length_map]
  have := List.length_filter_le (fun k => decide (i < k) && (p.getD k 0 == -2 && A i k)) (List.range k)
  rw [List.length_range] at this
  omega
theorem stepA_same (A : Nat → Nat → Bool) (n i : Nat) (p : List Int) (h : p.getD i 0 ≠ -2) : stepA A n i p = [p] := if_pos h
theorem stepA_part (A : Nat → Nat → Bool) (n i : Nat) (p : List Int) (h : p.getD i 0 = -2) : stepA A n i p = partA' A n i n p := if_neg (fun hn => hn h)
end Go.Proofs.Yteingahlmlndkaa

/-
  What is proved: all best pairings by the definition (31): what its loops keep.
-/
namespace Go.Proofs.Yteingahlmlndkaa
open Go.RowKit
attribute [local irreducible] Go.wpCalm rowV rowI
/-- the block that is appended to is not one of these -/
theorem KpS.app26 {w U U' : World} {n : Nat} {Q : List (Nat × Obj)} {x1 : Nat} {cs : Array Value} {vals : List Value} {rs : List (List Int)} {v : Value} {b0 : Nat} (h : KpS w ((x1, .cells cs 25) :: Q) U) (hO : OutI n Q vals rs) (hg : U.grownBy U' (vblk v)) (hk : ∀ (k : Nat) (o : Obj), U.heap[k]? = some o → (∀ c fr, o ≠ Obj.cells c 26 fr) → U'.heap[k]? = some o) (hb : ∀ b, vblk v = some b → b0 ≤ b) (hw : w.heap.size ≤ b0) : KpS w ((x1, .cells cs 25) :: Q) U' :=
  h.appE (e := 26) hg hk (fun b e => Nat.le_trans hw (hb b e)) (fun y hy => .inl (by
    rcases List.mem_cons.1 hy with rfl | hy
    · exact fun c fr e => by cases e
    · obtain ⟨c9, he9⟩ := hO.1 y hy
      rw [he9]
      exact fun c fr e => by cases e))
/-- what a copy of a row holds -/
theorem copy_cells {xs : Array Value} {n : Nat} {r : List Int} (h : xs.toList.take (n * 1) = tableL n 1 (fun i _ => .int .i64 (lst r i))) {i : Nat} (hi : i < n) : xs[i]? = some (.int .i64 (lst r i)) := by
  have h1 := tableL_get (m := n) (sz := 1) (fun i _ => Value.int .i64 (lst r i)) (i := i) (j := 0) hi (by omega)
  rw [show i * 1 + 0 = i by omega, ← h, List.getElem?_take, if_pos (by omega)] at h1
  rw [← Array.getElem?_toList]
  exact h1
theorem lst_set {r : List Int} {n i : Nat} (hr : r.length = n) (hi : i < n) (x : Int) (j : Nat) : lst (r.set i x) j = if j = i then x else lst r j := by
  unfold lst
  rw [List.getD_eq_getElem?_getD, List.getElem?_set, List.getD_eq_getElem?_getD]
  by_cases e : i = j
  · subst e
    rw [if_pos rfl, if_pos (by omega), if_pos rfl]
    rfl
  · rw [if_neg e, if_neg (fun h => e h.symm)]
theorem put_cells {xs : Array Value} {r : List Int} {n i : Nat} (hr : r.length = n) (hi : i < n) (hx : ∀ j, j < n → xs[j]? = some (.int .i64 (lst r j))) (x : Int) : ∀ j, j < n → (xs.setIfInBounds i (.int .i64 x))[j]? = some (.int .i64 (lst (r.set i x) j)) := fun j hj => by
  rw [lst_set hr hi, Array.getElem?_setIfInBounds]
  by_cases e : i = j
  · subst e
    have h1 := hx i hi
    have h2 : i < xs.size := (Array.getElem?_eq_some_iff.1 h1).1
    rw [if_pos rfl, if_pos h2, if_pos rfl]
  · rw [if_neg e, if_neg (fun h => e h.symm)]
    exact hx j hj
/-- the row that is filled at first -/
theorem OutI.first {U : World} {base n : Nat} {rv : Value} (hq : QAt U base 3 rv (List.replicate n (.int .i64 (-2)))) : ∃ Q, OutI n Q [rv] [List.replicate n (-2)] ∧ ∀ y ∈ Q, U.heap[y.1]? = some y.2 := by
  obtain ⟨A, cap, rfl, h1, h2, -, h4⟩ := hq
  rw [List.length_replicate] at h1 ⊢
  by_cases hn : n = 0
  · subst hn
    refine ⟨[], ⟨fun y hy => absurd hy List.not_mem_nil, rfl, fun i x hx => ?_⟩, fun y hy => absurd hy List.not_mem_nil⟩
    have hi := (List.getElem?_eq_some_iff.1 hx).1
    have : i = 0 := by simpa using hi
    subst this
    cases hx
    exact ⟨A, cap, [], rfl, rfl, rfl, fun U _ => ⟨A, cap, rfl, Nat.zero_le _, h2, fun i j hi => by omega⟩⟩
  · obtain ⟨b, o, cur, rfl, -, h5, -, h6⟩ := h4 (by omega)
    refine ⟨[(b, .cells cur 3)], ⟨fun y hy => by rw [List.mem_singleton] at hy; subst hy; exact ⟨_, rfl⟩, rfl, fun i x hx => ?_⟩, fun y hy => by rw [List.mem_singleton] at hy; subst hy; exact h5⟩
    have hi := (List.getElem?_eq_some_iff.1 hx).1
    have : i = 0 := by simpa using hi
    subst this
    cases hx
    refine ⟨_, cap, List.replicate n (-2), rfl, rfl, List.length_replicate, fun U hU => ?_⟩
    have hb := hU _ (List.mem_singleton.2 rfl)
    refine ⟨_, cap, rfl, h1, h2, fun i j hi hj => ⟨b, o, rfl, cell_of_heap hb ?_⟩⟩
    have := h6 i (.int .i64 (-2)) (by rw [List.getElem?_replicate, if_pos hi])
    rw [show o + i * 1 + j = o + i by omega, this]
    show _ = some (Value.int .i64 ((List.replicate n (-2)).getD i 0))
    rw [List.getD_eq_getElem?_getD, List.getElem?_replicate, if_pos hi]
    rfl
/-- the rows of a round (ov), and those of the next one (v7) -/
structure AllS (w U : World) (n x1 : Nat) (cs : Array Value) (B0 c1 : Nat) (ov : Value) (vals : List Value) (rs : List (List Int)) (Q : List (Nat × Obj)) (v7 : Value) (vals2 : List Value) (rs2 : List (List Int)) : Prop where
  o1 : OutI n Q vals rs
  o2 : OutI n Q vals2 rs2
  q1 : QAt U B0 26 ov vals
  q2 : QAt U c1 26 v7 vals2
  hc : c1 ≤ U.heap.size
  hov : ∀ b, vblk ov = some b → b < c1
  hw : w.heap.size ≤ c1
  kp : KpS w ((x1, .cells cs 25) :: Q) U
section
variable {w U : World} {n x1 : Nat} {cs : Array Value} {B0 c1 : Nat} {ov : Value} {vals : List Value} {rs : List (List Int)} {Q : List (Nat × Obj)} {v7 : Value} {vals2 : List Value} {rs2 : List (List Int)}
theorem AllS.mono (h : AllS w U n x1 cs B0 c1 ov vals rs Q v7 vals2 rs2) {U' : World} (g : U.grows U') : AllS w U' n x1 cs B0 c1 ov vals rs Q v7 vals2 rs2 :=
  ⟨h.o1, h.o2, h.q1.mono g, h.q2.mono g, Nat.le_trans h.hc g.size, h.hov, h.hw, h.kp.mono g⟩
theorem AllS.blk (h : AllS w U n x1 cs B0 c1 ov vals rs Q v7 vals2 rs2) {b : Nat} {cur : Array Value} (hb : U.heap[b]? = some (.cells cur 3)) : AllS w U n x1 cs B0 c1 ov vals rs ((b, .cells cur 3) :: Q) v7 vals2 rs2 :=
  ⟨h.o1.more b cur, h.o2.more b cur, h.q1, h.q2, h.hc, h.hov, h.hw, (KpS.add h.kp.drop hb).add h.kp.hd⟩
theorem AllS.app (h : AllS w U n x1 cs B0 c1 ov vals rs Q v7 vals2 rs2) {V : World} {v' x : Value} {r : List Int} (hq : QAt V c1 26 v' (vals2 ++ [x])) (hg : U.grownBy V (vblk v7)) (hk : ∀ (k : Nat) (o : Obj), U.heap[k]? = some o → (∀ c fr, o ≠ Obj.cells c 26 fr) → V.heap[k]? = some o) (hx : ∃ (A : Option Addr) (c : Nat), x = .slice A n c) (hr : r.length = n) (hU : ∀ U : World, (∀ y ∈ Q, U.heap[y.1]? = some y.2) → IntsAt U x n (lst r)) : AllS w V n x1 cs B0 c1 ov vals rs Q v' (vals2 ++ [x]) (rs2 ++ [r]) :=
  ⟨h.o1, h.o2.snoc hx hr hU, h.q1.keep hg.size fun b hb hlt => hg.block b hlt (fun e => by have h1 := (h.q2.blk e.symm).1; have h2 := h.hov b hb; omega), hq, Nat.le_trans h.hc hg.size, h.hov, h.hw, h.kp.app26 h.o1 hg hk (fun b e => (h.q2.blk e).1) h.hw⟩
theorem AllS.cells (h : AllS w U n x1 cs B0 c1 ov vals rs Q v7 vals2 rs2) {ob oo m oc p : Nat} (ho : ov = .slice (some ⟨ob, oo, none⟩) m oc) {rb ro rc : Nat} {r : List Int} (hv : vals[p]? = some (.slice (some ⟨rb, ro, none⟩) n rc)) (hr : rs[p]? = some r) : U.cell? ⟨ob, oo + p, none⟩ = some (.slice (some ⟨rb, ro, none⟩) n rc) ∧ (∀ j, j < n → U.cell? ⟨rb, ro + j, none⟩ = some (.int .i64 (lst r j))) ∧ IntsAt U (.slice (some ⟨rb, ro, none⟩) n rc) n (lst r) := by
  subst ho
  obtain ⟨b9, o9, e9, h9⟩ := h.q1.get hv
  cases e9
  obtain ⟨A8, c8, r8, e8, hr8, -, hU⟩ := h.o1.2.2 p _ hv
  rw [hr] at hr8
  cases hr8
  have hI := hU U (fun y hy => h.kp.at_ y (List.mem_cons_of_mem _ hy))
  refine ⟨h9, fun j hj => ?_, hI⟩
  obtain ⟨A7, c7, e7, -, -, hc⟩ := hI
  cases e7
  obtain ⟨b6, o6, e6, c6⟩ := hc j 0 hj (by omega)
  cases e6
  simpa only [Nat.mul_one, Nat.add_zero] using c6
/-- the row p, as it lies -/
theorem AllS.row (h : AllS w U n x1 cs B0 c1 ov vals rs Q v7 vals2 rs2) {p : Nat} (hp : p < vals.length) (hn : 0 < n) : ∃ ob oo oc rb ro rc r, ov = .slice (some ⟨ob, oo, none⟩) vals.length oc ∧ vals[p]? = some (.slice (some ⟨rb, ro, none⟩) n rc) ∧ rs[p]? = some r ∧ r.length = n ∧ n ≤ rc ∧ rc ≤ maxLen ∧ vals.length ≤ oc ∧ oc ≤ maxLen ∧ ∀ U : World, (∀ y ∈ Q, U.heap[y.1]? = some y.2) → IntsAt U (.slice (some ⟨rb, ro, none⟩) n rc) n (lst r) := by
  obtain ⟨A8, c8, r, hv, hr, hrl, hU⟩ := h.o1.row (i := p) (by rw [← h.o1.2.1]; exact hp)
  obtain ⟨A, oc, he, ho1, ho2⟩ := h.q1.form
  subst he
  obtain ⟨ob, oo, rfl, -⟩ := h.q1.get hv
  obtain ⟨A7, c7, e7, hc1, hc2, hc⟩ := hU U (fun y hy => h.kp.at_ y (List.mem_cons_of_mem _ hy))
  cases e7
  obtain ⟨rb, ro, rfl, -⟩ := hc 0 0 hn (by omega)
  exact ⟨ob, oo, oc, rb, ro, _, r, rfl, hv, hr, hrl, hc1, hc2, ho1, ho2, hU⟩
end
theorem src_row {w : World} {v : Value} {n : Nat} {r : List Int} (h : IntsAt w v n (lst r)) : SrcAt w v n 1 (tableL n 1 (fun i _ => .int .i64 (lst r i))) := SliceAt.src (by omega) h
theorem take_flat {α β : Type} (f : α → List β) {l : List α} {p : Nat} {x : α} (h : l[p]? = some x) : (l.take (p + 1)).flatMap f = (l.take p).flatMap f ++ f x := by
  rw [List.take_add_one, h, List.flatMap_append]
  simp
theorem flat_bound {A : Nat → Nat → Bool} {n i p : Nat} {l : List (List Int)} (hn : n ≤ 8) (hl : l.length ≤ 43046721) : ((l.take p).flatMap (stepA A n i)).length ≤ 387420489 := by
  refine Nat.le_trans (flat_len (B := n + 1) (fun x => stepA_len A n i x) _) ?_
  rw [List.length_take]
  have h1 : min p l.length ≤ 43046721 := by omega
  have := Nat.mul_le_mul h1 (show n + 1 ≤ 9 by omega)
  omega
end Go.Proofs.Yteingahlmlndkaa

/-
  What is proved: all best pairings, by the definition (31).
-/
namespace Go.Proofs.Yteingahlmlndkaa
open Go.RowKit
attribute [local irreducible] Go.wpCalm rowV rowI
set_option maxRecDepth 100000 in
set_option maxHeartbeats 4000000 in
theorem rall_c (w : World) (v : Value) (s : Stk) (ht : StkAt w v s) (hok : s.Ok) (hn8 : s.nt ≤ 8) : Calls Try.prog 31 #[v] w fun e w' => ∃ u vals Q, e = .returned u ∧ OutI s.nt Q vals (allB s.adj s.nt) ∧ (∀ y ∈ Q, w'.heap[y.1]? = some y.2) ∧ (∃ A c, u = .slice A (allB s.adj s.nt).length c) ∧ (∃ base, QAt w' base 26 u vals) ∧ w.grows w' := by
  have Ht := Lib.hid ht
  obtain ⟨tv, mv, rfl, ⟨sa, sc, rfl, s1, s2, -⟩, ⟨va, vc, rfl, -⟩⟩ := ht
  have HOk := Lib.hid hok
  clear hok
  go_enter Try.func31, Try.ntmps31
  go_wp2
  obtain ⟨x1, hx1⟩ : ∃ x, w.heap.size = x := ⟨_, rfl⟩
  have k1 : KpS w [(x1 + 1, Obj.cells #[.slice none 0 0] 26), (x1, Obj.cells #[.slice sa s.nt sc, .slice va s.nm vc, .int .i64 s.wide] 25)] ((w.alloc (Obj.cells #[.slice sa s.nt sc, .slice va s.nm vc, .int .i64 s.wide] 25)).alloc (Obj.cells #[.slice none 0 0] 26)) :=
    ((KpS.mk (by (repeat (first | exact World.grows.refl _ | assumption | refine World.grows.alloc ?_ _ | refine World.grows.plus ?_ _ _ | refine World.grows.drew ?_))) (fun y hy => absurd hy List.not_mem_nil)).add (alloc_old (World.heap_at w _ _ hx1.symm))).add (World.heap_at _ _ _ (by simp [hx1]))
  have hB1 : Hid (x1 + 2 ≤ ((w.alloc (Obj.cells #[.slice sa s.nt sc, .slice va s.nm vc, .int .i64 s.wide] 25)).alloc (Obj.cells #[.slice none 0 0] 26)).heap.size) := Lib.hid (by simp [hx1])
  simp only [hx1]
  generalize (w.alloc (Obj.cells #[.slice sa s.nt sc, .slice va s.nm vc, .int .i64 s.wide] 25)).alloc (Obj.cells #[.slice none 0 0] 26) = W1 at k1 hB1 ⊢
  have HK1 := Lib.hid k1
  clear k1
  go_loopw [5] (fun i5 wr => ∃ (k : Nat) (rv : Value), k ≤ s.nt ∧ i5 = .int .i64 (k : Nat) ∧ Hid (QAt wr (x1 + 2) 3 rv (List.replicate k (.int .i64 (-2)))) ∧ Hid (x1 + 2 ≤ wr.heap.size) ∧ Hid (KpS w [(x1 + 1, Obj.cells #[rv] 26), (x1, Obj.cells #[.slice sa s.nt sc, .slice va s.nm vc, .int .i64 s.wide] 25)] wr)) (fun i5 _ => s.nt - (intOf i5).toNat)
  case atStart => exact ⟨0, _, by omega, rfl, Lib.hid (QAt.nil _ _ _), hB1, HK1⟩
  case round =>
    clear HK1 hB1
    obtain ⟨k, rv, hk, rfl, hQ, hS, hKp⟩ := hrel
    by_cases hlt : k < s.nt
    · have hltI : (k : Int) < s.nt := by omega
      have c0 := cell_box hKp.out.hd
      go_upto_region 6 with fail
      (iterate 16 go_step)
      have gA : wr.grows (wr.alloc (Obj.cells #[.int .i64 (-2)] 3)) := by (repeat (first | exact World.grows.refl _ | assumption | refine World.grows.alloc ?_ _ | refine World.grows.plus ?_ _ _ | refine World.grows.drew ?_))
      refine wpList_append_q _ rfl (.tmp 28) (.tmp 29) 26 (by rfl) (x1 + 2) 3 (.int .i64 0) 8 Try.underlying26 el3 (by rfl) rv (List.replicate k (.int .i64 (-2))) (by rfl) (hQ.out.mono gA) ⟨wr.heap.size, 0, none⟩ 1 (.int .i64 (-2)) (by rfl) (by simp [go_sem]) rfl (by rfl) (by rw [List.length_replicate]; unfold maxLen; omega) (by rw [List.length_replicate]; omega) (by have := hS.out; simp; omega) ?_
      intro v' V8 hq8 hg8 hv8 hk8
      have e8 : List.replicate k (Value.int .i64 (-2)) ++ [.int .i64 (-2)] = List.replicate (k + 1) (.int .i64 (-2)) := List.replicate_succ'.symm
      rw [e8] at hq8
      have hlb : ∀ b, vblk rv = some b → x1 + 2 ≤ b := fun b hb => (hQ.out.blk hb).1
      have kA := (hKp.out.mono gA).app hg8 hk8 (fun b hb => by have := hlb b hb; omega) (by
        intro y hy
        simp only [List.mem_cons, List.not_mem_nil, or_false] at hy
        rcases hy with rfl | rfl <;> exact .inl (fun c fr e => by cases e))
      have kC := fun z : Value => (kA.drop.set (b := x1 + 1) (by omega) (fun y hy => by rw [List.mem_singleton] at hy; subst hy; simp only; omega) 0 z).add (store_of_heap kA.hd 0 z)
      have qC : ∀ z : Value, QAt (V8.setCell ⟨x1 + 1, 0, none⟩ z) (x1 + 2) 3 v' (List.replicate (k + 1) (.int .i64 (-2))) := fun z => hq8.keep (by simp) fun b hb _ => by
        rw [World.heap_setCell_map _ _ _ _ (fun e => ?_)]
        have := (hq8.blk hb).1
        simp only at e
        omega
      have hS8 : Hid (x1 + 2 ≤ V8.heap.size) := Lib.hid (Nat.le_trans hS.out (Nat.le_trans gA.size hg8.size))
      have c9 := cell_box kA.hd
      have f9 := frozen_of_heap kA.hd 0
      have hle8 : (List.replicate (k + 1) (Value.int .i64 (-2))).length = k + 1 := List.length_replicate
      obtain ⟨A8, cap8, rfl, -, -⟩ := hq8.form
      have KC := Lib.hid (kC (.slice A8 (List.replicate (k + 1) (Value.int .i64 (-2))).length cap8))
      have QC := Lib.hid (qC (.slice A8 (List.replicate (k + 1) (Value.int .i64 (-2))).length cap8))
      have SC : Hid (x1 + 2 ≤ (V8.setCell ⟨x1 + 1, 0, none⟩ (.slice A8 (List.replicate (k + 1) (Value.int .i64 (-2))).length cap8)).heap.size) := Lib.hid (by simpa using hS8.out)
      rw [hle8] at KC QC SC ⊢
      clear c0 hg8 hk8 hv8 kA kC qC hq8 hQ hKp hS gA hlb e8 hS8 hle8
      go_wp2
      case roundEnd => exact ⟨⟨k + 1, _, by omega, by go_num, QC, SC, KC⟩, by simp [intOf]; omega⟩
    · have hltI : ¬ (k : Int) < s.nt := by omega
      have hkn : k = s.nt := by omega
      rw [hkn] at hQ
      obtain ⟨Q, hO, hQQ⟩ := OutI.first hQ.out
      have HO : Hid (OutI s.nt Q [rv] (allR s.adj s.nt 0)) := Lib.hid hO
      have HK2 : Hid (KpS w ((x1, Obj.cells #[.slice sa s.nt sc, .slice va s.nm vc, .int .i64 s.wide] 25) :: Q) wr) := Lib.hid ⟨hKp.out.g, fun y hy => by
        rcases List.mem_cons.1 hy with rfl | hy
        · exact hKp.out.drop.hd
        · exact hQQ y hy⟩
      have HQ2 : Hid (QAt wr (x1 + 1) 26 (.slice (some ⟨x1 + 1, 0, none⟩) 1 1) [rv]) := Lib.hid ⟨_, 1, rfl, Nat.le_refl _, by unfold maxLen; omega, fun a ha => by cases ha; exact ⟨Nat.le_refl _, World.lt_of_block hKp.out.hd⟩, fun _ => ⟨x1 + 1, 0, _, rfl, Nat.le_refl _, hKp.out.hd, rfl, fun i x hx => by
        have hi := (List.getElem?_eq_some_iff.1 hx).1
        have : i = 0 := by simpa using hi
        subst this
        rw [Nat.zero_add]
        simpa using hx⟩⟩
      have HS2 : Hid (x1 + 1 ≤ wr.heap.size) := Lib.hid (by have := hS.out; omega)
      have hwx : w.heap.size ≤ x1 + 1 := by omega
      clear hQ hO hQQ hKp hkn hS
      obtain ⟨W2, rfl⟩ : ∃ W2, W2 = wr := ⟨_, rfl⟩
      go_wp2
      go_loopw [4, 6] (fun i4 i6 wr => ∃ (i : Nat) (vals : List Value) (Q : List (Nat × Obj)), i ≤ s.nt ∧ i6 = .int .i64 (i : Nat) ∧ Hid (OutI s.nt Q vals (allR s.adj s.nt i)) ∧ Hid (QAt wr (x1 + 1) 26 i4 vals) ∧ Hid (x1 + 1 ≤ wr.heap.size) ∧ Hid (KpS w ((x1, Obj.cells #[.slice sa s.nt sc, .slice va s.nm vc, .int .i64 s.wide] 25) :: Q) wr)) (fun _ i6 _ => s.nt - (intOf i6).toNat)
      case atStart => exact ⟨0, [rv], Q, by omega, rfl, HO, HQ2, HS2, HK2⟩
      case round =>
        clear HO HQ2 HS2 HK2 Q
        obtain ⟨i, vals, Q, hi, rfl, hO, hQ, hS, hKp⟩ := hrel
        obtain ⟨ov, rfl⟩ : ∃ ov, ov = u4 := ⟨_, rfl⟩
        obtain ⟨R, hR⟩ : ∃ R, allR s.adj s.nt i = R := ⟨_, rfl⟩
        have hRl : R.length ≤ 43046721 := by rw [← hR]; exact allR_max _ hn8 i hi
        have hvR : vals.length = R.length := by rw [← hR]; exact hO.out.2.1
        obtain ⟨m, hm⟩ : ∃ m, vals.length = m := ⟨_, rfl⟩
        have hm4 : m ≤ 43046721 := by omega
        have HmR : Hid (R.length = m) := Lib.hid (by omega)
        have Hm := Lib.hid hm
        clear hvR
        obtain ⟨oA, oc, rfl, ho1, ho2⟩ := hQ.out.form
        rw [hm] at hQ ho1 ⊢
        unfold maxLen at ho2
        by_cases hlt : i < s.nt
        · have hltI : (i : Int) < s.nt := by omega
          have HRi : Hid (allR s.adj s.nt (i + 1) = R.flatMap (stepA s.adj s.nt i)) := Lib.hid (by rw [← hR]; rfl)
          rw [hR] at hO
          clear hR hm
          obtain ⟨W3, rfl⟩ : ∃ W3, W3 = wr := ⟨_, rfl⟩
          obtain ⟨c1, hc1⟩ : ∃ x, W3.heap.size = x := ⟨_, rfl⟩
          have HA : Hid (AllS w W3 s.nt x1 #[.slice sa s.nt sc, .slice va s.nm vc, .int .i64 s.wide] (x1 + 1) c1 (.slice oA m oc) vals R Q (.slice none 0 0) [] ((R.take 0).flatMap (stepA s.adj s.nt i))) := Lib.hid ⟨hO.out, OutI.nil _ _ hO.out.1, hQ.out, QAt.nil _ _ _, by omega, fun b hb => by rw [← hc1]; exact (hQ.out.blk hb).2, by have := hS.out; omega, hKp.out⟩
          have hxc : x1 + 1 ≤ c1 := by have := hS.out; omega
          clear hc1 hO hQ hS hKp
          go_wp2
          go_loopw [7, 8] (fun i7 i8 wr => ∃ (p : Nat) (Q : List (Nat × Obj)) (vals2 : List Value), p ≤ m ∧ i8 = .int .i64 (p : Nat) ∧ Hid (AllS w wr s.nt x1 #[.slice sa s.nt sc, .slice va s.nm vc, .int .i64 s.wide] (x1 + 1) c1 (.slice oA m oc) vals R Q i7 vals2 ((R.take p).flatMap (stepA s.adj s.nt i)))) (fun _ i8 _ => m - (intOf i8).toNat)
          case atStart => exact ⟨0, Q, [], by omega, rfl, HA⟩
          case round =>
            clear HA Q
            obtain ⟨p, Q, vals2, hp, rfl, hA⟩ := hrel
            obtain ⟨v7, rfl⟩ : ∃ v7, v7 = u7 := ⟨_, rfl⟩
            have HL2 : Hid (vals2.length ≤ 387420489) := Lib.hid (by rw [hA.out.o2.2.1]; exact flat_bound hn8 hRl)
            by_cases hlt2 : p < m
            · have hltI2 : (p : Int) < m := by omega
              obtain ⟨ob, oo, oc', rb, ro, rc, r, he, hv, hr, hrl, hrc1, hrc2, -, -, hU⟩ := hA.out.row (p := p) (by rw [Hm.out]; exact hlt2) (by omega)
              rw [Hm.out] at he
              cases he
              have HV := Lib.hid hv
              have HRr := Lib.hid hr
              have HRL := Lib.hid hrl
              have HUr := Lib.hid hU
              have HF := Lib.hid (take_flat (stepA s.adj s.nt i) hr)
              clear hv hr hU
              obtain ⟨co, cr, cI⟩ := hA.out.cells rfl HV.out HRr.out
              replace cr := cr i hlt
              by_cases hri : lst r i = -2
              · have hneB : (lst r i != -2) = false := by simp [hri]
                have HP := Lib.hid (stepA_part s.adj s.nt i r hri)
                rw [hri] at cr hneB
                go_upto_region 16 with fail
                (iterate 16 go_step)
                have gA : wr.grows (wr.alloc (Obj.cells #[] 3)) := by (repeat (first | exact World.grows.refl _ | assumption | refine World.grows.alloc ?_ _ | refine World.grows.plus ?_ _ _ | refine World.grows.drew ?_))
                refine wpList_append_fresh _ rfl (.tmp 58) (.tmp 62) 26 (by rfl) 3 (.int .i64 0) 1 8 Try.underlying26 el3 (by rfl) (by omega) (some ⟨wr.heap.size, 0, none⟩) (by simp [go_sem]) (.slice (some ⟨rb, ro, none⟩) s.nt rc) (by simp [go_sem]) s.nt _ (src_row (cI.mono gA)) (by omega) (by unfold maxLen; omega) (by omega) ?_
                intro cap xs hcp1 hcp2 hxs htk
                obtain ⟨b, hb⟩ : ∃ b, (wr.alloc (Obj.cells #[] 3)).heap.size = b := ⟨_, rfl⟩
                have gV : wr.grows ((wr.alloc (Obj.cells #[] 3)).drew.alloc (Obj.cells xs 3)) := by (repeat (first | exact World.grows.refl _ | assumption | refine World.grows.alloc ?_ _ | refine World.grows.plus ?_ _ _ | refine World.grows.drew ?_))
                have hbV : ((wr.alloc (Obj.cells #[] 3)).drew.alloc (Obj.cells xs 3)).heap[b]? = some (.cells xs 3) := World.heap_at _ _ _ (by rw [← hb]; simp)
                have hwb : wr.heap.size ≤ b := by rw [← hb]; simp
                have hX := fun j hj => copy_cells htk (i := j) hj
                simp only [hb]
                generalize (wr.alloc (Obj.cells #[] 3)).drew.alloc (Obj.cells xs 3) = V at gV hbV ⊢
                have hA2 := (hA.out.mono (gV.setCell (p := ⟨b, i, none⟩) hwb (.int .i64 (-1)))).blk (store_of_heap hbV i (.int .i64 (-1)))
                have hP1 := put_cells hrl hlt hX (-1)
                have hU1 : ∀ U : World, (∀ y ∈ (b, Obj.cells (xs.setIfInBounds i (.int .i64 (-1))) 3) :: Q, U.heap[y.1]? = some y.2) → IntsAt U (.slice (some ⟨b, 0, none⟩) s.nt cap) s.nt (lst (r.set i (-1))) := fun U hU => row_block (hU _ (List.mem_cons_self ..)) hcp1 hcp2 (by rw [List.length_set]; exact hrl) hP1
                have HW1 : Hid ((r.set i (-1)).length = s.nt) := Lib.hid (by rw [List.length_set]; exact hrl)
                have cb := cell_of_heap hbV (i := i) (hX i hlt)
                have fb := frozen_of_heap hbV i
                have HA2 := Lib.hid hA2
                have HU1 := Lib.hid hU1
                have hic : i < cap := by omega
                unfold maxLen at hcp2
                clear hb htk hxs hA hA2 hP1 hU1 co cr cI gA hX hbV gV
                go_upto_region 18 with fail
                (iterate 10 go_step)
                have hAA := HA2.out.mono (show (V.setCell ⟨b, i, none⟩ (.int .i64 (-1))).grows ((V.setCell ⟨b, i, none⟩ (.int .i64 (-1))).alloc (Obj.cells #[.slice (some ⟨b, 0, none⟩) s.nt cap] 26)) by (repeat (first | exact World.grows.refl _ | assumption | refine World.grows.alloc ?_ _ | refine World.grows.plus ?_ _ _ | refine World.grows.drew ?_)))
                refine wpList_append_q _ rfl (.tmp 67) (.tmp 69) 32 (by rfl) c1 26 (.slice none 0 0) 24 Try.underlying32 el26 (by rfl) v7 vals2 (by rfl) hAA.q2 ⟨V.heap.size, 0, none⟩ 1 (.slice (some ⟨b, 0, none⟩) s.nt cap) (by rfl) (by simp [go_sem]) rfl (by rfl) (by have := HL2.out; unfold maxLen; omega) (by have := HL2.out; omega) (by have := HA2.out.hc; simp at this ⊢; omega) ?_
                intro v' V8 hq8 hg8 hv8 hk8
                have hA9 := hAA.app hq8 hg8 hk8 ⟨_, _, rfl⟩ HW1.out HU1.out
                have e9 := partA_start s.adj s.nt i r
                rw [← e9] at hA9
                have HA9 := Lib.hid hA9
                clear hg8 hk8 hv8 hq8 hAA hA9 e9 HA2 HU1 HW1 cb fb
                go_wp2
                go_loopw [7, 10] (fun i7 i10 wr => ∃ (k : Nat) (Q : List (Nat × Obj)) (vals2 : List Value), i < k ∧ k ≤ s.nt ∧ i10 = .int .i64 (k : Nat) ∧ Hid (AllS w wr s.nt x1 #[.slice sa s.nt sc, .slice va s.nm vc, .int .i64 s.wide] (x1 + 1) c1 (.slice (some ⟨ob, oo, none⟩) m oc) vals R Q i7 vals2 ((R.take p).flatMap (stepA s.adj s.nt i) ++ partA' s.adj s.nt i k r))) (fun _ i10 _ => s.nt - (intOf i10).toNat)
                case atStart => exact ⟨i + 1, _, _, by omega, by omega, by go_num, HA9⟩
                case round =>
                  clear HA9 HL2 HUr vals2 Q
                  obtain ⟨k, Q, vals2, hik, hk, rfl, hA⟩ := hrel
                  obtain ⟨v7, rfl⟩ : ∃ v7, v7 = u7 := ⟨_, rfl⟩
                  by_cases hlt3 : k < s.nt
                  · have hltI3 : (k : Int) < s.nt := by omega
                    have HL2 : Hid (vals2.length ≤ 400000000) := Lib.hid (by
                      rw [hA.out.o2.2.1, List.length_append]
                      have h1 := flat_bound (A := s.adj) (i := i) (p := p) hn8 hRl
                      have h2 := partA_len s.adj s.nt i k r
                      omega)
                    obtain ⟨co, cr, cI⟩ := hA.out.cells rfl HV.out HRr.out
                    have ck := cr k hlt3
                    have HPs := Lib.hid (partA_succ s.adj s.nt hik r)
                    clear cr
                    by_cases hrk : lst r k = -2
                    · have hkB : (lst r k == -2) = true := by simp [hrk]
                      rw [hrk] at ck hkB
                      have c0 := cell_of_heap hA.out.kp.hd (i := 0) rfl
                      have c1' := cell_of_heap hA.out.kp.hd (i := 1) rfl
                      have c2 := cell_of_heap hA.out.kp.hd (i := 2) rfl
                      go_wp2_with (go_at_call 99; fail)
                      refine (suits_c _ _ s (Ht.out.mono (hA.out.kp.g.trans (by (repeat (first | exact World.grows.refl _ | assumption | refine World.grows.alloc ?_ _ | refine World.grows.plus ?_ _ _ | refine World.grows.drew ?_))))) HOk.out i k hlt hlt3).mono ?_
                      rintro e W6 ⟨rfl, g6⟩
                      have g6' : wr.grows W6 := World.grows.trans (by (repeat (first | exact World.grows.refl _ | assumption | refine World.grows.alloc ?_ _ | refine World.grows.plus ?_ _ _ | refine World.grows.drew ?_))) g6
                      have HA6 := Lib.hid (hA.out.mono g6')
                      have Hadj := Lib.hid (Stk.adj_suits hlt hlt3)
                      clear g6 g6' hA c0 c1' c2 co ck cI hkB
                      cases ha : s.suits i k with
                      | false =>
                        have HPn : Hid (partA' s.adj s.nt i (k + 1) r = partA' s.adj s.nt i k r) := Lib.hid (by rw [HPs.out, if_neg]; rw [Hadj.out, ha, Bool.and_false]; exact Bool.false_ne_true)
                        clear ha
                        go_wp2
                        case roundEnd => exact ⟨⟨k + 1, Q, vals2, by omega, by omega, by go_num, by rw [HPn.out]; exact HA6⟩, by simp [intOf]; omega⟩
                      | true =>
                        have HPn : Hid (partA' s.adj s.nt i (k + 1) r = partA' s.adj s.nt i k r ++ [(r.set i (k : Int)).set k (i : Int)]) := Lib.hid (by rw [HPs.out, if_pos]; rw [Hadj.out, ha, Bool.and_true]; exact beq_iff_eq.2 hrk)
                        obtain ⟨co, cr, cI⟩ := HA6.out.cells rfl HV.out HRr.out
                        clear ha cr
                        go_upto_region 23 with fail
                        (iterate 16 go_step)
                        have gA : W6.grows (W6.alloc (Obj.cells #[] 3)) := by (repeat (first | exact World.grows.refl _ | assumption | refine World.grows.alloc ?_ _ | refine World.grows.plus ?_ _ _ | refine World.grows.drew ?_))
                        refine wpList_append_fresh _ rfl (.tmp 92) (.tmp 96) 26 (by rfl) 3 (.int .i64 0) 1 8 Try.underlying26 el3 (by rfl) (by omega) (some ⟨W6.heap.size, 0, none⟩) (by simp [go_sem]) (.slice (some ⟨rb, ro, none⟩) s.nt rc) (by simp [go_sem]) s.nt _ (src_row (cI.mono gA)) (by omega) (by unfold maxLen; omega) (by omega) ?_
                        intro cap xs hcp1 hcp2 hxs htk
                        obtain ⟨b, hb⟩ : ∃ b, (W6.alloc (Obj.cells #[] 3)).heap.size = b := ⟨_, rfl⟩
                        have gV : W6.grows ((W6.alloc (Obj.cells #[] 3)).drew.alloc (Obj.cells xs 3)) := by (repeat (first | exact World.grows.refl _ | assumption | refine World.grows.alloc ?_ _ | refine World.grows.plus ?_ _ _ | refine World.grows.drew ?_))
                        have hbV : ((W6.alloc (Obj.cells #[] 3)).drew.alloc (Obj.cells xs 3)).heap[b]? = some (.cells xs 3) := World.heap_at _ _ _ (by rw [← hb]; simp)
                        have hwb : W6.heap.size ≤ b := by rw [← hb]; simp
                        have hX := fun j hj => copy_cells htk (i := j) hj
                        simp only [hb]
                        generalize (W6.alloc (Obj.cells #[] 3)).drew.alloc (Obj.cells xs 3) = V at gV hbV ⊢
                        have gV2 := gV.setCell (p := ⟨b, i, none⟩) hwb (.int .i64 (k : Nat))
                        have hbV2 := store_of_heap hbV i (.int .i64 (k : Nat))
                        have hP1 := put_cells hrl hlt hX (k : Nat)
                        have hA2 := (HA6.out.mono (gV2.setCell (p := ⟨b, k, none⟩) hwb (.int .i64 (i : Nat)))).blk (store_of_heap hbV2 k (.int .i64 (i : Nat)))
                        have hP2 := put_cells (r := r.set i (k : Nat)) (by rw [List.length_set]; exact hrl) hlt3 hP1 (i : Nat)
                        have HW1 : Hid (((r.set i (k : Int)).set k (i : Int)).length = s.nt) := Lib.hid (by rw [List.length_set, List.length_set]; exact hrl)
                        have hU1 : ∀ U : World, (∀ y ∈ (b, Obj.cells ((xs.setIfInBounds i (.int .i64 (k : Nat))).setIfInBounds k (.int .i64 (i : Nat))) 3) :: Q, U.heap[y.1]? = some y.2) → IntsAt U (.slice (some ⟨b, 0, none⟩) s.nt cap) s.nt (lst ((r.set i (k : Int)).set k (i : Int))) := fun U hU => row_block (hU _ (List.mem_cons_self ..)) hcp1 hcp2 HW1.out hP2
                        have cb := cell_of_heap hbV (i := i) (hX i hlt)
                        have fb := frozen_of_heap hbV i
                        have cb2 := cell_of_heap hbV2 (i := k) (hP1 k hlt3)
                        have fb2 := frozen_of_heap hbV2 k
                        have cb3 := cell_of_heap hbV (i := k) (hX k hlt3)
                        have fb3 := frozen_of_heap hbV k
                        have HA2 := Lib.hid hA2
                        have HU1 := Lib.hid hU1
                        have hic : i < cap := by omega
                        have hkc : k < cap := by omega
                        unfold maxLen at hcp2
                        clear hb htk hxs hA2 hP1 hP2 hU1 co cI gA hX hbV hbV2 gV gV2
                        go_upto_region 25 with fail
                        (iterate 10 go_step)
                        have hAA := HA2.out.mono (show ((V.setCell ⟨b, i, none⟩ (.int .i64 (k : Nat))).setCell ⟨b, k, none⟩ (.int .i64 (i : Nat))).grows (((V.setCell ⟨b, i, none⟩ (.int .i64 (k : Nat))).setCell ⟨b, k, none⟩ (.int .i64 (i : Nat))).alloc (Obj.cells #[.slice (some ⟨b, 0, none⟩) s.nt cap] 26)) by (repeat (first | exact World.grows.refl _ | assumption | refine World.grows.alloc ?_ _ | refine World.grows.plus ?_ _ _ | refine World.grows.drew ?_)))
                        refine wpList_append_q _ rfl (.tmp 106) (.tmp 108) 32 (by rfl) c1 26 (.slice none 0 0) 24 Try.underlying32 el26 (by rfl) v7 vals2 (by rfl) hAA.q2 ⟨V.heap.size, 0, none⟩ 1 (.slice (some ⟨b, 0, none⟩) s.nt cap) (by rfl) (by simp [go_sem]) rfl (by rfl) (by have := HL2.out; unfold maxLen; omega) (by have := HL2.out; omega) (by have := HA2.out.hc; simp at this ⊢; omega) ?_
                        intro v' V8 hq8 hg8 hv8 hk8
                        have hA9 := hAA.app hq8 hg8 hk8 ⟨_, _, rfl⟩ HW1.out HU1.out
                        rw [List.append_assoc, ← HPn.out] at hA9
                        have HA9 := Lib.hid hA9
                        clear hg8 hk8 hv8 hq8 hAA hA9 HA2 HU1 HW1 cb fb cb2 fb2 cb3 fb3
                        go_wp2
                        case roundEnd => exact ⟨⟨k + 1, _, _, by omega, by omega, by go_num, HA9⟩, by simp [intOf]; omega⟩
                    · have hkB : (lst r k == -2) = false := by simp [hrk]
                      have HPn : Hid (partA' s.adj s.nt i (k + 1) r = partA' s.adj s.nt i k r) := Lib.hid (by rw [HPs.out, if_neg]; intro h; rw [Bool.and_eq_true, beq_iff_eq] at h; exact hrk h.1)
                      clear cI
                      go_wp2
                      case roundEnd => exact ⟨⟨k + 1, Q, vals2, by omega, by omega, by go_num, by rw [HPn.out]; exact hA⟩, by simp [intOf]; omega⟩
                  · have hltI3 : ¬ (k : Int) < s.nt := by omega
                    have hkn : k = s.nt := by omega
                    rw [hkn] at hA
                    have HA9 : Hid (AllS w wr s.nt x1 #[.slice sa s.nt sc, .slice va s.nm vc, .int .i64 s.wide] (x1 + 1) c1 (.slice (some ⟨ob, oo, none⟩) m oc) vals R Q v7 vals2 ((R.take (p + 1)).flatMap (stepA s.adj s.nt i))) := Lib.hid (by rw [HF.out, HP.out]; exact hA.out)
                    clear hA hkn
                    go_wp2
                    case roundEnd => exact ⟨⟨p + 1, Q, vals2, by omega, by go_num, HA9⟩, by simp [intOf]; omega⟩
              · have hneB : (lst r i != -2) = true := by simp [hri]
                have HP := Lib.hid (stepA_same s.adj s.nt i r hri)
                clear cI
                go_upto_region 15 with fail
                (iterate 19 go_step)
                have gA : wr.grows (wr.alloc (Obj.cells #[.slice (some ⟨rb, ro, none⟩) s.nt rc] 26)) := by (repeat (first | exact World.grows.refl _ | assumption | refine World.grows.alloc ?_ _ | refine World.grows.plus ?_ _ _ | refine World.grows.drew ?_))
                have hAA := hA.out.mono gA
                refine wpList_append_q _ rfl (.tmp 51) (.tmp 56) 32 (by rfl) c1 26 (.slice none 0 0) 24 Try.underlying32 el26 (by rfl) v7 vals2 (by rfl) hAA.q2 ⟨wr.heap.size, 0, none⟩ 1 (.slice (some ⟨rb, ro, none⟩) s.nt rc) (by rfl) (by simp [go_sem]) rfl (by rfl) (by have := HL2.out; unfold maxLen; omega) (by have := HL2.out; omega) (by have := hA.out.hc; simp; omega) ?_
                intro v' V8 hq8 hg8 hv8 hk8
                have hA9 := hAA.app hq8 hg8 hk8 ⟨_, _, rfl⟩ HRL.out HUr.out
                have e9 : (R.take p).flatMap (stepA s.adj s.nt i) ++ [r] = (R.take (p + 1)).flatMap (stepA s.adj s.nt i) := by rw [HF.out, HP.out]
                rw [e9] at hA9
                have HA9 := Lib.hid hA9
                clear hg8 hk8 hv8 hq8 hAA hA9 gA e9 hA co cr
                go_wp2
                case roundEnd => exact ⟨⟨p + 1, Q, _, by omega, by go_num, HA9⟩, by simp [intOf]; omega⟩
            · have hltI2 : ¬ (p : Int) < m := by omega
              have hpm : p = m := by omega
              have hRt : (R.take p).flatMap (stepA s.adj s.nt i) = allR s.adj s.nt (i + 1) := by rw [HRi.out, List.take_of_length_le (by rw [HmR.out]; omega)]
              rw [hRt] at hA
              have HO2 := Lib.hid hA.out.o2
              have HQ2 : Hid (QAt wr (x1 + 1) 26 v7 vals2) := Lib.hid (by
                obtain ⟨A, cap, h1, h2, h3, h4, h5⟩ := hA.out.q2
                exact ⟨A, cap, h1, h2, h3, fun a ha => ⟨Nat.le_trans hxc (h4 a ha).1, (h4 a ha).2⟩, fun hc => by
                  obtain ⟨b, o, cur, k1, k2, k3⟩ := h5 hc
                  exact ⟨b, o, cur, k1, Nat.le_trans hxc k2, k3⟩⟩)
              have HS2 : Hid (x1 + 1 ≤ wr.heap.size) := Lib.hid (Nat.le_trans hxc hA.out.hc)
              have HK2 := Lib.hid hA.out.kp
              clear hRt hpm hA
              go_wp2
              case roundEnd => exact ⟨⟨i + 1, vals2, Q, by omega, by go_num, HO2, HQ2, HS2, HK2⟩, by simp [intOf]; omega⟩
        · have hltI : ¬ (i : Int) < s.nt := by omega
          have hin : i = s.nt := by omega
          have HRn : Hid (allB s.adj s.nt = R.filter fun r => decide (prR s.nt r = mostR s.nt R)) := Lib.hid (by unfold allB; rw [← hR, hin])
          rw [hR] at hO
          clear hR hm hin
          obtain ⟨W3, rfl⟩ : ∃ W3, W3 = wr := ⟨_, rfl⟩
          obtain ⟨c1, hc1⟩ : ∃ x, W3.heap.size = x := ⟨_, rfl⟩
          have HA : Hid (AllS w W3 s.nt x1 #[.slice sa s.nt sc, .slice va s.nm vc, .int .i64 s.wide] (x1 + 1) c1 (.slice oA m oc) vals R Q (.slice none 0 0) [] []) := Lib.hid ⟨hO.out, OutI.nil _ _ hO.out.1, hQ.out, QAt.nil _ _ _, by omega, fun b hb => by rw [← hc1]; exact (hQ.out.blk hb).2, by have := hS.out; omega, hKp.out⟩
          clear hc1 hO hQ hS hKp
          go_wp2
          go_loopw [12, 13] (fun i12 i13 wr => ∃ (p : Nat), p ≤ m ∧ i13 = .int .i64 (p : Nat) ∧ i12 = .int .i64 (mostR s.nt (R.take p) : Nat) ∧ Hid (AllS w wr s.nt x1 #[.slice sa s.nt sc, .slice va s.nm vc, .int .i64 s.wide] (x1 + 1) c1 (.slice oA m oc) vals R Q (.slice none 0 0) [] [])) (fun _ i13 _ => m - (intOf i13).toNat)
          case atStart => exact ⟨0, by omega, rfl, rfl, HA⟩
          case round =>
            clear HA
            obtain ⟨p, hp, rfl, rfl, hA⟩ := hrel
            obtain ⟨M, hM⟩ : ∃ M, mostR s.nt (R.take p) = M := ⟨_, rfl⟩
            have hMn : M ≤ s.nt := by rw [← hM]; exact mostR_le _ _
            rw [hM]
            by_cases hlt2 : p < m
            · have hltI2 : (p : Int) < m := by omega
              have hn0 : 0 < s.nt ∨ s.nt = 0 := by omega
              obtain ⟨rA, rc, r, hv, hr, hrl, hU⟩ := hA.out.o1.row (i := p) (by rw [HmR.out]; exact hlt2)
              obtain ⟨ob, oo, rfl, co⟩ := hA.out.q1.get hv
              have cI := hU wr (fun y hy => hA.out.kp.at_ y (List.mem_cons_of_mem _ hy))
              have HMp : Hid (mostR s.nt (R.take (p + 1)) = max M (prR s.nt r)) := Lib.hid (by rw [List.take_add_one, hr, ← hM]; exact mostR_snoc _ _ _)
              clear hv hr hU hM
              go_wp2_with (go_at_call 99; fail)
              refine (pairs_c wr _ s.nt (lst r) cI).mono ?_
              rintro e W6 ⟨rfl, g6⟩
              have HA6 := Lib.hid (hA.out.mono g6)
              obtain ⟨q, hq⟩ : ∃ q, prR s.nt r = q := ⟨_, rfl⟩
              have hqn : q ≤ s.nt := by rw [← hq]; exact cntB_le _ _
              rw [hq] at HMp
              have hq' : cntB (fun i => decide ((i : Int) < lst r i)) s.nt = q := hq
              simp only [hq']
              clear g6 cI co hA hq hq'
              go_wp2
              case roundEnd => exact ⟨⟨p + 1, by omega, by go_num, by rw [HMp.out]; go_num, HA6⟩, by simp [intOf]; omega⟩
            · have hltI2 : ¬ (p : Int) < m := by omega
              have hpm : p = m := by omega
              rw [hpm, List.take_of_length_le (by rw [HmR.out]; omega)] at hM
              rw [hM] at HRn
              clear hM hpm
              obtain ⟨W4, rfl⟩ : ∃ W4, W4 = wr := ⟨_, rfl⟩
              go_wp2
              go_loopw [14, 15] (fun i14 i15 wr => ∃ (p : Nat) (Q : List (Nat × Obj)) (vals2 : List Value), p ≤ m ∧ i15 = .int .i64 (p : Nat) ∧ Hid (AllS w wr s.nt x1 #[.slice sa s.nt sc, .slice va s.nm vc, .int .i64 s.wide] (x1 + 1) c1 (.slice oA m oc) vals R Q i14 vals2 ((R.take p).filter fun r => decide (prR s.nt r = M)))) (fun _ i15 _ => m - (intOf i15).toNat)
              case atStart => exact ⟨0, Q, [], by omega, rfl, hA⟩
              case round =>
                clear hA
                obtain ⟨p, Q, vals2, hp, rfl, hA⟩ := hrel
                obtain ⟨v7, rfl⟩ : ∃ v7, v7 = u14 := ⟨_, rfl⟩
                by_cases hlt2 : p < m
                · have hltI2 : (p : Int) < m := by omega
                  have HL2 : Hid (vals2.length ≤ 43046721) := Lib.hid (by
                    rw [hA.out.o2.2.1]
                    refine Nat.le_trans (List.length_filter_le _ _) ?_
                    rw [List.length_take]
                    omega)
                  obtain ⟨rA, rc, r, hv, hr, hrl, hU⟩ := hA.out.o1.row (i := p) (by rw [HmR.out]; exact hlt2)
                  obtain ⟨ob, oo, rfl, co⟩ := hA.out.q1.get hv
                  have cI := hU wr (fun y hy => hA.out.kp.at_ y (List.mem_cons_of_mem _ hy))
                  have HT : Hid ((R.take (p + 1)).filter (fun r => decide (prR s.nt r = M)) = ((R.take p).filter fun r => decide (prR s.nt r = M)) ++ [r].filter fun r => decide (prR s.nt r = M)) := Lib.hid (by rw [List.take_add_one, hr, List.filter_append]; rfl)
                  have HRL := Lib.hid hrl
                  have HU := Lib.hid hU
                  clear hv hr hU
                  go_wp2_with (go_at_call 99; fail)
                  refine (pairs_c wr _ s.nt (lst r) cI).mono ?_
                  rintro e W6 ⟨rfl, g6⟩
                  have HA6 := Lib.hid (hA.out.mono g6)
                  obtain ⟨q, hq⟩ : ∃ q, prR s.nt r = q := ⟨_, rfl⟩
                  have hqn : q ≤ s.nt := by rw [← hq]; exact cntB_le _ _
                  have HQq := Lib.hid hq
                  have hq' : cntB (fun i => decide ((i : Int) < lst r i)) s.nt = q := hq
                  simp only [hq']
                  have co6 := g6.cell_of co
                  clear g6 cI co hA hq hq'
                  by_cases hqM : q = M
                  · have hqB : ((q : Int) == (M : Int)) = true := by simp [hqM]
                    have e1 : ((R.take (p + 1)).filter fun r => decide (prR s.nt r = M)) = ((R.take p).filter fun r => decide (prR s.nt r = M)) ++ [r] := by
                      rw [HT.out, List.filter_cons, if_pos (by rw [HQq.out]; exact decide_eq_true hqM)]; rfl
                    have HE1 := Lib.hid e1
                    clear e1 hqM
                    go_upto_region 37 with fail
                    (iterate 19 go_step)
                    have hAA := HA6.out.mono (show W6.grows (W6.alloc (Obj.cells #[.slice rA s.nt rc] 26)) by (repeat (first | exact World.grows.refl _ | assumption | refine World.grows.alloc ?_ _ | refine World.grows.plus ?_ _ _ | refine World.grows.drew ?_)))
                    refine wpList_append_q _ rfl (.tmp 137) (.tmp 142) 32 (by rfl) c1 26 (.slice none 0 0) 24 Try.underlying32 el26 (by rfl) v7 vals2 (by rfl) hAA.q2 ⟨W6.heap.size, 0, none⟩ 1 (.slice rA s.nt rc) (by rfl) (by simp [go_sem]) rfl (by rfl) (by have := HL2.out; unfold maxLen; omega) (by have := HL2.out; omega) (by have := HA6.out.hc; simp at this ⊢; omega) ?_
                    intro v' V8 hq8 hg8 hv8 hk8
                    have hA9 := hAA.app hq8 hg8 hk8 ⟨_, _, rfl⟩ HRL.out HU.out
                    rw [← HE1.out] at hA9
                    have HA9 := Lib.hid hA9
                    clear hg8 hk8 hv8 hq8 hAA hA9 HA6 HU
                    go_wp2
                    case roundEnd => exact ⟨⟨p + 1, _, _, by omega, by go_num, HA9⟩, by simp [intOf]; omega⟩
                  · have hqB : ((q : Int) == (M : Int)) = false := by simp; omega
                    have e1 : ((R.take (p + 1)).filter fun r => decide (prR s.nt r = M)) = ((R.take p).filter fun r => decide (prR s.nt r = M)) := by
                      rw [HT.out, List.filter_cons, if_neg (by rw [HQq.out]; simpa using hqM)]; simp
                    have HE1 := Lib.hid e1
                    clear e1 hqM
                    go_wp2
                    case roundEnd => exact ⟨⟨p + 1, _, _, by omega, by go_num, by rw [HE1.out]; exact HA6⟩, by simp [intOf]; omega⟩
                · have hltI2 : ¬ (p : Int) < m := by omega
                  have hpm : p = m := by omega
                  rw [hpm, List.take_of_length_le (by rw [HmR.out]; omega), ← HRn.out] at hA
                  have hgr := hA.out.kp.g
                  obtain ⟨A9, c9, rfl, -⟩ := hA.out.q2.form
                  clear hpm
                  go_wp2
                  (refine bodyPost_ret (v := .slice A9 vals2.length c9) (by simp [results, Try.results31, go_sem]) rfl ?_)
                  have hA9 := hA.out
                  exact ⟨_, rfl, vals2, Q, hA9.o2, fun a b hy => hA9.kp.at_ (a, b) (List.mem_cons_of_mem _ hy), ⟨A9, c9, by rw [hA9.o2.2.1]⟩, ⟨c1, hA9.q2⟩, hA9.kp.g⟩
end Go.Proofs.Yteingahlmlndkaa

/-
  What is proved: what the list of all best pairings says: how many, the kinds (plain).
-/
namespace Go.Proofs.Yteingahlmlndkaa
theorem num_up {A : Nat → Nat → Bool} {n : Nat} (j : Nat) : ∀ d, num A (n + d) (belowN n) j = num A n (belowN n) j
  | 0 => rfl
  | d + 1 => by
    rw [show n + (d + 1) = n + d + 1 by omega, num_out (by unfold belowN; exact decide_eq_false (by omega))]
    exact num_up j d
theorem nu_up {A : Nat → Nat → Bool} (hA : ∀ a b, A a b = A b a) {n : Nat} (h : n ≤ 16) : nu A (belowN n) n = nu A (belowN n) 16 ∧ cnt A (belowN n) n = cnt A (belowN n) 16 :=
  nu_other hA hA fun j => by
    have := num_up (A := A) (n := n) j (16 - n)
    rw [show n + (16 - n) = 16 by omega] at this
    exact this.symm
theorem lst_row (m : Nat → Nat) {n v : Nat} (hv : v < n) : lst (rowP m n n) v = mvI m v := by
  show (rowP m n n).getD v 0 = _
  rw [rowP_get m n hv, if_pos hv]
  by_cases e : m v = v
  · rw [if_neg (fun h => h e), mvI_none e]
  · rw [if_pos e, mvI_some e]
theorem mvI_lt {m : Nat → Nat} {v : Nat} : ((v : Int) < mvI m v) ↔ v < m v := by
  by_cases e : m v = v
  · rw [mvI_none e, e]; omega
  · rw [mvI_some e]; omega
theorem prR_row (m : Nat → Nat) (n : Nat) : prR n (rowP m n n) = cntB (fun v => decide (v < m v)) n :=
  cntB_congr fun v hv => by rw [lst_row m hv]; exact decide_eq_decide.2 mvI_lt
theorem mostR_is {n k : Nat} : ∀ {l : List (List Int)}, (∀ r ∈ l, prR n r ≤ k) → (∃ r ∈ l, prR n r = k) → mostR n l = k
  | [], _, ⟨r, h, _⟩ => absurd h List.not_mem_nil
  | r :: l, h, ⟨r', hr', e⟩ => by
    have h1 := h r (List.mem_cons_self ..)
    have hle : mostR n l ≤ k := by
      have : ∀ l : List (List Int), (∀ r ∈ l, prR n r ≤ k) → mostR n l ≤ k := by
        intro l
        induction l with
        | nil => exact fun _ => Nat.zero_le _
        | cons x l ih =>
          intro h
          have h1 := h x (List.mem_cons_self ..)
          have h2 := ih fun r hr => h r (List.mem_cons_of_mem _ hr)
          show max _ _ ≤ k
          omega
      exact this l fun r hr => h r (List.mem_cons_of_mem _ hr)
    show max (prR n r) (mostR n l) = k
    rcases List.mem_cons.1 hr' with rfl | hr'
    · omega
    · have := mostR_is (fun r hr => h r (List.mem_cons_of_mem _ hr)) ⟨r', hr', e⟩
      omega
section
variable {s : Stk}
theorem Mx.up (h16 : s.nt ≤ 16) {m : Nat → Nat} : Mx s.adj (belowN s.nt) s.nt m ↔ Mx s.adj (belowN s.nt) 16 m :=
  ⟨fun h => ⟨h.isM, fun N hN => by rw [cov_nt h16 hN, cov_nt h16 h.isM]; exact h.most N hN⟩, fun h => ⟨h.isM, fun N hN => by rw [← cov_nt h16 hN, ← cov_nt h16 h.isM]; exact h.most N hN⟩⟩
theorem prR_cov (h16 : s.nt ≤ 16) {m : Nat → Nat} (h : IsM s.adj (belowN s.nt) m) : 2 * prR s.nt (rowP m s.nt s.nt) = cov s.nt m := by
  rw [prR_row]
  exact pairs_cov h
theorem allR_all (s : Stk) : allR s.adj s.nt s.nt = (allM s.adj s.nt s.nt).map fun m => rowP m s.nt s.nt := allR_rows s.nt (Nat.le_refl _)
theorem mostR_nu (h16 : s.nt ≤ 16) : mostR s.nt (allR s.adj s.nt s.nt) = nu s.adj (belowN s.nt) 16 := by
  refine mostR_is (fun r hr => ?_) ?_
  · rw [allR_all] at hr
    obtain ⟨m, hm, rfl⟩ := List.mem_map.1 hr
    have hM := (mem_all s.adj_symm).1 hm
    have h1 := prR_cov h16 hM
    have h2 := le_nu s.adj_symm (below16 h16) hM
    rw [cov_nt h16 hM] at h2
    omega
  · obtain ⟨m, hm⟩ := mx_has (s := s) h16
    refine ⟨rowP m s.nt s.nt, ?_, ?_⟩
    · rw [allR_all]
      exact List.mem_map.2 ⟨m, (mem_all s.adj_symm).2 hm.isM, rfl⟩
    · have h1 := prR_cov h16 hm.isM
      have h2 := nu_mx s.adj_symm (below16 h16) hm
      rw [cov_nt h16 hm.isM] at h2
      omega
theorem mem_allB (h16 : s.nt ≤ 16) {r : List Int} : r ∈ allB s.adj s.nt ↔ ∃ m, Mx s.adj (belowN s.nt) 16 m ∧ r = rowP m s.nt s.nt := by
  unfold allB
  rw [List.mem_filter, mostR_nu h16, allR_all, List.mem_map]
  constructor
  · rintro ⟨⟨m, hm, rfl⟩, h⟩
    have hM := (mem_all s.adj_symm).1 hm
    have h1 := prR_cov h16 hM
    simp only [decide_eq_true_eq] at h
    exact ⟨m, mx_nu s.adj_symm (below16 h16) hM (by rw [cov_nt h16 hM]; omega), rfl⟩
  · rintro ⟨m, hm, rfl⟩
    refine ⟨⟨m, (mem_all s.adj_symm).2 hm.isM, rfl⟩, ?_⟩
    have h1 := prR_cov h16 hm.isM
    have h2 := nu_mx s.adj_symm (below16 h16) hm
    rw [cov_nt h16 hm.isM] at h2
    simp only [decide_eq_true_eq]
    omega
theorem allB_len (h16 : s.nt ≤ 16) : (allB s.adj s.nt).length = cnt s.adj (belowN s.nt) 16 := by
  have h1 := all_count (A := s.adj) (n := s.nt) s.adj_symm s.adj_irr (nu s.adj (belowN s.nt) 16)
  have h2 : cnt s.adj (belowN s.nt) 16 = num s.adj s.nt (belowN s.nt) (nu s.adj (belowN s.nt) 16) := by
    rw [← (nu_up s.adj_symm h16).2, ← (nu_up s.adj_symm h16).1]
    rfl
  rw [h2, ← h1]
  unfold allB
  rw [mostR_nu h16, allR_all, List.filter_map, List.length_map]
  congr 1
  refine List.filter_congr fun m hm => ?_
  have hM := (mem_all s.adj_symm).1 hm
  have h3 := prR_cov h16 hM
  show decide (prR s.nt (rowP m s.nt s.nt) = nu s.adj (belowN s.nt) 16) = _
  exact decide_eq_decide.2 (by omega)
theorem allB_pos (h16 : s.nt ≤ 16) : 0 < (allB s.adj s.nt).length := by
  rw [allB_len h16]
  exact cnt_pos s.adj_symm
/-- how many rows have it -/
def cntL (P : List Int → Bool) (l : List (List Int)) : Nat := (l.filter P).length
theorem kindE_cnt {P : List Int → Bool} {l : List (List Int)} (hl : 0 < l.length) {k : Nat} (h0 : k = 0 → ∀ r ∈ l, P r = false) (h1 : k = 1 → (∃ r ∈ l, P r = true) ∧ ∃ r ∈ l, P r = false) (h2 : k = 2 → ∀ r ∈ l, P r = true) (hk : k ≤ 2) : kindE (cntL P l : Nat) (l.length : Nat) = (k : Nat) := by
  have hle : cntL P l ≤ l.length := List.length_filter_le _ _
  unfold kindE
  have hk3 : k = 0 ∨ k = 1 ∨ k = 2 := by omega
  rcases hk3 with rfl | rfl | rfl
  · have : cntL P l = 0 := by
      unfold cntL
      rw [List.filter_eq_nil_iff.2 (fun r hr => by rw [h0 rfl r hr]; exact Bool.false_ne_true)]
      rfl
    rw [if_neg (by omega), if_neg (by omega)]
    rfl
  · obtain ⟨⟨r, hr, hp⟩, r', hr', hp'⟩ := h1 rfl
    have h3 : 0 < cntL P l := List.length_pos_iff.2 fun e => by
      have : r ∈ l.filter P := List.mem_filter.2 ⟨hr, hp⟩
      rw [e] at this
      exact absurd this List.not_mem_nil
    have h4 : cntL P l ≠ l.length := fun e => by
      have := List.length_filter_eq_length_iff.1 e r' hr'
      rw [hp'] at this
      cases this
    rw [if_neg (by omega), if_pos (by omega)]
    rfl
  · have : cntL P l = l.length := List.length_filter_eq_length_iff.2 fun r hr => h2 rfl r hr
    rw [if_pos (by omega)]
    rfl
/-- the kind of a thing, by counting -/
theorem kind_all (h16 : s.nt ≤ 16) {t : Nat} (ht : t < s.nt) : kindE (cntL (fun r => decide (0 ≤ lst r t)) (allB s.adj s.nt) : Nat) ((allB s.adj s.nt).length : Nat) = (kindN s.adj s.nt t : Nat) := by
  have key : ∀ m : Nat → Nat, decide (0 ≤ lst (rowP m s.nt s.nt) t) = decide (m t ≠ t) := fun m => by
    rw [lst_row m ht]
    refine decide_eq_decide.2 ?_
    by_cases e : m t = t
    · rw [mvI_none e]; omega
    · rw [mvI_some e]; omega
  refine kindE_cnt (allB_pos h16) ?_ ?_ ?_ ?_
  · intro h r hr
    obtain ⟨m, hm, rfl⟩ := (mem_allB h16).1 hr
    simp only [key]
    by_cases h0 : ∀ k, s.adj t k = false
    · refine decide_eq_false fun hh => ?_
      have := (hm.isM.ok t hh).2
      rw [h0] at this
      cases this
    · by_cases h1 : Spare s.adj (belowN s.nt) 16 t
      · rw [kindN_1 h0 h1] at h; cases h
      · rw [kindN_2 h0 h1] at h; cases h
  · intro h
    by_cases h0 : ∀ k, s.adj t k = false
    · rw [kindN_0 h0] at h; cases h
    · by_cases h1 : Spare s.adj (belowN s.nt) 16 t
      · constructor
        · obtain ⟨u, hu⟩ := Classical.not_forall.1 h0
          have hu : s.adj t u = true := by simpa using hu
          have hul := (Stk.adj_lt hu).2
          obtain ⟨m, hm, hmt⟩ := h1.mate (below16 h16) s.adj_symm (u := u) (by unfold belowN; exact decide_eq_true hul) (fun e => by rw [← e, s.adj_irr] at hu; cases hu) hu
          exact ⟨_, (mem_allB h16).2 ⟨m, hm, rfl⟩, by simp only [key]; exact decide_eq_true hmt⟩
        · obtain ⟨-, m, hm, hmt⟩ := h1
          exact ⟨_, (mem_allB h16).2 ⟨m, hm, rfl⟩, by simp only [key]; exact decide_eq_false (fun hh => hh hmt)⟩
      · rw [kindN_2 h0 h1] at h; cases h
  · intro h r hr
    obtain ⟨m, hm, rfl⟩ := (mem_allB h16).1 hr
    simp only [key]
    by_cases h0 : ∀ k, s.adj t k = false
    · rw [kindN_0 h0] at h; cases h
    · by_cases h1 : Spare s.adj (belowN s.nt) 16 t
      · rw [kindN_1 h0 h1] at h; cases h
      · exact decide_eq_true fun hh => h1 ⟨by unfold belowN; exact decide_eq_true ht, m, hm, hh⟩
  · unfold kindN
    split
    · omega
    · split <;> omega
/-- the kind of a pair, by counting -/
theorem pair_all (h16 : s.nt ≤ 16) {x y : Nat} (hx : x < s.nt) (hy : y < s.nt) : kindE (cntL (fun r => !decide (x = y) && decide (lst r x = (y : Nat))) (allB s.adj s.nt) : Nat) ((allB s.adj s.nt).length : Nat) = (pairN s.adj s.nt x y : Nat) := by
  have hbx : belowN s.nt x = true := by unfold belowN; exact decide_eq_true hx
  have hby : belowN s.nt y = true := by unfold belowN; exact decide_eq_true hy
  by_cases e : x = y
  · have : pairN s.adj s.nt x y = 0 := by
      unfold pairN
      rw [if_neg]
      rintro ⟨h, -⟩
      rw [e, s.adj_irr] at h
      cases h
    rw [this]
    exact kindE_cnt (allB_pos h16) (fun _ r _ => by simp [e]) (fun h => by cases h) (fun h => by cases h) (by omega)
  have key : ∀ m : Nat → Nat, (!decide (x = y) && decide (lst (rowP m s.nt s.nt) x = (y : Nat))) = decide (m x = y) := fun m => by
    rw [lst_row m hx, decide_eq_false e]
    show decide _ = _
    refine decide_eq_decide.2 ?_
    by_cases e2 : m x = x
    · rw [mvI_none e2]; omega
    · rw [mvI_some e2]; omega
  by_cases ha : s.adj x y = true
  · have hmay := pair_may (S := belowN s.nt) (n := 16) (below16 h16) s.adj_symm hbx hby e ha
    have halw := pair_always (A := s.adj) (S := belowN s.nt) (n := 16) (below16 h16) s.adj_symm (x := x) (y := y) e
    unfold pairN
    by_cases h1 : nu s.adj (less1 (less1 (belowN s.nt) x) y) 16 + 1 = nu s.adj (belowN s.nt) 16
    · rw [if_pos ⟨ha, h1⟩]
      obtain ⟨m, hm, hmx⟩ := hmay.2 h1
      by_cases h2 : nu (delE s.adj x y) (belowN s.nt) 16 < nu s.adj (belowN s.nt) 16
      · rw [if_pos h2]
        exact kindE_cnt (allB_pos h16) (fun h => by cases h) (fun h => by cases h) (fun _ r hr => by
          obtain ⟨m', hm', rfl⟩ := (mem_allB h16).1 hr
          simp only [key]
          exact decide_eq_true (halw.2 h2 m' hm')) (by omega)
      · rw [if_neg h2]
        refine kindE_cnt (allB_pos h16) (fun h => by cases h) (fun _ => ⟨⟨_, (mem_allB h16).2 ⟨m, hm, rfl⟩, by simp only [key]; exact decide_eq_true hmx⟩, ?_⟩) (fun h => by cases h) (by omega)
        obtain ⟨m', h3⟩ := Classical.not_forall.1 (fun hh => h2 (halw.1 hh))
        obtain ⟨hm', h4⟩ := Classical.not_imp.1 h3
        exact ⟨_, (mem_allB h16).2 ⟨m', hm', rfl⟩, by simp only [key]; exact decide_eq_false h4⟩
    · rw [if_neg (fun h => h1 h.2)]
      exact kindE_cnt (allB_pos h16) (fun _ r hr => by
        obtain ⟨m', hm', rfl⟩ := (mem_allB h16).1 hr
        simp only [key]
        exact decide_eq_false fun h => h1 (hmay.1 ⟨m', hm', h⟩)) (fun h => by cases h) (fun h => by cases h) (by omega)
  · have : pairN s.adj s.nt x y = 0 := by
      unfold pairN
      rw [if_neg (fun h => ha h.1)]
    rw [this]
    exact kindE_cnt (allB_pos h16) (fun _ r hr => by
      obtain ⟨m', hm', rfl⟩ := (mem_allB h16).1 hr
      simp only [key]
      refine decide_eq_false fun h => ha ?_
      have := (hm'.isM.ok x (fun h' => e (h'.symm.trans h))).2
      rwa [h] at this) (fun h => by cases h) (fun h => by cases h) (by omega)
end
end Go.Proofs.Yteingahlmlndkaa

/-
  What is proved: most pairs, the kinds of all things, and of a pair, by the definition (30, 35, 37).
-/
namespace Go.Proofs.Yteingahlmlndkaa
open Go.RowKit
attribute [local irreducible] Go.wpCalm rowV rowI
/-- the cell p of the list, and the row that lies there -/
theorem rows_at {U : World} {n base : Nat} {Q : List (Nat × Obj)} {vals : List Value} {R : List (List Int)} {A : Option Addr} {m c : Nat} (hO : OutI n Q vals R) (hQ : ∀ y ∈ Q, U.heap[y.1]? = some y.2) (hq : QAt U base 26 (.slice A m c) vals) {p : Nat} (hp : p < R.length) : ∃ b o rA rc r, A = some ⟨b, o, none⟩ ∧ R[p]? = some r ∧ r.length = n ∧ U.cell? ⟨b, o + p, none⟩ = some (.slice rA n rc) ∧ IntsAt U (.slice rA n rc) n (lst r) := by
  obtain ⟨rA, rc, r, hv, hr, hl, hU⟩ := hO.row (i := p) hp
  obtain ⟨b, o, rfl, co⟩ := hq.get hv
  exact ⟨b, o, rA, rc, r, rfl, hr, hl, co, hU U hQ⟩
theorem IntsAt.cell {U : World} {rA : Option Addr} {n rc : Nat} {f : Nat → Int} (h : IntsAt U (.slice rA n rc) n f) {i : Nat} (hi : i < n) : ∃ b o, rA = some ⟨b, o, none⟩ ∧ U.cell? ⟨b, o + i, none⟩ = some (.int .i64 (f i)) := by
  obtain ⟨A, c, he, -, -, hc⟩ := h
  cases he
  obtain ⟨b, o, rfl, e⟩ := hc i 0 hi (by omega)
  exact ⟨b, o, rfl, by simpa only [Nat.mul_one, Nat.add_zero] using e⟩
theorem cntL_take {P : List Int → Bool} {R : List (List Int)} {p : Nat} {r : List Int} (hr : R[p]? = some r) : cntL P (R.take (p + 1)) = cntL P (R.take p) + if P r = true then 1 else 0 := by
  unfold cntL
  rw [List.take_add_one, hr, List.filter_append, List.length_append]
  congr 1
  show ([r].filter P).length = _
  rw [List.filter_cons]
  by_cases h : P r = true
  · rw [if_pos h, if_pos h]; rfl
  · rw [if_neg h, if_neg h]; rfl
set_option maxRecDepth 100000 in
set_option maxHeartbeats 4000000 in
theorem rkinds_c (w : World) (v : Value) (s : Stk) (ht : StkAt w v s) (hok : s.Ok) (hn8 : s.nt ≤ 8) : Calls Try.prog 35 #[v] w fun e w' => ∃ u, e = .returned u ∧ ListAt w' u ((List.range s.nt).map (kindN s.adj s.nt)) ∧ w.grows w' := by
  have Ht := Lib.hid ht
  obtain ⟨tv, mv, rfl, ⟨sa, sc, rfl, s1, s2, -⟩, ⟨va, vc, rfl, -⟩⟩ := ht
  have h16 := hok.n16
  have HOk := Lib.hid hok
  clear hok
  go_enter Try.func35, Try.ntmps35
  go_wp2_with (go_at_call 99; fail)
  refine (rall_c _ _ s (Ht.out.mono (by (repeat (first | exact World.grows.refl _ | assumption | refine World.grows.alloc ?_ _ | refine World.grows.plus ?_ _ _ | refine World.grows.drew ?_)))) HOk.out hn8).mono ?_
  rintro e W1 ⟨u, vals, Q, rfl, hO, hQ, ⟨A, c, rfl⟩, ⟨base, hq⟩, g⟩
  have gW : w.grows W1 := World.grows.trans (by (repeat (first | exact World.grows.refl _ | assumption | refine World.grows.alloc ?_ _ | refine World.grows.plus ?_ _ _ | refine World.grows.drew ?_))) g
  have bx : W1.cell? ⟨w.heap.size, 0, none⟩ = some (.slice sa s.nt sc) := g.cell_of (cell_of_heap (World.heap_at w _ _ rfl) rfl)
  have hpos := allB_pos (s := s) h16
  obtain ⟨b, o, -, -, -, rfl, -⟩ := rows_at hO hQ hq hpos
  have HK := fun t ht => Lib.hid (kind_all (s := s) h16 (t := t) ht)
  obtain ⟨R, hR⟩ : ∃ R, allB s.adj s.nt = R := ⟨_, rfl⟩
  rw [hR] at hO hq HK hpos ⊢
  have hmb : R.length ≤ 43046721 := by
    rw [← hR]
    exact Nat.le_trans (List.length_filter_le _ _) (allR_max _ hn8 _ (Nat.le_refl _))
  obtain ⟨m, hm⟩ : ∃ m, R.length = m := ⟨_, rfl⟩
  have hle : m ≤ c ∧ c ≤ maxLen := by
    obtain ⟨A9, c9, e9, h9, h10, -⟩ := hq
    simp only [Value.slice.injEq] at e9
    obtain ⟨-, e8, rfl⟩ := e9
    exact ⟨by omega, h10⟩
  obtain ⟨hle, hcm⟩ := hle
  unfold maxLen at hcm
  have HRows : Hid (∀ (U : World), W1.grows U → ∀ p, p < m → ∃ rA rc r, R[p]? = some r ∧ r.length = s.nt ∧ U.cell? ⟨b, o + p, none⟩ = some (.slice rA s.nt rc) ∧ IntsAt U (.slice rA s.nt rc) s.nt (lst r)) := Lib.hid fun U gU p hp => by
    obtain ⟨b', o', rA, rc, r, e1, hr, hrl, co, cI⟩ := rows_at hO hQ hq (p := p) (by omega)
    cases e1
    exact ⟨rA, rc, r, hr, hrl, gU.cell_of co, IntsAt.mono cI gU⟩
  rw [hm] at hmb HK ⊢
  have Hm := Lib.hid hm
  have HG := Lib.hid gW
  have HX : Hid (∀ U, W1.grows U → U.cell? ⟨w.heap.size, 0, none⟩ = some (.slice sa s.nt sc)) := Lib.hid fun U gU => gU.cell_of bx
  clear hO hQ hq g hm hR gW hpos bx
  go_wp2
  go_loopw [4, 5] (fun l i wr => ∃ k : Nat, k ≤ s.nt ∧ i = .int .i64 (k : Nat) ∧ Hid (wr.ownsRow W1.heap.size 3 1 l k (ilist ((List.range k).map (kindN s.adj s.nt)))) ∧ Hid (W1.grows wr)) (fun _ i _ => s.nt - (intOf i).toNat)
  case atStart => exact ⟨0, by omega, rfl, Lib.hid (World.ownsRow_nil _ _ _ _), Lib.hid (World.grows.refl _)⟩
  case round =>
    obtain ⟨i, hi, rfl, ho, hg⟩ := hrel
    obtain ⟨la, lc, rfl, -, -⟩ := row_form ho.out
    obtain ⟨W2, rfl⟩ : ∃ W2, W2 = wr := ⟨_, rfl⟩
    have bx := HX.out _ hg.out
    by_cases hlt : i < s.nt
    · have hltI : (i : Int) < s.nt := by omega
      have HSN : Hid ((List.range (i + 1)).map (kindN s.adj s.nt) = (List.range i).map (kindN s.adj s.nt) ++ [kindN s.adj s.nt i]) := Lib.hid (by rw [List.range_succ, List.map_append]; rfl)
      go_wp2
      go_loopw [6, 7] (fun i6 i7 wr => ∃ p : Nat, p ≤ m ∧ i7 = .int .i64 (p : Nat) ∧ i6 = .int .i64 (cntL (fun r => decide (0 ≤ lst r i)) (R.take p) : Nat) ∧ Hid (W2.grows wr)) (fun _ i7 _ => m - (intOf i7).toNat)
      case atStart => exact ⟨0, by omega, rfl, rfl, Lib.hid (World.grows.refl _)⟩
      case round =>
        obtain ⟨p, hp, rfl, rfl, hg2⟩ := hrel
        have hcm2 : cntL (fun r => decide (0 ≤ lst r i)) (R.take p) ≤ p := by
          unfold cntL
          refine Nat.le_trans (List.length_filter_le _ _) ?_
          rw [List.length_take]
          omega
        by_cases hlt2 : p < m
        · have hltI2 : (p : Int) < m := by omega
          obtain ⟨rA, rc, r, hr, hrl, co, cI⟩ := HRows.out wr (hg.out.trans hg2.out) p hlt2
          obtain ⟨rb, ro, rfl, cr⟩ := IntsAt.cell cI hlt
          have hrc : s.nt ≤ rc := by
            obtain ⟨A9, c9, e9, h9, -⟩ := cI
            cases e9
            exact h9
          have HC := Lib.hid (cntL_take (P := fun r => decide (0 ≤ lst r i)) hr)
          obtain ⟨q, hq⟩ : ∃ q, cntL (fun r => decide (0 ≤ lst r i)) (R.take p) = q := ⟨_, rfl⟩
          rw [hq] at HC hcm2 ⊢
          clear hr cI bx hq
          by_cases hv : 0 ≤ lst r i
          · have HC2 : Hid (cntL (fun r => decide (0 ≤ lst r i)) (R.take (p + 1)) = q + 1) := Lib.hid (by rw [HC.out, if_pos (decide_eq_true hv)])
            go_wp2
            case roundEnd => exact ⟨⟨p + 1, by omega, by go_num, by rw [HC2.out]; go_num, hg2⟩, by simp [intOf]; omega⟩
          · have HC2 : Hid (cntL (fun r => decide (0 ≤ lst r i)) (R.take (p + 1)) = q) := Lib.hid (by rw [HC.out, if_neg (by simpa using hv)]; rfl)
            go_wp2
            case roundEnd => exact ⟨⟨p + 1, by omega, by go_num, by rw [HC2.out], hg2⟩, by simp [intOf]; omega⟩
        · have hltI2 : ¬ (p : Int) < m := by omega
          have hpm : p = m := by omega
          have HKi := HK i hlt
          obtain ⟨q, hq⟩ : ∃ q, cntL (fun r => decide (0 ≤ lst r i)) (R.take p) = q := ⟨_, rfl⟩
          have HE : Hid (kindE (q : Nat) (m : Nat) = (kindN s.adj s.nt i : Nat)) := Lib.hid (by
            rw [← HKi.out, ← hq, hpm, List.take_of_length_le (by rw [Hm.out]; omega)])
          rw [hq] at hcm2 ⊢
          clear hq hpm HKi bx
          have ho2 := Lib.hid (ho.out.grow hg2.out)
          have hg3 := Lib.hid (hg.out.trans hg2.out)
          go_wp2_with (go_at_call 99; fail)
          refine (kind_c wr (q : Nat) (m : Nat)).mono ?_
          rintro e W3 ⟨rfl, g3⟩
          rw [HE.out]
          obtain ⟨K, hK⟩ : ∃ K, kindN s.adj s.nt i = K := ⟨_, rfl⟩
          rw [hK] at HSN ⊢
          have ho4 := Lib.hid (ho2.out.grow g3)
          have hg4 := Lib.hid (hg3.out.trans g3)
          have hsz := (hg4.out).size
          clear HE hK ho2 hg3 g3 ho hg hg2
          dsimp only
          (iterate 4 go_step)
          have ho7 := World.ownsRow.grow ho4.out (show World.grows W3 (World.alloc W3 (.cells #[.int .i64 K] 3)) by (repeat (first | exact World.grows.refl _ | assumption | refine World.grows.alloc ?_ _ | refine World.grows.plus ?_ _ _ | refine World.grows.drew ?_))); refine wpList_append_r _ rfl (.tmp 33) (.tmp 38) 26 (by rfl) W1.heap.size 3 (.int .i64 0) 1 8 Try.underlying26 el3 (by rfl) (by omega) (.slice la i lc) i _ (by rfl) ho7 (.slice (some ⟨(W3).heap.size, 0, none⟩) 1 1) (by rfl) 1 _ (SliceAt.src (by omega) (one_slice _ _ _ _ (by simp))) (one_cell _) (by unfold maxLen; omega) (by omega) (by simp; omega) ?_; intro v' w3 hown hgb; have hO3 := Lib.hid (World.grownBy.grows hgb ho7 (World.grows.trans hg4.out (show World.grows W3 (World.alloc W3 (.cells #[.int .i64 K] 3)) by (repeat (first | exact World.grows.refl _ | assumption | refine World.grows.alloc ?_ _ | refine World.grows.plus ?_ _ _ | refine World.grows.drew ?_)))) (Nat.le_refl _)); have ho8 : Hid (w3.ownsRow W1.heap.size 3 1 v' (i + 1) (ilist ((List.range (i + 1)).map (kindN s.adj s.nt)))) := Lib.hid (by rw [HSN.out, ilist_snoc]; rw [tableL_one] at hown; exact hown); obtain ⟨la2, lc2, rfl, -, -⟩ := row_form hown; clear hown hgb ho7
          go_wp2
          case roundEnd => exact ⟨⟨i + 1, by omega, by go_num, ho8, hO3⟩, by simp [intOf]; omega⟩
    · have hltI : ¬ (i : Int) < s.nt := by omega
      have hke : i = s.nt := by omega
      have HL : Hid (ListAt W2 (.slice la i lc) ((List.range s.nt).map (kindN s.adj s.nt))) := Lib.hid (by
        have h1 := ho.out
        rw [hke] at h1 ⊢
        exact h1.listAt (by simp))
      have HG2 := Lib.hid (HG.out.trans hg.out)
      clear ho hlt hi hke
      go_wp2
      (refine bodyPost_ret (v := .slice la i lc) (by simp [results, Try.results35, go_sem]) rfl ?_)
      exact ⟨_, rfl, HL.out, HG2.out⟩
set_option maxRecDepth 100000 in
set_option maxHeartbeats 4000000 in
theorem rpair_c (w : World) (v : Value) (s : Stk) (ht : StkAt w v s) (hok : s.Ok) (hn8 : s.nt ≤ 8) (x y : Nat) (hx : x < s.nt) (hy : y < s.nt) : Calls Try.prog 37 #[v, .int .i64 (x : Nat), .int .i64 (y : Nat)] w fun e w' => e = .returned (.int .i64 (pairN s.adj s.nt x y : Nat)) ∧ w.grows w' := by
  have Ht := Lib.hid ht
  obtain ⟨tv, mv, rfl, ⟨sa, sc, rfl, s1, s2, -⟩, ⟨va, vc, rfl, -⟩⟩ := ht
  have h16 := hok.n16
  have HOk := Lib.hid hok
  clear hok
  go_enter Try.func37, Try.ntmps37
  go_wp2_with (go_at_call 99; fail)
  refine (rall_c _ _ s (Ht.out.mono (by (repeat (first | exact World.grows.refl _ | assumption | refine World.grows.alloc ?_ _ | refine World.grows.plus ?_ _ _ | refine World.grows.drew ?_)))) HOk.out hn8).mono ?_
  rintro e W1 ⟨u, vals, Q, rfl, hO, hQ, ⟨A, c, rfl⟩, ⟨base, hq⟩, g⟩
  have gW : w.grows W1 := World.grows.trans (by (repeat (first | exact World.grows.refl _ | assumption | refine World.grows.alloc ?_ _ | refine World.grows.plus ?_ _ _ | refine World.grows.drew ?_))) g
  have hpos := allB_pos (s := s) h16
  obtain ⟨b, o, -, -, -, rfl, -⟩ := rows_at hO hQ hq hpos
  have HK := Lib.hid (pair_all (s := s) h16 hx hy)
  obtain ⟨R, hR⟩ : ∃ R, allB s.adj s.nt = R := ⟨_, rfl⟩
  rw [hR] at hO hq HK hpos ⊢
  have hmb : R.length ≤ 43046721 := by
    rw [← hR]
    exact Nat.le_trans (List.length_filter_le _ _) (allR_max _ hn8 _ (Nat.le_refl _))
  obtain ⟨m, hm⟩ : ∃ m, R.length = m := ⟨_, rfl⟩
  have hle : m ≤ c ∧ c ≤ maxLen := by
    obtain ⟨A9, c9, e9, h9, h10, -⟩ := hq
    simp only [Value.slice.injEq] at e9
    obtain ⟨-, e8, rfl⟩ := e9
    exact ⟨by omega, h10⟩
  obtain ⟨hle, hcm⟩ := hle
  unfold maxLen at hcm
  have HRows : Hid (∀ (U : World), W1.grows U → ∀ p, p < m → ∃ rA rc r, R[p]? = some r ∧ r.length = s.nt ∧ U.cell? ⟨b, o + p, none⟩ = some (.slice rA s.nt rc) ∧ IntsAt U (.slice rA s.nt rc) s.nt (lst r)) := Lib.hid fun U gU p hp => by
    obtain ⟨b', o', rA, rc, r, e1, hr, hrl, co, cI⟩ := rows_at hO hQ hq (p := p) (by omega)
    cases e1
    exact ⟨rA, rc, r, hr, hrl, gU.cell_of co, IntsAt.mono cI gU⟩
  rw [hm] at hmb HK ⊢
  have Hm := Lib.hid hm
  have HG := Lib.hid gW
  have hxI : (x : Int) < s.nt := by omega
  obtain ⟨P, hP⟩ : ∃ P : List Int → Bool, (fun r => !decide (x = y) && decide (lst r x = (y : Nat))) = P := ⟨_, rfl⟩
  rw [hP] at HK
  have HP := Lib.hid hP
  clear hO hQ hq g hm hR gW hpos hP
  go_wp2
  go_loopw [8, 9] (fun i6 i7 wr => ∃ p : Nat, p ≤ m ∧ i7 = .int .i64 (p : Nat) ∧ i6 = .int .i64 (cntL P (R.take p) : Nat) ∧ Hid (W1.grows wr)) (fun _ i7 _ => m - (intOf i7).toNat)
  case atStart => exact ⟨0, by omega, rfl, rfl, Lib.hid (World.grows.refl _)⟩
  case round =>
    obtain ⟨p, hp, rfl, rfl, hg2⟩ := hrel
    have hcm2 : cntL P (R.take p) ≤ p := by
      unfold cntL
      refine Nat.le_trans (List.length_filter_le _ _) ?_
      rw [List.length_take]
      omega
    by_cases hlt2 : p < m
    · have hltI2 : (p : Int) < m := by omega
      obtain ⟨rA, rc, r, hr, hrl, co, cI⟩ := HRows.out wr hg2.out p hlt2
      obtain ⟨rb, ro, rfl, cr⟩ := IntsAt.cell cI hx
      have hrc : s.nt ≤ rc := by
        obtain ⟨A9, c9, e9, h9, -⟩ := cI
        cases e9
        exact h9
      have HC := Lib.hid (cntL_take (P := P) hr)
      obtain ⟨q, hq⟩ : ∃ q, cntL P (R.take p) = q := ⟨_, rfl⟩
      rw [hq] at HC hcm2 ⊢
      clear hr cI hq
      by_cases hxy : x = y
      · have hB : ((x : Int) != (y : Int)) = false := by simp; omega
        have HC2 : Hid (cntL P (R.take (p + 1)) = q) := Lib.hid (by rw [HC.out, ← HP.out, if_neg (by simp [hxy])]; rfl)
        clear hxy
        go_wp2
        case roundEnd => exact ⟨⟨p + 1, by omega, by go_num, by rw [HC2.out], hg2⟩, by simp [intOf]; omega⟩
      · have hB : ((x : Int) != (y : Int)) = true := by simp; omega
        by_cases hv : lst r x = (y : Nat)
        · have hvB : (lst r x == (y : Int)) = true := by simp [hv]
          have HC2 : Hid (cntL P (R.take (p + 1)) = q + 1) := Lib.hid (by rw [HC.out, ← HP.out, if_pos (by simp [hxy, hv])])
          clear hxy hv
          go_wp2
          case roundEnd => exact ⟨⟨p + 1, by omega, by go_num, by rw [HC2.out]; go_num, hg2⟩, by simp [intOf]; omega⟩
        · have hvB : (lst r x == (y : Int)) = false := by simp [hv]
          have HC2 : Hid (cntL P (R.take (p + 1)) = q) := Lib.hid (by rw [HC.out, ← HP.out, if_neg (by simp [hv])]; rfl)
          clear hxy hv
          go_wp2
          case roundEnd => exact ⟨⟨p + 1, by omega, by go_num, by rw [HC2.out], hg2⟩, by simp [intOf]; omega⟩
    · have hltI2 : ¬ (p : Int) < m := by omega
      have hpm : p = m := by omega
      obtain ⟨q, hq⟩ : ∃ q, cntL P (R.take p) = q := ⟨_, rfl⟩
      have HE : Hid (kindE (q : Nat) (m : Nat) = (pairN s.adj s.nt x y : Nat)) := Lib.hid (by
        rw [← HK.out, ← hq, hpm, List.take_of_length_le (by rw [Hm.out]; omega)])
      rw [hq] at hcm2 ⊢
      clear hq hpm
      go_wp2_with (go_at_call 99; fail)
      refine (kind_c wr (q : Nat) (m : Nat)).mono ?_
      rintro e W3 ⟨rfl, g3⟩
      rw [HE.out]
      have HG2 := Lib.hid (HG.out.trans (hg2.out.trans g3))
      clear HE g3 hg2
      go_wp2
      (refine bodyPost_ret (v := .int .i64 (pairN s.adj s.nt x y : Nat)) (by simp [results, Try.results37, go_sem]) rfl ?_)
      exact ⟨rfl, HG2.out.trans (by (repeat (first | exact World.grows.refl _ | assumption | refine World.grows.alloc ?_ _ | refine World.grows.plus ?_ _ _ | refine World.grows.drew ?_)))⟩
end Go.Proofs.Yteingahlmlndkaa

/-
  What is proved: MatchKinds (5) answers true.
-/
namespace Go.Proofs.Yteingahlmlndkaa
open Go.RowKit
attribute [local irreducible] Go.wpCalm rowV
set_option maxRecDepth 100000 in
set_option maxHeartbeats 8000000 in
theorem kinds_w (w : World) (tv : Value) (s : Stk) (ht : StkAt w tv s) (x y : Int) : Calls Try.prog 5 #[tv, .int .i64 x, .int .i64 y] w fun e w' => e = .returned (.bool true) ∧ w.grows w' := by
  have HT := Lib.hid ht
  obtain ⟨sv, vv, rfl, ⟨sa, sc, rfl, -⟩, ⟨va, vc, rfl, -⟩⟩ := ht
  obtain ⟨P, hP⟩ : ∃ P, s.wide = P := ⟨_, rfl⟩
  obtain ⟨N2, hN2⟩ : ∃ N, s.nm = N := ⟨_, rfl⟩
  rw [hP, hN2] at HT ⊢
  clear hP hN2
  go_enter Try.func5, Try.ntmps5
  have HB : Hid ((w.alloc (.cells #[.slice sa s.nt sc, .slice va N2 vc, .int .i64 P] 25)).heap[w.heap.size]? = some (.cells #[.slice sa s.nt sc, .slice va N2 vc, .int .i64 P] 25)) := Lib.hid (World.heap_at _ _ _ rfl)
  have HW : Hid (w.grows (w.alloc (.cells #[.slice sa s.nt sc, .slice va N2 vc, .int .i64 P] 25))) := Lib.hid (by (repeat (first | exact World.grows.refl _ | assumption | refine World.grows.alloc ?_ _ | refine World.grows.plus ?_ _ _ | refine World.grows.drew ?_)))
  have q0 := cell_of_heap (i := 0) HB.out rfl
  have q1 := cell_of_heap (i := 1) HB.out rfl
  have q2 := cell_of_heap (i := 2) HB.out rfl
  go_wp2_with (go_at_call 99; fail)
  refine (great_c _ _ s (HT.out.mono (HW.out.trans (by (repeat (first | exact World.grows.refl _ | assumption | refine World.grows.alloc ?_ _ | refine World.grows.plus ?_ _ _ | refine World.grows.drew ?_)))))).mono ?_
  rintro e U ⟨rfl, g⟩
  replace HW := Lib.hid (HW.out.trans (World.grows.trans (by (repeat (first | exact World.grows.refl _ | assumption | refine World.grows.alloc ?_ _ | refine World.grows.plus ?_ _ _ | refine World.grows.drew ?_))) g)); replace HB := Lib.hid (g.heap_of (World.grows.heap_of (by (repeat (first | exact World.grows.refl _ | assumption | refine World.grows.alloc ?_ _ | refine World.grows.plus ?_ _ _ | refine World.grows.drew ?_))) HB.out)); replace q0 := cell_of_heap (i := 0) HB.out rfl; replace q1 := cell_of_heap (i := 1) HB.out rfl; replace q2 := cell_of_heap (i := 2) HB.out rfl; clear g
  cases hgr : s.great with
  | true => go_wp2_with (go_at_call 99; fail); refine (works_c _).mono ?_; rintro e U9 ⟨rfl, g⟩; replace HW := Lib.hid (HW.out.trans (World.grows.trans (by (repeat (first | exact World.grows.refl _ | assumption | refine World.grows.alloc ?_ _ | refine World.grows.plus ?_ _ _ | refine World.grows.drew ?_))) g)); replace HB := Lib.hid (g.heap_of (World.grows.heap_of (by (repeat (first | exact World.grows.refl _ | assumption | refine World.grows.alloc ?_ _ | refine World.grows.plus ?_ _ _ | refine World.grows.drew ?_))) HB.out)); replace q0 := cell_of_heap (i := 0) HB.out rfl; replace q1 := cell_of_heap (i := 1) HB.out rfl; replace q2 := cell_of_heap (i := 2) HB.out rfl; clear g; go_wp2; (refine bodyPost_ret (v := .bool true) (by simp [results, Try.results5, go_sem]) rfl ?_); exact ⟨rfl, HW.out.trans (by (repeat (first | exact World.grows.refl _ | assumption | refine World.grows.alloc ?_ _ | refine World.grows.plus ?_ _ _ | refine World.grows.drew ?_)))⟩
  | false =>
    clear hgr
    go_wp2_with (go_at_call 99; fail)
    refine (full_c _ _ s (HT.out.mono (HW.out.trans (by (repeat (first | exact World.grows.refl _ | assumption | refine World.grows.alloc ?_ _ | refine World.grows.plus ?_ _ _ | refine World.grows.drew ?_)))))).mono ?_
    rintro e U2 ⟨rfl, g⟩
    replace HW := Lib.hid (HW.out.trans (World.grows.trans (by (repeat (first | exact World.grows.refl _ | assumption | refine World.grows.alloc ?_ _ | refine World.grows.plus ?_ _ _ | refine World.grows.drew ?_))) g)); replace HB := Lib.hid (g.heap_of (World.grows.heap_of (by (repeat (first | exact World.grows.refl _ | assumption | refine World.grows.alloc ?_ _ | refine World.grows.plus ?_ _ _ | refine World.grows.drew ?_))) HB.out)); replace q0 := cell_of_heap (i := 0) HB.out rfl; replace q1 := cell_of_heap (i := 1) HB.out rfl; replace q2 := cell_of_heap (i := 2) HB.out rfl; clear g
    cases hfu : s.full with
    | true => go_wp2_with (go_at_call 99; fail); refine (works_c _).mono ?_; rintro e U9 ⟨rfl, g⟩; replace HW := Lib.hid (HW.out.trans (World.grows.trans (by (repeat (first | exact World.grows.refl _ | assumption | refine World.grows.alloc ?_ _ | refine World.grows.plus ?_ _ _ | refine World.grows.drew ?_))) g)); replace HB := Lib.hid (g.heap_of (World.grows.heap_of (by (repeat (first | exact World.grows.refl _ | assumption | refine World.grows.alloc ?_ _ | refine World.grows.plus ?_ _ _ | refine World.grows.drew ?_))) HB.out)); replace q0 := cell_of_heap (i := 0) HB.out rfl; replace q1 := cell_of_heap (i := 1) HB.out rfl; replace q2 := cell_of_heap (i := 2) HB.out rfl; clear g; go_wp2; (refine bodyPost_ret (v := .bool true) (by simp [results, Try.results5, go_sem]) rfl ?_); exact ⟨rfl, HW.out.trans (by (repeat (first | exact World.grows.refl _ | assumption | refine World.grows.alloc ?_ _ | refine World.grows.plus ?_ _ _ | refine World.grows.drew ?_)))⟩
    | false =>
      obtain ⟨E, hE⟩ : ∃ z, twoE s x y = z := ⟨_, rfl⟩
      obtain ⟨V, hV⟩ : ∃ z, (if E = 0 then pairN s.adj s.nt x.toNat y.toNat else 0) = z := ⟨_, rfl⟩
      have h33 := fun W ht => pair_c W (.agg #[.slice sa s.nt sc, .slice va N2 vc, .int .i64 P]) s ht x y
      rw [hE, hV] at h33
      have HE := Lib.hid hE
      have HV := Lib.hid hV
      clear hE hV
      by_cases hc : s.check = 0
      · have hok := (Stk.ok_iff s).1 hc
        have hn8 : s.nt ≤ 8 := by
          unfold Stk.full at hfu
          rw [decide_eq_true hc, Bool.true_and, decide_eq_false_iff_not] at hfu
          omega
        have HC := Lib.hid hc
        have HOk := Lib.hid hok
        have HE2 : Hid (E = if (s.isT x && s.isT y) = true then 0 else 3) := Lib.hid (by rw [← HE.out]; unfold twoE; rw [if_neg (by omega)])
        clear hfu hc hok
        go_wp2_with (go_at_call 99; fail)
        refine (v_kinds (HT.out.mono (HW.out.trans (by (repeat (first | exact World.grows.refl _ | assumption | refine World.grows.alloc ?_ _ | refine World.grows.plus ?_ _ _ | refine World.grows.drew ?_))))) HOk.out).mono ?_
        rintro e U3 ⟨a3, c3, rfl, hi3, g⟩
        have HI := Lib.hid hi3
        clear hi3
        replace HW := Lib.hid (HW.out.trans (World.grows.trans (by (repeat (first | exact World.grows.refl _ | assumption | refine World.grows.alloc ?_ _ | refine World.grows.plus ?_ _ _ | refine World.grows.drew ?_))) g)); replace HB := Lib.hid (g.heap_of (World.grows.heap_of (by (repeat (first | exact World.grows.refl _ | assumption | refine World.grows.alloc ?_ _ | refine World.grows.plus ?_ _ _ | refine World.grows.drew ?_))) HB.out)); replace q0 := cell_of_heap (i := 0) HB.out rfl; replace q1 := cell_of_heap (i := 1) HB.out rfl; replace q2 := cell_of_heap (i := 2) HB.out rfl; clear g
        go_wp2_with (go_at_call 99; fail)
        refine (h33 _ (HT.out.mono (HW.out.trans (by (repeat (first | exact World.grows.refl _ | assumption | refine World.grows.alloc ?_ _ | refine World.grows.plus ?_ _ _ | refine World.grows.drew ?_)))))).mono ?_
        rintro e U4 ⟨rfl, g⟩
        replace HI := Lib.hid (IntsAt.mono HI.out (World.grows.trans (by (repeat (first | exact World.grows.refl _ | assumption | refine World.grows.alloc ?_ _ | refine World.grows.plus ?_ _ _ | refine World.grows.drew ?_))) g))
        replace HW := Lib.hid (HW.out.trans (World.grows.trans (by (repeat (first | exact World.grows.refl _ | assumption | refine World.grows.alloc ?_ _ | refine World.grows.plus ?_ _ _ | refine World.grows.drew ?_))) g)); replace HB := Lib.hid (g.heap_of (World.grows.heap_of (by (repeat (first | exact World.grows.refl _ | assumption | refine World.grows.alloc ?_ _ | refine World.grows.plus ?_ _ _ | refine World.grows.drew ?_))) HB.out)); replace q0 := cell_of_heap (i := 0) HB.out rfl; replace q1 := cell_of_heap (i := 1) HB.out rfl; replace q2 := cell_of_heap (i := 2) HB.out rfl; clear g
        clear h33
        go_wp2_with (go_at_call 99; fail)
        refine (v_rcheck (HT.out.mono (HW.out.trans (by (repeat (first | exact World.grows.refl _ | assumption | refine World.grows.alloc ?_ _ | refine World.grows.plus ?_ _ _ | refine World.grows.drew ?_))))) HC.out).mono ?_
        rintro e U5 ⟨rfl, g⟩
        replace HI := Lib.hid (IntsAt.mono HI.out (World.grows.trans (by (repeat (first | exact World.grows.refl _ | assumption | refine World.grows.alloc ?_ _ | refine World.grows.plus ?_ _ _ | refine World.grows.drew ?_))) g))
        replace HW := Lib.hid (HW.out.trans (World.grows.trans (by (repeat (first | exact World.grows.refl _ | assumption | refine World.grows.alloc ?_ _ | refine World.grows.plus ?_ _ _ | refine World.grows.drew ?_))) g)); replace HB := Lib.hid (g.heap_of (World.grows.heap_of (by (repeat (first | exact World.grows.refl _ | assumption | refine World.grows.alloc ?_ _ | refine World.grows.plus ?_ _ _ | refine World.grows.drew ?_))) HB.out)); replace q0 := cell_of_heap (i := 0) HB.out rfl; replace q1 := cell_of_heap (i := 1) HB.out rfl; replace q2 := cell_of_heap (i := 2) HB.out rfl; clear g
        go_wp2_with (go_at_call 99; fail)
        refine (rkinds_c _ _ s (HT.out.mono (HW.out.trans (by (repeat (first | exact World.grows.refl _ | assumption | refine World.grows.alloc ?_ _ | refine World.grows.plus ?_ _ _ | refine World.grows.drew ?_))))) HOk.out hn8).mono ?_
        rintro e U6 ⟨u, rfl, hu, g⟩
        replace HI := Lib.hid (IntsAt.mono HI.out (World.grows.trans (by (repeat (first | exact World.grows.refl _ | assumption | refine World.grows.alloc ?_ _ | refine World.grows.plus ?_ _ _ | refine World.grows.drew ?_))) g))
        have HJ : Hid (IntsAt U6 u s.nt (kindsF s)) := Lib.hid (by
          have : ((List.range s.nt).map (kindN s.adj s.nt)).length = s.nt := by rw [List.length_map, List.length_range]
          unfold ListAt at hu
          rw [this] at hu
          exact hu)
        clear hu
        replace HW := Lib.hid (HW.out.trans (World.grows.trans (by (repeat (first | exact World.grows.refl _ | assumption | refine World.grows.alloc ?_ _ | refine World.grows.plus ?_ _ _ | refine World.grows.drew ?_))) g)); replace HB := Lib.hid (g.heap_of (World.grows.heap_of (by (repeat (first | exact World.grows.refl _ | assumption | refine World.grows.alloc ?_ _ | refine World.grows.plus ?_ _ _ | refine World.grows.drew ?_))) HB.out)); replace q0 := cell_of_heap (i := 0) HB.out rfl; replace q1 := cell_of_heap (i := 1) HB.out rfl; replace q2 := cell_of_heap (i := 2) HB.out rfl; clear g
        go_wp2_with (go_at_call 99; fail)
        refine (w_ints (IntsAt.mono HI.out (by (repeat (first | exact World.grows.refl _ | assumption | refine World.grows.alloc ?_ _ | refine World.grows.plus ?_ _ _ | refine World.grows.drew ?_)))) (IntsAt.mono HJ.out (by (repeat (first | exact World.grows.refl _ | assumption | refine World.grows.alloc ?_ _ | refine World.grows.plus ?_ _ _ | refine World.grows.drew ?_))))).mono ?_
        rintro e U7 ⟨rfl, g⟩
        replace HW := Lib.hid (HW.out.trans (World.grows.trans (by (repeat (first | exact World.grows.refl _ | assumption | refine World.grows.alloc ?_ _ | refine World.grows.plus ?_ _ _ | refine World.grows.drew ?_))) g)); replace HB := Lib.hid (g.heap_of (World.grows.heap_of (by (repeat (first | exact World.grows.refl _ | assumption | refine World.grows.alloc ?_ _ | refine World.grows.plus ?_ _ _ | refine World.grows.drew ?_))) HB.out)); replace q0 := cell_of_heap (i := 0) HB.out rfl; replace q1 := cell_of_heap (i := 1) HB.out rfl; replace q2 := cell_of_heap (i := 2) HB.out rfl; clear g
        clear HI HJ
        go_wp2_with (go_at_call 99; fail)
        refine (is36_c _ _ s (HT.out.mono (HW.out.trans (by (repeat (first | exact World.grows.refl _ | assumption | refine World.grows.alloc ?_ _ | refine World.grows.plus ?_ _ _ | refine World.grows.drew ?_))))) x).mono ?_
        rintro e U8 ⟨rfl, g⟩
        replace HW := Lib.hid (HW.out.trans (World.grows.trans (by (repeat (first | exact World.grows.refl _ | assumption | refine World.grows.alloc ?_ _ | refine World.grows.plus ?_ _ _ | refine World.grows.drew ?_))) g)); replace HB := Lib.hid (g.heap_of (World.grows.heap_of (by (repeat (first | exact World.grows.refl _ | assumption | refine World.grows.alloc ?_ _ | refine World.grows.plus ?_ _ _ | refine World.grows.drew ?_))) HB.out)); replace q0 := cell_of_heap (i := 0) HB.out rfl; replace q1 := cell_of_heap (i := 1) HB.out rfl; replace q2 := cell_of_heap (i := 2) HB.out rfl; clear g
        cases hx : s.isT x with
        | false =>
          have hE3 : E = 3 := by rw [HE2.out, hx]; rfl
          have hV0 : V = 0 := by rw [← HV.out, hE3]; rfl
          subst hE3
          subst hV0
          clear hx
          go_wp2_with (go_at_call 99; fail); refine (works_c _).mono ?_; rintro e U9 ⟨rfl, g⟩; replace HW := Lib.hid (HW.out.trans (World.grows.trans (by (repeat (first | exact World.grows.refl _ | assumption | refine World.grows.alloc ?_ _ | refine World.grows.plus ?_ _ _ | refine World.grows.drew ?_))) g)); replace HB := Lib.hid (g.heap_of (World.grows.heap_of (by (repeat (first | exact World.grows.refl _ | assumption | refine World.grows.alloc ?_ _ | refine World.grows.plus ?_ _ _ | refine World.grows.drew ?_))) HB.out)); replace q0 := cell_of_heap (i := 0) HB.out rfl; replace q1 := cell_of_heap (i := 1) HB.out rfl; replace q2 := cell_of_heap (i := 2) HB.out rfl; clear g; go_wp2; (refine bodyPost_ret (v := .bool true) (by simp [results, Try.results5, go_sem]) rfl ?_); exact ⟨rfl, HW.out.trans (by (repeat (first | exact World.grows.refl _ | assumption | refine World.grows.alloc ?_ _ | refine World.grows.plus ?_ _ _ | refine World.grows.drew ?_)))⟩
        | true =>
          go_wp2_with (go_at_call 99; fail)
          refine (is36_c _ _ s (HT.out.mono (HW.out.trans (by (repeat (first | exact World.grows.refl _ | assumption | refine World.grows.alloc ?_ _ | refine World.grows.plus ?_ _ _ | refine World.grows.drew ?_))))) y).mono ?_
          rintro e U9 ⟨rfl, g⟩
          replace HW := Lib.hid (HW.out.trans (World.grows.trans (by (repeat (first | exact World.grows.refl _ | assumption | refine World.grows.alloc ?_ _ | refine World.grows.plus ?_ _ _ | refine World.grows.drew ?_))) g)); replace HB := Lib.hid (g.heap_of (World.grows.heap_of (by (repeat (first | exact World.grows.refl _ | assumption | refine World.grows.alloc ?_ _ | refine World.grows.plus ?_ _ _ | refine World.grows.drew ?_))) HB.out)); replace q0 := cell_of_heap (i := 0) HB.out rfl; replace q1 := cell_of_heap (i := 1) HB.out rfl; replace q2 := cell_of_heap (i := 2) HB.out rfl; clear g
          cases hy : s.isT y with
          | false =>
            have hE3 : E = 3 := by rw [HE2.out, hx, hy]; rfl
            have hV0 : V = 0 := by rw [← HV.out, hE3]; rfl
            subst hE3
            subst hV0
            clear hx hy
            go_wp2_with (go_at_call 99; fail); refine (works_c _).mono ?_; rintro e U9 ⟨rfl, g⟩; replace HW := Lib.hid (HW.out.trans (World.grows.trans (by (repeat (first | exact World.grows.refl _ | assumption | refine World.grows.alloc ?_ _ | refine World.grows.plus ?_ _ _ | refine World.grows.drew ?_))) g)); replace HB := Lib.hid (g.heap_of (World.grows.heap_of (by (repeat (first | exact World.grows.refl _ | assumption | refine World.grows.alloc ?_ _ | refine World.grows.plus ?_ _ _ | refine World.grows.drew ?_))) HB.out)); replace q0 := cell_of_heap (i := 0) HB.out rfl; replace q1 := cell_of_heap (i := 1) HB.out rfl; replace q2 := cell_of_heap (i := 2) HB.out rfl; clear g; go_wp2; (refine bodyPost_ret (v := .bool true) (by simp [results, Try.results5, go_sem]) rfl ?_); exact ⟨rfl, HW.out.trans (by (repeat (first | exact World.grows.refl _ | assumption | refine World.grows.alloc ?_ _ | refine World.grows.plus ?_ _ _ | refine World.grows.drew ?_)))⟩
          | true =>
            obtain ⟨i, rfl, hi⟩ := Stk.isT_nat hx
            obtain ⟨k, rfl, hk⟩ := Stk.isT_nat hy
            have hE3 : E = 0 := by rw [HE2.out, hx, hy]; rfl
            have HVp : Hid (pairN s.adj s.nt i k = V) := Lib.hid (by rw [← HV.out, hE3, if_pos rfl, Int.toNat_natCast, Int.toNat_natCast])
            subst hE3
            clear hx hy HV
            go_wp2_with (go_at_call 99; fail)
            refine (rpair_c _ _ s (HT.out.mono (HW.out.trans (by (repeat (first | exact World.grows.refl _ | assumption | refine World.grows.alloc ?_ _ | refine World.grows.plus ?_ _ _ | refine World.grows.drew ?_))))) HOk.out hn8 i k hi hk).mono ?_
            rw [HVp.out]
            rintro e U10 ⟨rfl, g⟩
            replace HW := Lib.hid (HW.out.trans (World.grows.trans (by (repeat (first | exact World.grows.refl _ | assumption | refine World.grows.alloc ?_ _ | refine World.grows.plus ?_ _ _ | refine World.grows.drew ?_))) g)); replace HB := Lib.hid (g.heap_of (World.grows.heap_of (by (repeat (first | exact World.grows.refl _ | assumption | refine World.grows.alloc ?_ _ | refine World.grows.plus ?_ _ _ | refine World.grows.drew ?_))) HB.out)); replace q0 := cell_of_heap (i := 0) HB.out rfl; replace q1 := cell_of_heap (i := 1) HB.out rfl; replace q2 := cell_of_heap (i := 2) HB.out rfl; clear g
            go_wp2_with (go_at_call 99; fail); refine (works_c _).mono ?_; rintro e U9 ⟨rfl, g⟩; replace HW := Lib.hid (HW.out.trans (World.grows.trans (by (repeat (first | exact World.grows.refl _ | assumption | refine World.grows.alloc ?_ _ | refine World.grows.plus ?_ _ _ | refine World.grows.drew ?_))) g)); replace HB := Lib.hid (g.heap_of (World.grows.heap_of (by (repeat (first | exact World.grows.refl _ | assumption | refine World.grows.alloc ?_ _ | refine World.grows.plus ?_ _ _ | refine World.grows.drew ?_))) HB.out)); replace q0 := cell_of_heap (i := 0) HB.out rfl; replace q1 := cell_of_heap (i := 1) HB.out rfl; replace q2 := cell_of_heap (i := 2) HB.out rfl; clear g; go_wp2; (refine bodyPost_ret (v := .bool true) (by simp [results, Try.results5, go_sem]) rfl ?_); exact ⟨rfl, HW.out.trans (by (repeat (first | exact World.grows.refl _ | assumption | refine World.grows.alloc ?_ _ | refine World.grows.plus ?_ _ _ | refine World.grows.drew ?_)))⟩
      · obtain ⟨C, hC⟩ : ∃ x, s.check = x := ⟨_, rfl⟩
        have hC0 : ((C : Int) != 0) = true := by simp; omega
        have h32 := fun W ht => kinds_bad W (.agg #[.slice sa s.nt sc, .slice va N2 vc, .int .i64 P]) s ht hc
        have hEC : E = C := by rw [← HE.out, ← hC]; unfold twoE; rw [if_pos hc]
        have hV0 : V = 0 := by rw [← HV.out, if_neg (by omega)]
        subst hEC
        subst hV0
        have HC := Lib.hid hC
        rw [hC] at h32
        clear hC hc hfu HE HV
        go_wp2_with (go_at_call 99; fail)
        refine (h32 _ (HT.out.mono (HW.out.trans (by (repeat (first | exact World.grows.refl _ | assumption | refine World.grows.alloc ?_ _ | refine World.grows.plus ?_ _ _ | refine World.grows.drew ?_)))))).mono ?_
        rintro e U3 ⟨rfl, g⟩
        replace HW := Lib.hid (HW.out.trans (World.grows.trans (by (repeat (first | exact World.grows.refl _ | assumption | refine World.grows.alloc ?_ _ | refine World.grows.plus ?_ _ _ | refine World.grows.drew ?_))) g)); replace HB := Lib.hid (g.heap_of (World.grows.heap_of (by (repeat (first | exact World.grows.refl _ | assumption | refine World.grows.alloc ?_ _ | refine World.grows.plus ?_ _ _ | refine World.grows.drew ?_))) HB.out)); replace q0 := cell_of_heap (i := 0) HB.out rfl; replace q1 := cell_of_heap (i := 1) HB.out rfl; replace q2 := cell_of_heap (i := 2) HB.out rfl; clear g
        go_wp2_with (go_at_call 99; fail)
        refine (h33 _ (HT.out.mono (HW.out.trans (by (repeat (first | exact World.grows.refl _ | assumption | refine World.grows.alloc ?_ _ | refine World.grows.plus ?_ _ _ | refine World.grows.drew ?_)))))).mono ?_
        rintro e U4 ⟨rfl, g⟩
        replace HW := Lib.hid (HW.out.trans (World.grows.trans (by (repeat (first | exact World.grows.refl _ | assumption | refine World.grows.alloc ?_ _ | refine World.grows.plus ?_ _ _ | refine World.grows.drew ?_))) g)); replace HB := Lib.hid (g.heap_of (World.grows.heap_of (by (repeat (first | exact World.grows.refl _ | assumption | refine World.grows.alloc ?_ _ | refine World.grows.plus ?_ _ _ | refine World.grows.drew ?_))) HB.out)); replace q0 := cell_of_heap (i := 0) HB.out rfl; replace q1 := cell_of_heap (i := 1) HB.out rfl; replace q2 := cell_of_heap (i := 2) HB.out rfl; clear g
        go_wp2_with (go_at_call 99; fail)
        refine (v_rcheck (HT.out.mono (HW.out.trans (by (repeat (first | exact World.grows.refl _ | assumption | refine World.grows.alloc ?_ _ | refine World.grows.plus ?_ _ _ | refine World.grows.drew ?_))))) HC.out).mono ?_
        rintro e U6 ⟨rfl, g⟩
        replace HW := Lib.hid (HW.out.trans (World.grows.trans (by (repeat (first | exact World.grows.refl _ | assumption | refine World.grows.alloc ?_ _ | refine World.grows.plus ?_ _ _ | refine World.grows.drew ?_))) g)); replace HB := Lib.hid (g.heap_of (World.grows.heap_of (by (repeat (first | exact World.grows.refl _ | assumption | refine World.grows.alloc ?_ _ | refine World.grows.plus ?_ _ _ | refine World.grows.drew ?_))) HB.out)); replace q0 := cell_of_heap (i := 0) HB.out rfl; replace q1 := cell_of_heap (i := 1) HB.out rfl; replace q2 := cell_of_heap (i := 2) HB.out rfl; clear g
        clear h32 h33
        go_wp2_with (go_at_call 99; fail); refine (works_c _).mono ?_; rintro e U9 ⟨rfl, g⟩; replace HW := Lib.hid (HW.out.trans (World.grows.trans (by (repeat (first | exact World.grows.refl _ | assumption | refine World.grows.alloc ?_ _ | refine World.grows.plus ?_ _ _ | refine World.grows.drew ?_))) g)); replace HB := Lib.hid (g.heap_of (World.grows.heap_of (by (repeat (first | exact World.grows.refl _ | assumption | refine World.grows.alloc ?_ _ | refine World.grows.plus ?_ _ _ | refine World.grows.drew ?_))) HB.out)); replace q0 := cell_of_heap (i := 0) HB.out rfl; replace q1 := cell_of_heap (i := 1) HB.out rfl; replace q2 := cell_of_heap (i := 2) HB.out rfl; clear g; go_wp2; (refine bodyPost_ret (v := .bool true) (by simp [results, Try.results5, go_sem]) rfl ?_); exact ⟨rfl, HW.out.trans (by (repeat (first | exact World.grows.refl _ | assumption | refine World.grows.alloc ?_ _ | refine World.grows.plus ?_ _ _ | refine World.grows.drew ?_)))⟩
end Go.Proofs.Yteingahlmlndkaa

/-
  What is proved: the statement MatchKinds, at every input.
-/
namespace Go.Proofs.Yteingahlmlndkaa
open Go.ChangeShapes Go.WideShapes Go.ChangeAt Go.RowKit

set_option maxRecDepth 100000 in
theorem matchKinds_lifted (os : Os) (started : os.Started) (H : Type) (enc : TypeId × Value → H) :
    ReturnsInHanded {} Try.checked os 5 .any (Rows.matchKindsSpec.pre6 enc Try.prog Try.f5 Rows.matchKindsRow.domain false) (Rows.matchKindsSpec.post enc Try.prog Try.f5 false true false false) := by
  refine law_lifted (C := Try.checked) (tb := 4) started own_c laid_c (by kernel_rfl) Try.func5 (of_decide_eq_true (by kernel_rfl))
    (ChangeSpec.witness6 (enc := enc) (C := Try.checked) false ⟨#[], #[.agg #[.slice none 0 0, .slice none 0 0, .int .i64 0], .int .i64 0, .int .i64 0], []⟩ 8 (by kernel_rfl) (by kernel_rfl) (by kernel_rfl) (by kernel_rfl))
    rfl Try.underlying4 rfl (fun ds hl => ?_) (fun W base args ds ps hval hA => ?_)
  · match ds, hl with
    | [d1, d2, d3], _ => exact ⟨rfl, rfl, rfl⟩
  · have hA' : DataW.TrodAll enc Try.prog W 0 (fun _ => true) true Try.f5.params.toList args.toList ds ps := hA
    have hval' : ∀ (j : Nat) t v, Try.f5.params[j]? = some t → args[j]? = some v → Value.okWide Try.prog W .any base t v := hval
    rw [Try.params5] at hA' hval'
    obtain ⟨v1, v2, v3, d1, d2, d3, p1, p2, p3, rfl, rfl, rfl, h1, h2, h3⟩ := trodAll_three hA'
    obtain ⟨s1, hs1⟩ := stock_of (hval' 0 25 v1 rfl rfl) h1
    obtain ⟨z2, rfl, -, -, hw2⟩ := open_int Try.underlying3 (hval' 1 3 v2 rfl rfl) h2; have hz2 := lit_i64 hw2
    obtain ⟨z3, rfl, -, -, hw3⟩ := open_int Try.underlying3 (hval' 2 3 v3 rfl rfl) h3; have hz3 := lit_i64 hw3
    exact kinds_w W v1 s1 hs1 z2 z3

theorem matchKinds_holds : Rows.MatchKindsSaid :=
  OpenClaim.holds_of_wide 5 Try.f5 rfl rfl rfl rfl rfl rfl rfl ⟨rfl, rfl, rfl, rfl, rfl⟩ rfl rfl rfl rfl rfl (by kernel_rfl) Try.func5 (by kernel_rfl)
    (of_decide_eq_true (by kernel_rfl)) (by unfold Func.isWrapper; first | (rw [if_pos (by decide +kernel)]; kernel_rfl) | (rw [if_neg (by decide +kernel)]; exact ⟨rfl, rfl⟩))
    (fun os started H enc _ => matchKinds_lifted os started H enc)
end Go.Proofs.Yteingahlmlndkaa

