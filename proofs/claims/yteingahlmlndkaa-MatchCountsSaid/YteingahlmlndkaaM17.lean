/-
  What is proved: the answers about a valid stock, in the words of the statements.
-/
import Derived.Test.YteingahlmlndkaaM16
import Derived.Test.YteingahlmlndkaaM15
import Derived.Test.YteingahlmlndkaaM10
import Derived.Test.YteingahlmlndkaaM12
import Derived.Test.YteingahlmlndkaaM5
import Derived.Test.YteingahlmlndkaaM8
import Derived.Test.YteingahlmlndkaaM13
set_option linter.all false
namespace Go.Proofs.Yteingahlmlndkaa
open Go.RowKit
attribute [local irreducible] Go.wpCalm rowV
section
variable {X : World} {tv : Value} {s : Stk}
theorem v_best (h : StkAt X tv s) (hok : s.Ok) {N : Nat} (hN : nu s.adj (belowN s.nt) 16 = N) : Calls Try.prog 27 #[tv] X fun e w' => ∃ a c m, e = .returned (.tuple #[.slice a s.nt c, .int .i64 (N : Nat), .int .i64 0]) ∧ Mx s.adj (belowN s.nt) 16 m ∧ IntsAt w' (.slice a s.nt c) s.nt (mvI m) ∧ X.grows w' := by
  refine (bestF_ok X tv s h hok).mono ?_
  rintro e w' ⟨u, m, rfl, hm, hu, g⟩
  rw [hN]
  obtain ⟨a, c, rfl, -⟩ := id hu
  exact ⟨a, c, m, rfl, hm, hu, g⟩
theorem v_count (h : StkAt X tv s) (hok : s.Ok) {N : Nat} (hN : cnt s.adj (belowN s.nt) 16 = N) : Calls Try.prog 29 #[tv] X fun e w' => e = .returned (.tuple #[.int .i64 (N : Nat), .int .i64 0]) ∧ X.grows w' := by
  have := count_ok X tv s h hok
  rw [hN] at this
  exact this
/-- the list of all kinds -/
noncomputable def kindsF (s : Stk) (i : Nat) : Int := ((((List.range s.nt).map (kindN s.adj s.nt)).getD i 0 : Nat) : Int)
end
end Go.Proofs.Yteingahlmlndkaa

/-
  What is proved: a stock of some of a stock's things, and how its rows lie (plain).
-/
namespace Go.Proofs.Yteingahlmlndkaa
open Go.RowKit
/-- the stock of these things -/
def Stk.sub (s : Stk) (L : List Nat) : Stk := { s with nt := L.length, tk := fun i => s.tk (L.getD i 0), tw := fun i => s.tw (L.getD i 0), tg := fun i => s.tg (L.getD i 0) }
theorem Stk.Ok.sub {s : Stk} (h : s.Ok) {L : List Nat} (hl : L.length ≤ 16) (hL : ∀ t ∈ L, t < s.nt) : (s.sub L).Ok := by
  have key : ∀ i, i < L.length → L.getD i 0 < s.nt := fun i hi => by
    rw [List.getD_eq_getElem?_getD, List.getElem?_eq_getElem hi]
    exact hL _ (List.getElem_mem hi)
  exact ⟨hl, h.m20, fun i hi => h.tk _ (key i hi), fun i hi => h.tg _ (key i hi), fun i hi => h.tw _ (key i hi), h.ma, h.mb, h.wide⟩
/-- the cells of these things, one behind the other -/
def rowsT (s : Stk) (L : List Nat) : List Value := L.flatMap fun t => [tcell s t 0, tcell s t 1, tcell s t 2]
theorem rowsT_snoc (s : Stk) (L : List Nat) (t : Nat) : rowsT s (L ++ [t]) = rowsT s L ++ [tcell s t 0, tcell s t 1, tcell s t 2] := by
  unfold rowsT
  rw [List.flatMap_append]
  rfl
theorem rowsT_get (s : Stk) : ∀ (L : List Nat) (i j : Nat), i < L.length → j < 3 → (rowsT s L)[i * 3 + j]? = some (tcell s (L.getD i 0) j)
  | [], i, j, h, _ => absurd h (Nat.not_lt_zero _)
  | t :: L, i, j, hi, hj => by
    have e : rowsT s (t :: L) = [tcell s t 0, tcell s t 1, tcell s t 2] ++ rowsT s L := rfl
    rw [e]
    by_cases h0 : i = 0
    · subst h0
      rw [List.getElem?_append_left (by simp; omega)]
      rcases (show j = 0 ∨ j = 1 ∨ j = 2 by omega) with rfl | rfl | rfl <;> rfl
    · obtain ⟨k, rfl⟩ : ∃ k, i = k + 1 := ⟨i - 1, by omega⟩
      rw [List.getElem?_append_right (by simp; omega)]
      have := rowsT_get s L k j (by simpa using hi) hj
      rw [show (k + 1) * 3 + j - [tcell s t 0, tcell s t 1, tcell s t 2].length = k * 3 + j by simp; omega, this]
      rfl
theorem rowsT_at {s : Stk} {L : List Nat} {U : World} {base : Nat} {e : TypeId} {v : Value} (h : U.ownsRow base e 3 v L.length (rowsT s L)) : SliceAt U v (s.sub L).nt 3 (tcell (s.sub L)) :=
  h.sliceAt (n := L.length) fun i j hi hj => rowsT_get s L i j hi hj
theorem tcell_one (s : Stk) (t : Nat) : ∀ u ∈ [tcell s t 0, tcell s t 1, tcell s t 2], u.oneCell' = true := by
  intro u hu
  simp only [List.mem_cons, List.not_mem_nil, or_false] at hu
  rcases hu with rfl | rfl | rfl <;> rfl
theorem nodup_getD {L : List Nat} (h : L.Nodup) {i k : Nat} (hi : i < L.length) (hk : k < L.length) (e : L.getD i 0 = L.getD k 0) : i = k := by
  rw [List.getD_eq_getElem?_getD, List.getD_eq_getElem?_getD, List.getElem?_eq_getElem hi, List.getElem?_eq_getElem hk] at e
  exact (List.getElem_inj h).1 e
/-- things suit each other as they did -/
theorem Stk.adj_sub {s : Stk} {L : List Nat} (hd : L.Nodup) (hL : ∀ t ∈ L, t < s.nt) {i k : Nat} (hi : i < L.length) (hk : k < L.length) : (s.sub L).adj i k = s.adj (L.getD i 0) (L.getD k 0) := by
  have key : ∀ i, i < L.length → L.getD i 0 < s.nt := fun i hi => by
    rw [List.getD_eq_getElem?_getD, List.getElem?_eq_getElem hi]
    exact hL _ (List.getElem_mem hi)
  rw [Stk.adj_suits (s := s.sub L) hi hk, Stk.adj_suits (key i hi) (key k hk)]
  have e : decide (i = k) = decide (L.getD i 0 = L.getD k 0) := decide_eq_decide.2 ⟨fun e => by rw [e], fun e => nodup_getD hd hi hk e⟩
  unfold Stk.suits
  rw [e]
  rfl
/-- matchings of these things are as many -/
theorem num_sub {s : Stk} {L : List Nat} (hd : L.Nodup) (hl : L.length ≤ 16) (h16 : s.nt ≤ 16) (hL : ∀ t ∈ L, t < s.nt) {S' S : Nat → Bool} (h1 : ∀ a, S' a = true → a < L.length) (h2 : ∀ a, a < L.length → (S (L.getD a 0) = true ↔ S' a = true)) (h3 : ∀ v, S v = true → v ∈ L) (k : Nat) : num (s.sub L).adj 16 S' k = num s.adj 16 S k := by
  have key : ∀ i, i < L.length → L.getD i 0 ∈ L := fun i hi => by
    rw [List.getD_eq_getElem?_getD, List.getElem?_eq_getElem hi]
    exact List.getElem_mem hi
  refine num_other s.adj_symm s.adj_irr (fun i => L.getD i 0) 16 S' S (fun a _ ha => ?_) (fun a b _ _ ha hb => ?_) (fun x _ hx => ?_) k
  · have h4 := h1 a ha
    exact ⟨by have := hL _ (key a h4); omega, (h2 a h4).2 ha⟩
  · exact ⟨fun e => nodup_getD hd (h1 a ha) (h1 b hb) e, Stk.adj_sub hd hL (h1 a ha) (h1 b hb)⟩
  · obtain ⟨a, ha⟩ := List.getElem?_of_mem (h3 x hx)
    have hlt := (List.getElem?_eq_some_iff.1 ha).1
    have he : L.getD a 0 = x := by rw [List.getD_eq_getElem?_getD, ha]; rfl
    exact ⟨a, by omega, (h2 a hlt).1 (by rw [he]; exact hx), he⟩
theorem nu_sub {s : Stk} {L : List Nat} (hd : L.Nodup) (hl : L.length ≤ 16) (h16 : s.nt ≤ 16) (hL : ∀ t ∈ L, t < s.nt) {S' S : Nat → Bool} (h1 : ∀ a, S' a = true → a < L.length) (h2 : ∀ a, a < L.length → (S (L.getD a 0) = true ↔ S' a = true)) (h3 : ∀ v, S v = true → v ∈ L) : nu (s.sub L).adj S' 16 = nu s.adj S 16 ∧ cnt (s.sub L).adj S' 16 = cnt s.adj S 16 :=
  nu_other s.adj_symm (s.sub L).adj_symm fun j => num_sub hd hl h16 hL h1 h2 h3 j
/-- all of these things -/
theorem nu_sub_all {s : Stk} {L : List Nat} (hd : L.Nodup) (hl : L.length ≤ 16) (h16 : s.nt ≤ 16) (hL : ∀ t ∈ L, t < s.nt) {S : Nat → Bool} (hS : ∀ v, S v = true ↔ v ∈ L) : nu (s.sub L).adj (belowN (s.sub L).nt) 16 = nu s.adj S 16 ∧ cnt (s.sub L).adj (belowN (s.sub L).nt) 16 = cnt s.adj S 16 :=
  nu_sub hd hl h16 hL (fun a ha => belowN_lt ha) (fun a ha => ⟨fun _ => by unfold belowN; exact decide_eq_true ha, fun _ => (hS _).2 (by
    rw [List.getD_eq_getElem?_getD, List.getElem?_eq_getElem ha]
    exact List.getElem_mem ha)⟩) (fun v hv => (hS v).1 hv)
/-! ### without one or two things -/
def woutP (x y : Int) (t : Nat) : Bool := !decide ((t : Int) = x) && !decide ((t : Int) = y)
def woutL (n : Nat) (x y : Int) : List Nat := filtL (woutP x y) n
theorem woutL_mem {n : Nat} {x y : Int} {t : Nat} : t ∈ woutL n x y ↔ t < n ∧ (t : Int) ≠ x ∧ (t : Int) ≠ y := by
  unfold woutL
  rw [mem_filtL]
  unfold woutP
  simp
theorem filtL_nodup (X : Nat → Bool) (n : Nat) : (filtL X n).Nodup := List.Pairwise.filter _ List.nodup_range
theorem filtL_range_le (X : Nat → Bool) (n : Nat) : (filtL X n).length ≤ n := by
  refine Nat.le_trans (List.length_filter_le _ _) ?_
  rw [List.length_range]
  omega
theorem wout_ok {s : Stk} (h : s.Ok) (x y : Int) : (s.sub (woutL s.nt x y)).Ok :=
  h.sub (by have := filtL_range_le (woutP x y) s.nt; have := h.n16; unfold woutL; omega) fun t ht => (woutL_mem.1 ht).1
theorem nu_wout {s : Stk} (h : s.Ok) (x y : Int) {S : Nat → Bool} (hS : ∀ v : Nat, S v = true ↔ v < s.nt ∧ (v : Int) ≠ x ∧ (v : Int) ≠ y) : nu (s.sub (woutL s.nt x y)).adj (belowN (s.sub (woutL s.nt x y)).nt) 16 = nu s.adj S 16 ∧ cnt (s.sub (woutL s.nt x y)).adj (belowN (s.sub (woutL s.nt x y)).nt) 16 = cnt s.adj S 16 :=
  nu_sub_all (L := woutL s.nt x y) (filtL_nodup _ _) (by have := filtL_range_le (woutP x y) s.nt; have := h.n16; unfold woutL; omega) h.n16 (fun t ht => (woutL_mem.1 ht).1) fun v => by rw [hS, woutL_mem]
theorem nu_wout2 {s : Stk} (h : s.Ok) (i k : Nat) : nu (s.sub (woutL s.nt (i : Nat) (k : Nat))).adj (belowN (s.sub (woutL s.nt (i : Nat) (k : Nat))).nt) 16 = nu s.adj (less1 (less1 (belowN s.nt) i) k) 16 ∧ cnt (s.sub (woutL s.nt (i : Nat) (k : Nat))).adj (belowN (s.sub (woutL s.nt (i : Nat) (k : Nat))).nt) 16 = cnt s.adj (less1 (less1 (belowN s.nt) i) k) 16 :=
  nu_wout h _ _ fun v => by
    rw [less1_iff, less1_iff]
    unfold belowN
    rw [decide_eq_true_eq]
    constructor
    · rintro ⟨⟨h1, h2⟩, h3⟩; exact ⟨h1, by omega, by omega⟩
    · rintro ⟨h1, h2, h3⟩; exact ⟨⟨h1, by omega⟩, by omega⟩
end Go.Proofs.Yteingahlmlndkaa

/-
  What is proved: how many best pairings there are, by one thing's mates (plain).
-/
namespace Go.Proofs.Yteingahlmlndkaa
/-- the best pairings in which the thing t goes with u (u = t: stays alone) -/
def cntT (A : Nat → Nat → Bool) (S : Nat → Bool) (t u : Nat) : Nat :=
  if u = t then (if nu A (less1 (less1 S t) u) 16 = nu A S 16 then cnt A (less1 (less1 S t) u) 16 else 0)
  else if A t u = true ∧ nu A (less1 (less1 S t) u) 16 + 1 = nu A S 16 then cnt A (less1 (less1 S t) u) 16 else 0
theorem less1_same (S : Nat → Bool) (t : Nat) : less1 (less1 S t) t = less1 S t := funext fun v => by
  unfold less1
  cases S v <;> simp
theorem num_top {A : Nat → Nat → Bool} (hA : ∀ a b, A a b = A b a) {T : Nat → Bool} {k : Nat} (h : nu A T 16 ≤ k) : num A 16 T k = if nu A T 16 = k then cnt A T 16 else 0 := by
  by_cases e : nu A T 16 = k
  · rw [if_pos e, ← e]; rfl
  · rw [if_neg e, num_gt hA (by omega)]
theorem sumN_split (f : Nat → Nat) {n t : Nat} (ht : t < n) : sumN f n = f t + sumN (fun u => if u = t then 0 else f u) n := by
  have h1 := si_split (fun _ => true) f ht
  unfold si at h1
  simp only [if_true, Bool.true_and] at h1
  rw [h1]
  congr 1
  refine sumN_congr fun i _ => ?_
  by_cases e : i = t
  · subst e; simp
  · simp [e]
theorem sumN_end {f : Nat → Nat} {n : Nat} (h : ∀ u, n ≤ u → f u = 0) : ∀ d, sumN f (n + d) = sumN f n
  | 0 => rfl
  | d + 1 => by
    show sumN f (n + d) + f (n + d) = _
    rw [sumN_end h d, h _ (by omega), Nat.add_zero]
theorem nu_less1_le {A : Nat → Nat → Bool} (hA : ∀ a b, A a b = A b a) {S : Nat → Bool} (hS : ∀ t, S t = true → t < 16) (t : Nat) : nu A (less1 S t) 16 ≤ nu A S 16 := by
  have hS1 := less1_lt hS t
  have h1 := cnt_pos (S := less1 S t) (n := 16) hA
  unfold cnt at h1
  obtain ⟨m, h2, h3⟩ := (num_pos hA 16 _ _).1 h1
  rw [restr_self hS1] at h2
  have := le_nu hA hS h2.less
  omega
theorem counts_sum {s : Stk} (h16 : s.nt ≤ 16) {t : Nat} (ht : t < s.nt) : sumN (cntT s.adj (belowN s.nt) t) s.nt = cnt s.adj (belowN s.nt) 16 := by
  have hS := below16 h16
  have hbt : belowN s.nt t = true := by unfold belowN; exact decide_eq_true ht
  have h1 := num_at s.adj_symm s.adj_irr 16 (belowN s.nt) t (by omega) hbt (nu s.adj (belowN s.nt) 16)
  have e0 : cnt s.adj (belowN s.nt) 16 = num s.adj 16 (belowN s.nt) (nu s.adj (belowN s.nt) 16) := rfl
  rw [e0, h1, sumN_split _ ht]
  congr 1
  · unfold cntT
    rw [if_pos rfl, less1_same]
    exact (num_top s.adj_symm (nu_less1_le s.adj_symm hS t)).symm
  · have := sumN_end (f := fun u => if (belowN s.nt u && s.adj t u) = true then sh (num s.adj 16 (less1 (less1 (belowN s.nt) t) u)) (nu s.adj (belowN s.nt) 16) else 0) (n := s.nt) (fun u hu => by
      rw [if_neg]
      unfold belowN
      rw [decide_eq_false (by omega)]
      simp) (16 - s.nt)
    rw [show s.nt + (16 - s.nt) = 16 by omega] at this
    unfold si
    rw [this]
    refine sumN_congr fun u hu => ?_
    have hbu : belowN s.nt u = true := by unfold belowN; exact decide_eq_true hu
    unfold cntT
    by_cases e : u = t
    · rw [if_pos e, e, s.adj_irr, Bool.and_false, if_neg Bool.false_ne_true]
    · rw [if_neg e, if_neg e, hbu, Bool.true_and]
      by_cases ha : s.adj t u = true
      · rw [if_pos ha]
        have hle : nu s.adj (less1 (less1 (belowN s.nt) t) u) 16 + 1 ≤ nu s.adj (belowN s.nt) 16 := by
          have hS2 := less1_lt (less1_lt hS t) u
          have h1 := cnt_pos (S := less1 (less1 (belowN s.nt) t) u) (n := 16) s.adj_symm
          unfold cnt at h1
          obtain ⟨m, h2, h3⟩ := (num_pos s.adj_symm 16 _ _).1 h1
          rw [restr_self hS2] at h2
          have h5 := h2.less_alone
          have h6 := h2.less.less_alone
          have h7 := (IsM.pair hS s.adj_symm h2.less.less h5 h6 e hbu hbt ha).2.1
          have h8 := le_nu s.adj_symm hS (IsM.pair hS s.adj_symm h2.less.less h5 h6 e hbu hbt ha).1
          omega
        obtain ⟨K, hK⟩ : ∃ K, nu s.adj (belowN s.nt) 16 = K + 1 := ⟨nu s.adj (belowN s.nt) 16 - 1, by omega⟩
        rw [hK] at hle ⊢
        show _ = num s.adj 16 _ K
        rw [num_top s.adj_symm (by omega)]
        by_cases e2 : nu s.adj (less1 (less1 (belowN s.nt) t) u) 16 = K
        · rw [if_pos ⟨ha, by omega⟩, if_pos e2]
        · rw [if_neg (fun h => e2 (by omega)), if_neg e2]
      · rw [if_neg ha, if_neg (fun h => ha h.1)]
/-- one best pairing only: just if no pair may be and need not -/
theorem count_one {s : Stk} (h16 : s.nt ≤ 16) : cnt s.adj (belowN s.nt) 16 = 1 ↔ ∀ k, k < s.nt → ∀ j, j < k → pairN s.adj s.nt j k ≠ 1 := by
  have hS := below16 h16
  rw [cnt_one hS s.adj_symm]
  have hb : ∀ {v}, v < s.nt → belowN s.nt v = true := fun hv => by unfold belowN; exact decide_eq_true hv
  constructor
  · intro h k hk j hj hp
    unfold pairN at hp
    by_cases h1 : s.adj j k = true ∧ nu s.adj (less1 (less1 (belowN s.nt) j) k) 16 + 1 = nu s.adj (belowN s.nt) 16
    · rw [if_pos h1] at hp
      by_cases h2 : nu (delE s.adj j k) (belowN s.nt) 16 < nu s.adj (belowN s.nt) 16
      · rw [if_pos h2] at hp; cases hp
      · refine h2 ((pair_always hS s.adj_symm (x := j) (y := k) (by omega)).1 ?_)
        exact h j k ((pair_may hS s.adj_symm (hb (by omega)) (hb hk) (by omega) h1.1).2 h1.2) (by omega)
    · rw [if_neg h1] at hp; cases hp
  · intro h x y ⟨m, hm, e⟩ hne
    have hmx : m x ≠ x := fun h' => hne (h'.symm.trans e)
    obtain ⟨h1, h2⟩ := hm.isM.ok x hmx
    rw [e] at h2
    have hxn := (Stk.adj_lt h2).1
    have hyn := (Stk.adj_lt h2).2
    have key : ∀ a b, a < b → b < s.nt → s.adj a b = true → (∃ m, Mx s.adj (belowN s.nt) 16 m ∧ m a = b) → ∀ m, Mx s.adj (belowN s.nt) 16 m → m a = b := by
      intro a b hab hb' hA hex
      have h5 := (pair_may hS s.adj_symm (hb (by omega)) (hb hb') (by omega) hA).1 hex
      refine (pair_always hS s.adj_symm (x := a) (y := b) (by omega)).2 ?_
      refine Classical.byContradiction fun h6 => h b hb' a hab ?_
      unfold pairN
      rw [if_pos ⟨hA, h5⟩, if_neg h6]
    by_cases hxy : x < y
    · exact key x y hxy hyn h2 ⟨m, hm, e⟩
    · intro m' hm'
      have h7 := key y x (by omega) hxn (by rw [s.adj_symm]; exact h2) ⟨m, hm, by rw [← e, hm.isM.inv]⟩ m' hm'
      rw [← h7, hm'.isM.inv]
end Go.Proofs.Yteingahlmlndkaa

/-
  What is proved: append onto a slice without elements and without room, as a step of a chain.
-/
namespace Go
open Go.RowKit
section
variable {P : Program} {ops : Array Oper} {w0 : World}
end
end Go

/-
  What is proved: append onto a row of the region's own, as a step of a chain.
-/
namespace Go
open Go.RowKit
section
variable {P : Program} {ops : Array Oper} {w0 : World}
end
end Go

/-
  What is proved: a stock without one or two things (40).
-/
namespace Go.Proofs.Yteingahlmlndkaa
open Go.RowKit
attribute [local irreducible] Go.wpCalm rowV
theorem el62 : Try.prog.knows 62 (.agg #[.int .i64 0, .int .i64 0, .int .i64 0]) 3 24 := Program.knows_of (by kernel_rfl)
/-- blocks that stand, when a row of the call's own grows -/
theorem KpS.own {w U U' : World} {P : List (Nat × Obj)} {v : Value} {base : Nat} {e : TypeId} {sz n : Nat} {xs : List Value} (h : KpS w P U) (ho : U.ownsRow base e sz v n xs) (hg : U.grownBy U' v.ownBlock) (hb : w.heap.size ≤ base) (hP : ∀ y ∈ P, y.1 < base) : KpS w P U' :=
  ⟨hg.grows ho h.g hb, fun y hy => (hg.block y.1 (World.lt_of_block (h.at_ y hy)) (fun e => by have := (ho.lt _ e.symm).1; have := hP y hy; omega)).trans (h.at_ y hy)⟩
theorem one_thing (w : World) (x y z : Value) (t b : Nat) (hb : b = w.heap.size) : SliceAt (w.alloc (.cells #[x, y, z] t)) (.slice (some ⟨b, 0, none⟩) 1 1) 1 3 (fun _ j => if j = 0 then x else if j = 1 then y else z) := by
  subst hb
  refine ⟨_, _, rfl, by omega, by unfold maxLen; omega, fun i j hi hj => ⟨_, _, rfl, ?_⟩⟩
  have hi0 : i = 0 := by omega
  subst hi0
  have h := World.heap_at w (.cells #[x, y, z] t) _ rfl
  rcases (show j = 0 ∨ j = 1 ∨ j = 2 by omega) with rfl | rfl | rfl <;> exact cell_of_heap h rfl
theorem thing_one (s : Stk) (t : Nat) : tableL 1 3 (fun _ j => if j = 0 then Value.int .i64 (s.tk t) else if j = 1 then .int .i64 (s.tw t) else .int .i64 (s.tg t)) = [tcell s t 0, tcell s t 1, tcell s t 2] := rfl
theorem KpS.things {w U : World} {s : Stk} {v : Value} {P : List (Nat × Obj)} (h : KpS w P U) (ht : SliceAt w v s.nt 3 (tcell s)) {i : Nat} (hi : i < s.nt) {sa : Option Addr} {sc : Nat} (hv : v = .slice sa s.nt sc) : ∃ b o, sa = some ⟨b, o, none⟩ ∧ U.cell? ⟨b, o + i * 3, none⟩ = some (.int .i64 (s.tk i)) ∧ U.cell? ⟨b, o + i * 3 + 1, none⟩ = some (.int .i64 (s.tw i)) ∧ U.cell? ⟨b, o + i * 3 + 2, none⟩ = some (.int .i64 (s.tg i)) := by
  subst hv
  obtain ⟨A, c, he, -, -, hc⟩ := ht.mono h.g
  cases he
  obtain ⟨b, o, rfl, c0⟩ := hc i 0 hi (by omega)
  obtain ⟨b', o', e', c1⟩ := hc i 1 hi (by omega)
  obtain ⟨b'', o'', e'', c2⟩ := hc i 2 hi (by omega)
  cases e'
  cases e''
  exact ⟨b, o, rfl, c0, c1, c2⟩
set_option maxRecDepth 100000 in
set_option maxHeartbeats 8000000 in
theorem wout_c (w : World) (v : Value) (s : Stk) (ht : StkAt w v s) (hok : s.Ok) (x y : Int) : Calls Try.prog 40 #[v, .int .i64 x, .int .i64 y] w fun e w' => ∃ u, e = .returned u ∧ StkAt w' u (s.sub (woutL s.nt x y)) ∧ w.grows w' := by
  obtain ⟨tv, mv, rfl, hT, hM⟩ := ht
  have HTh := Lib.hid hT
  have HMt := Lib.hid hM
  obtain ⟨sa, sc, rfl, s1, s2, -⟩ := hT
  obtain ⟨va, vc, rfl, -⟩ := hM
  have h16 := hok.n16
  unfold maxLen at s2
  clear hok
  go_enter Try.func40, Try.ntmps40
  go_wp2
  obtain ⟨x1, hx1⟩ : ∃ x, w.heap.size = x := ⟨_, rfl⟩
  have k1 : KpS w [(x1 + 2, Obj.cells #[.slice none 0 0, .slice va s.nm vc, .int .i64 s.wide] 25), (x1 + 1, Obj.cells #[.slice none 0 0, .slice none 0 0, .int .i64 0] 25), (x1, Obj.cells #[.slice sa s.nt sc, .slice va s.nm vc, .int .i64 s.wide] 25)] (((w.alloc (Obj.cells #[.slice sa s.nt sc, .slice va s.nm vc, .int .i64 s.wide] 25)).alloc (Obj.cells #[.slice none 0 0, .slice none 0 0, .int .i64 0] 25)).alloc (Obj.cells #[.slice none 0 0, .slice va s.nm vc, .int .i64 s.wide] 25)) :=
    (((KpS.mk (by (repeat (first | exact World.grows.refl _ | assumption | refine World.grows.alloc ?_ _ | refine World.grows.plus ?_ _ _ | refine World.grows.drew ?_))) (fun y hy => absurd hy List.not_mem_nil)).add (alloc_old (alloc_old (World.heap_at w _ _ hx1.symm)))).add (alloc_old (World.heap_at _ _ _ (by simp [hx1])))).add (World.heap_at _ _ _ (by simp [hx1]))
  have hB1 : Hid (x1 + 3 ≤ (((w.alloc (Obj.cells #[.slice sa s.nt sc, .slice va s.nm vc, .int .i64 s.wide] 25)).alloc (Obj.cells #[.slice none 0 0, .slice none 0 0, .int .i64 0] 25)).alloc (Obj.cells #[.slice none 0 0, .slice va s.nm vc, .int .i64 s.wide] 25)).heap.size) := Lib.hid (by simp [hx1])
  simp only [hx1]
  generalize ((w.alloc (Obj.cells #[.slice sa s.nt sc, .slice va s.nm vc, .int .i64 s.wide] 25)).alloc (Obj.cells #[.slice none 0 0, .slice none 0 0, .int .i64 0] 25)).alloc (Obj.cells #[.slice none 0 0, .slice va s.nm vc, .int .i64 s.wide] 25) = W1 at k1 hB1 ⊢
  have HK1 := Lib.hid k1
  clear k1
  go_loopw [8] (fun i8 wr => ∃ (i : Nat) (la : Option Addr) (lc : Nat), i ≤ s.nt ∧ i8 = .int .i64 (i : Nat) ∧ Hid (wr.ownsRow (x1 + 3) 62 3 (.slice la (filtL (woutP x y) i).length lc) (filtL (woutP x y) i).length (rowsT s (filtL (woutP x y) i))) ∧ Hid (x1 + 3 ≤ wr.heap.size) ∧ Hid (KpS w [(x1 + 2, Obj.cells #[.slice la (filtL (woutP x y) i).length lc, .slice va s.nm vc, .int .i64 s.wide] 25), (x1 + 1, Obj.cells #[.slice none 0 0, .slice none 0 0, .int .i64 0] 25), (x1, Obj.cells #[.slice sa s.nt sc, .slice va s.nm vc, .int .i64 s.wide] 25)] wr)) (fun i8 _ => s.nt - (intOf i8).toNat)
  case atStart => exact ⟨0, none, 0, by omega, rfl, Lib.hid (World.ownsRow_nil _ _ _ _), hB1, HK1⟩
  case round =>
    clear HK1 hB1
    obtain ⟨i, la, lc, hi, rfl, ho, hS, hKp⟩ := hrel
    have hl16 := filtL_range_le (woutP x y) i
    have hsu := filtL_succ (woutP x y) i
    obtain ⟨L, hL⟩ : ∃ L, filtL (woutP x y) i = L := ⟨_, rfl⟩
    rw [hL] at ho hKp hl16 hsu
    have HSu := Lib.hid hsu
    have HL := Lib.hid hL
    clear hL hsu
    obtain ⟨W2, rfl⟩ : ∃ W2, W2 = wr := ⟨_, rfl⟩
    have b0 := cell_of_heap hKp.out.drop.drop.hd (i := 0) rfl
    by_cases hlt : i < s.nt
    · have hltI : (i : Int) < s.nt := by omega
      by_cases hx : (i : Int) = x
      · have hxB : ((i : Int) != x) = false := by simp [hx]
        have HS2 : Hid (filtL (woutP x y) (i + 1) = L) := Lib.hid (by rw [HSu.out, if_neg]; unfold woutP; rw [decide_eq_true hx]; exact Bool.false_ne_true)
        clear hx
        go_wp2
        case roundEnd => exact ⟨⟨i + 1, la, lc, by omega, by go_num, by rw [HS2.out]; exact ho, hS, by rw [HS2.out]; exact hKp⟩, by simp [intOf]; omega⟩
      · have hxB : ((i : Int) != x) = true := by simp [hx]
        by_cases hy : (i : Int) = y
        · have hyB : ((i : Int) != y) = false := by simp [hy]
          have HS2 : Hid (filtL (woutP x y) (i + 1) = L) := Lib.hid (by rw [HSu.out, if_neg]; unfold woutP; rw [decide_eq_true hy, Bool.not_true, Bool.and_false]; exact Bool.false_ne_true)
          clear hx hy
          go_wp2
          case roundEnd => exact ⟨⟨i + 1, la, lc, by omega, by go_num, by rw [HS2.out]; exact ho, hS, by rw [HS2.out]; exact hKp⟩, by simp [intOf]; omega⟩
        · have hyB : ((i : Int) != y) = true := by simp [hy]
          have HS2 : Hid (filtL (woutP x y) (i + 1) = L ++ [i]) := Lib.hid (by rw [HSu.out, if_pos]; unfold woutP; rw [decide_eq_false hx, decide_eq_false hy]; rfl)
          clear hx hy
          obtain ⟨k, hk⟩ : ∃ k, L.length = k := ⟨_, rfl⟩
          rw [hk] at ho hKp hl16
          have Hk := Lib.hid hk
          clear hk
          go_upto_region 6 with fail
          obtain ⟨I, hIe⟩ : ∃ I : World → Prop, I = fun U => KpS w [(x1 + 2, Obj.cells #[.slice la k lc, .slice va s.nm vc, .int .i64 s.wide] 25), (x1 + 1, Obj.cells #[.slice none 0 0, .slice none 0 0, .int .i64 0] 25), (x1, Obj.cells #[.slice sa s.nt sc, .slice va s.nm vc, .int .i64 s.wide] 25)] U ∧ x1 + 3 ≤ U.heap.size := ⟨_, rfl⟩
          have hI : ∀ W W', I W → W.grows W' → I W' := by
            rw [hIe]
            rintro W W' ⟨a1, a2⟩ g
            exact ⟨a1.mono g, Nat.le_trans a2 g.size⟩
          have hIw : I W2 := by rw [hIe]; exact ⟨hKp.out, hS.out⟩
          have HI : Hid (∀ U, I U → KpS w [(x1 + 2, Obj.cells #[.slice la k lc, .slice va s.nm vc, .int .i64 s.wide] 25), (x1 + 1, Obj.cells #[.slice none 0 0, .slice none 0 0, .int .i64 0] 25), (x1, Obj.cells #[.slice sa s.nt sc, .slice va s.nm vc, .int .i64 s.wide] 25)] U ∧ x1 + 3 ≤ U.heap.size) := Lib.hid fun U h => by rw [hIe] at h; exact h
          have HIm : Hid (∀ U, KpS w [(x1 + 2, Obj.cells #[.slice la k lc, .slice va s.nm vc, .int .i64 s.wide] 25), (x1 + 1, Obj.cells #[.slice none 0 0, .slice none 0 0, .int .i64 0] 25), (x1, Obj.cells #[.slice sa s.nt sc, .slice va s.nm vc, .int .i64 s.wide] 25)] U ∧ x1 + 3 ≤ U.heap.size → I U) := Lib.hid fun U h => by rw [hIe]; exact h
          obtain ⟨tb, to_, rfl, -⟩ := hKp.out.things HTh.out hlt rfl
          have HT3 : Hid (∀ U, I U → U.cell? ⟨tb, to_ + i * 3, none⟩ = some (.int .i64 (s.tk i)) ∧ U.cell? ⟨tb, to_ + i * 3 + 1, none⟩ = some (.int .i64 (s.tw i)) ∧ U.cell? ⟨tb, to_ + i * 3 + 2, none⟩ = some (.int .i64 (s.tg i))) := Lib.hid fun U hU => by
            obtain ⟨b9, o9, e9, h9⟩ := (HI.out U hU).1.things HTh.out hlt rfl
            cases e9
            exact h9
          clear hIe b0
          (refine wp_region_chainJ 9 [7, 8] (I) (hI) (hIw) (by kernel_rfl) (by kernel_rfl) (by decide) ?_; simp only [without, only, withNo, List.take_succ_cons, List.take_zero, List.drop_succ_cons, List.drop_zero, List.take_nil, List.drop_nil, Nat.reduceAdd, Nat.reduceSub, List.filter, List.contains_cons, List.contains_nil, Nat.reduceBEq, Bool.or_false, Bool.false_or, Bool.true_or, Bool.or_true, Bool.or_self, Bool.not_true, Bool.not_false, List.map_cons, List.map_nil])
          refine wpCalmJ_go rfl (.pointer (some ⟨x1 + 2, 0, none⟩)) (fun U hU => by go_simp) ?_
          refine wpCalmJ_go rfl (.slice la k lc) (fun U hU => by have e1 := cell_of_heap (HI.out U hU).1.hd (i := 0) rfl; go_simp) ?_
          refine wpCalmJ_go rfl (.pointer (some ⟨x1, 0, none⟩)) (fun U hU => by go_simp) ?_
          refine wpCalmJ_go rfl (.slice (some ⟨tb, to_, none⟩) s.nt sc) (fun U hU => by have e1 := cell_of_heap (HI.out U hU).1.drop.drop.hd (i := 0) rfl; go_simp) ?_
          refine wpCalmJ_go rfl (.int .i64 (i : Nat)) (fun U hU => by go_simp) ?_
          refine wpCalmJ_go rfl (.pointer (some ⟨tb, to_ + i * 3, none⟩)) (fun U hU => by go_simp) ?_
          refine wpCalmJ_go rfl (.agg #[.int .i64 (s.tk i), .int .i64 (s.tw i), .int .i64 (s.tg i)]) (fun U hU => by have e1 := (HT3.out U hU).1; have e2 := (HT3.out U hU).2.1; have e3 := (HT3.out U hU).2.2; go_simp) ?_
          refine wpCalm_nilJ ?_
          simp only [Act.put, List.setIfInBounds_toArray, List.set_cons_zero, List.set_cons_succ]
          refine wpChain_stepOJ (fun K hK nd xd hgd => ?_)
          go_simp
          refine ⟨hI _ _ hgd (by (repeat (first | exact World.grows.refl _ | assumption | refine World.grows.alloc ?_ _ | refine World.grows.plus ?_ _ _ | refine World.grows.drew ?_))), hK _ _ ?_⟩
          clear hK K hgd
          have gV : W2.grows ((W2.plus nd xd).alloc (.cells #[.int .i64 (s.tk i), .int .i64 (s.tw i), .int .i64 (s.tg i)] 62)) := (World.grows_plus _ _ _).trans (by (repeat (first | exact World.grows.refl _ | assumption | refine World.grows.alloc ?_ _ | refine World.grows.plus ?_ _ _ | refine World.grows.drew ?_)))
          refine wpChainJ_append rfl (.tmp 30) (.tmp 36) 22 (by rfl) (x1 + 3) 62 (.agg #[.int .i64 0, .int .i64 0, .int .i64 0]) 3 24 Try.underlying22 el62 (by rfl) (by omega) (.slice la k lc) k _ (by rfl) (ho.out.grow gV) _ (by rfl) 1 _ (fun W0 g => SliceAt.src (by omega) ((one_thing (W2.plus nd xd) (.int .i64 (s.tk i)) (.int .i64 (s.tw i)) (.int .i64 (s.tg i)) 62 _ (by simp)).mono g)) (by rw [thing_one]; exact tcell_one s i) (by unfold maxLen; omega) (by omega) (Nat.le_trans hS.out gV.size) ?_
          rintro W0 v' w' hgW hI0 hown hgb
          have hown0 := (ho.out.grow gV).grow hgW
          have hKa := (HI.out W0 hI0).1.own hown0 hgb (by omega) (by
            intro y hy
            simp only [List.mem_cons, List.not_mem_nil, or_false] at hy
            rcases hy with rfl | rfl | rfl <;> simp only <;> omega)
          have hSa : x1 + 3 ≤ w'.heap.size := Nat.le_trans (HI.out W0 hI0).2 hgb.size
          obtain ⟨la', lc', rfl, -, -⟩ := row_form hown
          refine ⟨HIm.out _ ⟨hKa, hSa⟩, ?_⟩
          refine wpChain_nilJ (fun nc2 xc2 => ?_)
          have gX := World.grows_plus w' nc2 xc2
          rw [thing_one, ← rowsT_snoc, ← HS2.out] at hown
          have RO := hown.grow gX
          have RK := hKa.mono gX
          have RS := Nat.le_trans hSa gX.size
          clear hown hgb hown0 hI0 hgW gV hI hIw HI HIm hKa hSa HT3 ho hKp hS
          generalize w'.plus nc2 xc2 = X at RO RK RS gX ⊢
          clear gX
          have q0 := cell_of_heap RK.hd (i := 0) rfl
          have f0 := frozen_of_heap RK.hd 0
          have hlen : Hid ((filtL (woutP x y) (i + 1)).length = k + 1) := Lib.hid (by rw [HS2.out, List.length_append, Hk.out]; rfl)
          have RK2 := Lib.hid ((RK.drop.set (b := x1 + 2) (by omega) (fun y hy => by
            simp only [List.mem_cons, List.not_mem_nil, or_false] at hy
            rcases hy with rfl | rfl <;> simp only <;> omega) 0 (.slice la' (k + 1) lc')).add (store_of_heap RK.hd 0 (.slice la' (k + 1) lc')))
          have RO2 : Hid ((X.setCell ⟨x1 + 2, 0, none⟩ (.slice la' (k + 1) lc')).ownsRow (x1 + 3) 62 3 (.slice la' (k + 1) lc') (k + 1) (rowsT s (filtL (woutP x y) (i + 1)))) := Lib.hid (ownsRow_setCell_other (a := ⟨x1 + 2, 0, none⟩) RO (fun e => by have := (RO.lt _ e).1; simp only at this; omega) (.slice la' (k + 1) lc'))
          have RS2 : Hid (x1 + 3 ≤ (X.setCell ⟨x1 + 2, 0, none⟩ (.slice la' (k + 1) lc')).heap.size) := Lib.hid (by simpa using RS)
          clear RK RO RS
          go_wp2
          case roundEnd => exact ⟨⟨i + 1, la', lc', by omega, by go_num, by rw [hlen.out]; exact RO2, RS2, by rw [hlen.out]; exact RK2⟩, by simp [intOf]; omega⟩
    · have hltI : ¬ (i : Int) < s.nt := by omega
      have hin : i = s.nt := by omega
      have HLn : Hid (woutL s.nt x y = L) := Lib.hid (by unfold woutL; rw [← hin]; exact HL.out)
      obtain ⟨k, hk⟩ : ∃ k, L.length = k := ⟨_, rfl⟩
      rw [hk] at ho hKp hl16
      have Hk := Lib.hid hk
      clear hk hin hlt
      have h1 := hKp.out.hd
      have p0 := cell_of_heap h1 (i := 0) rfl
      have p1 := cell_of_heap h1 (i := 1) rfl
      have p2 := cell_of_heap h1 (i := 2) rfl
      have r0 := hKp.out.drop.hd
      have g0 := cell_of_heap r0 (i := 0) rfl
      have g1 := cell_of_heap r0 (i := 1) rfl
      have g2 := cell_of_heap r0 (i := 2) rfl
      have fz := frozen_of_heap r0 0
      have fz1 := frozen_of_heap r0 1
      have fz2 := frozen_of_heap r0 2
      have HR0 := Lib.hid r0
      clear h1 r0
      go_wp2
      clear p0 p1 p2 g0 g1 g2 fz fz1 fz2
      have e0 := store_of_heap HR0.out 0 (.slice la k lc)
      have e1 := store_of_heap e0 1 (.slice va s.nm vc)
      have e2 := store_of_heap e1 2 (.int .i64 s.wide)
      have hno : ∀ y ∈ ([] : List (Nat × Obj)), y.1 ≠ x1 + 1 := fun y hy => absurd hy List.not_mem_nil
      have KF := (((hKp.out.drop.drop.drop).set (b := x1 + 1) (by omega) hno 0 (.slice la k lc)).set (b := x1 + 1) (by omega) hno 1 (.slice va s.nm vc)).set (b := x1 + 1) (by omega) hno 2 (.int .i64 s.wide)
      have hne : ∀ (U : World), U.ownsRow (x1 + 3) 62 3 (.slice la k lc) k (rowsT s L) → ∀ j z, (U.setCell ⟨x1 + 1, j, none⟩ z).ownsRow (x1 + 3) 62 3 (.slice la k lc) k (rowsT s L) := fun U hU j z => ownsRow_setCell_other (a := ⟨x1 + 1, j, none⟩) hU (fun e => by have := (hU.lt _ e).1; simp only at this; omega) z
      have RF := hne _ (hne _ (hne _ ho.out 0 (.slice la k lc)) 1 (.slice va s.nm vc)) 2 (.int .i64 s.wide)
      generalize World.setCell _ _ _ = F at e2 KF RF ⊢
      have c0 : F.cell? ⟨x1 + 1, 0, none⟩ = some (.slice la k lc) := cell_of_heap e2 rfl
      have c1 : F.cell? ⟨x1 + 1, 1, none⟩ = some (.slice va s.nm vc) := cell_of_heap e2 rfl
      have c2 : F.cell? ⟨x1 + 1, 2, none⟩ = some (.int .i64 s.wide) := cell_of_heap e2 rfl
      have hSt : StkAt F (.agg #[.slice la k lc, .slice va s.nm vc, .int .i64 s.wide]) (s.sub (woutL s.nt x y)) := by
        rw [HLn.out]
        refine ⟨_, _, rfl, ?_, HMt.out.mono KF.g⟩
        have := RF
        rw [← Hk.out] at this ⊢
        exact rowsT_at this
      refine bodyPost_ret (v := .agg #[.slice la k lc, .slice va s.nm vc, .int .i64 s.wide]) (by simp [results, Try.results40, go_sem, c0, c1, c2]) rfl ?_
      exact ⟨_, rfl, hSt, KF.g⟩
end Go.Proofs.Yteingahlmlndkaa

/-
  What is proved: all best pairings by the definition (31): rows in memory, and what is counted (plain).
-/
namespace Go.Proofs.Yteingahlmlndkaa
open Go.RowKit
/-- rows of n numbers that lie in these blocks -/
def OutI (n : Nat) (Q : List (Nat × Obj)) (vals : List Value) (rs : List (List Int)) : Prop := (∀ y ∈ Q, ∃ c, y.2 = .cells c 3) ∧ vals.length = rs.length ∧ ∀ (i : Nat) (x : Value), vals[i]? = some x → ∃ (A : Option Addr) (c : Nat) (r : List Int), x = .slice A n c ∧ rs[i]? = some r ∧ r.length = n ∧ ∀ U : World, (∀ y ∈ Q, U.heap[y.1]? = some y.2) → IntsAt U x n (lst r)
theorem OutI.nil (n : Nat) (Q : List (Nat × Obj)) (hQ : ∀ y ∈ Q, ∃ c, y.2 = .cells c 3) : OutI n Q [] [] := ⟨hQ, rfl, fun i x h => by simp at h⟩
theorem OutI.more {n : Nat} {Q : List (Nat × Obj)} {vals : List Value} {rs : List (List Int)} (h : OutI n Q vals rs) (b : Nat) (c : Array Value) : OutI n ((b, .cells c 3) :: Q) vals rs :=
  ⟨fun y hy => by rcases List.mem_cons.1 hy with rfl | hy; exact ⟨_, rfl⟩; exact h.1 y hy, h.2.1, fun i x hx => by
    obtain ⟨A, cp, r, h1, h2, h3, h4⟩ := h.2.2 i x hx
    exact ⟨A, cp, r, h1, h2, h3, fun U hU => h4 U fun y hy => hU y (List.mem_cons_of_mem _ hy)⟩⟩
/-- a row more -/
theorem OutI.snoc {n : Nat} {Q : List (Nat × Obj)} {vals : List Value} {rs : List (List Int)} (h : OutI n Q vals rs) {x : Value} {r : List Int} (hx : ∃ (A : Option Addr) (c : Nat), x = .slice A n c) (hr : r.length = n) (hU : ∀ U : World, (∀ y ∈ Q, U.heap[y.1]? = some y.2) → IntsAt U x n (lst r)) : OutI n Q (vals ++ [x]) (rs ++ [r]) := by
  refine ⟨h.1, by simp [h.2.1], fun i u hu => ?_⟩
  by_cases hi : i < vals.length
  · rw [List.getElem?_append_left hi] at hu
    obtain ⟨A, cp, r', h1, h2, h3, h4⟩ := h.2.2 i u hu
    exact ⟨A, cp, r', h1, by rw [List.getElem?_append_left (by rw [← h.2.1]; exact hi)]; exact h2, h3, h4⟩
  · have hi2 := (List.getElem?_eq_some_iff.1 hu).1
    rw [List.length_append] at hi2
    simp at hi2
    have : i = vals.length := by omega
    subst this
    rw [List.getElem?_append_right (by omega)] at hu
    simp at hu
    subst hu
    obtain ⟨A, c, rfl⟩ := hx
    exact ⟨A, c, r, rfl, by simp [h.2.1], hr, hU⟩
theorem OutI.row {n : Nat} {Q : List (Nat × Obj)} {vals : List Value} {rs : List (List Int)} (h : OutI n Q vals rs) {i : Nat} (hi : i < rs.length) : ∃ (A : Option Addr) (c : Nat) (r : List Int), vals[i]? = some (.slice A n c) ∧ rs[i]? = some r ∧ r.length = n ∧ ∀ U : World, (∀ y ∈ Q, U.heap[y.1]? = some y.2) → IntsAt U (.slice A n c) n (lst r) := by
  have hvl : i < vals.length := by rw [h.2.1]; exact hi
  have hv : vals[i]? = some vals[i] := List.getElem?_eq_getElem hvl
  obtain ⟨A, c, r, h1, h2, h3, h4⟩ := h.2.2 i _ hv
  rw [h1] at hv h4
  exact ⟨A, c, r, hv, h2, h3, h4⟩
/-- pairs of a row -/
def prR (n : Nat) (r : List Int) : Nat := cntB (fun v => decide ((v : Int) < lst r v)) n
def mostR (n : Nat) : List (List Int) → Nat
  | [] => 0
  | r :: l => max (prR n r) (mostR n l)
/-- all best pairings, by the definition -/
def allB (A : Nat → Nat → Bool) (n : Nat) : List (List Int) := (allR A n n).filter fun r => decide (prR n r = mostR n (allR A n n))
/-- what has been made of the row p when things below k have been tried -/
def partA' (A : Nat → Nat → Bool) (n i k : Nat) (p : List Int) : List (List Int) := p.set i (-1) :: ((List.range k).filter fun k => decide (i < k) && (p.getD k 0 == -2 && A i k)).map fun (k : Nat) => (p.set i (k : Int)).set k (i : Int)
end Go.Proofs.Yteingahlmlndkaa

/-
  What is proved: all best pairings by the definition (31): what its loops keep.
-/
namespace Go.Proofs.Yteingahlmlndkaa
open Go.RowKit
attribute [local irreducible] Go.wpCalm rowV rowI
/-- the block that is appended to is not one of these -/
theorem KpS.app26 {w U U' : World} {n : Nat} {Q : List (Nat × Obj)} {x1 : Nat} {cs : Array Value} {vals : List Value} {rs : List (List Int)} {v : Value} {b0 : Nat} (h : KpS w ((x1, .cells cs 25) :: Q) U) (hO : OutI n Q vals rs) (hg : U.grownBy U' (vblk v)) (hk : ∀ (k : Nat) (o : Obj), U.heap[k]? = some o → (∀ c fr, o ≠ Obj.cells c 26 fr) → U'.heap[k]? = some o) (hb : ∀ b, vblk v = some b → b0 ≤ b) (hw : w.heap.size ≤ b0) : KpS w ((x1, .cells cs 25) :: Q) U' :=
  h.appE (e := 26) hg hk (fun b e => Nat.le_trans hw (hb b e)) (fun y hy => .inl (by
    rcases List.mem_cons.1 hy with rfl | hy
    · exact fun c fr e => by cases e
    · obtain ⟨c9, he9⟩ := hO.1 y hy
      rw [he9]
      exact fun c fr e => by cases e))
/-- the row that is filled at first -/
theorem OutI.first {U : World} {base n : Nat} {rv : Value} (hq : QAt U base 3 rv (List.replicate n (.int .i64 (-2)))) : ∃ Q, OutI n Q [rv] [List.replicate n (-2)] ∧ ∀ y ∈ Q, U.heap[y.1]? = some y.2 := by
  obtain ⟨A, cap, rfl, h1, h2, -, h4⟩ := hq
  rw [List.length_replicate] at h1 ⊢
  by_cases hn : n = 0
  · subst hn
    refine ⟨[], ⟨fun y hy => absurd hy List.not_mem_nil, rfl, fun i x hx => ?_⟩, fun y hy => absurd hy List.not_mem_nil⟩
    have hi := (List.getElem?_eq_some_iff.1 hx).1
    have : i = 0 := by simpa using hi
    subst this
    cases hx
    exact ⟨A, cap, [], rfl, rfl, rfl, fun U _ => ⟨A, cap, rfl, Nat.zero_le _, h2, fun i j hi => by omega⟩⟩
  · obtain ⟨b, o, cur, rfl, -, h5, -, h6⟩ := h4 (by omega)
    refine ⟨[(b, .cells cur 3)], ⟨fun y hy => by rw [List.mem_singleton] at hy; subst hy; exact ⟨_, rfl⟩, rfl, fun i x hx => ?_⟩, fun y hy => by rw [List.mem_singleton] at hy; subst hy; exact h5⟩
    have hi := (List.getElem?_eq_some_iff.1 hx).1
    have : i = 0 := by simpa using hi
    subst this
    cases hx
    refine ⟨_, cap, List.replicate n (-2), rfl, rfl, List.length_replicate, fun U hU => ?_⟩
    have hb := hU _ (List.mem_singleton.2 rfl)
    refine ⟨_, cap, rfl, h1, h2, fun i j hi hj => ⟨b, o, rfl, cell_of_heap hb ?_⟩⟩
    have := h6 i (.int .i64 (-2)) (by rw [List.getElem?_replicate, if_pos hi])
    rw [show o + i * 1 + j = o + i by omega, this]
    show _ = some (Value.int .i64 ((List.replicate n (-2)).getD i 0))
    rw [List.getD_eq_getElem?_getD, List.getElem?_replicate, if_pos hi]
    rfl
/-- the rows of a round (ov), and those of the next one (v7) -/
structure AllS (w U : World) (n x1 : Nat) (cs : Array Value) (B0 c1 : Nat) (ov : Value) (vals : List Value) (rs : List (List Int)) (Q : List (Nat × Obj)) (v7 : Value) (vals2 : List Value) (rs2 : List (List Int)) : Prop where
  o1 : OutI n Q vals rs
  o2 : OutI n Q vals2 rs2
  q1 : QAt U B0 26 ov vals
  q2 : QAt U c1 26 v7 vals2
  hc : c1 ≤ U.heap.size
  hov : ∀ b, vblk ov = some b → b < c1
  hw : w.heap.size ≤ c1
  kp : KpS w ((x1, .cells cs 25) :: Q) U
section
variable {w U : World} {n x1 : Nat} {cs : Array Value} {B0 c1 : Nat} {ov : Value} {vals : List Value} {rs : List (List Int)} {Q : List (Nat × Obj)} {v7 : Value} {vals2 : List Value} {rs2 : List (List Int)}
theorem AllS.mono (h : AllS w U n x1 cs B0 c1 ov vals rs Q v7 vals2 rs2) {U' : World} (g : U.grows U') : AllS w U' n x1 cs B0 c1 ov vals rs Q v7 vals2 rs2 :=
  ⟨h.o1, h.o2, h.q1.mono g, h.q2.mono g, Nat.le_trans h.hc g.size, h.hov, h.hw, h.kp.mono g⟩
theorem AllS.blk (h : AllS w U n x1 cs B0 c1 ov vals rs Q v7 vals2 rs2) {b : Nat} {cur : Array Value} (hb : U.heap[b]? = some (.cells cur 3)) : AllS w U n x1 cs B0 c1 ov vals rs ((b, .cells cur 3) :: Q) v7 vals2 rs2 :=
  ⟨h.o1.more b cur, h.o2.more b cur, h.q1, h.q2, h.hc, h.hov, h.hw, (KpS.add h.kp.drop hb).add h.kp.hd⟩
theorem AllS.app (h : AllS w U n x1 cs B0 c1 ov vals rs Q v7 vals2 rs2) {V : World} {v' x : Value} {r : List Int} (hq : QAt V c1 26 v' (vals2 ++ [x])) (hg : U.grownBy V (vblk v7)) (hk : ∀ (k : Nat) (o : Obj), U.heap[k]? = some o → (∀ c fr, o ≠ Obj.cells c 26 fr) → V.heap[k]? = some o) (hx : ∃ (A : Option Addr) (c : Nat), x = .slice A n c) (hr : r.length = n) (hU : ∀ U : World, (∀ y ∈ Q, U.heap[y.1]? = some y.2) → IntsAt U x n (lst r)) : AllS w V n x1 cs B0 c1 ov vals rs Q v' (vals2 ++ [x]) (rs2 ++ [r]) :=
  ⟨h.o1, h.o2.snoc hx hr hU, h.q1.keep hg.size fun b hb hlt => hg.block b hlt (fun e => by have h1 := (h.q2.blk e.symm).1; have h2 := h.hov b hb; omega), hq, Nat.le_trans h.hc hg.size, h.hov, h.hw, h.kp.app26 h.o1 hg hk (fun b e => (h.q2.blk e).1) h.hw⟩
theorem AllS.cells (h : AllS w U n x1 cs B0 c1 ov vals rs Q v7 vals2 rs2) {ob oo m oc p : Nat} (ho : ov = .slice (some ⟨ob, oo, none⟩) m oc) {rb ro rc : Nat} {r : List Int} (hv : vals[p]? = some (.slice (some ⟨rb, ro, none⟩) n rc)) (hr : rs[p]? = some r) : U.cell? ⟨ob, oo + p, none⟩ = some (.slice (some ⟨rb, ro, none⟩) n rc) ∧ (∀ j, j < n → U.cell? ⟨rb, ro + j, none⟩ = some (.int .i64 (lst r j))) ∧ IntsAt U (.slice (some ⟨rb, ro, none⟩) n rc) n (lst r) := by
  subst ho
  obtain ⟨b9, o9, e9, h9⟩ := h.q1.get hv
  cases e9
  obtain ⟨A8, c8, r8, e8, hr8, -, hU⟩ := h.o1.2.2 p _ hv
  rw [hr] at hr8
  cases hr8
  have hI := hU U (fun y hy => h.kp.at_ y (List.mem_cons_of_mem _ hy))
  refine ⟨h9, fun j hj => ?_, hI⟩
  obtain ⟨A7, c7, e7, -, -, hc⟩ := hI
  cases e7
  obtain ⟨b6, o6, e6, c6⟩ := hc j 0 hj (by omega)
  cases e6
  simpa only [Nat.mul_one, Nat.add_zero] using c6
/-- the row p, as it lies -/
theorem AllS.row (h : AllS w U n x1 cs B0 c1 ov vals rs Q v7 vals2 rs2) {p : Nat} (hp : p < vals.length) (hn : 0 < n) : ∃ ob oo oc rb ro rc r, ov = .slice (some ⟨ob, oo, none⟩) vals.length oc ∧ vals[p]? = some (.slice (some ⟨rb, ro, none⟩) n rc) ∧ rs[p]? = some r ∧ r.length = n ∧ n ≤ rc ∧ rc ≤ maxLen ∧ vals.length ≤ oc ∧ oc ≤ maxLen ∧ ∀ U : World, (∀ y ∈ Q, U.heap[y.1]? = some y.2) → IntsAt U (.slice (some ⟨rb, ro, none⟩) n rc) n (lst r) := by
  obtain ⟨A8, c8, r, hv, hr, hrl, hU⟩ := h.o1.row (i := p) (by rw [← h.o1.2.1]; exact hp)
  obtain ⟨A, oc, he, ho1, ho2⟩ := h.q1.form
  subst he
  obtain ⟨ob, oo, rfl, -⟩ := h.q1.get hv
  obtain ⟨A7, c7, e7, hc1, hc2, hc⟩ := hU U (fun y hy => h.kp.at_ y (List.mem_cons_of_mem _ hy))
  cases e7
  obtain ⟨rb, ro, rfl, -⟩ := hc 0 0 hn (by omega)
  exact ⟨ob, oo, oc, rb, ro, _, r, rfl, hv, hr, hrl, hc1, hc2, ho1, ho2, hU⟩
end
end Go.Proofs.Yteingahlmlndkaa

/-
  What is proved: all best pairings, by the definition (31).
-/
namespace Go.Proofs.Yteingahlmlndkaa
open Go.RowKit
attribute [local irreducible] Go.wpCalm rowV rowI
end Go.Proofs.Yteingahlmlndkaa

/-
  What is proved: the law's own right pairing of a stock, by numbers (39).
-/
namespace Go.Proofs.Yteingahlmlndkaa
open Go.RowKit
attribute [local irreducible] Go.wpCalm rowV rowI
theorem rem_at {a b x : Nat} (h : a % b = x) : (a : Int).tmod (b : Int) = (x : Nat) := by
  rw [Int.tmod_eq_emod_of_nonneg (Int.natCast_nonneg _), ← h]
  rfl
end Go.Proofs.Yteingahlmlndkaa

/-
  What is proved: MatchCounts (8) answers true.
-/
namespace Go.Proofs.Yteingahlmlndkaa
open Go.RowKit
attribute [local irreducible] Go.wpCalm rowV
/-- the pairs of k with lesser things are not "may" only -/
noncomputable def fixJ (s : Stk) (k j : Nat) : Bool := (List.range j).all fun j => !decide (pairN s.adj s.nt j k = 1)
noncomputable def fixK (s : Stk) (k : Nat) : Bool := (List.range k).all fun k => fixJ s k k
theorem fixJ_succ (s : Stk) (k j : Nat) : fixJ s k (j + 1) = (fixJ s k j && !decide (pairN s.adj s.nt j k = 1)) := by
  unfold fixJ
  rw [List.range_succ, List.all_append]
  simp
theorem fixK_succ (s : Stk) (k : Nat) : fixK s (k + 1) = (fixK s k && fixJ s k k) := by
  unfold fixK
  rw [List.range_succ, List.all_append]
  simp
theorem fixK_all {s : Stk} (h16 : s.nt ≤ 16) : fixK s s.nt = decide (cnt s.adj (belowN s.nt) 16 = 1) := by
  rw [Bool.eq_iff_iff, decide_eq_true_eq, count_one h16]
  unfold fixK fixJ
  simp [List.all_eq_true]
theorem sumN_mono (f : Nat → Nat) (k : Nat) : ∀ d, sumN f k ≤ sumN f (k + d)
  | 0 => Nat.le_refl _
  | d + 1 => by
    have := sumN_mono f k d
    show _ ≤ sumN f (k + d) + f (k + d)
    omega
theorem two_ok {s : Stk} (hc : s.check = 0) {i k : Nat} (hi : i < s.nt) (hk : k < s.nt) : twoE s (i : Nat) (k : Nat) = 0 := by
  unfold twoE
  rw [if_neg (by omega), if_pos]
  unfold Stk.isT
  simp
  omega
set_option maxRecDepth 100000 in
set_option maxHeartbeats 8000000 in
theorem counts_w (w : World) (tv : Value) (s : Stk) (ht : StkAt w tv s) (z2 : Int) (hz2 : 0 ≤ z2 ∧ z2 ≤ 255) : Calls Try.prog 8 #[tv, .int .u8 z2] w fun e w' => e = .returned (.bool true) ∧ w.grows w' := by
  have HT := Lib.hid ht
  obtain ⟨Z, rfl⟩ : ∃ Z : Nat, z2 = (Z : Nat) := ⟨z2.toNat, by omega⟩
  have hZ : Z < 256 := by omega
  obtain ⟨sv, vv, rfl, ⟨sa, sc, rfl, -⟩, ⟨va, vc, rfl, -⟩⟩ := ht
  obtain ⟨P, hP⟩ : ∃ P, s.wide = P := ⟨_, rfl⟩
  obtain ⟨N2, hN2⟩ : ∃ N, s.nm = N := ⟨_, rfl⟩
  rw [hP, hN2] at HT ⊢
  clear hP hN2 hz2
  go_enter Try.func8, Try.ntmps8
  have HB : Hid ((w.alloc (.cells #[.slice sa s.nt sc, .slice va N2 vc, .int .i64 P] 25)).heap[w.heap.size]? = some (.cells #[.slice sa s.nt sc, .slice va N2 vc, .int .i64 P] 25)) := Lib.hid (World.heap_at _ _ _ rfl)
  have HW : Hid (w.grows (w.alloc (.cells #[.slice sa s.nt sc, .slice va N2 vc, .int .i64 P] 25))) := Lib.hid (by (repeat (first | exact World.grows.refl _ | assumption | refine World.grows.alloc ?_ _ | refine World.grows.plus ?_ _ _ | refine World.grows.drew ?_)))
  have q0 := cell_of_heap (i := 0) HB.out rfl
  have q1 := cell_of_heap (i := 1) HB.out rfl
  have q2 := cell_of_heap (i := 2) HB.out rfl
  go_wp2_with (go_at_call 99; fail)
  refine (fine_c _ _ s (HT.out.mono (HW.out.trans (by (repeat (first | exact World.grows.refl _ | assumption | refine World.grows.alloc ?_ _ | refine World.grows.plus ?_ _ _ | refine World.grows.drew ?_)))))).mono ?_
  rintro e U ⟨rfl, g⟩
  replace HW := Lib.hid (HW.out.trans (World.grows.trans (by (repeat (first | exact World.grows.refl _ | assumption | refine World.grows.alloc ?_ _ | refine World.grows.plus ?_ _ _ | refine World.grows.drew ?_))) g)); replace HB := Lib.hid (g.heap_of (World.grows.heap_of (by (repeat (first | exact World.grows.refl _ | assumption | refine World.grows.alloc ?_ _ | refine World.grows.plus ?_ _ _ | refine World.grows.drew ?_))) HB.out)); replace q0 := cell_of_heap (i := 0) HB.out rfl; replace q1 := cell_of_heap (i := 1) HB.out rfl; replace q2 := cell_of_heap (i := 2) HB.out rfl; clear g
  by_cases hc : s.check = 0
  · rw [decide_eq_true hc]
    have hok := (Stk.ok_iff s).1 hc
    have h16 := hok.n16
    have HOk := Lib.hid hok
    have HC := Lib.hid hc
    clear hc hok
    by_cases hn0 : s.nt = 0
    · have hI : ((s.nt : Int) == 0) = true := by rw [hn0]; rfl
      clear hn0
      go_wp2_with (go_at_call 99; fail); refine (works_c _).mono ?_; rintro e U9 ⟨rfl, g⟩; replace HW := Lib.hid (HW.out.trans (World.grows.trans (by (repeat (first | exact World.grows.refl _ | assumption | refine World.grows.alloc ?_ _ | refine World.grows.plus ?_ _ _ | refine World.grows.drew ?_))) g)); replace HB := Lib.hid (g.heap_of (World.grows.heap_of (by (repeat (first | exact World.grows.refl _ | assumption | refine World.grows.alloc ?_ _ | refine World.grows.plus ?_ _ _ | refine World.grows.drew ?_))) HB.out)); replace q0 := cell_of_heap (i := 0) HB.out rfl; replace q1 := cell_of_heap (i := 1) HB.out rfl; replace q2 := cell_of_heap (i := 2) HB.out rfl; clear g; go_wp2; (refine bodyPost_ret (v := .bool true) (by simp [results, Try.results8, go_sem]) rfl ?_); exact ⟨rfl, HW.out.trans (by (repeat (first | exact World.grows.refl _ | assumption | refine World.grows.alloc ?_ _ | refine World.grows.plus ?_ _ _ | refine World.grows.drew ?_)))⟩
    · have hI : ((s.nt : Int) == 0) = false := by simp; omega
      have hnI : ¬ (s.nt : Int) = 0 := by omega
      obtain ⟨i, hiE⟩ : ∃ i, Z % s.nt = i := ⟨_, rfl⟩
      have hi : i < s.nt := by rw [← hiE]; exact Nat.mod_lt _ (by omega)
      have hrem := rem_at hiE
      obtain ⟨NU, hNU⟩ : ∃ x, nu s.adj (belowN s.nt) 16 = x := ⟨_, rfl⟩
      obtain ⟨NC, hNC⟩ : ∃ x, cnt s.adj (belowN s.nt) 16 = x := ⟨_, rfl⟩
      have hNU16 : NU ≤ 16 := by have := nu_le s.adj_symm (below16 h16); omega
      have hNC1 : 1 ≤ NC := by rw [← hNC]; exact cnt_pos s.adj_symm
      have hNCB : NC ≤ 20922789888000 := by rw [← hNC]; exact cnt_le _ _
      have hcI : ¬ (NC : Int) < 1 := by omega
      have HNU := Lib.hid hNU
      have HNC := Lib.hid hNC
      have HSum := Lib.hid (counts_sum (s := s) h16 hi)
      have HFix := Lib.hid (fixK_all (s := s) h16)
      rw [hNC] at HSum HFix
      clear hNU hNC hiE
      go_wp2_with (go_at_call 99; fail)
      refine (v_best (HT.out.mono (HW.out.trans (by (repeat (first | exact World.grows.refl _ | assumption | refine World.grows.alloc ?_ _ | refine World.grows.plus ?_ _ _ | refine World.grows.drew ?_))))) HOk.out HNU.out).mono ?_
      rintro e U3 ⟨a5, c5, m5, rfl, -, -, g⟩
      replace HW := Lib.hid (HW.out.trans (World.grows.trans (by (repeat (first | exact World.grows.refl _ | assumption | refine World.grows.alloc ?_ _ | refine World.grows.plus ?_ _ _ | refine World.grows.drew ?_))) g)); replace HB := Lib.hid (g.heap_of (World.grows.heap_of (by (repeat (first | exact World.grows.refl _ | assumption | refine World.grows.alloc ?_ _ | refine World.grows.plus ?_ _ _ | refine World.grows.drew ?_))) HB.out)); replace q0 := cell_of_heap (i := 0) HB.out rfl; replace q1 := cell_of_heap (i := 1) HB.out rfl; replace q2 := cell_of_heap (i := 2) HB.out rfl; clear g
      go_wp2_with (go_at_call 99; fail)
      refine (v_count (HT.out.mono (HW.out.trans (by (repeat (first | exact World.grows.refl _ | assumption | refine World.grows.alloc ?_ _ | refine World.grows.plus ?_ _ _ | refine World.grows.drew ?_))))) HOk.out HNC.out).mono ?_
      rintro e U4 ⟨rfl, g⟩
      replace HW := Lib.hid (HW.out.trans (World.grows.trans (by (repeat (first | exact World.grows.refl _ | assumption | refine World.grows.alloc ?_ _ | refine World.grows.plus ?_ _ _ | refine World.grows.drew ?_))) g)); replace HB := Lib.hid (g.heap_of (World.grows.heap_of (by (repeat (first | exact World.grows.refl _ | assumption | refine World.grows.alloc ?_ _ | refine World.grows.plus ?_ _ _ | refine World.grows.drew ?_))) HB.out)); replace q0 := cell_of_heap (i := 0) HB.out rfl; replace q1 := cell_of_heap (i := 1) HB.out rfl; replace q2 := cell_of_heap (i := 2) HB.out rfl; clear g
      go_wp2
      have HB0 := HB
      have HW0 := HW
      clear HB HW q0 q1 q2
      go_loopw [11, 12, 13] (fun i11 i12 i13 wr => ∃ k : Nat, k ≤ s.nt ∧ i13 = .int .i64 (k : Nat) ∧ i11 = .int .i64 (sumN (cntT s.adj (belowN s.nt) i) k : Nat) ∧ i12 = .bool (fixK s k) ∧ Hid (w.grows wr) ∧ Hid (wr.heap[w.heap.size]? = some (.cells #[.slice sa s.nt sc, .slice va N2 vc, .int .i64 P] 25))) (fun _ _ i13 _ => s.nt - (intOf i13).toNat)
      case atStart => exact ⟨0, by omega, rfl, rfl, rfl, HW0, HB0⟩
      case round =>
        clear HB0 HW0
        obtain ⟨k, hk, rfl, rfl, rfl, HW, HB⟩ := hrel
        have q0 := cell_of_heap (i := 0) HB.out rfl
        have q1 := cell_of_heap (i := 1) HB.out rfl
        have q2 := cell_of_heap (i := 2) HB.out rfl
        have hsm : sumN (cntT s.adj (belowN s.nt) i) k ≤ NC := by
          have := sumN_mono (cntT s.adj (belowN s.nt) i) k (s.nt - k)
          rw [show k + (s.nt - k) = s.nt by omega, HSum.out] at this
          exact this
        by_cases hlt : k < s.nt
        · have hltI : (k : Int) < s.nt := by omega
          have hsm2 : sumN (cntT s.adj (belowN s.nt) i) (k + 1) ≤ NC := by
            have := sumN_mono (cntT s.adj (belowN s.nt) i) (k + 1) (s.nt - (k + 1))
            rw [show k + 1 + (s.nt - (k + 1)) = s.nt by omega, HSum.out] at this
            exact this
          have HS1 : Hid (sumN (cntT s.adj (belowN s.nt) i) (k + 1) = sumN (cntT s.adj (belowN s.nt) i) k + cntT s.adj (belowN s.nt) i k) := Lib.hid rfl
          obtain ⟨SM, hSM⟩ : ∃ x, sumN (cntT s.adj (belowN s.nt) i) k = x := ⟨_, rfl⟩
          obtain ⟨SN, hSN⟩ : ∃ x, sumN (cntT s.adj (belowN s.nt) i) (k + 1) = x := ⟨_, rfl⟩
          have HSN := Lib.hid hSN
          rw [hSM] at hsm HS1 ⊢
          rw [hSN] at hsm2 HS1
          clear hSM hSN
          obtain ⟨L, hL⟩ : ∃ L, woutL s.nt (i : Nat) (k : Nat) = L := ⟨_, rfl⟩
          have hwo := wout_ok HOk.out (i : Nat) (k : Nat)
          have hnw := nu_wout2 HOk.out i k
          obtain ⟨M1, hM1⟩ : ∃ x, nu s.adj (less1 (less1 (belowN s.nt) i) k) 16 = x := ⟨_, rfl⟩
          obtain ⟨D, hD⟩ : ∃ x, cnt s.adj (less1 (less1 (belowN s.nt) i) k) 16 = x := ⟨_, rfl⟩
          have hM16 : M1 ≤ 16 := by rw [← hM1]; have := nu_le s.adj_symm (less1_lt (less1_lt (below16 h16) i) k); omega
          have hDB : D ≤ 20922789888000 := by rw [← hD]; exact cnt_le _ _
          have HCT : Hid (cntT s.adj (belowN s.nt) i k = if k = i then (if M1 = NU then D else 0) else if s.adj i k = true ∧ M1 + 1 = NU then D else 0) := Lib.hid (by unfold cntT; rw [hM1, hD, HNU.out])
          rw [hM1, hD, hL] at hnw
          rw [hL] at hwo
          have HWo := Lib.hid hwo
          have HNw := Lib.hid hnw
          have h40 := fun W hT => wout_c W (.agg #[.slice sa s.nt sc, .slice va N2 vc, .int .i64 P]) s hT HOk.out (i : Nat) (k : Nat)
          rw [hL] at h40
          clear hwo hnw hM1 hD hL
          go_wp2_with (go_at_call 99; fail)
          refine (h40 _ (HT.out.mono (HW.out.trans (by (repeat (first | exact World.grows.refl _ | assumption | refine World.grows.alloc ?_ _ | refine World.grows.plus ?_ _ _ | refine World.grows.drew ?_)))))).mono ?_
          rintro e W4 ⟨u, rfl, hu, g⟩
          have HU := Lib.hid hu
          obtain ⟨tv2, mv2, rfl, ⟨ta, tc, rfl, -⟩, ⟨ma, mc, rfl, -⟩⟩ := hu
          replace HW := Lib.hid (HW.out.trans (World.grows.trans (by (repeat (first | exact World.grows.refl _ | assumption | refine World.grows.alloc ?_ _ | refine World.grows.plus ?_ _ _ | refine World.grows.drew ?_))) g)); replace HB := Lib.hid (g.heap_of (World.grows.heap_of (by (repeat (first | exact World.grows.refl _ | assumption | refine World.grows.alloc ?_ _ | refine World.grows.plus ?_ _ _ | refine World.grows.drew ?_))) HB.out)); replace q0 := cell_of_heap (i := 0) HB.out rfl; replace q1 := cell_of_heap (i := 1) HB.out rfl; replace q2 := cell_of_heap (i := 2) HB.out rfl; clear g
          clear h40
          obtain ⟨S2, hS2⟩ : ∃ x, s.sub L = x := ⟨_, rfl⟩
          rw [hS2] at HU HWo HNw ⊢
          clear hS2
          obtain ⟨y, hy⟩ : ∃ y, W4.heap.size = y := ⟨_, rfl⟩
          go_wp2_with (go_at_call 99; fail)
          have HY : Hid ((W4.alloc (Obj.cells #[.slice ta S2.nt tc, .slice ma S2.nm mc, .int .i64 S2.wide] 25)).heap[y]? = some (.cells #[.slice ta S2.nt tc, .slice ma S2.nm mc, .int .i64 S2.wide] 25)) := Lib.hid (World.heap_at _ _ _ hy.symm)
          refine (v_best (HU.out.mono (by (repeat (first | exact World.grows.refl _ | assumption | refine World.grows.alloc ?_ _ | refine World.grows.plus ?_ _ _ | refine World.grows.drew ?_)))) HWo.out HNw.out.1).mono ?_
          rintro e W5 ⟨a6, c6, m6, rfl, -, -, g⟩
          replace HY := Lib.hid (g.heap_of HY.out)
          replace HU := Lib.hid (HU.out.mono (World.grows.trans (show W4.grows _ by (repeat (first | exact World.grows.refl _ | assumption | refine World.grows.alloc ?_ _ | refine World.grows.plus ?_ _ _ | refine World.grows.drew ?_))) g))
          have y0 := cell_of_heap (i := 0) HY.out rfl
          have y1 := cell_of_heap (i := 1) HY.out rfl
          have y2 := cell_of_heap (i := 2) HY.out rfl
          simp only [hy]
          replace HW := Lib.hid (HW.out.trans (World.grows.trans (by (repeat (first | exact World.grows.refl _ | assumption | refine World.grows.alloc ?_ _ | refine World.grows.plus ?_ _ _ | refine World.grows.drew ?_))) g)); replace HB := Lib.hid (g.heap_of (World.grows.heap_of (by (repeat (first | exact World.grows.refl _ | assumption | refine World.grows.alloc ?_ _ | refine World.grows.plus ?_ _ _ | refine World.grows.drew ?_))) HB.out)); replace q0 := cell_of_heap (i := 0) HB.out rfl; replace q1 := cell_of_heap (i := 1) HB.out rfl; replace q2 := cell_of_heap (i := 2) HB.out rfl; clear g
          go_wp2_with (go_at_call 99; fail)
          refine (v_count (HU.out.mono (by (repeat (first | exact World.grows.refl _ | assumption | refine World.grows.alloc ?_ _ | refine World.grows.plus ?_ _ _ | refine World.grows.drew ?_)))) HWo.out HNw.out.2).mono ?_
          rintro e W6 ⟨rfl, g⟩
          replace HW := Lib.hid (HW.out.trans (World.grows.trans (by (repeat (first | exact World.grows.refl _ | assumption | refine World.grows.alloc ?_ _ | refine World.grows.plus ?_ _ _ | refine World.grows.drew ?_))) g)); replace HB := Lib.hid (g.heap_of (World.grows.heap_of (by (repeat (first | exact World.grows.refl _ | assumption | refine World.grows.alloc ?_ _ | refine World.grows.plus ?_ _ _ | refine World.grows.drew ?_))) HB.out)); replace q0 := cell_of_heap (i := 0) HB.out rfl; replace q1 := cell_of_heap (i := 1) HB.out rfl; replace q2 := cell_of_heap (i := 2) HB.out rfl; clear g
          clear HY y0 y1 y2 HU HWo HNw hy
          go_upto_region 17 with fail
          obtain ⟨AB, hAB⟩ : ∃ x : Bool, (if k = i then decide (M1 = NU) else s.suits i k && decide (M1 + 1 = NU)) = x := ⟨_, rfl⟩
          have HSA : Hid (SN = SM + if AB = true then D else 0) := Lib.hid (by
            rw [HS1.out, HCT.out, ← hAB, Stk.adj_suits hi hlt]
            by_cases e1 : k = i
            · rw [if_pos e1, if_pos e1]
              by_cases e2 : M1 = NU
              · rw [if_pos e2, if_pos (decide_eq_true e2)]
              · rw [if_neg e2, if_neg (by simpa using e2)]
            · rw [if_neg e1, if_neg e1]
              by_cases e2 : s.suits i k = true ∧ M1 + 1 = NU
              · rw [if_pos e2, if_pos (by rw [e2.1, decide_eq_true e2.2]; rfl)]
              · rw [if_neg e2, if_neg (fun h => e2 (by rw [Bool.and_eq_true, decide_eq_true_eq] at h; exact h))])
          have HAB := Lib.hid hAB
          clear hAB
          have HB5 := HB
          have HW5 := HW
          go_cut [112] from 88 to 116 (fun z w' => z = .bool AB ∧ Hid (w.grows w') ∧ Hid (w'.heap[w.heap.size]? = some (.cells #[.slice sa s.nt sc, .slice va N2 vc, .int .i64 P] 25)))
          case first =>
            by_cases e1 : k = i
            · have k1 : ((k : Int) == (i : Int)) = true := by simp [e1]
              have k2 : ((k : Int) != (i : Int)) = false := by simp [e1]
              have hA := HAB.out
              rw [if_pos e1] at hA
              by_cases e2 : M1 = NU
              · have k3 : ((M1 : Int) == (NU : Int)) = true := by simp [e2]
                rw [decide_eq_true e2] at hA
                subst hA
                clear e1 e2
                go_wp2
                go_meet
                case rel => exact ⟨rfl, HW5, HB5⟩
              · have k3 : ((M1 : Int) == (NU : Int)) = false := by simp; omega
                rw [decide_eq_false e2] at hA
                subst hA
                clear e1 e2
                go_wp2
                go_meet
                case rel => exact ⟨rfl, HW5, HB5⟩
            · have k1 : ((k : Int) == (i : Int)) = false := by simp; omega
              have k2 : ((k : Int) != (i : Int)) = true := by simp; omega
              have hA := HAB.out
              rw [if_neg e1] at hA
              clear e1
              go_wp2_with (go_at_call 99; fail)
              refine (suits_c _ _ s (HT.out.mono (HW.out.trans (by (repeat (first | exact World.grows.refl _ | assumption | refine World.grows.alloc ?_ _ | refine World.grows.plus ?_ _ _ | refine World.grows.drew ?_))))) HOk.out i k hi hlt).mono ?_
              rintro e W7 ⟨rfl, g⟩
              replace HW := Lib.hid (HW.out.trans (World.grows.trans (by (repeat (first | exact World.grows.refl _ | assumption | refine World.grows.alloc ?_ _ | refine World.grows.plus ?_ _ _ | refine World.grows.drew ?_))) g)); replace HB := Lib.hid (g.heap_of (World.grows.heap_of (by (repeat (first | exact World.grows.refl _ | assumption | refine World.grows.alloc ?_ _ | refine World.grows.plus ?_ _ _ | refine World.grows.drew ?_))) HB.out)); replace q0 := cell_of_heap (i := 0) HB.out rfl; replace q1 := cell_of_heap (i := 1) HB.out rfl; replace q2 := cell_of_heap (i := 2) HB.out rfl; clear g
              cases hs : s.suits i k with
              | false =>
                rw [hs, Bool.false_and] at hA
                subst hA
                clear hs
                go_wp2
                go_meet
                case rel => exact ⟨rfl, HW, HB⟩
              | true =>
                rw [hs, Bool.true_and] at hA
                clear hs
                by_cases e2 : M1 + 1 = NU
                · have k3 : ((M1 : Int) == (NU : Int) - 1) = true := by simp; omega
                  rw [decide_eq_true e2] at hA
                  subst hA
                  clear e2
                  go_wp2
                  go_meet
                  case rel => exact ⟨rfl, HW, HB⟩
                · have k3 : ((M1 : Int) == (NU : Int) - 1) = false := by simp; omega
                  rw [decide_eq_false e2] at hA
                  subst hA
                  clear e2
                  go_wp2
                  go_meet
                  case rel => exact ⟨rfl, HW, HB⟩
          case rest =>
            clear HB HW HB5 HW5 q0 q1 q2
            obtain ⟨rfl, HW, HB⟩ := hcut
            have q0 := cell_of_heap (i := 0) HB.out rfl
            have q1 := cell_of_heap (i := 1) HB.out rfl
            have q2 := cell_of_heap (i := 2) HB.out rfl
            go_upto_if 112 with fail
            go_cut [11] from 112 to 116 (fun z w' => z = .int .i64 (SN : Nat) ∧ w' = wc)
            case first =>
              cases AB with
              | true =>
                have e1 : SN = SM + D := by rw [HSA.out]; rfl
                go_wp2
                go_meet
                case rel => exact ⟨by rw [e1]; go_num, rfl⟩
              | false =>
                have e1 : SN = SM := by rw [HSA.out]; rfl
                go_wp2
                go_meet
                case rel => exact ⟨by rw [e1], rfl⟩
            case rest =>
              obtain ⟨rfl, rfl⟩ := hcut
              have HB0 := HB
              have HW0 := HW
              clear HB HW q0 q1 q2
              go_wp2
              go_loopw [12, 20] (fun i12 i20 wr => ∃ j : Nat, j ≤ k ∧ i20 = .int .i64 (j : Nat) ∧ i12 = .bool (fixK s k && fixJ s k j) ∧ Hid (w.grows wr) ∧ Hid (wr.heap[w.heap.size]? = some (.cells #[.slice sa s.nt sc, .slice va N2 vc, .int .i64 P] 25))) (fun _ i20 _ => k - (intOf i20).toNat)
              case atStart => exact ⟨0, by omega, rfl, by rw [show fixJ s k 0 = true from rfl, Bool.and_true], HW0, HB0⟩
              case round =>
                clear HB0 HW0
                obtain ⟨j, hj, rfl, rfl, HW, HB⟩ := hrel
                have q0 := cell_of_heap (i := 0) HB.out rfl
                have q1 := cell_of_heap (i := 1) HB.out rfl
                have q2 := cell_of_heap (i := 2) HB.out rfl
                by_cases hlt2 : j < k
                · have hltI2 : (j : Int) < k := by omega
                  have HJ := Lib.hid (fixJ_succ s k j)
                  obtain ⟨PV, hPV⟩ : ∃ x, pairN s.adj s.nt j k = x := ⟨_, rfl⟩
                  have h33 := fun W hT => pair_c W (.agg #[.slice sa s.nt sc, .slice va N2 vc, .int .i64 P]) s hT (j : Nat) (k : Nat)
                  rw [two_ok HC.out (show j < s.nt by omega) hlt, if_pos rfl] at h33
                  simp only [Int.toNat_natCast, hPV] at h33
                  rw [hPV] at HJ
                  clear hPV
                  go_wp2_with (go_at_call 99; fail)
                  refine (h33 _ (HT.out.mono (HW.out.trans (by (repeat (first | exact World.grows.refl _ | assumption | refine World.grows.alloc ?_ _ | refine World.grows.plus ?_ _ _ | refine World.grows.drew ?_)))))).mono ?_
                  rintro e W8 ⟨rfl, g⟩
                  replace HW := Lib.hid (HW.out.trans (World.grows.trans (by (repeat (first | exact World.grows.refl _ | assumption | refine World.grows.alloc ?_ _ | refine World.grows.plus ?_ _ _ | refine World.grows.drew ?_))) g)); replace HB := Lib.hid (g.heap_of (World.grows.heap_of (by (repeat (first | exact World.grows.refl _ | assumption | refine World.grows.alloc ?_ _ | refine World.grows.plus ?_ _ _ | refine World.grows.drew ?_))) HB.out)); replace q0 := cell_of_heap (i := 0) HB.out rfl; replace q1 := cell_of_heap (i := 1) HB.out rfl; replace q2 := cell_of_heap (i := 2) HB.out rfl; clear g
                  clear h33
                  obtain ⟨fb, hfb⟩ : ∃ x, (fixK s k && fixJ s k j) = x := ⟨_, rfl⟩
                  have HFb : Hid ((fixK s k && fixJ s k (j + 1)) = (fb && !decide (PV = 1))) := Lib.hid (by rw [HJ.out, ← Bool.and_assoc, hfb])
                  rw [hfb]
                  clear hfb HJ
                  cases fb with
                  | false =>
                    have HF2 : Hid ((fixK s k && fixJ s k (j + 1)) = false) := Lib.hid (by rw [HFb.out]; rfl)
                    go_wp2
                    case roundEnd => exact ⟨⟨j + 1, by omega, by go_num, by rw [HF2.out], HW, HB⟩, by simp [intOf]; omega⟩
                  | true =>
                    by_cases e1 : PV = 1
                    · have k1 : ((PV : Int) != 1) = false := by simp [e1]
                      have HF2 : Hid ((fixK s k && fixJ s k (j + 1)) = false) := Lib.hid (by rw [HFb.out, decide_eq_true e1]; rfl)
                      clear e1
                      go_wp2
                      case roundEnd => exact ⟨⟨j + 1, by omega, by go_num, by rw [HF2.out], HW, HB⟩, by simp [intOf]; omega⟩
                    · have k1 : ((PV : Int) != 1) = true := by simp; omega
                      have HF2 : Hid ((fixK s k && fixJ s k (j + 1)) = true) := Lib.hid (by rw [HFb.out, decide_eq_false e1]; rfl)
                      clear e1
                      go_wp2
                      case roundEnd => exact ⟨⟨j + 1, by omega, by go_num, by rw [HF2.out], HW, HB⟩, by simp [intOf]; omega⟩
                · have hltI2 : ¬ (j : Int) < k := by omega
                  have hjk : j = k := by omega
                  have HF2 : Hid (fixK s (k + 1) = (fixK s k && fixJ s k j)) := Lib.hid (by rw [fixK_succ, hjk])
                  clear hjk
                  go_wp2
                  case roundEnd => exact ⟨⟨k + 1, by omega, by go_num, by rw [HSN.out], by rw [HF2.out], HW, HB⟩, by simp [intOf]; omega⟩
        · have hltI : ¬ (k : Int) < s.nt := by omega
          have hkn : k = s.nt := by omega
          have e1 : sumN (cntT s.adj (belowN s.nt) i) k = NC := by rw [hkn]; exact HSum.out
          have e2 : fixK s k = decide (NC = 1) := by rw [hkn]; exact HFix.out
          rw [e1, e2]
          clear e1 e2 hkn hsm
          by_cases hN1 : NC = 1
          · subst hN1
            simp only [decide_true]
            go_wp2_with (go_at_call 99; fail); refine (works_c _).mono ?_; rintro e U9 ⟨rfl, g⟩; replace HW := Lib.hid (HW.out.trans (World.grows.trans (by (repeat (first | exact World.grows.refl _ | assumption | refine World.grows.alloc ?_ _ | refine World.grows.plus ?_ _ _ | refine World.grows.drew ?_))) g)); replace HB := Lib.hid (g.heap_of (World.grows.heap_of (by (repeat (first | exact World.grows.refl _ | assumption | refine World.grows.alloc ?_ _ | refine World.grows.plus ?_ _ _ | refine World.grows.drew ?_))) HB.out)); replace q0 := cell_of_heap (i := 0) HB.out rfl; replace q1 := cell_of_heap (i := 1) HB.out rfl; replace q2 := cell_of_heap (i := 2) HB.out rfl; clear g; go_wp2; (refine bodyPost_ret (v := .bool true) (by simp [results, Try.results8, go_sem]) rfl ?_); exact ⟨rfl, HW.out.trans (by (repeat (first | exact World.grows.refl _ | assumption | refine World.grows.alloc ?_ _ | refine World.grows.plus ?_ _ _ | refine World.grows.drew ?_)))⟩
          · have k1 : ((NC : Int) == 1) = false := by simp; omega
            rw [decide_eq_false hN1]
            clear hN1
            go_wp2_with (go_at_call 99; fail); refine (works_c _).mono ?_; rintro e U9 ⟨rfl, g⟩; replace HW := Lib.hid (HW.out.trans (World.grows.trans (by (repeat (first | exact World.grows.refl _ | assumption | refine World.grows.alloc ?_ _ | refine World.grows.plus ?_ _ _ | refine World.grows.drew ?_))) g)); replace HB := Lib.hid (g.heap_of (World.grows.heap_of (by (repeat (first | exact World.grows.refl _ | assumption | refine World.grows.alloc ?_ _ | refine World.grows.plus ?_ _ _ | refine World.grows.drew ?_))) HB.out)); replace q0 := cell_of_heap (i := 0) HB.out rfl; replace q1 := cell_of_heap (i := 1) HB.out rfl; replace q2 := cell_of_heap (i := 2) HB.out rfl; clear g; go_wp2; (refine bodyPost_ret (v := .bool true) (by simp [results, Try.results8, go_sem]) rfl ?_); exact ⟨rfl, HW.out.trans (by (repeat (first | exact World.grows.refl _ | assumption | refine World.grows.alloc ?_ _ | refine World.grows.plus ?_ _ _ | refine World.grows.drew ?_)))⟩
  · rw [decide_eq_false hc]
    clear hc
    go_wp2_with (go_at_call 99; fail); refine (works_c _).mono ?_; rintro e U9 ⟨rfl, g⟩; replace HW := Lib.hid (HW.out.trans (World.grows.trans (by (repeat (first | exact World.grows.refl _ | assumption | refine World.grows.alloc ?_ _ | refine World.grows.plus ?_ _ _ | refine World.grows.drew ?_))) g)); replace HB := Lib.hid (g.heap_of (World.grows.heap_of (by (repeat (first | exact World.grows.refl _ | assumption | refine World.grows.alloc ?_ _ | refine World.grows.plus ?_ _ _ | refine World.grows.drew ?_))) HB.out)); replace q0 := cell_of_heap (i := 0) HB.out rfl; replace q1 := cell_of_heap (i := 1) HB.out rfl; replace q2 := cell_of_heap (i := 2) HB.out rfl; clear g; go_wp2; (refine bodyPost_ret (v := .bool true) (by simp [results, Try.results8, go_sem]) rfl ?_); exact ⟨rfl, HW.out.trans (by (repeat (first | exact World.grows.refl _ | assumption | refine World.grows.alloc ?_ _ | refine World.grows.plus ?_ _ _ | refine World.grows.drew ?_)))⟩
end Go.Proofs.Yteingahlmlndkaa

/-
  What is proved: the statement MatchCounts, at every input.
-/
namespace Go.Proofs.Yteingahlmlndkaa
open Go.ChangeShapes Go.WideShapes Go.ChangeAt Go.RowKit

set_option maxRecDepth 100000 in
theorem matchCounts_lifted (os : Os) (started : os.Started) (H : Type) (enc : TypeId × Value → H) :
    ReturnsInHanded {} Try.checked os 8 .any (Rows.matchCountsSpec.pre6 enc Try.prog Try.f8 Rows.matchCountsRow.domain false) (Rows.matchCountsSpec.post enc Try.prog Try.f8 false true false false) := by
  refine law_lifted (C := Try.checked) (tb := 4) started own_c laid_c (by kernel_rfl) Try.func8 (of_decide_eq_true (by kernel_rfl))
    (ChangeSpec.witness6 (enc := enc) (C := Try.checked) false ⟨#[], #[.agg #[.slice none 0 0, .slice none 0 0, .int .i64 0], .int .u8 0], []⟩ 8 (by kernel_rfl) (by kernel_rfl) (by kernel_rfl) (by kernel_rfl))
    rfl Try.underlying4 rfl (fun ds hl => ?_) (fun W base args ds ps hval hA => ?_)
  · match ds, hl with
    | [d1, d2], _ => exact ⟨rfl, rfl, rfl⟩
  · have hA' : DataW.TrodAll enc Try.prog W 0 (fun _ => true) true Try.f8.params.toList args.toList ds ps := hA
    have hval' : ∀ (j : Nat) t v, Try.f8.params[j]? = some t → args[j]? = some v → Value.okWide Try.prog W .any base t v := hval
    rw [Try.params8] at hA' hval'
    obtain ⟨v1, v2, d1, d2, p1, p2, rfl, rfl, rfl, h1, h2⟩ := trodAll_two hA'
    obtain ⟨s1, hs1⟩ := stock_of (hval' 0 25 v1 rfl rfl) h1
    obtain ⟨z2, rfl, -, -, hw2⟩ := open_int Try.underlying5 (hval' 1 5 v2 rfl rfl) h2; have hz2 := lit_u8 hw2
    exact counts_w W v1 s1 hs1 z2 hz2

theorem matchCounts_holds : Rows.MatchCountsSaid :=
  OpenClaim.holds_of_wide 8 Try.f8 rfl rfl rfl rfl rfl rfl rfl ⟨rfl, rfl, rfl, rfl, rfl⟩ rfl rfl rfl rfl rfl (by kernel_rfl) Try.func8 (by kernel_rfl)
    (of_decide_eq_true (by kernel_rfl)) (by unfold Func.isWrapper; first | (rw [if_pos (by decide +kernel)]; kernel_rfl) | (rw [if_neg (by decide +kernel)]; exact ⟨rfl, rfl⟩))
    (fun os started H enc _ => matchCounts_lifted os started H enc)
end Go.Proofs.Yteingahlmlndkaa

