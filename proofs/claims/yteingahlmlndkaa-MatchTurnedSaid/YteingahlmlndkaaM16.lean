/-
  What is proved: a stock of some of a stock's things, and how its rows lie (plain).
-/
import Derived.Test.YteingahlmlndkaaM14
import Derived.Test.YteingahlmlndkaaM10
import Derived.Test.YteingahlmlndkaaM12
import Derived.Test.YteingahlmlndkaaM15
import Derived.Test.YteingahlmlndkaaM5
import Derived.Test.YteingahlmlndkaaM8
import Derived.Test.YteingahlmlndkaaM1
import Derived.Maps.AppendAt
import Derived.Test.YteingahlmlndkaaM13
import Derived.Deep.CutRange
set_option linter.all false
namespace Go.Proofs.Yteingahlmlndkaa
open Go.RowKit
/-- the stock of these things -/
def Stk.sub (s : Stk) (L : List Nat) : Stk := { s with nt := L.length, tk := fun i => s.tk (L.getD i 0), tw := fun i => s.tw (L.getD i 0), tg := fun i => s.tg (L.getD i 0) }
theorem Stk.Ok.sub {s : Stk} (h : s.Ok) {L : List Nat} (hl : L.length ≤ 16) (hL : ∀ t ∈ L, t < s.nt) : (s.sub L).Ok := by
  have key : ∀ i, i < L.length → L.getD i 0 < s.nt := fun i hi => by
    rw [List.getD_eq_getElem?_getD, List.getElem?_eq_getElem hi]
    exact hL _ (List.getElem_mem hi)
  exact ⟨hl, h.m20, fun i hi => h.tk _ (key i hi), fun i hi => h.tg _ (key i hi), fun i hi => h.tw _ (key i hi), h.ma, h.mb, h.wide⟩
/-- the cells of these things, one behind the other -/
def rowsT (s : Stk) (L : List Nat) : List Value := L.flatMap fun t => [tcell s t 0, tcell s t 1, tcell s t 2]
theorem rowsT_snoc (s : Stk) (L : List Nat) (t : Nat) : rowsT s (L ++ [t]) = rowsT s L ++ [tcell s t 0, tcell s t 1, tcell s t 2] := by
  unfold rowsT
  rw [List.flatMap_append]
  rfl
theorem rowsT_get (s : Stk) : ∀ (L : List Nat) (i j : Nat), i < L.length → j < 3 → (rowsT s L)[i * 3 + j]? = some (tcell s (L.getD i 0) j)
  | [], i, j, h, _ => absurd h (Nat.not_lt_zero _)
  | t :: L, i, j, hi, hj => by
    have e : rowsT s (t :: L) = [tcell s t 0, tcell s t 1, tcell s t 2] ++ rowsT s L := rfl
    rw [e]
    by_cases h0 : i = 0
    · subst h0
      rw [List.getElem?_append_left (by simp; omega)]
      rcases (show j = 0 ∨ j = 1 ∨ j = 2 by omega) with rfl | rfl | rfl <;> rfl
    · obtain ⟨k, rfl⟩ : ∃ k, i = k + 1 := ⟨i - 1, by omega⟩
      rw [List.getElem?_append_right (by simp; omega)]
      have := rowsT_get s L k j (by simpa using hi) hj
      rw [show (k + 1) * 3 + j - [tcell s t 0, tcell s t 1, tcell s t 2].length = k * 3 + j by simp; omega, this]
      rfl
theorem rowsT_at {s : Stk} {L : List Nat} {U : World} {base : Nat} {e : TypeId} {v : Value} (h : U.ownsRow base e 3 v L.length (rowsT s L)) : SliceAt U v (s.sub L).nt 3 (tcell (s.sub L)) :=
  h.sliceAt (n := L.length) fun i j hi hj => rowsT_get s L i j hi hj
theorem tcell_one (s : Stk) (t : Nat) : ∀ u ∈ [tcell s t 0, tcell s t 1, tcell s t 2], u.oneCell' = true := by
  intro u hu
  simp only [List.mem_cons, List.not_mem_nil, or_false] at hu
  rcases hu with rfl | rfl | rfl <;> rfl
theorem nodup_getD {L : List Nat} (h : L.Nodup) {i k : Nat} (hi : i < L.length) (hk : k < L.length) (e : L.getD i 0 = L.getD k 0) : i = k := by
  rw [List.getD_eq_getElem?_getD, List.getD_eq_getElem?_getD, List.getElem?_eq_getElem hi, List.getElem?_eq_getElem hk] at e
  exact (List.getElem_inj h).1 e
/-- things suit each other as they did -/
theorem Stk.adj_sub {s : Stk} {L : List Nat} (hd : L.Nodup) (hL : ∀ t ∈ L, t < s.nt) {i k : Nat} (hi : i < L.length) (hk : k < L.length) : (s.sub L).adj i k = s.adj (L.getD i 0) (L.getD k 0) := by
  have key : ∀ i, i < L.length → L.getD i 0 < s.nt := fun i hi => by
    rw [List.getD_eq_getElem?_getD, List.getElem?_eq_getElem hi]
    exact hL _ (List.getElem_mem hi)
  rw [Stk.adj_suits (s := s.sub L) hi hk, Stk.adj_suits (key i hi) (key k hk)]
  have e : decide (i = k) = decide (L.getD i 0 = L.getD k 0) := decide_eq_decide.2 ⟨fun e => by rw [e], fun e => nodup_getD hd hi hk e⟩
  unfold Stk.suits
  rw [e]
  rfl
/-- matchings of these things are as many -/
theorem num_sub {s : Stk} {L : List Nat} (hd : L.Nodup) (hl : L.length ≤ 16) (h16 : s.nt ≤ 16) (hL : ∀ t ∈ L, t < s.nt) {S' S : Nat → Bool} (h1 : ∀ a, S' a = true → a < L.length) (h2 : ∀ a, a < L.length → (S (L.getD a 0) = true ↔ S' a = true)) (h3 : ∀ v, S v = true → v ∈ L) (k : Nat) : num (s.sub L).adj 16 S' k = num s.adj 16 S k := by
  have key : ∀ i, i < L.length → L.getD i 0 ∈ L := fun i hi => by
    rw [List.getD_eq_getElem?_getD, List.getElem?_eq_getElem hi]
    exact List.getElem_mem hi
  refine num_other s.adj_symm s.adj_irr (fun i => L.getD i 0) 16 S' S (fun a _ ha => ?_) (fun a b _ _ ha hb => ?_) (fun x _ hx => ?_) k
  · have h4 := h1 a ha
    exact ⟨by have := hL _ (key a h4); omega, (h2 a h4).2 ha⟩
  · exact ⟨fun e => nodup_getD hd (h1 a ha) (h1 b hb) e, Stk.adj_sub hd hL (h1 a ha) (h1 b hb)⟩
  · obtain ⟨a, ha⟩ := List.getElem?_of_mem (h3 x hx)
    have hlt := (List.getElem?_eq_some_iff.1 ha).1
    have he : L.getD a 0 = x := by rw [List.getD_eq_getElem?_getD, ha]; rfl
    exact ⟨a, by omega, (h2 a hlt).1 (by rw [he]; exact hx), he⟩
theorem nu_sub {s : Stk} {L : List Nat} (hd : L.Nodup) (hl : L.length ≤ 16) (h16 : s.nt ≤ 16) (hL : ∀ t ∈ L, t < s.nt) {S' S : Nat → Bool} (h1 : ∀ a, S' a = true → a < L.length) (h2 : ∀ a, a < L.length → (S (L.getD a 0) = true ↔ S' a = true)) (h3 : ∀ v, S v = true → v ∈ L) : nu (s.sub L).adj S' 16 = nu s.adj S 16 ∧ cnt (s.sub L).adj S' 16 = cnt s.adj S 16 :=
  nu_other s.adj_symm (s.sub L).adj_symm fun j => num_sub hd hl h16 hL h1 h2 h3 j
/-- all of these things -/
theorem nu_sub_all {s : Stk} {L : List Nat} (hd : L.Nodup) (hl : L.length ≤ 16) (h16 : s.nt ≤ 16) (hL : ∀ t ∈ L, t < s.nt) {S : Nat → Bool} (hS : ∀ v, S v = true ↔ v ∈ L) : nu (s.sub L).adj (belowN (s.sub L).nt) 16 = nu s.adj S 16 ∧ cnt (s.sub L).adj (belowN (s.sub L).nt) 16 = cnt s.adj S 16 :=
  nu_sub hd hl h16 hL (fun a ha => belowN_lt ha) (fun a ha => ⟨fun _ => by unfold belowN; exact decide_eq_true ha, fun _ => (hS _).2 (by
    rw [List.getD_eq_getElem?_getD, List.getElem?_eq_getElem ha]
    exact List.getElem_mem ha)⟩) (fun v hv => (hS v).1 hv)
/-! ### without one or two things -/
def woutP (x y : Int) (t : Nat) : Bool := !decide ((t : Int) = x) && !decide ((t : Int) = y)
def woutL (n : Nat) (x y : Int) : List Nat := filtL (woutP x y) n
end Go.Proofs.Yteingahlmlndkaa

/-
  What is proved: how many best pairings there are, by one thing's mates (plain).
-/
namespace Go.Proofs.Yteingahlmlndkaa
/-- the best pairings in which the thing t goes with u (u = t: stays alone) -/
def cntT (A : Nat → Nat → Bool) (S : Nat → Bool) (t u : Nat) : Nat :=
  if u = t then (if nu A (less1 (less1 S t) u) 16 = nu A S 16 then cnt A (less1 (less1 S t) u) 16 else 0)
  else if A t u = true ∧ nu A (less1 (less1 S t) u) 16 + 1 = nu A S 16 then cnt A (less1 (less1 S t) u) 16 else 0
end Go.Proofs.Yteingahlmlndkaa

/-
  What is proved: what the kinds say of best pairings (plain).
-/
namespace Go.Proofs.Yteingahlmlndkaa
section
variable {s : Stk}
end
end Go.Proofs.Yteingahlmlndkaa

/-
  What is proved: the answers about a valid stock, in the words of the statements.
-/
namespace Go.Proofs.Yteingahlmlndkaa
open Go.RowKit
attribute [local irreducible] Go.wpCalm rowV
section
variable {X : World} {tv : Value} {s : Stk}
theorem v_best (h : StkAt X tv s) (hok : s.Ok) {N : Nat} (hN : nu s.adj (belowN s.nt) 16 = N) : Calls Try.prog 27 #[tv] X fun e w' => ∃ a c m, e = .returned (.tuple #[.slice a s.nt c, .int .i64 (N : Nat), .int .i64 0]) ∧ Mx s.adj (belowN s.nt) 16 m ∧ IntsAt w' (.slice a s.nt c) s.nt (mvI m) ∧ X.grows w' := by
  refine (bestF_ok X tv s h hok).mono ?_
  rintro e w' ⟨u, m, rfl, hm, hu, g⟩
  rw [hN]
  obtain ⟨a, c, rfl, -⟩ := id hu
  exact ⟨a, c, m, rfl, hm, hu, g⟩
theorem v_count (h : StkAt X tv s) (hok : s.Ok) {N : Nat} (hN : cnt s.adj (belowN s.nt) 16 = N) : Calls Try.prog 29 #[tv] X fun e w' => e = .returned (.tuple #[.int .i64 (N : Nat), .int .i64 0]) ∧ X.grows w' := by
  have := count_ok X tv s h hok
  rw [hN] at this
  exact this
/-- the list of all kinds -/
noncomputable def kindsF (s : Stk) (i : Nat) : Int := ((((List.range s.nt).map (kindN s.adj s.nt)).getD i 0 : Nat) : Int)
theorem kindsF_at {i : Nat} (hi : i < s.nt) : kindsF s i = (kindN s.adj s.nt i : Nat) := by
  unfold kindsF
  rw [List.getD_eq_getElem?_getD, List.getElem?_map, List.getElem?_range hi]
  rfl
theorem v_kinds (h : StkAt X tv s) (hok : s.Ok) : Calls Try.prog 32 #[tv] X fun e w' => ∃ a c, e = .returned (.tuple #[.slice a s.nt c, .int .i64 0]) ∧ IntsAt w' (.slice a s.nt c) s.nt (kindsF s) ∧ X.grows w' := by
  refine (kinds_ok X tv s h hok).mono ?_
  rintro e w' ⟨u, rfl, hu, g⟩
  have hu2 : IntsAt w' u s.nt (kindsF s) := by
    have : ((List.range s.nt).map (kindN s.adj s.nt)).length = s.nt := by rw [List.length_map, List.length_range]
    unfold ListAt at hu
    rw [this] at hu
    exact hu
  obtain ⟨a, c, rfl, -⟩ := id hu2
  exact ⟨a, c, rfl, hu2, g⟩
end
end Go.Proofs.Yteingahlmlndkaa

/-
  What is proved: a stock whose things have other numbers, one whose things are heavier by as much: best pairings, their number, and kinds (plain).
-/
namespace Go.Proofs.Yteingahlmlndkaa
open Go.RowKit
/-! ### turned round -/
def turnL (n t : Nat) : List Nat := (List.range n).map fun i => (i + t) % n
theorem turnL_len (n t : Nat) : (turnL n t).length = n := by unfold turnL; rw [List.length_map, List.length_range]
theorem turnL_at {n t i : Nat} (hi : i < n) : (turnL n t).getD i 0 = (i + t) % n := by
  unfold turnL
  rw [List.getD_eq_getElem?_getD, List.getElem?_map, List.getElem?_range hi]
  rfl
theorem turn_inj {n t i k : Nat} (hi : i < n) (hk : k < n) (e : (i + t) % n = (k + t) % n) : i = k := by
  have hn : 0 < n := by omega
  have h1 : (i + t) % n = (i + t % n) % n := by rw [Nat.add_mod, Nat.mod_eq_of_lt hi]
  have h2 : (k + t) % n = (k + t % n) % n := by rw [Nat.add_mod k t n, Nat.mod_eq_of_lt hk]
  rw [h1, h2] at e
  have h3 := Nat.mod_lt t hn
  generalize t % n = r at e h3
  have m1 : (i + r) % n = if i + r < n then i + r else i + r - n := by
    split
    · exact Nat.mod_eq_of_lt (by assumption)
    · rw [Nat.mod_eq_sub_mod (by omega), Nat.mod_eq_of_lt (by omega)]
  have m2 : (k + r) % n = if k + r < n then k + r else k + r - n := by
    split
    · exact Nat.mod_eq_of_lt (by assumption)
    · rw [Nat.mod_eq_sub_mod (by omega), Nat.mod_eq_of_lt (by omega)]
  rw [m1, m2] at e
  split at e <;> split at e <;> omega
theorem turnL_nodup (n t : Nat) : (turnL n t).Nodup := by
  unfold turnL
  rw [List.Nodup, List.pairwise_map]
  refine List.Pairwise.imp_of_mem (fun {a b} ha hb hne e => ?_) List.nodup_range
  exact hne (turn_inj (List.mem_range.1 ha) (List.mem_range.1 hb) e)
theorem turnL_mem {n t v : Nat} : v ∈ turnL n t ↔ v < n := by
  constructor
  · intro h
    unfold turnL at h
    obtain ⟨i, hi, rfl⟩ := List.mem_map.1 h
    exact Nat.mod_lt _ (by have := List.mem_range.1 hi; omega)
  · intro h
    have hn : 0 < n := by omega
    refine List.mem_map.2 ⟨(v + (n - t % n)) % n, List.mem_range.2 (Nat.mod_lt _ hn), ?_⟩
    have h3 := Nat.mod_lt t hn
    rw [Nat.mod_add_mod]
    have e : v + (n - t % n) + t = v + n * (t / n + 1) := by
      have := Nat.div_add_mod t n
      rw [Nat.mul_add, Nat.mul_one]
      omega
    rw [e, Nat.add_mul_mod_self_left, Nat.mod_eq_of_lt h]
section
variable {s : Stk}
theorem turn_ok (h : s.Ok) (t : Nat) : (s.sub (turnL s.nt t)).Ok := h.sub (by rw [turnL_len]; exact h.n16) fun v hv => turnL_mem.1 hv
theorem turn_nu (h16 : s.nt ≤ 16) (t : Nat) : nu (s.sub (turnL s.nt t)).adj (belowN (s.sub (turnL s.nt t)).nt) 16 = nu s.adj (belowN s.nt) 16 ∧ cnt (s.sub (turnL s.nt t)).adj (belowN (s.sub (turnL s.nt t)).nt) 16 = cnt s.adj (belowN s.nt) 16 :=
  nu_sub_all (turnL_nodup _ _) (by rw [turnL_len]; exact h16) h16 (fun v hv => turnL_mem.1 hv) fun v => by
    rw [turnL_mem]
    unfold belowN
    rw [decide_eq_true_eq]
/-- the kind goes with the thing -/
theorem sub_kind (h16 : s.nt ≤ 16) {L : List Nat} (hd : L.Nodup) (hL : ∀ v, v ∈ L ↔ v < s.nt) (hl : L.length = s.nt) {i : Nat} (hi : i < s.nt) : kindN (s.sub L).adj s.nt i = kindN s.adj s.nt (L.getD i 0) := by
  have hi' : i < L.length := by omega
  have h16' : L.length ≤ 16 := by omega
  have hLt : ∀ v ∈ L, v < s.nt := fun v hv => (hL v).1 hv
  have key : ∀ k, k < L.length → L.getD k 0 < s.nt := fun k hk => by
    rw [List.getD_eq_getElem?_getD, List.getElem?_eq_getElem hk]
    exact hLt _ (List.getElem_mem hk)
  have hSi : belowN s.nt i = true := by unfold belowN; exact decide_eq_true hi
  have hSl : belowN s.nt (L.getD i 0) = true := by unfold belowN; exact decide_eq_true (key i hi')
  have e1 : (∀ k, (s.sub L).adj i k = false) ↔ ∀ k, s.adj (L.getD i 0) k = false := by
    constructor
    · intro h v
      cases hv : s.adj (L.getD i 0) v with
      | false => rfl
      | true =>
        have hvn : v < s.nt := by
          unfold Stk.adj at hv
          simp only [Bool.and_eq_true, decide_eq_true_eq] at hv
          exact hv.1.2
        obtain ⟨a, ha⟩ := List.getElem?_of_mem ((hL v).2 hvn)
        have hlt := (List.getElem?_eq_some_iff.1 ha).1
        have he : L.getD a 0 = v := by rw [List.getD_eq_getElem?_getD, ha]; rfl
        have := h a
        rw [Stk.adj_sub hd hLt hi' hlt, he, hv] at this
        cases this
    · intro h k
      by_cases hk : k < L.length
      · rw [Stk.adj_sub hd hLt hi' hk]
        exact h _
      · unfold Stk.adj
        rw [show (s.sub L).nt = L.length from rfl, decide_eq_false hk]
        simp
  have e2 : Spare (s.sub L).adj (belowN s.nt) 16 i ↔ Spare s.adj (belowN s.nt) 16 (L.getD i 0) := by
    rw [Spare.iff_nu (s.sub L).adj_symm (below16 h16) hSi, Spare.iff_nu s.adj_symm (below16 h16) hSl]
    have a1 := (nu_sub_all (S := belowN s.nt) hd h16' h16 hLt fun v => by rw [hL]; unfold belowN; rw [decide_eq_true_eq]).1
    rw [show belowN (s.sub L).nt = belowN s.nt by rw [← hl]; rfl] at a1
    have a2 := (nu_sub (S' := less1 (belowN s.nt) i) (S := less1 (belowN s.nt) (L.getD i 0)) hd h16' h16 hLt (fun a ha => by have := belowN_lt (less1_iff.1 ha).1; omega) (fun a ha => by
      rw [less1_iff, less1_iff]
      unfold belowN
      rw [decide_eq_true_eq, decide_eq_true_eq]
      exact ⟨fun ⟨_, h⟩ => ⟨by omega, fun e => h (by rw [e])⟩, fun ⟨_, h⟩ => ⟨key a ha, fun e => h (nodup_getD hd ha hi' e)⟩⟩) (fun v hv => (hL v).2 (belowN_lt (less1_iff.1 hv).1))).1
    rw [a1, a2]
  by_cases h1 : ∀ k, (s.sub L).adj i k = false
  · rw [kindN_0 h1, kindN_0 (e1.1 h1)]
  · have h1' : ¬ ∀ k, s.adj (L.getD i 0) k = false := fun h => h1 (e1.2 h)
    by_cases h2 : Spare (s.sub L).adj (belowN s.nt) 16 i
    · rw [kindN_1 h1 h2, kindN_1 h1' (e2.1 h2)]
    · rw [kindN_2 h1 h2, kindN_2 h1' fun h => h2 (e2.2 h)]
theorem turn_kind (h16 : s.nt ≤ 16) (t : Nat) {i : Nat} (hi : i < s.nt) : kindN (s.sub (turnL s.nt t)).adj s.nt i = kindN s.adj s.nt ((i + t) % s.nt) := by
  rw [sub_kind h16 (turnL_nodup _ _) (fun v => turnL_mem) (turnL_len _ _) hi, turnL_at hi]
/-! ### heavier -/
def Stk.heavy (s : Stk) (d : Int) : Stk := { s with tw := fun i => s.tw i + d }
theorem heavy_adj (s : Stk) (d : Int) : (s.heavy d).adj = s.adj := by
  funext i k
  unfold Stk.adj Stk.suits Stk.heavy
  rw [show ({ s with tw := fun i => s.tw i + d } : Stk).goes = s.goes from rfl]
  simp only
  rw [show s.tw i + d - (s.tw k + d) = s.tw i - s.tw k by omega, show s.tw k + d - (s.tw i + d) = s.tw k - s.tw i by omega]
theorem turn_kinds (h16 : s.nt ≤ 16) (t : Nat) {i : Nat} (hi : i < s.nt) : kindsF (s.sub (turnL s.nt t)) i = kindsF s ((i + t) % s.nt) := by
  have h1 : (s.sub (turnL s.nt t)).nt = s.nt := turnL_len _ _
  rw [kindsF_at (s := s.sub (turnL s.nt t)) (by rw [h1]; exact hi), kindsF_at (Nat.mod_lt _ (by omega)), h1, turn_kind h16 t hi]
theorem heavy_kinds (d : Int) {i : Nat} : kindsF (s.heavy d) i = kindsF s i := by
  unfold kindsF
  rw [heavy_adj]
  rfl
theorem heavy_kindsF (d : Int) : kindsF (s.heavy d) = kindsF s := funext fun _ => heavy_kinds d
end
theorem range_getD {n i : Nat} (hi : i < n) : (List.range n).getD i 0 = i := by
  rw [List.getD_eq_getElem?_getD, List.getElem?_range hi]
  rfl
end Go.Proofs.Yteingahlmlndkaa

/-
  What is proved: the law of a region that draws its order, by a property of all that has been done so far (an operation may write into what another one has made).
-/
namespace Go
open Go.RowKit
variable {P : Program} {ops : Array Oper}
def zipV (l : List Oper) (ds : List (List Nat)) : List (Oper × List Nat) := l.zip ds
theorem zipV_at (l : List Oper) (ds : List (List Nat)) (h0 : l.length ≤ ds.length) (_ : l.length ≤ ds.length) (i : Nat) (o : Oper) (h : l[i]? = some o) : (zipV l ds)[i]? = some (o, ds.getD i []) := by
  unfold zipV
  have hi : i < l.length := (List.getElem?_eq_some_iff.1 h).1
  rw [List.getElem?_zip_eq_some]
  exact ⟨h, by rw [List.getD_eq_getElem?_getD, List.getElem?_eq_getElem (by omega)]; rfl⟩
/-- what is asked of the operations of the head -/
def oblV (P : Program) (dl : List (Option Tmp)) (J : (Nat → Bool) → (Nat → Value) → World → Prop) (w0 : World) (a : Act) : Nat → List (Oper × List Nat) → Prop
  | _, [] => True
  | i, (o, D) :: l => (∀ L val n x (K : Value → World → Prop), J L val (w0.plus n x) → L i = false → (∀ j ∈ D, L j = true) → (∀ v W', J (fun j => if j = i then true else L j) (fun j => if j = i then v else val j) W' → K v W') → o.goesO P (putL dl val D a) w0 (w0.plus n x) K) ∧ oblV P dl J w0 a (i + 1) l
theorem oblV_at {dl : List (Option Tmp)} {J : (Nat → Bool) → (Nat → Value) → World → Prop} {w0 : World} {a : Act} : ∀ (l : List (Oper × List Nat)) (b : Nat), oblV P dl J w0 a b l → ∀ (i : Nat) (o : Oper) (D : List Nat), l[i]? = some (o, D) →
    ∀ L val W, w0.grows W → J L val W → L (b + i) = false → (∀ j ∈ D, L j = true) → Oper.goesO P o (putL dl val D a) w0 W (fun v W' => J (fun j => if j = b + i then true else L j) (fun j => if j = b + i then v else val j) W')
  | [], _, _, i, o, D, h => by simp at h
  | _ :: l, b, hl, 0, o, D, h => by
    cases Option.some.inj h
    intro L val W hg hJ h1 h2
    obtain ⟨n, x, rfl⟩ := World.plus_of hg
    exact hl.1 L val n x _ hJ h1 h2 (fun _ _ h => h)
  | _ :: l, b, hl, i + 1, o, D, h => by
    have := oblV_at l (b + 1) hl.2 i o D (by simpa using h)
    rw [show b + 1 + i = b + (i + 1) by omega] at this
    exact this
theorem wpAny_of_invV {w0 : World} {a : Act} {J : (Nat → Bool) → (Nat → Value) → World → Prop} {Q : Exit → Act → World → Prop} {n : Nat} {ds : List (List Nat)} {dl : List (Option Tmp)} (hB : Region.invB ops n ds dl = true)
    (hheads0 : ∀ (listed : Array Bool) (i0 : Nat), HeadInv .any ops n listed → i0 < n → listed.getD i0 true = false → ∀ t ∈ Region.ready .any ops listed, t < n)
    (hop : ∀ i o, i < n → ops[i]? = some o → ∀ L val W, w0.grows W → J L val W → L i = false → (∀ j ∈ ds.getD i [], L j = true) → o.goesO P (putL dl val (ds.getD i []) a) w0 W (fun v W' => J (fun j => if j = i then true else L j) (fun j => if j = i then v else val j) W'))
    (hK : ∀ L val W, w0.grows W → J L val W → (∀ i, i < n → L i = true) → ∀ listed, HeadInv .any ops n listed → (∀ i, i < n → listed.getD i false = true) → wpAny P .any ops Q (ops.size - n) listed (putL dl val (List.range n) a) W) :
    ∀ (cnt : Nat) (L U : List Nat) (listed : Array Bool) (val : Nat → Value) (W : World), U.length = cnt → L.Nodup → U.Nodup → (∀ i, i ∈ L ↔ i < n ∧ listed.getD i false = true) → (∀ i, i ∈ U ↔ i < n ∧ listed.getD i false = false) →
      HeadInv .any ops n listed → w0.grows W → J (fun i => listed.getD i false) val W → wpAny P .any ops Q (cnt + (ops.size - n)) listed (putL dl val L a) W := by
  simp only [Region.invB, Bool.and_eq_true, decide_eq_true_eq] at hB
  obtain ⟨⟨hmix, hnle⟩, hall⟩ := hB
  simp only [Region.mixB, Bool.and_eq_true, decide_eq_true_eq] at hmix
  obtain ⟨⟨⟨hsel, _⟩, _⟩, hedge⟩ := hmix
  have hsp := Region.noSelect_spec hsel
  have spec : ∀ i o, i < n → ops[i]? = some o → o.guard = none ∧ dl.getD i none = o.dst ∧ (∀ j ∈ ds.getD i [], j < n ∧ Region.waitsFor .any ops i j = true) ∧ (ds.getD i []).Nodup ∧
      ∀ j, j < n → j ≠ i → (∀ d, dl.getD i none = some d → dl.getD j none ≠ some d) ∧ (j ∉ ds.getD i [] → ∀ d, dl.getD j none = some d → d ∉ o.looksAt ops) := by
    intro i o hi ho
    have h1 := List.all_eq_true.1 hall i (List.mem_range.2 hi)
    simp only [ho, Bool.and_eq_true, decide_eq_true_eq] at h1
    obtain ⟨⟨⟨⟨g1, g2⟩, g3⟩, g4⟩, g5⟩ := h1
    refine ⟨by simpa using g1, g2, fun j hj => ?_, g4, fun j hj hji => ?_⟩
    · have := List.all_eq_true.1 g3 j hj
      simpa using this
    · have h2 := List.all_eq_true.1 g5 j (List.mem_range.2 hj)
      simp only [Bool.or_eq_true, Bool.and_eq_true, decide_eq_true_eq] at h2
      rcases h2 with h2 | ⟨h2, h3⟩
      · exact absurd h2 hji
      · refine ⟨fun d hd hj' => ?_, fun hnd d hd => ?_⟩
        · rcases h2 with h2 | h2
          · rw [hd] at h2; cases h2
          · exact h2 (hj'.trans hd.symm)
        · rcases h3 with h3 | h3
          · exact absurd (by simpa using h3) hnd
          · rw [hd] at h3
            simpa using h3
  have edgeOf : ∀ i o, i < n → ops[i]? = some o → ∀ e ∈ o.after, Region.binds .any e = true → e.on < i := by
    intro i o hi ho e he hb
    have h1 := List.all_eq_true.1 hedge i (List.mem_range.2 hi)
    simp only [ho, Bool.and_eq_true] at h1
    have h2 := Array.all_eq_true_iff_forall_mem.1 h1.1 e he
    simpa only [hb, Bool.not_true, Bool.false_or, decide_eq_true_eq] using h2
  have unwait : ∀ (listed : Array Bool) (i j : Nat), i ∈ Region.ready .any ops listed → Region.waitsFor .any ops i j = true → listed.getD j false = true := by
    intro listed i j hi hw
    obtain ⟨oi, hoi, e, he, hb, hon⟩ := Region.waitsFor_spec hw
    obtain ⟨_, o', ho', hall⟩ := mem_ready.1 hi
    rw [hoi] at ho'; cases ho'
    have := hall e he hb
    rwa [hon] at this
  have at_lt : ∀ i, i < n → ∃ o, ops[i]? = some o := fun i hi => ⟨ops[i]'(by omega), Array.getElem?_eq_getElem (by omega)⟩
  have dst_ne : ∀ i, i < n → ∀ j, j < n → i ≠ j → ∀ d, dl.getD i none = some d → dl.getD j none ≠ some d := fun i hi j hj hij => by
    obtain ⟨o, ho⟩ := at_lt i hi
    exact ((spec i o hi ho).2.2.2.2 j hj (Ne.symm hij)).1
  intro cnt
  induction cnt with
  | zero =>
    intro L U listed val W hc hL hU hLm hUm inv hg hv
    have he : U = [] := List.eq_nil_of_length_eq_zero hc
    have hl : ∀ i, i < n → listed.getD i false = true := fun i hi => by
      cases h : listed.getD i false with
      | true => rfl
      | false =>
        have := (hUm i).2 ⟨hi, h⟩
        rw [he] at this
        cases this
    have hp : L.Perm (List.range n) := (List.perm_ext_iff_of_nodup hL List.nodup_range).2 fun i => by
      rw [hLm, List.mem_range]
      exact ⟨fun h => h.1, fun h => ⟨h, hl i h⟩⟩
    rw [Nat.zero_add, putL_perm hp (fun i hi j hj hij => dst_ne i ((hLm i).1 hi).1 j ((hLm j).1 hj).1 hij)]
    exact hK _ val W hg hv hl listed inv hl
  | succ cnt ih =>
    intro L U listed val W hc hL hU hLm hUm inv hg hv
    rw [show cnt + 1 + (ops.size - n) = (cnt + (ops.size - n)) + 1 by omega]
    obtain ⟨i0, hi0⟩ : ∃ i, i ∈ U := by
      cases U with
      | nil => simp at hc
      | cons x _ => exact ⟨x, List.mem_cons_self ..⟩
    have hi0' := (hUm i0).1 hi0
    have hheads := hheads0 listed i0 inv hi0'.1 (getD_in (by rw [inv.size]; omega) hi0'.2)
    have least : ∀ i, i < n → listed.getD i false = false → ∃ t, t ∈ Region.ready .any ops listed := by
      intro i
      induction i using Nat.strongRecOn with
      | _ i ih2 =>
        intro hi hl
        obtain ⟨o, ho⟩ := at_lt i hi
        by_cases h : ∃ e ∈ o.after, Region.binds .any e = true ∧ listed.getD e.on false = false
        · obtain ⟨e, he, hb, hel⟩ := h
          have := edgeOf i o hi ho e he hb
          exact ih2 e.on this (by omega) hel
        · refine ⟨i, mem_ready.2 ⟨getD_in (by rw [inv.size]; omega) hl, o, ho, fun e he hb => ?_⟩⟩
          cases hq : listed.getD e.on false with
          | true => rfl
          | false => exact absurd ⟨e, he, hb, hq⟩ h
    refine ⟨fun hnil => ?_, fun i hi => ?_⟩
    · exfalso
      obtain ⟨t, ht⟩ := least i0 hi0'.1 hi0'.2
      rw [hnil] at ht
      cases ht
    · have hin := hheads i hi
      have hl : listed.getD i false = false := getD_both (mem_ready.1 hi).1
      have inv' := inv.set hi hin
      obtain ⟨o, ho⟩ := at_lt i hin
      obtain ⟨sg, sd, sw, snd, sl⟩ := spec i o hin ho
      have set_ne : ∀ j, j ≠ i → (listed.setIfInBounds i true).getD j false = listed.getD j false := fun j hji => getD_set_ne false (Ne.symm hji)
      have set_self : (listed.setIfInBounds i true).getD i false = true := by
        have : i < listed.size := by rw [inv.size]; omega
        simp [this]
      have hiL : i ∉ L := fun h => by
        have := ((hLm i).1 h).2
        rw [hl] at this; cases this
      have hDL : ∀ j ∈ ds.getD i [], j ∈ L := fun j hj => (hLm j).2 ⟨(sw j hj).1, unwait listed i j hi (sw j hj).2⟩
      have hexec : execOp (putL dl val L a).eval o = execOp (putL dl val (ds.getD i []) a).eval o := by
        have hp : L.Perm (ds.getD i [] ++ L.filter fun j => !(ds.getD i []).contains j) := by
          refine (List.perm_ext_iff_of_nodup hL (List.nodup_append.2 ⟨snd, hL.filter _, fun x hx y hy e => ?_⟩)).2 fun j => ?_
          · subst e
            have h3 : (ds.getD i []).contains x = true := List.contains_iff_mem.2 hx
            have h4 := (List.mem_filter.1 hy).2
            simp only [h3] at h4
            cases h4
          · rw [List.mem_append, List.mem_filter]
            constructor
            · intro hj
              by_cases h : j ∈ ds.getD i []
              · exact .inl h
              · exact .inr ⟨hj, by simpa using h⟩
            · rintro (h | h)
              · exact hDL j h
              · exact h.1
        rw [putL_perm hp (fun i hi j hj hij => dst_ne i ((hLm i).1 hi).1 j ((hLm j).1 hj).1 hij), putL_append]
        refine execOp_putL (ops := ops) (fun cs b => hsp i o cs b ho) _ _ fun j hj d hd => ?_
        obtain ⟨h1, h2⟩ := List.mem_filter.1 hj
        refine (sl j ((hLm j).1 h1).1 (fun e => hiL (e ▸ h1))).2 (by simpa using h2) d hd
      have hgo := hop i o hin ho _ val W hg hv hl fun j hj => unwait listed i j hi (sw j hj).2
      have hrest : ∀ v W', w0.grows W' → J (fun j => if j = i then true else listed.getD j false) (fun j => if j = i then v else val j) W' → wpAny P .any ops Q (cnt + (ops.size - n)) (listed.setIfInBounds i true) ((putL dl val L a).put o.dst v) W' := by
        intro v W' g hr
        have e : (putL dl val L a).put o.dst v = putL dl (fun k => if k = i then v else val k) (L ++ [i]) a := by
          rw [putL_append, putL_congr (val' := fun k => if k = i then v else val k) L a (fun j hj => (if_neg (fun h => hiL (by rw [← h]; exact hj))).symm)]
          simp only [putL, if_true, sd]
        rw [e]
        refine ih (L ++ [i]) (U.erase i) _ _ W' ?_ ?_ (hU.erase _) (fun j => ?_) (fun j => ?_) inv' g ?_
        · have := List.length_erase_of_mem ((hUm i).2 ⟨hin, hl⟩)
          omega
        · rw [List.nodup_append]
          refine ⟨hL, List.nodup_cons.2 ⟨by simp, List.nodup_nil⟩, fun x hx y hy e => ?_⟩
          rw [List.mem_singleton] at hy
          exact hiL (by rw [← hy, ← e]; exact hx)
        · rw [List.mem_append, List.mem_singleton, hLm]
          by_cases hji : j = i
          · subst hji
            simp [set_self, hin]
          · rw [set_ne j hji]
            simp [hji]
        · rw [hU.mem_erase_iff, hUm]
          by_cases hji : j = i
          · subst hji
            simp [set_self]
          · rw [set_ne j hji]
            simp [hji]
        · have ef : (fun j => (listed.setIfInBounds i true).getD j false) = fun j => if j = i then true else listed.getD j false := funext fun j => by
            by_cases hji : j = i
            · rw [if_pos hji, hji, set_self]
            · rw [if_neg hji, set_ne j hji]
          rw [ef]
          exact hr
      unfold wpOp
      simp only [ho]
      rw [if_pos (by simp [Region.wanted, sg])]
      refine .inl ?_
      unfold Oper.wp
      unfold Oper.goesO at hgo
      rw [hexec]
      generalize (execOp (putL dl val (ds.getD i []) a).eval o).run P W = r at *
      cases r with
      | halt z w' => simp only [goesUponO] at hgo
      | ok nx w' =>
        cases nx <;> simp only [goesUponO] at hgo <;> simp only [Oper.upon]
        case value u => exact hrest _ _ hgo.1 hgo.2
        case skip => exact hrest _ _ hgo.1 hgo.2
        case enter f args =>
          obtain ⟨rfl, hcall⟩ := hgo
          refine hcall.mono fun e w'' ⟨v, he, g, hp⟩ => ?_
          subst he
          exact hrest _ _ g hp

theorem wp_region_invV {id : Nat} {Q : Exit → Act → World → Prop} {a : Act} {w : World} {l : List Oper} (n : Nat) (ds : List (List Nat)) (dl : List (Option Tmp)) (J : (Nat → Bool) → (Nat → Value) → World → Prop) (hm : P.follows .mixedOrders = true)
    (hB : (Region.invTailB l.toArray n ds dl && decide (n ≤ ds.length)) = true) (hn : n ≤ l.length) (hJ : ∀ n x val, J (fun _ => false) val (w.plus n x))
    (hop : oblV P dl J w a 0 (zipV (l.take n) ds))
    (h : ∀ (L : Nat → Bool) (val : Nat → Value) W, w.grows W → J L val W → (∀ i, i < n → L i = true) → wpList P l.toArray Q (l.drop n) (putL dl val (List.range n) a) W) : (Code.region id l.toArray true).wp P Q a w := by
  simp only [Region.invTailB, Bool.and_eq_true, Bool.or_eq_true, decide_eq_true_eq] at hB
  obtain ⟨⟨⟨hinv, hplan⟩, hseq⟩, hds⟩ := hB
  have hnle : n ≤ l.toArray.size := by simpa using hn
  refine wp_region_any hm ?_
  obtain ⟨n0, x0, h0⟩ := World.more_drew w
  rw [h0]
  have key := wpAny_of_invV (P := P) (ops := l.toArray) (w0 := w) (a := a) (J := J) (Q := Q) (n := n) (ds := ds) (dl := dl) hinv
    (fun listed i0 inv hi0 hun0 => by
      rcases hplan with h | ⟨⟨h1, h2⟩, h3⟩
      · subst h; exact heads_of_all listed
      · exact heads_of_tail h1 h2 h3 listed i0 inv hi0 hun0)
    (fun i o hi ho L val W hg => by have := oblV_at _ 0 hop i o _ (zipV_at (l.take n) ds (by simp; omega) (by simp; omega) i o (by rw [List.getElem?_take, if_pos hi]; simpa using ho)) L val W hg; rw [Nat.zero_add] at this; exact this)
    (fun L val W hg hv hL listed inv hall => by
      have hl := seq_listed inv hnle hall
      subst hl
      have hd : (l.drop n).length = l.toArray.size - n := by simp
      have := wpAny_of_seq (Q' := Q) (l.drop n) n _ (putL dl val (List.range n) a) W (fun j => by simp [List.getElem?_drop]) (by rw [hd]; exact hseq) (h L val W hg hv hL)
      rwa [hd] at this)
    n [] (List.range n) (Array.replicate l.toArray.size false) (fun _ => undef) (w.plus n0 x0) (by simp) List.nodup_nil List.nodup_range
    (fun i => ⟨fun h => absurd h List.not_mem_nil, fun h => by rw [getD_replicate_false] at h; exact absurd h.2 (by decide)⟩)
    (fun i => by rw [List.mem_range, getD_replicate_false]; exact ⟨fun h => ⟨h, rfl⟩, fun h => h.1⟩)
    (headInv_start n) (World.grows_plus _ _ _) (by rw [show (fun i => (Array.replicate l.toArray.size false).getD i false) = fun _ => false from funext fun i => getD_replicate_false ..]; exact hJ _ _ _)
  rw [show n + (l.toArray.size - n) = l.toArray.size by omega] at key
  exact key
end Go

/-
  What is proved: boxes for values, and what is stored into them, in whatever order a region draws (the property of InvV).
-/
namespace Go.Proofs.Yteingahlmlndkaa
open Go.RowKit
/-- p pure operations with their values; behind them m boxes of stocks, and m stores of S into them -/
structure JB (p m : Nat) (pv : Nat → Value) (S : Array Value) (c : Nat) (L : Nat → Bool) (val : Nat → Value) (W : World) : Prop where
  load : ∀ i, i < p → L i = true → val i = pv i
  box : ∀ i, i < m → L (p + i) = true → ∃ b, val (p + i) = .pointer (some ⟨b, 0, none⟩) ∧ c ≤ b ∧ W.heap[b]? = some (.cells (if L (p + m + i) = true then S else #[.slice none 0 0, .slice none 0 0, .int .i64 0]) 25)
  ne : ∀ i k, i < m → k < m → i ≠ k → L (p + i) = true → L (p + k) = true → val (p + i) ≠ val (p + k)
  st : ∀ i, i < m → L (p + m + i) = true → L (p + i) = true
section
variable {p m : Nat} {pv : Nat → Value} {S : Array Value} {c : Nat} {L : Nat → Bool} {val : Nat → Value} {W : World}
theorem JB.start (p m : Nat) (pv : Nat → Value) (S : Array Value) (c : Nat) (val : Nat → Value) (W : World) : JB p m pv S c (fun _ => false) val W :=
  ⟨fun _ _ h => absurd h Bool.false_ne_true, fun _ _ h => absurd h Bool.false_ne_true, fun _ _ _ _ _ h => absurd h Bool.false_ne_true, fun _ _ h => absurd h Bool.false_ne_true⟩
theorem JB.loads (h : JB p m pv S c L val W) {i : Nat} (hi : i < p) {v : Value} (hv : v = pv i) : JB p m pv S c (fun j => if j = i then true else L j) (fun j => if j = i then v else val j) W := by
  have e3 : ∀ k, ¬ p + k = i := fun k => by omega
  have e6 : ∀ k, ¬ p + m + k = i := fun k => by omega
  refine ⟨fun k hk hL => ?_, fun k hk hL => ?_, fun k l hk hl hkl hL hL' => ?_, fun k hk hL => ?_⟩
  · by_cases e : k = i
    · rw [if_pos e, hv, e]
    · rw [if_neg e] at hL ⊢
      exact h.load k hk hL
  · simp only [if_neg (e3 k), if_neg (e6 k)] at hL ⊢
    exact h.box k hk hL
  · simp only [if_neg (e3 k), if_neg (e3 l)] at hL hL' ⊢
    exact h.ne k l hk hl hkl hL hL'
  · simp only [if_neg (e3 k), if_neg (e6 k)] at hL ⊢
    exact h.st k hk hL
theorem JB.makes (h : JB p m pv S c L val W) {i j0 : Nat} (hi : i < m) (hj0 : j0 = p + i) (hL0 : L j0 = false) (hc : c ≤ W.heap.size) {b : Nat} (hb : b = W.heap.size) : JB p m pv S c (fun j => if j = j0 then true else L j) (fun j => if j = j0 then .pointer (some ⟨b, 0, none⟩) else val j) (W.alloc (.cells #[.slice none 0 0, .slice none 0 0, .int .i64 0] 25)) := by
  subst hj0
  have e3 : ∀ k, k < p → ¬ k = p + i := fun k hk => by omega
  have e6 : ∀ k, ¬ p + m + k = p + i := fun k => by omega
  have hL6 : L (p + m + i) = false := by
    cases h6 : L (p + m + i) with
    | false => rfl
    | true => rw [h.st i hi h6] at hL0; cases hL0
  have g : W.grows (W.alloc (.cells #[.slice none 0 0, .slice none 0 0, .int .i64 0] 25)) := (World.grows.refl _).alloc _
  have hold : ∀ k, k < m → L (p + k) = true → Value.pointer (some ⟨b, 0, none⟩) ≠ val (p + k) := fun k hk hL e => by
    obtain ⟨b', e', _, h3⟩ := h.box k hk hL
    rw [e'] at e
    cases e
    have := World.lt_of_block h3
    omega
  refine ⟨fun k hk hL => ?_, fun k hk hL => ?_, fun k l hk hl hkl hL hL' => ?_, fun k hk hL => ?_⟩
  · simp only [if_neg (e3 k hk)] at hL ⊢
    exact h.load k hk hL
  · simp only [if_neg (e6 k)] at hL ⊢
    by_cases e : k = i
    · subst e
      rw [if_pos rfl, hL6]
      exact ⟨b, rfl, by omega, World.heap_at _ _ _ hb⟩
    · have e' : ¬ p + k = p + i := by omega
      rw [if_neg e'] at hL ⊢
      obtain ⟨b', h1, h2, h3⟩ := h.box k hk hL
      exact ⟨b', h1, h2, g.heap_of h3⟩
  · by_cases e : k = i
    · have e' : ¬ p + l = p + i := by omega
      simp only [if_neg e'] at hL' ⊢
      rw [e, if_pos rfl]
      exact hold l hl hL'
    · have e' : ¬ p + k = p + i := by omega
      simp only [if_neg e'] at hL ⊢
      by_cases e2 : l = i
      · rw [e2, if_pos rfl]
        exact fun e => hold k hk hL e.symm
      · have e2' : ¬ p + l = p + i := by omega
        simp only [if_neg e2'] at hL' ⊢
        exact h.ne k l hk hl hkl hL hL'
  · simp only [if_neg (e6 k)] at hL
    by_cases e : k = i
    · simp only [e, if_pos]
    · have e' : ¬ p + k = p + i := by omega
      simp only [if_neg e']
      exact h.st k hk hL
theorem JB.stores (h : JB p m pv S c L val W) {i j0 : Nat} (hi : i < m) (hj0 : j0 = p + m + i) (hL3 : L (p + i) = true) {b : Nat} (hb : val (p + i) = .pointer (some ⟨b, 0, none⟩)) {v : Value} : JB p m pv S c (fun j => if j = j0 then true else L j) (fun j => if j = j0 then v else val j) (W.putObj b (.cells S 25)) := by
  subst hj0
  have e3 : ∀ k, k < m → ¬ p + k = p + m + i := fun k hk => by omega
  have e0 : ∀ k, k < p → ¬ k = p + m + i := fun k hk => by omega
  refine ⟨fun k hk hL => ?_, fun k hk hL => ?_, fun k l hk hl hkl hL hL' => ?_, fun k hk hL => ?_⟩
  · simp only [if_neg (e0 k hk)] at hL ⊢
    exact h.load k hk hL
  · simp only [if_neg (e3 k hk)] at hL ⊢
    obtain ⟨b', h1, h2, h3⟩ := h.box k hk hL
    by_cases e : k = i
    · subst e
      rw [hb] at h1
      cases h1
      refine ⟨b, hb, h2, ?_⟩
      rw [if_pos (by simp)]
      exact World.putObj_heap_same (World.lt_of_block h3)
    · have e' : ¬ p + m + k = p + m + i := by omega
      rw [if_neg e']
      have hne : b' ≠ b := fun e2 => h.ne k i hk hi e hL hL3 (by rw [h1, hb, e2])
      exact ⟨b', h1, h2, (World.putObj_heap_other hne).trans h3⟩
  · simp only [if_neg (e3 k hk), if_neg (e3 l hl)] at hL hL' ⊢
    exact h.ne k l hk hl hkl hL hL'
  · by_cases e : k = i
    · simp only [if_neg (e3 k hk)]
      rw [e]
      exact hL3
    · have e' : ¬ p + m + k = p + m + i := by omega
      simp only [if_neg e', if_neg (e3 k hk)] at hL ⊢
      exact h.st k hk hL
end
/-- a store into one of the blocks that stand -/
theorem KpS.setO {w U : World} {P P' : List (Nat × Obj)} {b n : Nat} {xs : Array Value} {t : TypeId} {v : Value} (h : KpS w P U) (hb : w.heap.size ≤ b) (hx : U.heap[b]? = some (.cells xs t)) (hP : ∀ y ∈ P', y = (b, .cells (xs.setIfInBounds n v) t) ∨ (y ∈ P ∧ y.1 ≠ b)) : KpS w P' (U.setCell ⟨b, n, none⟩ v) :=
  ⟨h.g.setCell (p := ⟨b, n, none⟩) hb v, fun y hy => by
    rcases hP y hy with rfl | ⟨h1, h2⟩
    · exact store_of_heap hx n v
    · exact (World.heap_setCell_map _ _ _ _ (show b ≠ y.1 from fun e => h2 e.symm)).trans (h.at_ y h1)⟩
/-- blocks that stand, when a row grows that lies in none of them -/
theorem KpS.kept {w U U' : World} {P : List (Nat × Obj)} {v : Value} {base : Nat} {e : TypeId} {sz n : Nat} {xs : List Value} (h : KpS w P U) (ho : U.ownsRow base e sz v n xs) (hg : U.grownBy U' v.ownBlock) (hb : w.heap.size ≤ base) (hP : ∀ y ∈ P, v.ownBlock ≠ some y.1) : KpS w P U' :=
  ⟨hg.grows ho h.g hb, fun y hy => (hg.block y.1 (World.lt_of_block (h.at_ y hy)) (fun e => hP y hy e.symm)).trans (h.at_ y hy)⟩
theorem three_row (a b c : Int) : tableL 1 3 (fun _ j => if j = 0 then Value.int .i64 a else if j = 1 then .int .i64 b else .int .i64 c) = [.int .i64 a, .int .i64 b, .int .i64 c] := rfl
theorem three_one (a b c : Int) : ∀ u ∈ [Value.int .i64 a, .int .i64 b, .int .i64 c], u.oneCell' = true := by
  intro u hu
  simp only [List.mem_cons, List.not_mem_nil, or_false] at hu
  rcases hu with rfl | rfl | rfl <;> rfl
theorem ints_at {U : World} {rA : Option Addr} {n rc : Nat} {f : Nat → Int} (h : IntsAt U (.slice rA n rc) n f) {i : Nat} (hi : i < n) : ∃ b o, rA = some ⟨b, o, none⟩ ∧ U.cell? ⟨b, o + i, none⟩ = some (.int .i64 (f i)) := by
  obtain ⟨A, c, he, -, -, hc⟩ := h
  cases he
  obtain ⟨b, o, rfl, e⟩ := hc i 0 hi (by omega)
  exact ⟨b, o, rfl, by simpa only [Nat.mul_one, Nat.add_zero] using e⟩
theorem info25 : (Try.prog.info? 25).map (·.size) = some 3 := by kernel_rfl
end Go.Proofs.Yteingahlmlndkaa

/-
  What is proved: append onto a slice without elements and without room, as a step of a chain.
-/
namespace Go
open Go.RowKit
section
variable {P : Program} {ops : Array Oper} {w0 : World}
end
end Go

/-
  What is proved: append onto a row of the region's own, as a step of a chain.
-/
namespace Go
open Go.RowKit
section
variable {P : Program} {ops : Array Oper} {w0 : World}
end
end Go

/-
  What is proved: a stock without one or two things (40).
-/
namespace Go.Proofs.Yteingahlmlndkaa
open Go.RowKit
attribute [local irreducible] Go.wpCalm rowV
theorem el62 : Try.prog.knows 62 (.agg #[.int .i64 0, .int .i64 0, .int .i64 0]) 3 24 := Program.knows_of (by kernel_rfl)
/-- blocks that stand, when a row of the call's own grows -/
theorem KpS.own {w U U' : World} {P : List (Nat × Obj)} {v : Value} {base : Nat} {e : TypeId} {sz n : Nat} {xs : List Value} (h : KpS w P U) (ho : U.ownsRow base e sz v n xs) (hg : U.grownBy U' v.ownBlock) (hb : w.heap.size ≤ base) (hP : ∀ y ∈ P, y.1 < base) : KpS w P U' :=
  ⟨hg.grows ho h.g hb, fun y hy => (hg.block y.1 (World.lt_of_block (h.at_ y hy)) (fun e => by have := (ho.lt _ e.symm).1; have := hP y hy; omega)).trans (h.at_ y hy)⟩
theorem one_thing (w : World) (x y z : Value) (t b : Nat) (hb : b = w.heap.size) : SliceAt (w.alloc (.cells #[x, y, z] t)) (.slice (some ⟨b, 0, none⟩) 1 1) 1 3 (fun _ j => if j = 0 then x else if j = 1 then y else z) := by
  subst hb
  refine ⟨_, _, rfl, by omega, by unfold maxLen; omega, fun i j hi hj => ⟨_, _, rfl, ?_⟩⟩
  have hi0 : i = 0 := by omega
  subst hi0
  have h := World.heap_at w (.cells #[x, y, z] t) _ rfl
  rcases (show j = 0 ∨ j = 1 ∨ j = 2 by omega) with rfl | rfl | rfl <;> exact cell_of_heap h rfl
theorem thing_one (s : Stk) (t : Nat) : tableL 1 3 (fun _ j => if j = 0 then Value.int .i64 (s.tk t) else if j = 1 then .int .i64 (s.tw t) else .int .i64 (s.tg t)) = [tcell s t 0, tcell s t 1, tcell s t 2] := rfl
theorem KpS.things {w U : World} {s : Stk} {v : Value} {P : List (Nat × Obj)} (h : KpS w P U) (ht : SliceAt w v s.nt 3 (tcell s)) {i : Nat} (hi : i < s.nt) {sa : Option Addr} {sc : Nat} (hv : v = .slice sa s.nt sc) : ∃ b o, sa = some ⟨b, o, none⟩ ∧ U.cell? ⟨b, o + i * 3, none⟩ = some (.int .i64 (s.tk i)) ∧ U.cell? ⟨b, o + i * 3 + 1, none⟩ = some (.int .i64 (s.tw i)) ∧ U.cell? ⟨b, o + i * 3 + 2, none⟩ = some (.int .i64 (s.tg i)) := by
  subst hv
  obtain ⟨A, c, he, -, -, hc⟩ := ht.mono h.g
  cases he
  obtain ⟨b, o, rfl, c0⟩ := hc i 0 hi (by omega)
  obtain ⟨b', o', e', c1⟩ := hc i 1 hi (by omega)
  obtain ⟨b'', o'', e'', c2⟩ := hc i 2 hi (by omega)
  cases e'
  cases e''
  exact ⟨b, o, rfl, c0, c1, c2⟩
end Go.Proofs.Yteingahlmlndkaa

/-
  What is proved: append onto a row of the call's own, with the block in which it lies afterwards: the old one or a new one; as a step of a chain with a property.
-/
namespace Go
open Go.RowKit
section
variable {P : Program} (w : World)
theorem run_append_h (base : Nat) (t ty e : TypeId) (i : TypeInfo) (z : Value) (size bytes : Nat) (ht : P.underlying t = some (.slice e)) (hi : P.info? e = some i) (hz : i.zero = some z)
    (hsize : i.size = size) (hby : i.bytes = bytes) (hzs : z.cells.size = size) (hsz : 0 < size)
    (v : Value) (n : Nat) (xs : List Value) (hown : w.ownsRow base e size v n xs)
    (xv : Value) (m : Nat) (news : List Value) (hsrc : SrcAt w xv m size news) (h1 : ∀ u ∈ news, u.oneCell' = true) (hm : 0 < m)
    (h63 : n + m ≤ maxLen) (hbytes : (n + m) * bytes ≤ 140737488355328) (hbase : base ≤ w.heap.size) :
    ∃ v' w', (Builtin.append_ #[t, t] ty #[v, xv]).run P w = .ok v' w' ∧ w'.ownsRow base e size v' (n + m) (xs ++ news) ∧ w.grownBy w' v.ownBlock ∧ (v'.ownBlock = v.ownBlock ∨ v'.ownBlock = some w.heap.size) := by
  obtain ⟨A, c, rfl, hl, hA⟩ := hsrc
  obtain ⟨ad, rfl, hc⟩ := hA hm
  obtain ⟨v', w', hr, h2, h3, _, h4⟩ := run_append_own_at (P := P) w base t ty e i z size bytes ht hi hz hsize hby hzs hsz v n xs hown ad m c news hl hc h1 h63 hbytes hbase
  exact ⟨v', w', hr, h2, h3, h4⟩
end
section
variable {P : Program} {ops : Array Oper} {I : World → Prop}
theorem wpChainJ_append_h {rest : List Oper} {o : Oper} {a : Act} {Q : Act → World → Prop} {W : World} (hgd : o.guard = none) (s x : Operand) (t : TypeId)
    (ho : o.op = .call { callee := .builtin .append, args := #[s, x], argTypes := #[t, t] })
    (base : Nat) (e : TypeId) (z : Value) (size bytes : Nat) (ht : P.underlying t = some (.slice e)) (hi : P.knows e z size bytes) (hzs : z.cells.size = size) (hsz : 0 < size)
    (v : Value) (n : Nat) (xs : List Value) (hs : a.eval s = v) (hown : W.ownsRow base e size v n xs)
    (xv : Value) (hx : a.eval x = xv) (m : Nat) (news : List Value) (hsrc : ∀ W0, W.grows W0 → SrcAt W0 xv m size news) (h1 : ∀ u ∈ news, u.oneCell' = true) (hm : 0 < m)
    (h63 : n + m ≤ maxLen) (hbytes : (n + m) * bytes ≤ 140737488355328) (hbase : base ≤ W.heap.size)
    (h : ∀ W0 v' w', W.grows W0 → I W0 → w'.ownsRow base e size v' (n + m) (xs ++ news) → W0.grownBy w' v.ownBlock → (v'.ownBlock = v.ownBlock ∨ v'.ownBlock = some W0.heap.size) → I w' ∧ wpChainJ P ops I Q rest (a.put o.dst v') w') :
    wpChainJ P ops I Q (o :: rest) a W := by
  intro W0 hg hI0
  obtain ⟨i, hi, hz, hsize, hby⟩ := hi
  rw [if_pos (by simp [Region.wanted, hgd])]
  obtain ⟨v', w', hr, h2, h3, h4⟩ := run_append_h (P := P) W0 base t o.type e i z size bytes ht hi hz hsize hby hzs hsz v n xs (hown.grow hg) xv m news (hsrc W0 hg) h1 hm h63 hbytes (Nat.le_trans hbase hg.size)
  unfold Oper.goesOJ execOp
  simp only [ho, resolve, invoke, builtin, Sem.run_bind, Sem.run_pure, Result.andThen_ok, List.map_toArray, List.map_cons, List.map_nil, hs, hx, hr]
  exact h W0 v' w' hg hI0 h2 h3 h4
end
/-! ### two rows that lie in different blocks -/
structure Sep (W : World) (c : Nat) (e : TypeId) (sz : Nat) (u : Value) (n : Nat) (xs : List Value) (v : Value) (m : Nat) (ys : List Value) : Prop where
  a : W.ownsRow c e sz u n xs
  b : W.ownsRow c e sz v m ys
  ne : u.ownBlock = none ∨ v.ownBlock = none ∨ u.ownBlock ≠ v.ownBlock
section
variable {W W' : World} {c : Nat} {e : TypeId} {sz n m : Nat} {u v u' : Value} {xs ys xs' : List Value}
theorem Sep.swap (h : Sep W c e sz u n xs v m ys) : Sep W c e sz v m ys u n xs := ⟨h.b, h.a, by
  rcases h.ne with h | h | h
  · exact .inr (.inl h)
  · exact .inl h
  · exact .inr (.inr fun e => h e.symm)⟩
theorem Sep.grow (h : Sep W c e sz u n xs v m ys) (g : W.grows W') : Sep W' c e sz u n xs v m ys := ⟨h.a.grow g, h.b.grow g, h.ne⟩
theorem Sep.set (h : Sep W c e sz u n xs v m ys) {p : Addr} (hp : p.block < c) (z : Value) : Sep (W.setCell p z) c e sz u n xs v m ys := ⟨h.a.set hp z, h.b.set hp z, h.ne⟩
theorem Sep.none (W : World) (c : Nat) (e : TypeId) (sz : Nat) : Sep W c e sz (.slice none 0 0) 0 [] (.slice none 0 0) 0 [] := ⟨World.ownsRow_nil _ _ _ _, World.ownsRow_nil _ _ _ _, .inl rfl⟩
/-- the first one grows -/
theorem Sep.app (h : Sep W c e sz u n xs v m ys) {n' : Nat} (ho : W'.ownsRow c e sz u' n' xs') (g : W.grownBy W' u.ownBlock) (hb : u'.ownBlock = u.ownBlock ∨ u'.ownBlock = some W.heap.size) : Sep W' c e sz u' n' xs' v m ys := by
  refine ⟨ho, h.b.kept g ?_, ?_⟩
  · rcases h.ne with h1 | h1 | h1
    · rw [h1]
      cases v.ownBlock with
      | none => exact .inl rfl
      | some k => exact .inr (by simp)
    · exact .inl h1
    · exact .inr fun e => h1 e.symm
  · rcases hb with hb | hb
    · rw [hb]
      exact h.ne
    · refine .inr ?_
      cases hv : v.ownBlock with
      | none => exact .inl rfl
      | some k =>
        have := (h.b.lt k hv).2
        refine .inr ?_
        rw [hb]
        simp only [ne_eq, Option.some.injEq]
        omega
end
end Go

/-
  What is proved: all best pairings by the definition (31): rows in memory, and what is counted (plain).
-/
namespace Go.Proofs.Yteingahlmlndkaa
open Go.RowKit
/-- rows of n numbers that lie in these blocks -/
def OutI (n : Nat) (Q : List (Nat × Obj)) (vals : List Value) (rs : List (List Int)) : Prop := (∀ y ∈ Q, ∃ c, y.2 = .cells c 3) ∧ vals.length = rs.length ∧ ∀ (i : Nat) (x : Value), vals[i]? = some x → ∃ (A : Option Addr) (c : Nat) (r : List Int), x = .slice A n c ∧ rs[i]? = some r ∧ r.length = n ∧ ∀ U : World, (∀ y ∈ Q, U.heap[y.1]? = some y.2) → IntsAt U x n (lst r)
theorem OutI.nil (n : Nat) (Q : List (Nat × Obj)) (hQ : ∀ y ∈ Q, ∃ c, y.2 = .cells c 3) : OutI n Q [] [] := ⟨hQ, rfl, fun i x h => by simp at h⟩
theorem OutI.more {n : Nat} {Q : List (Nat × Obj)} {vals : List Value} {rs : List (List Int)} (h : OutI n Q vals rs) (b : Nat) (c : Array Value) : OutI n ((b, .cells c 3) :: Q) vals rs :=
  ⟨fun y hy => by rcases List.mem_cons.1 hy with rfl | hy; exact ⟨_, rfl⟩; exact h.1 y hy, h.2.1, fun i x hx => by
    obtain ⟨A, cp, r, h1, h2, h3, h4⟩ := h.2.2 i x hx
    exact ⟨A, cp, r, h1, h2, h3, fun U hU => h4 U fun y hy => hU y (List.mem_cons_of_mem _ hy)⟩⟩
/-- a row more -/
theorem OutI.snoc {n : Nat} {Q : List (Nat × Obj)} {vals : List Value} {rs : List (List Int)} (h : OutI n Q vals rs) {x : Value} {r : List Int} (hx : ∃ (A : Option Addr) (c : Nat), x = .slice A n c) (hr : r.length = n) (hU : ∀ U : World, (∀ y ∈ Q, U.heap[y.1]? = some y.2) → IntsAt U x n (lst r)) : OutI n Q (vals ++ [x]) (rs ++ [r]) := by
  refine ⟨h.1, by simp [h.2.1], fun i u hu => ?_⟩
  by_cases hi : i < vals.length
  · rw [List.getElem?_append_left hi] at hu
    obtain ⟨A, cp, r', h1, h2, h3, h4⟩ := h.2.2 i u hu
    exact ⟨A, cp, r', h1, by rw [List.getElem?_append_left (by rw [← h.2.1]; exact hi)]; exact h2, h3, h4⟩
  · have hi2 := (List.getElem?_eq_some_iff.1 hu).1
    rw [List.length_append] at hi2
    simp at hi2
    have : i = vals.length := by omega
    subst this
    rw [List.getElem?_append_right (by omega)] at hu
    simp at hu
    subst hu
    obtain ⟨A, c, rfl⟩ := hx
    exact ⟨A, c, r, rfl, by simp [h.2.1], hr, hU⟩
theorem OutI.row {n : Nat} {Q : List (Nat × Obj)} {vals : List Value} {rs : List (List Int)} (h : OutI n Q vals rs) {i : Nat} (hi : i < rs.length) : ∃ (A : Option Addr) (c : Nat) (r : List Int), vals[i]? = some (.slice A n c) ∧ rs[i]? = some r ∧ r.length = n ∧ ∀ U : World, (∀ y ∈ Q, U.heap[y.1]? = some y.2) → IntsAt U (.slice A n c) n (lst r) := by
  have hvl : i < vals.length := by rw [h.2.1]; exact hi
  have hv : vals[i]? = some vals[i] := List.getElem?_eq_getElem hvl
  obtain ⟨A, c, r, h1, h2, h3, h4⟩ := h.2.2 i _ hv
  rw [h1] at hv h4
  exact ⟨A, c, r, hv, h2, h3, h4⟩
/-- pairs of a row -/
def prR (n : Nat) (r : List Int) : Nat := cntB (fun v => decide ((v : Int) < lst r v)) n
def mostR (n : Nat) : List (List Int) → Nat
  | [] => 0
  | r :: l => max (prR n r) (mostR n l)
/-- all best pairings, by the definition -/
def allB (A : Nat → Nat → Bool) (n : Nat) : List (List Int) := (allR A n n).filter fun r => decide (prR n r = mostR n (allR A n n))
/-- what has been made of the row p when things below k have been tried -/
def partA' (A : Nat → Nat → Bool) (n i k : Nat) (p : List Int) : List (List Int) := p.set i (-1) :: ((List.range k).filter fun k => decide (i < k) && (p.getD k 0 == -2 && A i k)).map fun (k : Nat) => (p.set i (k : Int)).set k (i : Int)
end Go.Proofs.Yteingahlmlndkaa

/-
  What is proved: all best pairings by the definition (31): what its loops keep.
-/
namespace Go.Proofs.Yteingahlmlndkaa
open Go.RowKit
attribute [local irreducible] Go.wpCalm rowV rowI
/-- the block that is appended to is not one of these -/
theorem KpS.app26 {w U U' : World} {n : Nat} {Q : List (Nat × Obj)} {x1 : Nat} {cs : Array Value} {vals : List Value} {rs : List (List Int)} {v : Value} {b0 : Nat} (h : KpS w ((x1, .cells cs 25) :: Q) U) (hO : OutI n Q vals rs) (hg : U.grownBy U' (vblk v)) (hk : ∀ (k : Nat) (o : Obj), U.heap[k]? = some o → (∀ c fr, o ≠ Obj.cells c 26 fr) → U'.heap[k]? = some o) (hb : ∀ b, vblk v = some b → b0 ≤ b) (hw : w.heap.size ≤ b0) : KpS w ((x1, .cells cs 25) :: Q) U' :=
  h.appE (e := 26) hg hk (fun b e => Nat.le_trans hw (hb b e)) (fun y hy => .inl (by
    rcases List.mem_cons.1 hy with rfl | hy
    · exact fun c fr e => by cases e
    · obtain ⟨c9, he9⟩ := hO.1 y hy
      rw [he9]
      exact fun c fr e => by cases e))
/-- the row that is filled at first -/
theorem OutI.first {U : World} {base n : Nat} {rv : Value} (hq : QAt U base 3 rv (List.replicate n (.int .i64 (-2)))) : ∃ Q, OutI n Q [rv] [List.replicate n (-2)] ∧ ∀ y ∈ Q, U.heap[y.1]? = some y.2 := by
  obtain ⟨A, cap, rfl, h1, h2, -, h4⟩ := hq
  rw [List.length_replicate] at h1 ⊢
  by_cases hn : n = 0
  · subst hn
    refine ⟨[], ⟨fun y hy => absurd hy List.not_mem_nil, rfl, fun i x hx => ?_⟩, fun y hy => absurd hy List.not_mem_nil⟩
    have hi := (List.getElem?_eq_some_iff.1 hx).1
    have : i = 0 := by simpa using hi
    subst this
    cases hx
    exact ⟨A, cap, [], rfl, rfl, rfl, fun U _ => ⟨A, cap, rfl, Nat.zero_le _, h2, fun i j hi => by omega⟩⟩
  · obtain ⟨b, o, cur, rfl, -, h5, -, h6⟩ := h4 (by omega)
    refine ⟨[(b, .cells cur 3)], ⟨fun y hy => by rw [List.mem_singleton] at hy; subst hy; exact ⟨_, rfl⟩, rfl, fun i x hx => ?_⟩, fun y hy => by rw [List.mem_singleton] at hy; subst hy; exact h5⟩
    have hi := (List.getElem?_eq_some_iff.1 hx).1
    have : i = 0 := by simpa using hi
    subst this
    cases hx
    refine ⟨_, cap, List.replicate n (-2), rfl, rfl, List.length_replicate, fun U hU => ?_⟩
    have hb := hU _ (List.mem_singleton.2 rfl)
    refine ⟨_, cap, rfl, h1, h2, fun i j hi hj => ⟨b, o, rfl, cell_of_heap hb ?_⟩⟩
    have := h6 i (.int .i64 (-2)) (by rw [List.getElem?_replicate, if_pos hi])
    rw [show o + i * 1 + j = o + i by omega, this]
    show _ = some (Value.int .i64 ((List.replicate n (-2)).getD i 0))
    rw [List.getD_eq_getElem?_getD, List.getElem?_replicate, if_pos hi]
    rfl
/-- the rows of a round (ov), and those of the next one (v7) -/
structure AllS (w U : World) (n x1 : Nat) (cs : Array Value) (B0 c1 : Nat) (ov : Value) (vals : List Value) (rs : List (List Int)) (Q : List (Nat × Obj)) (v7 : Value) (vals2 : List Value) (rs2 : List (List Int)) : Prop where
  o1 : OutI n Q vals rs
  o2 : OutI n Q vals2 rs2
  q1 : QAt U B0 26 ov vals
  q2 : QAt U c1 26 v7 vals2
  hc : c1 ≤ U.heap.size
  hov : ∀ b, vblk ov = some b → b < c1
  hw : w.heap.size ≤ c1
  kp : KpS w ((x1, .cells cs 25) :: Q) U
section
variable {w U : World} {n x1 : Nat} {cs : Array Value} {B0 c1 : Nat} {ov : Value} {vals : List Value} {rs : List (List Int)} {Q : List (Nat × Obj)} {v7 : Value} {vals2 : List Value} {rs2 : List (List Int)}
theorem AllS.mono (h : AllS w U n x1 cs B0 c1 ov vals rs Q v7 vals2 rs2) {U' : World} (g : U.grows U') : AllS w U' n x1 cs B0 c1 ov vals rs Q v7 vals2 rs2 :=
  ⟨h.o1, h.o2, h.q1.mono g, h.q2.mono g, Nat.le_trans h.hc g.size, h.hov, h.hw, h.kp.mono g⟩
theorem AllS.blk (h : AllS w U n x1 cs B0 c1 ov vals rs Q v7 vals2 rs2) {b : Nat} {cur : Array Value} (hb : U.heap[b]? = some (.cells cur 3)) : AllS w U n x1 cs B0 c1 ov vals rs ((b, .cells cur 3) :: Q) v7 vals2 rs2 :=
  ⟨h.o1.more b cur, h.o2.more b cur, h.q1, h.q2, h.hc, h.hov, h.hw, (KpS.add h.kp.drop hb).add h.kp.hd⟩
theorem AllS.app (h : AllS w U n x1 cs B0 c1 ov vals rs Q v7 vals2 rs2) {V : World} {v' x : Value} {r : List Int} (hq : QAt V c1 26 v' (vals2 ++ [x])) (hg : U.grownBy V (vblk v7)) (hk : ∀ (k : Nat) (o : Obj), U.heap[k]? = some o → (∀ c fr, o ≠ Obj.cells c 26 fr) → V.heap[k]? = some o) (hx : ∃ (A : Option Addr) (c : Nat), x = .slice A n c) (hr : r.length = n) (hU : ∀ U : World, (∀ y ∈ Q, U.heap[y.1]? = some y.2) → IntsAt U x n (lst r)) : AllS w V n x1 cs B0 c1 ov vals rs Q v' (vals2 ++ [x]) (rs2 ++ [r]) :=
  ⟨h.o1, h.o2.snoc hx hr hU, h.q1.keep hg.size fun b hb hlt => hg.block b hlt (fun e => by have h1 := (h.q2.blk e.symm).1; have h2 := h.hov b hb; omega), hq, Nat.le_trans h.hc hg.size, h.hov, h.hw, h.kp.app26 h.o1 hg hk (fun b e => (h.q2.blk e).1) h.hw⟩
theorem AllS.cells (h : AllS w U n x1 cs B0 c1 ov vals rs Q v7 vals2 rs2) {ob oo m oc p : Nat} (ho : ov = .slice (some ⟨ob, oo, none⟩) m oc) {rb ro rc : Nat} {r : List Int} (hv : vals[p]? = some (.slice (some ⟨rb, ro, none⟩) n rc)) (hr : rs[p]? = some r) : U.cell? ⟨ob, oo + p, none⟩ = some (.slice (some ⟨rb, ro, none⟩) n rc) ∧ (∀ j, j < n → U.cell? ⟨rb, ro + j, none⟩ = some (.int .i64 (lst r j))) ∧ IntsAt U (.slice (some ⟨rb, ro, none⟩) n rc) n (lst r) := by
  subst ho
  obtain ⟨b9, o9, e9, h9⟩ := h.q1.get hv
  cases e9
  obtain ⟨A8, c8, r8, e8, hr8, -, hU⟩ := h.o1.2.2 p _ hv
  rw [hr] at hr8
  cases hr8
  have hI := hU U (fun y hy => h.kp.at_ y (List.mem_cons_of_mem _ hy))
  refine ⟨h9, fun j hj => ?_, hI⟩
  obtain ⟨A7, c7, e7, -, -, hc⟩ := hI
  cases e7
  obtain ⟨b6, o6, e6, c6⟩ := hc j 0 hj (by omega)
  cases e6
  simpa only [Nat.mul_one, Nat.add_zero] using c6
/-- the row p, as it lies -/
theorem AllS.row (h : AllS w U n x1 cs B0 c1 ov vals rs Q v7 vals2 rs2) {p : Nat} (hp : p < vals.length) (hn : 0 < n) : ∃ ob oo oc rb ro rc r, ov = .slice (some ⟨ob, oo, none⟩) vals.length oc ∧ vals[p]? = some (.slice (some ⟨rb, ro, none⟩) n rc) ∧ rs[p]? = some r ∧ r.length = n ∧ n ≤ rc ∧ rc ≤ maxLen ∧ vals.length ≤ oc ∧ oc ≤ maxLen ∧ ∀ U : World, (∀ y ∈ Q, U.heap[y.1]? = some y.2) → IntsAt U (.slice (some ⟨rb, ro, none⟩) n rc) n (lst r) := by
  obtain ⟨A8, c8, r, hv, hr, hrl, hU⟩ := h.o1.row (i := p) (by rw [← h.o1.2.1]; exact hp)
  obtain ⟨A, oc, he, ho1, ho2⟩ := h.q1.form
  subst he
  obtain ⟨ob, oo, rfl, -⟩ := h.q1.get hv
  obtain ⟨A7, c7, e7, hc1, hc2, hc⟩ := hU U (fun y hy => h.kp.at_ y (List.mem_cons_of_mem _ hy))
  cases e7
  obtain ⟨rb, ro, rfl, -⟩ := hc 0 0 hn (by omega)
  exact ⟨ob, oo, oc, rb, ro, _, r, rfl, hv, hr, hrl, hc1, hc2, ho1, ho2, hU⟩
end
end Go.Proofs.Yteingahlmlndkaa

/-
  What is proved: all best pairings, by the definition (31).
-/
namespace Go.Proofs.Yteingahlmlndkaa
open Go.RowKit
attribute [local irreducible] Go.wpCalm rowV rowI
end Go.Proofs.Yteingahlmlndkaa

/-
  What is proved: the law's own right pairing of a stock, by numbers (39).
-/
namespace Go.Proofs.Yteingahlmlndkaa
open Go.RowKit
attribute [local irreducible] Go.wpCalm rowV rowI
theorem rem_at {a b x : Nat} (h : a % b = x) : (a : Int).tmod (b : Int) = (x : Nat) := by
  rw [Int.tmod_eq_emod_of_nonneg (Int.natCast_nonneg _), ← h]
  rfl
end Go.Proofs.Yteingahlmlndkaa

/-
  What is proved: MatchTurned (10) answers true.
-/
namespace Go.Proofs.Yteingahlmlndkaa
open Go.RowKit
attribute [local irreducible] Go.wpCalm rowV
theorem wr_turn {i T : Nat} (hi : i ≤ 16) (hT : T ≤ 255) : IntKind.i64.wrap (T : Int) = (T : Int) ∧ IntKind.i64.wrap ((i : Int) + (T : Int)) = (i : Int) + (T : Int) := ⟨wrapI rfl ⟨by omega, by omega⟩, wrapI rfl ⟨by omega, by omega⟩⟩
theorem wr_heavy {a : Int} {H : Nat} (ha : 0 ≤ a ∧ a ≤ 10000) (hH : H ≤ 65535) : IntKind.i64.wrap (H : Int) = (H : Int) ∧ IntKind.i64.wrap (a + (H : Int)) = a + (H : Int) := ⟨wrapI rfl ⟨by omega, by omega⟩, wrapI rfl ⟨by omega, by omega⟩⟩
set_option maxRecDepth 100000 in
set_option maxHeartbeats 8000000 in
theorem turned_w (w : World) (tv : Value) (s : Stk) (ht : StkAt w tv s) (z2 : Int) (hz2 : 0 ≤ z2 ∧ z2 ≤ 255) (z3 : Int) (hz3 : 0 ≤ z3 ∧ z3 ≤ 65535) : Calls Try.prog 10 #[tv, .int .u8 z2, .int .u16 z3] w fun e w' => e = .returned (.bool true) ∧ w.grows w' := by
  have HT := Lib.hid ht
  obtain ⟨T, rfl⟩ : ∃ T : Nat, z2 = (T : Nat) := ⟨z2.toNat, by omega⟩
  obtain ⟨H, rfl⟩ : ∃ H : Nat, z3 = (H : Nat) := ⟨z3.toNat, by omega⟩
  have hT8 : T ≤ 255 := by omega
  have hH16 : H ≤ 65535 := by omega
  obtain ⟨sv, vv, rfl, hT, hM⟩ := ht
  have HTh := Lib.hid hT
  have HMt := Lib.hid hM
  obtain ⟨sa, sc, rfl, hs1, hs2, -⟩ := hT
  obtain ⟨va, vc, rfl, -⟩ := hM
  unfold maxLen at hs2
  clear hz2 hz3
  go_enter Try.func10, Try.ntmps10
  obtain ⟨x1, hx1⟩ : ∃ x, w.heap.size = x := ⟨_, rfl⟩
  go_upto_region 1 with fail
  have k1 : KpS w [(x1, Obj.cells #[.slice sa s.nt sc, .slice va s.nm vc, .int .i64 s.wide] 25)] (w.alloc (Obj.cells #[.slice sa s.nt sc, .slice va s.nm vc, .int .i64 s.wide] 25)) := (KpS.mk (by (repeat (first | exact World.grows.refl _ | assumption | refine World.grows.alloc ?_ _ | refine World.grows.plus ?_ _ _ | refine World.grows.drew ?_))) (fun y hy => absurd hy List.not_mem_nil)).add (World.heap_at w _ _ hx1.symm)
  generalize w.alloc (Obj.cells #[.slice sa s.nt sc, .slice va s.nm vc, .int .i64 s.wide] 25) = W1 at k1 ⊢
  have HK := Lib.hid k1
  clear k1
  have q0 := cell_of_heap (i := 0) HK.out.hd rfl
  have q1 := cell_of_heap (i := 1) HK.out.hd rfl
  have q2 := cell_of_heap (i := 2) HK.out.hd rfl
  go_wp2_with (go_at_call 99; fail)
  refine (fine_c _ _ s (HT.out.mono (HK.out.g.trans (by (repeat (first | exact World.grows.refl _ | assumption | refine World.grows.alloc ?_ _ | refine World.grows.plus ?_ _ _ | refine World.grows.drew ?_)))))).mono ?_
  rintro e U ⟨rfl, g⟩
  replace HK := Lib.hid (HK.out.mono (World.grows.trans (by (repeat (first | exact World.grows.refl _ | assumption | refine World.grows.alloc ?_ _ | refine World.grows.plus ?_ _ _ | refine World.grows.drew ?_))) g)); replace q0 := cell_of_heap (i := 0) HK.out.hd rfl; replace q1 := cell_of_heap (i := 1) HK.out.hd rfl; replace q2 := cell_of_heap (i := 2) HK.out.hd rfl; clear g
  by_cases hc : s.check = 0
  · rw [decide_eq_true hc]
    have hok := (Stk.ok_iff s).1 hc
    have h16 := hok.n16
    have HOk := Lib.hid hok
    clear hc hok
    go_upto_region 4 with fail
    obtain ⟨c1, hc1⟩ : ∃ x, U.heap.size = x := ⟨_, rfl⟩
    have hxc : x1 < c1 := by rw [← hc1]; exact World.lt_of_block HK.out.hd
    have HC1 : Hid (U.heap.size = c1) := Lib.hid hc1
    clear hc1
    refine wp_region_invV 14 [[], [0], [], [2], [1, 3], [], [5], [], [7], [6, 8], [], [], [10, 4], [11, 9]] [some 38, some 39, some 40, some 41, some 42, some 43, some 44, some 45, some 46, some 47, some 8, some 9, none, none] (JB 10 2 (fun i => [.pointer (some ⟨x1, 1, none⟩), .slice va s.nm vc, .pointer (some ⟨x1, 2, none⟩), .int .i64 s.wide, .agg #[.slice none 0 0, .slice va s.nm vc, .int .i64 s.wide], .pointer (some ⟨x1, 1, none⟩), .slice va s.nm vc, .pointer (some ⟨x1, 2, none⟩), .int .i64 s.wide, .agg #[.slice none 0 0, .slice va s.nm vc, .int .i64 s.wide]].getD i undef) #[.slice none 0 0, .slice va s.nm vc, .int .i64 s.wide] c1) (by kernel_rfl) (by kernel_rfl) (by decide) (fun _ _ _ => JB.start _ _ _ _ _ _ _) ?_ ?_
    · simp only [List.take_succ_cons, List.take_zero, List.take_nil, zipV, List.zip_cons_cons, List.zip_nil_right, List.zip_nil_left, oblV, and_true]
      refine ⟨?_, ?_, ?_, ?_, ?_, ?_, ?_, ?_, ?_, ?_, ?_, ?_, ?_, ?_⟩
      · intro L val nc xc K hJ hL hD hK
        simp only [putL, List.getD_cons_zero, List.getD_cons_succ]
        go_simp
        exact ⟨World.grows_plus _ _ _, hK _ _ (hJ.loads (i := 0) (by omega) rfl)⟩
      · intro L val nc xc K hJ hL hD hK
        have e0 : val 0 = .pointer (some ⟨x1, 1, none⟩) := hJ.load 0 (by omega) (hD 0 (by simp))
        simp only [putL, List.getD_cons_zero, List.getD_cons_succ, e0]
        go_simp
        exact ⟨World.grows_plus _ _ _, hK _ _ (hJ.loads (i := 1) (by omega) rfl)⟩
      · intro L val nc xc K hJ hL hD hK
        simp only [putL, List.getD_cons_zero, List.getD_cons_succ]
        go_simp
        exact ⟨World.grows_plus _ _ _, hK _ _ (hJ.loads (i := 2) (by omega) rfl)⟩
      · intro L val nc xc K hJ hL hD hK
        have e2 : val 2 = .pointer (some ⟨x1, 2, none⟩) := hJ.load 2 (by omega) (hD 2 (by simp))
        simp only [putL, List.getD_cons_zero, List.getD_cons_succ, e2]
        go_simp
        exact ⟨World.grows_plus _ _ _, hK _ _ (hJ.loads (i := 3) (by omega) rfl)⟩
      · intro L val nc xc K hJ hL hD hK
        have e1 : val 1 = .slice va s.nm vc := hJ.load 1 (by omega) (hD 1 (by simp))
        have e3 : val 3 = .int .i64 s.wide := hJ.load 3 (by omega) (hD 3 (by simp))
        simp only [putL, List.getD_cons_zero, List.getD_cons_succ, e1, e3]
        go_simp
        exact ⟨World.grows_plus _ _ _, hK _ _ (hJ.loads (i := 4) (by omega) rfl)⟩
      · intro L val nc xc K hJ hL hD hK
        simp only [putL, List.getD_cons_zero, List.getD_cons_succ]
        go_simp
        exact ⟨World.grows_plus _ _ _, hK _ _ (hJ.loads (i := 5) (by omega) rfl)⟩
      · intro L val nc xc K hJ hL hD hK
        have e5 : val 5 = .pointer (some ⟨x1, 1, none⟩) := hJ.load 5 (by omega) (hD 5 (by simp))
        simp only [putL, List.getD_cons_zero, List.getD_cons_succ, e5]
        go_simp
        exact ⟨World.grows_plus _ _ _, hK _ _ (hJ.loads (i := 6) (by omega) rfl)⟩
      · intro L val nc xc K hJ hL hD hK
        simp only [putL, List.getD_cons_zero, List.getD_cons_succ]
        go_simp
        exact ⟨World.grows_plus _ _ _, hK _ _ (hJ.loads (i := 7) (by omega) rfl)⟩
      · intro L val nc xc K hJ hL hD hK
        have e7 : val 7 = .pointer (some ⟨x1, 2, none⟩) := hJ.load 7 (by omega) (hD 7 (by simp))
        simp only [putL, List.getD_cons_zero, List.getD_cons_succ, e7]
        go_simp
        exact ⟨World.grows_plus _ _ _, hK _ _ (hJ.loads (i := 8) (by omega) rfl)⟩
      · intro L val nc xc K hJ hL hD hK
        have e6 : val 6 = .slice va s.nm vc := hJ.load 6 (by omega) (hD 6 (by simp))
        have e8 : val 8 = .int .i64 s.wide := hJ.load 8 (by omega) (hD 8 (by simp))
        simp only [putL, List.getD_cons_zero, List.getD_cons_succ, e6, e8]
        go_simp
        exact ⟨World.grows_plus _ _ _, hK _ _ (hJ.loads (i := 9) (by omega) rfl)⟩
      · intro L val nc xc K hJ hL hD hK
        dsimp only [putL]
        go_simp
        exact ⟨by (repeat (first | exact World.grows.refl _ | assumption | refine World.grows.alloc ?_ _ | refine World.grows.plus ?_ _ _ | refine World.grows.drew ?_)), hK _ _ (hJ.makes (i := 0) (by omega) rfl hL (by rw [← HC1.out]; simp) (by simp))⟩
      · intro L val nc xc K hJ hL hD hK
        dsimp only [putL]
        go_simp
        exact ⟨by (repeat (first | exact World.grows.refl _ | assumption | refine World.grows.alloc ?_ _ | refine World.grows.plus ?_ _ _ | refine World.grows.drew ?_)), hK _ _ (hJ.makes (i := 1) (by omega) rfl hL (by rw [← HC1.out]; simp) (by simp))⟩
      · intro L val nc xc K hJ hL hD hK
        have h3 := hD 10 (by simp)
        have e0 : val 4 = .agg #[.slice none 0 0, .slice va s.nm vc, .int .i64 s.wide] := hJ.load 4 (by omega) (hD 4 (by simp))
        obtain ⟨b, e3, hb, hx⟩ := hJ.box 0 (by omega) h3
        rw [show L (10 + 2 + 0) = false from hL] at hx
        refine goesO_store_row 25 (.tmp 8) (.tmp 42) rfl b _ #[.slice none 0 0, .slice va s.nm vc, .int .i64 s.wide] hx (by simp only [putL]; simp [go_sem, e0, show val 10 = _ from e3]) (by simp only [putL]; simp [go_sem, e0, show val 10 = _ from e3]) info25 rfl (by simp [Value.oneCell']) ⟨World.putObj_grows (World.grows_plus _ _ _) _ (by rw [HC1.out]; exact hb), hK _ _ (hJ.stores (i := 0) (by omega) rfl h3 e3)⟩
      · intro L val nc xc K hJ hL hD hK
        have h3 := hD 11 (by simp)
        have e0 : val 9 = .agg #[.slice none 0 0, .slice va s.nm vc, .int .i64 s.wide] := hJ.load 9 (by omega) (hD 9 (by simp))
        obtain ⟨b, e3, hb, hx⟩ := hJ.box 1 (by omega) h3
        rw [show L (10 + 2 + 1) = false from hL] at hx
        refine goesO_store_row 25 (.tmp 9) (.tmp 47) rfl b _ #[.slice none 0 0, .slice va s.nm vc, .int .i64 s.wide] hx (by simp only [putL]; simp [go_sem, e0, show val 11 = _ from e3]) (by simp only [putL]; simp [go_sem, e0, show val 11 = _ from e3]) info25 rfl (by simp [Value.oneCell']) ⟨World.putObj_grows (World.grows_plus _ _ _) _ (by rw [HC1.out]; exact hb), hK _ _ (hJ.stores (i := 1) (by omega) rfl h3 e3)⟩
    · intro L val V gN hJ hall
      obtain ⟨b1, f1, s1, y1⟩ := hJ.box 0 (by omega) (hall 10 (by omega))
      obtain ⟨b2, f2, s2, y2⟩ := hJ.box 1 (by omega) (hall 11 (by omega))
      rw [if_pos (hall 12 (by omega))] at y1
      rw [if_pos (hall 13 (by omega))] at y2
      have h12 : b1 ≠ b2 := fun e => hJ.ne 0 1 (by omega) (by omega) (by omega) (hall 10 (by omega)) (hall 11 (by omega)) (by rw [f1, f2, e])
      have e0 : val 0 = .pointer (some ⟨x1, 1, none⟩) := hJ.load 0 (by omega) (hall 0 (by omega))
      have e1 : val 1 = .slice va s.nm vc := hJ.load 1 (by omega) (hall 1 (by omega))
      have e2 : val 2 = .pointer (some ⟨x1, 2, none⟩) := hJ.load 2 (by omega) (hall 2 (by omega))
      have e3 : val 3 = .int .i64 s.wide := hJ.load 3 (by omega) (hall 3 (by omega))
      have e4 : val 4 = .agg #[.slice none 0 0, .slice va s.nm vc, .int .i64 s.wide] := hJ.load 4 (by omega) (hall 4 (by omega))
      have e5 : val 5 = .pointer (some ⟨x1, 1, none⟩) := hJ.load 5 (by omega) (hall 5 (by omega))
      have e6 : val 6 = .slice va s.nm vc := hJ.load 6 (by omega) (hall 6 (by omega))
      have e7 : val 7 = .pointer (some ⟨x1, 2, none⟩) := hJ.load 7 (by omega) (hall 7 (by omega))
      have e8 : val 8 = .int .i64 s.wide := hJ.load 8 (by omega) (hall 8 (by omega))
      have e9 : val 9 = .agg #[.slice none 0 0, .slice va s.nm vc, .int .i64 s.wide] := hJ.load 9 (by omega) (hall 9 (by omega))
      have f1' : val 10 = .pointer (some ⟨b1, 0, none⟩) := f1
      have f2' : val 11 = .pointer (some ⟨b2, 0, none⟩) := f2
      rw [show List.range 14 = [0, 1, 2, 3, 4, 5, 6, 7, 8, 9, 10, 11, 12, 13] from rfl]
      simp only [putL, List.getD_cons_zero, List.getD_cons_succ, e0, e1, e2, e3, e4, e5, e6, e7, e8, e9, f1', f2', List.drop_succ_cons, List.drop_zero]
      clear hJ hall e0 e1 e2 e3 e4 e5 e6 e7 e8 e9 f1 f2 f1' f2'
      refine wpList_nil ?_
      replace HK := Lib.hid (((HK.out.mono gN).add y2).add y1)
      clear y1 y2 gN q0 q1 q2
      obtain ⟨c2, hc2⟩ : ∃ x, V.heap.size = x := ⟨_, rfl⟩
      have hb1c : b1 < c2 := by rw [← hc2]; exact World.lt_of_block HK.out.hd
      have hb2c : b2 < c2 := by rw [← hc2]; exact World.lt_of_block HK.out.drop.hd
      have HC2 : Hid (c2 ≤ V.heap.size) := Lib.hid (by omega)
      clear hc2
      go_wp2
      have hS0 : Hid (Sep V c2 62 3 (.slice none 0 0) 0 (rowsT s ((List.range 0).map fun k => (k + T) % s.nt)) (.slice none 0 0) 0 (rowsT (s.heavy (H : Int)) (List.range 0))) := Lib.hid (Sep.none _ _ _ _)
      go_loopw [10] (fun i10 wr => ∃ (i : Nat) (la lb : Option Addr) (lc lc2 : Nat), i ≤ s.nt ∧ i10 = .int .i64 (i : Nat) ∧ Hid (Sep wr c2 62 3 (.slice la i lc) i (rowsT s ((List.range i).map fun k => (k + T) % s.nt)) (.slice lb i lc2) i (rowsT (s.heavy (H : Int)) (List.range i))) ∧ Hid (c2 ≤ wr.heap.size) ∧ Hid (KpS w [(b1, Obj.cells #[.slice la i lc, .slice va s.nm vc, .int .i64 s.wide] 25), (b2, Obj.cells #[.slice lb i lc2, .slice va s.nm vc, .int .i64 s.wide] 25), (x1, Obj.cells #[.slice sa s.nt sc, .slice va s.nm vc, .int .i64 s.wide] 25)] wr)) (fun i10 _ => s.nt - (intOf i10).toNat)
      case atStart => exact ⟨0, none, none, 0, 0, by omega, rfl, hS0, HC2, HK⟩
      case round => as_aux_lemma =>
        clear HK HC2 hS0
        obtain ⟨i, la, lb, lc, lc2, hi, rfl, hS, hC, HK⟩ := hrel
        obtain ⟨W2, rfl⟩ : ∃ W2, W2 = wr := ⟨_, rfl⟩
        by_cases hlt : i < s.nt
        · have hltI : (i : Int) < s.nt := by omega
          have hlt0 : (0 : Int) ≤ (i : Int) := by omega
          obtain ⟨q, hqe⟩ : ∃ q, (i + T) % s.nt = q := ⟨_, rfl⟩
          have hq : q < s.nt := by rw [← hqe]; exact Nat.mod_lt _ (by omega)
          have HRx : Hid (rowsT s ((List.range (i + 1)).map fun k => (k + T) % s.nt) = rowsT s ((List.range i).map fun k => (k + T) % s.nt) ++ [tcell s q 0, tcell s q 1, tcell s q 2]) := Lib.hid (by rw [List.range_succ, List.map_append, List.map_cons, List.map_nil, rowsT_snoc, hqe])
          have HRy : Hid (rowsT (s.heavy (H : Int)) (List.range (i + 1)) = rowsT (s.heavy (H : Int)) (List.range i) ++ [.int .i64 (s.tk i), .int .i64 (s.tw i + (H : Int)), .int .i64 (s.tg i)]) := Lib.hid (by rw [List.range_succ, rowsT_snoc]; rfl)
          obtain ⟨X1, hX1⟩ : ∃ X, rowsT s ((List.range i).map fun k => (k + T) % s.nt) = X := ⟨_, rfl⟩
          obtain ⟨X2, hX2⟩ : ∃ X, rowsT s ((List.range (i + 1)).map fun k => (k + T) % s.nt) = X := ⟨_, rfl⟩
          obtain ⟨Y1, hY1⟩ : ∃ X, rowsT (s.heavy (H : Int)) (List.range i) = X := ⟨_, rfl⟩
          obtain ⟨Y2, hY2⟩ : ∃ X, rowsT (s.heavy (H : Int)) (List.range (i + 1)) = X := ⟨_, rfl⟩
          have HX2 := Lib.hid hX2
          have HY2 := Lib.hid hY2
          rw [hX1, hX2] at HRx
          rw [hY1, hY2] at HRy
          rw [hX1, hY1] at hS
          clear hX1 hX2 hY1 hY2
          have hrem : ((i : Int) + (T : Int)).tmod (s.nt : Int) = (q : Nat) := by have := rem_at hqe; rwa [Int.natCast_add] at this
          have Hrem := Lib.hid hrem
          obtain ⟨w1, w2⟩ := wr_turn (show i ≤ 16 by omega) hT8
          have Hw1 := Lib.hid w1
          have Hw2 := Lib.hid w2
          have hqI : (q : Int) < s.nt := by omega
          have hnI : ¬ (s.nt : Int) = 0 := by omega
          have b0 := cell_of_heap HK.out.drop.drop.hd (i := 0) rfl
          obtain ⟨tb, to_, rfl, ti0, ti1, ti2⟩ := HK.out.things HTh.out hlt rfl
          clear hrem w1 w2 hqe
          go_upto_region 9 with fail
          obtain ⟨y, hy⟩ : ∃ y, W2.heap.size = y := ⟨_, rfl⟩
          have gA : W2.grows (W2.alloc (.cells #[.int .i64 (s.tk i), .int .i64 (s.tw i), .int .i64 (s.tg i)] 62)) := (World.grows.refl _).alloc _
          have hyc : c2 ≤ y := by rw [← hy]; exact hC.out
          replace HK := Lib.hid ((HK.out.mono gA).add (World.heap_at W2 (.cells #[.int .i64 (s.tk i), .int .i64 (s.tw i), .int .i64 (s.tg i)] 62) y hy.symm))
          replace hC := Lib.hid (Nat.le_trans hC.out gA.size)
          have HqT := Lib.hid (HTh.out.mono HK.out.g)
          simp only [hy]
          have HNa : Hid (∀ k, (Value.slice la i lc).ownBlock = some k → c2 ≤ k ∧ k < y) := Lib.hid fun k e => by
            have := hS.out.a.lt k e
            rw [hy] at this
            exact this
          have HNb : Hid (∀ k, (Value.slice lb i lc2).ownBlock = some k → c2 ≤ k ∧ k < y) := Lib.hid fun k e => by
            have := hS.out.b.lt k e
            rw [hy] at this
            exact this
          replace hS := Lib.hid (hS.out.grow gA)
          clear b0 ti0 ti1 ti2 hy
          generalize W2.alloc (.cells #[.int .i64 (s.tk i), .int .i64 (s.tw i), .int .i64 (s.tg i)] 62) = W3 at HK hS hC gA HqT ⊢
          clear gA
          obtain ⟨I, hIe⟩ : ∃ I : World → Prop, I = fun U => KpS w [(y, Obj.cells #[.int .i64 (s.tk i), .int .i64 (s.tw i), .int .i64 (s.tg i)] 62), (b1, Obj.cells #[.slice la i lc, .slice va s.nm vc, .int .i64 s.wide] 25), (b2, Obj.cells #[.slice lb i lc2, .slice va s.nm vc, .int .i64 s.wide] 25), (x1, Obj.cells #[.slice (some ⟨tb, to_, none⟩) s.nt sc, .slice va s.nm vc, .int .i64 s.wide] 25)] U ∧ c2 ≤ U.heap.size := ⟨_, rfl⟩
          have hI : ∀ W W', I W → W.grows W' → I W' := by
            rw [hIe]
            rintro W W' ⟨a1, a2⟩ g
            exact ⟨a1.mono g, Nat.le_trans a2 g.size⟩
          have hIw : I W3 := by rw [hIe]; exact ⟨HK.out, hC.out⟩
          have HI : Hid (∀ U, I U → KpS w [(y, Obj.cells #[.int .i64 (s.tk i), .int .i64 (s.tw i), .int .i64 (s.tg i)] 62), (b1, Obj.cells #[.slice la i lc, .slice va s.nm vc, .int .i64 s.wide] 25), (b2, Obj.cells #[.slice lb i lc2, .slice va s.nm vc, .int .i64 s.wide] 25), (x1, Obj.cells #[.slice (some ⟨tb, to_, none⟩) s.nt sc, .slice va s.nm vc, .int .i64 s.wide] 25)] U ∧ c2 ≤ U.heap.size) := Lib.hid fun U h => by rw [hIe] at h; exact h
          have HIm : Hid (∀ U, KpS w [(y, Obj.cells #[.int .i64 (s.tk i), .int .i64 (s.tw i), .int .i64 (s.tg i)] 62), (b1, Obj.cells #[.slice la i lc, .slice va s.nm vc, .int .i64 s.wide] 25), (b2, Obj.cells #[.slice lb i lc2, .slice va s.nm vc, .int .i64 s.wide] 25), (x1, Obj.cells #[.slice (some ⟨tb, to_, none⟩) s.nt sc, .slice va s.nm vc, .int .i64 s.wide] 25)] U ∧ c2 ≤ U.heap.size → I U) := Lib.hid fun U h => by rw [hIe]; exact h
          have HT3 : Hid (∀ U, I U → U.cell? ⟨tb, to_ + q * 3, none⟩ = some (.int .i64 (s.tk q)) ∧ U.cell? ⟨tb, to_ + q * 3 + 1, none⟩ = some (.int .i64 (s.tw q)) ∧ U.cell? ⟨tb, to_ + q * 3 + 2, none⟩ = some (.int .i64 (s.tg q))) := Lib.hid fun U hU => by
            obtain ⟨b9, o9, e9, h9⟩ := (HI.out U hU).1.things HTh.out hq rfl
            cases e9
            exact h9
          clear hIe HqT
          (refine wp_region_chainJ 14 [12, 13] (I) (hI) (hIw) (by kernel_rfl) (by kernel_rfl) (by decide) ?_; simp only [without, only, withNo, List.take_succ_cons, List.take_zero, List.drop_succ_cons, List.drop_zero, List.take_nil, List.drop_nil, Nat.reduceAdd, Nat.reduceSub, List.filter, List.contains_cons, List.contains_nil, Nat.reduceBEq, Bool.or_false, Bool.false_or, Bool.true_or, Bool.or_true, Bool.or_self, Bool.not_true, Bool.not_false, List.map_cons, List.map_nil])
          refine wpCalmJ_go rfl (.pointer (some ⟨b1, 0, none⟩)) (fun U hU => by go_simp) ?_
          simp only [Act.put, List.setIfInBounds_toArray, List.set_cons_zero, List.set_cons_succ]
          refine wpCalmJ_go rfl (.slice la i lc) (fun U hU => by have e1 := cell_of_heap (HI.out U hU).1.drop.hd (i := 0) rfl; go_simp) ?_
          simp only [Act.put, List.setIfInBounds_toArray, List.set_cons_zero, List.set_cons_succ]
          refine wpCalmJ_go rfl (.pointer (some ⟨x1, 0, none⟩)) (fun U hU => by go_simp) ?_
          simp only [Act.put, List.setIfInBounds_toArray, List.set_cons_zero, List.set_cons_succ]
          refine wpCalmJ_go rfl (.slice (some ⟨tb, to_, none⟩) s.nt sc) (fun U hU => by have e1 := cell_of_heap (HI.out U hU).1.drop.drop.drop.hd (i := 0) rfl; go_simp) ?_
          simp only [Act.put, List.setIfInBounds_toArray, List.set_cons_zero, List.set_cons_succ]
          refine wpCalmJ_go rfl (.int .i64 (i : Nat)) (fun U hU => by go_simp) ?_
          simp only [Act.put, List.setIfInBounds_toArray, List.set_cons_zero, List.set_cons_succ]
          refine wpCalmJ_go rfl (.int .u8 (T : Nat)) (fun U hU => by go_simp) ?_
          simp only [Act.put, List.setIfInBounds_toArray, List.set_cons_zero, List.set_cons_succ]
          refine wpCalmJ_go rfl (.int .i64 (T : Nat)) (fun U hU => by have e1 := Hw1.out; go_simp) ?_
          simp only [Act.put, List.setIfInBounds_toArray, List.set_cons_zero, List.set_cons_succ]
          refine wpCalmJ_go rfl (.int .i64 ((i : Int) + (T : Int))) (fun U hU => by have e1 := Hw2.out; go_simp) ?_
          simp only [Act.put, List.setIfInBounds_toArray, List.set_cons_zero, List.set_cons_succ]
          refine wpCalmJ_go rfl (.int .i64 (s.nt : Nat)) (fun U hU => by go_simp) ?_
          simp only [Act.put, List.setIfInBounds_toArray, List.set_cons_zero, List.set_cons_succ]
          refine wpCalmJ_go rfl (.int .i64 (q : Nat)) (fun U hU => by have e1 := Hrem.out; have e2 : ¬ s.nt = 0 := (by omega); go_simp) ?_
          simp only [Act.put, List.setIfInBounds_toArray, List.set_cons_zero, List.set_cons_succ]
          refine wpCalmJ_go rfl (.pointer (some ⟨tb, to_ + q * 3, none⟩)) (fun U hU => by go_simp) ?_
          simp only [Act.put, List.setIfInBounds_toArray, List.set_cons_zero, List.set_cons_succ]
          refine wpCalmJ_go rfl (.agg #[.int .i64 (s.tk q), .int .i64 (s.tw q), .int .i64 (s.tg q)]) (fun U hU => by have e1 := (HT3.out U hU).1; have e2 := (HT3.out U hU).2.1; have e3 := (HT3.out U hU).2.2; go_simp) ?_
          simp only [Act.put, List.setIfInBounds_toArray, List.set_cons_zero, List.set_cons_succ]
          refine wpCalm_nilJ ?_
          refine wpChain_stepOJ (fun K hK nd xd hgd => ?_)
          go_simp
          refine ⟨hI _ _ hgd (by (repeat (first | exact World.grows.refl _ | assumption | refine World.grows.alloc ?_ _ | refine World.grows.plus ?_ _ _ | refine World.grows.drew ?_))), hK _ _ ?_⟩
          clear hK K hgd
          have gV : W3.grows ((W3.plus nd xd).alloc (.cells #[.int .i64 (s.tk q), .int .i64 (s.tw q), .int .i64 (s.tg q)] 62)) := (World.grows_plus _ _ _).trans (by (repeat (first | exact World.grows.refl _ | assumption | refine World.grows.alloc ?_ _ | refine World.grows.plus ?_ _ _ | refine World.grows.drew ?_)))
          refine wpChainJ_append_h rfl (.tmp 59) (.tmp 70) 22 (by rfl) c2 62 (.agg #[.int .i64 0, .int .i64 0, .int .i64 0]) 3 24 Try.underlying22 el62 (by rfl) (by omega) (.slice la i lc) i _ (by rfl) (hS.out.a.grow gV) _ (by rfl) 1 _ (fun W0 g => SliceAt.src (by omega) ((one_thing (W3.plus nd xd) (.int .i64 (s.tk q)) (.int .i64 (s.tw q)) (.int .i64 (s.tg q)) 62 _ (by simp)).mono g)) (by rw [thing_one]; exact tcell_one s q) (by omega) (by unfold maxLen; omega) (by omega) (Nat.le_trans hC.out gV.size) ?_
          rintro W0 v' w' hgW hI0 hown hgb hbl
          have hS0 := (hS.out.grow gV).grow hgW
          have hKa := (HI.out W0 hI0).1.kept hS0.a hgb (by omega) (by
            intro y' hy e
            have := HNa.out _ e
            simp only [List.mem_cons, List.not_mem_nil, or_false] at hy
            rcases hy with rfl | rfl | rfl | rfl <;> simp only at this <;> omega)
          have hSa : c2 ≤ w'.heap.size := Nat.le_trans (HI.out W0 hI0).2 hgb.size
          have hS1 := hS0.app hown hgb hbl
          obtain ⟨la', lc', rfl, -, -⟩ := row_form hown
          refine ⟨HIm.out _ ⟨hKa, hSa⟩, ?_⟩
          refine wpChain_nilJ (fun nc2 xc2 => ?_)
          have gX := World.grows_plus w' nc2 xc2
          rw [thing_one, ← HRx.out] at hS1
          have RO := Lib.hid (hS1.grow gX)
          have RK := hKa.mono gX
          have RS := Nat.le_trans hSa gX.size
          clear hown hgb hbl hS0 hS1 hI0 hgW gV hI hIw HI HIm hKa hSa HT3 hS HK hC
          generalize w'.plus nc2 xc2 = X at RO RK RS gX ⊢
          clear gX
          have q0 := cell_of_heap RK.drop.hd (i := 0) rfl
          have f0 := frozen_of_heap RK.drop.hd 0
          have RK2 : Hid (KpS w [(y, Obj.cells #[.int .i64 (s.tk i), .int .i64 (s.tw i), .int .i64 (s.tg i)] 62), (b1, Obj.cells #[.slice la' (i + 1) lc', .slice va s.nm vc, .int .i64 s.wide] 25), (b2, Obj.cells #[.slice lb i lc2, .slice va s.nm vc, .int .i64 s.wide] 25), (x1, Obj.cells #[.slice (some ⟨tb, to_, none⟩) s.nt sc, .slice va s.nm vc, .int .i64 s.wide] 25)] (X.setCell ⟨b1, 0, none⟩ (.slice la' (i + 1) lc'))) := Lib.hid (RK.setO (by omega) RK.drop.hd (by
            intro y' hy
            simp only [List.mem_cons, List.not_mem_nil, or_false] at hy
            rcases hy with rfl | rfl | rfl | rfl
            rotate_left
            · exact .inl rfl
            all_goals exact .inr ⟨by simp, by dsimp only; omega⟩))
          have RS2 : Hid (c2 ≤ (X.setCell ⟨b1, 0, none⟩ (.slice la' (i + 1) lc')).heap.size) := Lib.hid (by simpa using RS)
          have RO2 := Lib.hid (RO.out.set (p := ⟨b1, 0, none⟩) hb1c (.slice la' (i + 1) lc'))
          clear RO RK RS
          generalize hX5 : X.setCell ⟨b1, 0, none⟩ (.slice la' (i + 1) lc') = X5 at RK2 RS2 RO2
          go_upto_region 10 with fail
          clear hX5 q0 f0
          obtain ⟨v1, v2⟩ := wr_heavy (HOk.out.tw i hlt) hH16
          have Hv1 := Lib.hid v1
          have Hv2 := Lib.hid v2
          obtain ⟨I, hIe⟩ : ∃ I : World → Prop, I = fun U => KpS w [(y, Obj.cells #[.int .i64 (s.tk i), .int .i64 (s.tw i), .int .i64 (s.tg i)] 62), (b1, Obj.cells #[.slice la' (i + 1) lc', .slice va s.nm vc, .int .i64 s.wide] 25), (b2, Obj.cells #[.slice lb i lc2, .slice va s.nm vc, .int .i64 s.wide] 25), (x1, Obj.cells #[.slice (some ⟨tb, to_, none⟩) s.nt sc, .slice va s.nm vc, .int .i64 s.wide] 25)] U ∧ c2 ≤ U.heap.size := ⟨_, rfl⟩
          have hI : ∀ W W', I W → W.grows W' → I W' := by
            rw [hIe]
            rintro W W' ⟨a1, a2⟩ g
            exact ⟨a1.mono g, Nat.le_trans a2 g.size⟩
          have hIw : I X5 := by rw [hIe]; exact ⟨RK2.out, RS2.out⟩
          have HI : Hid (∀ U, I U → KpS w [(y, Obj.cells #[.int .i64 (s.tk i), .int .i64 (s.tw i), .int .i64 (s.tg i)] 62), (b1, Obj.cells #[.slice la' (i + 1) lc', .slice va s.nm vc, .int .i64 s.wide] 25), (b2, Obj.cells #[.slice lb i lc2, .slice va s.nm vc, .int .i64 s.wide] 25), (x1, Obj.cells #[.slice (some ⟨tb, to_, none⟩) s.nt sc, .slice va s.nm vc, .int .i64 s.wide] 25)] U ∧ c2 ≤ U.heap.size) := Lib.hid fun U h => by rw [hIe] at h; exact h
          have HIm : Hid (∀ U, KpS w [(y, Obj.cells #[.int .i64 (s.tk i), .int .i64 (s.tw i), .int .i64 (s.tg i)] 62), (b1, Obj.cells #[.slice la' (i + 1) lc', .slice va s.nm vc, .int .i64 s.wide] 25), (b2, Obj.cells #[.slice lb i lc2, .slice va s.nm vc, .int .i64 s.wide] 25), (x1, Obj.cells #[.slice (some ⟨tb, to_, none⟩) s.nt sc, .slice va s.nm vc, .int .i64 s.wide] 25)] U ∧ c2 ≤ U.heap.size → I U) := Lib.hid fun U h => by rw [hIe]; exact h
          clear hIe v1 v2 Hw1 Hw2 Hrem
          (refine wp_region_chainJ 14 [11, 12, 13] (I) (hI) (hIw) (by kernel_rfl) (by kernel_rfl) (by decide) ?_; simp only [without, only, withNo, List.take_succ_cons, List.take_zero, List.drop_succ_cons, List.drop_zero, List.take_nil, List.drop_nil, Nat.reduceAdd, Nat.reduceSub, List.filter, List.contains_cons, List.contains_nil, Nat.reduceBEq, Bool.or_false, Bool.false_or, Bool.true_or, Bool.or_true, Bool.or_self, Bool.not_true, Bool.not_false, List.map_cons, List.map_nil])
          refine wpCalmJ_go rfl (.pointer (some ⟨b2, 0, none⟩)) (fun U hU => by go_simp) ?_
          simp only [Act.put, List.setIfInBounds_toArray, List.set_cons_zero, List.set_cons_succ]
          refine wpCalmJ_go rfl (.slice lb i lc2) (fun U hU => by have e1 := cell_of_heap (HI.out U hU).1.drop.drop.hd (i := 0) rfl; go_simp) ?_
          simp only [Act.put, List.setIfInBounds_toArray, List.set_cons_zero, List.set_cons_succ]
          refine wpCalmJ_go rfl (.pointer (some ⟨y, 0, none⟩)) (fun U hU => by go_simp) ?_
          simp only [Act.put, List.setIfInBounds_toArray, List.set_cons_zero, List.set_cons_succ]
          refine wpCalmJ_go rfl (.int .i64 (s.tk i)) (fun U hU => by have e1 := cell_of_heap (HI.out U hU).1.hd (i := 0) rfl; go_simp) ?_
          simp only [Act.put, List.setIfInBounds_toArray, List.set_cons_zero, List.set_cons_succ]
          refine wpCalmJ_go rfl (.pointer (some ⟨y, 1, none⟩)) (fun U hU => by go_simp) ?_
          simp only [Act.put, List.setIfInBounds_toArray, List.set_cons_zero, List.set_cons_succ]
          refine wpCalmJ_go rfl (.int .i64 (s.tw i)) (fun U hU => by have e1 := cell_of_heap (HI.out U hU).1.hd (i := 1) rfl; go_simp) ?_
          simp only [Act.put, List.setIfInBounds_toArray, List.set_cons_zero, List.set_cons_succ]
          refine wpCalmJ_go rfl (.int .u16 (H : Nat)) (fun U hU => by go_simp) ?_
          simp only [Act.put, List.setIfInBounds_toArray, List.set_cons_zero, List.set_cons_succ]
          refine wpCalmJ_go rfl (.int .i64 (H : Nat)) (fun U hU => by have e1 := Hv1.out; go_simp) ?_
          simp only [Act.put, List.setIfInBounds_toArray, List.set_cons_zero, List.set_cons_succ]
          refine wpCalmJ_go rfl (.int .i64 (s.tw i + (H : Int))) (fun U hU => by have e1 := Hv2.out; go_simp) ?_
          simp only [Act.put, List.setIfInBounds_toArray, List.set_cons_zero, List.set_cons_succ]
          refine wpCalmJ_go rfl (.pointer (some ⟨y, 2, none⟩)) (fun U hU => by go_simp) ?_
          simp only [Act.put, List.setIfInBounds_toArray, List.set_cons_zero, List.set_cons_succ]
          refine wpCalmJ_go rfl (.int .i64 (s.tg i)) (fun U hU => by have e1 := cell_of_heap (HI.out U hU).1.hd (i := 2) rfl; go_simp) ?_
          simp only [Act.put, List.setIfInBounds_toArray, List.set_cons_zero, List.set_cons_succ]
          refine wpCalm_nilJ ?_
          refine wpChain_stepOJ (fun K hK nd xd hgd => ?_)
          go_simp
          refine (thing_c _ _ _ _).mono ?_
          rintro e U ⟨rfl, g⟩
          refine ⟨_, rfl, hI _ _ hgd g, hK _ _ ?_⟩
          have gU : X5.grows U := (World.grows_plus _ _ _).trans g
          clear hK K hgd g
          refine wpChain_stepOJ (fun K hK nd xd hgd => ?_)
          go_simp
          refine ⟨hI _ _ hgd (by (repeat (first | exact World.grows.refl _ | assumption | refine World.grows.alloc ?_ _ | refine World.grows.plus ?_ _ _ | refine World.grows.drew ?_))), hK _ _ ?_⟩
          clear hK K hgd
          have gV : X5.grows ((U.plus nd xd).alloc (.cells #[.int .i64 (s.tk i), .int .i64 (s.tw i + (H : Int)), .int .i64 (s.tg i)] 62)) := gU.trans ((World.grows_plus _ _ _).trans (by (repeat (first | exact World.grows.refl _ | assumption | refine World.grows.alloc ?_ _ | refine World.grows.plus ?_ _ _ | refine World.grows.drew ?_))))
          refine wpChainJ_append_h rfl (.tmp 74) (.tmp 85) 22 (by rfl) c2 62 (.agg #[.int .i64 0, .int .i64 0, .int .i64 0]) 3 24 Try.underlying22 el62 (by rfl) (by omega) (.slice lb i lc2) i _ (by rfl) (RO2.out.b.grow gV) _ (by rfl) 1 _ (fun W0 g => SliceAt.src (by omega) ((one_thing (U.plus nd xd) (.int .i64 (s.tk i)) (.int .i64 (s.tw i + (H : Int))) (.int .i64 (s.tg i)) 62 _ (by simp)).mono g)) (by rw [three_row]; exact three_one _ _ _) (by omega) (by unfold maxLen; omega) (by omega) (Nat.le_trans RS2.out gV.size) ?_
          rintro W0 v' w' hgW hI0 hown hgb hbl
          have hS0 := (RO2.out.grow gV).grow hgW
          have hKa := (HI.out W0 hI0).1.kept hS0.b hgb (by omega) (by
            intro y' hy e
            have := HNb.out _ e
            simp only [List.mem_cons, List.not_mem_nil, or_false] at hy
            rcases hy with rfl | rfl | rfl | rfl <;> simp only at this <;> omega)
          have hSa : c2 ≤ w'.heap.size := Nat.le_trans (HI.out W0 hI0).2 hgb.size
          have hS1 := (hS0.swap.app hown hgb hbl).swap
          obtain ⟨lb', lc3, rfl, -, -⟩ := row_form hown
          refine ⟨HIm.out _ ⟨hKa, hSa⟩, ?_⟩
          refine wpChain_nilJ (fun nc2 xc2 => ?_)
          have gX := World.grows_plus w' nc2 xc2
          rw [three_row, ← HRy.out] at hS1
          have RO := Lib.hid (hS1.grow gX)
          have RK := hKa.mono gX
          have RS := Nat.le_trans hSa gX.size
          clear hown hgb hbl hS0 hS1 hI0 hgW gV gU hI hIw HI HIm hKa hSa RO2 RK2 RS2 Hv1 Hv2
          generalize w'.plus nc2 xc2 = X6 at RO RK RS gX ⊢
          clear gX
          have q0 := cell_of_heap RK.drop.drop.hd (i := 0) rfl
          have f0 := frozen_of_heap RK.drop.drop.hd 0
          have RK2 : Hid (KpS w [(y, Obj.cells #[.int .i64 (s.tk i), .int .i64 (s.tw i), .int .i64 (s.tg i)] 62), (b1, Obj.cells #[.slice la' (i + 1) lc', .slice va s.nm vc, .int .i64 s.wide] 25), (b2, Obj.cells #[.slice lb' (i + 1) lc3, .slice va s.nm vc, .int .i64 s.wide] 25), (x1, Obj.cells #[.slice (some ⟨tb, to_, none⟩) s.nt sc, .slice va s.nm vc, .int .i64 s.wide] 25)] (X6.setCell ⟨b2, 0, none⟩ (.slice lb' (i + 1) lc3))) := Lib.hid (RK.setO (by omega) RK.drop.drop.hd (by
            intro y' hy
            simp only [List.mem_cons, List.not_mem_nil, or_false] at hy
            rcases hy with rfl | rfl | rfl | rfl
            rotate_left 2
            · exact .inl rfl
            all_goals exact .inr ⟨by simp, by dsimp only; omega⟩))
          have RS2 : Hid (c2 ≤ (X6.setCell ⟨b2, 0, none⟩ (.slice lb' (i + 1) lc3)).heap.size) := Lib.hid (by simpa using RS)
          have RO2 := Lib.hid (RO.out.set (p := ⟨b2, 0, none⟩) hb2c (.slice lb' (i + 1) lc3))
          clear RO RK RS
          rw [← HX2.out, ← HY2.out] at RO2
          go_wp2
          case roundEnd => exact ⟨⟨i + 1, la', lb', lc', lc3, by omega, by go_num, RO2, RS2, Lib.hid RK2.out.drop⟩, by simp [intOf]; omega⟩
        · have hltI : ¬ (i : Int) < s.nt := by omega
          obtain rfl : i = s.nt := by omega
          have p0 := cell_of_heap HK.out.hd (i := 0) rfl
          have p1 := cell_of_heap HK.out.hd (i := 1) rfl
          have p2 := cell_of_heap HK.out.hd (i := 2) rfl
          have r0 := cell_of_heap HK.out.drop.hd (i := 0) rfl
          have r1 := cell_of_heap HK.out.drop.hd (i := 1) rfl
          have r2 := cell_of_heap HK.out.drop.hd (i := 2) rfl
          have q0 := cell_of_heap HK.out.drop.drop.hd (i := 0) rfl
          have q1 := cell_of_heap HK.out.drop.drop.hd (i := 1) rfl
          have q2 := cell_of_heap HK.out.drop.drop.hd (i := 2) rfl
          have hX : StkAt W2 (.agg #[.slice la s.nt lc, .slice va s.nm vc, .int .i64 s.wide]) (s.sub (turnL s.nt T)) := ⟨_, _, rfl, rowsT_at (by rw [turnL_len]; exact hS.out.a), HMt.out.mono HK.out.g⟩
          have hY : StkAt W2 (.agg #[.slice lb s.nt lc2, .slice va s.nm vc, .int .i64 s.wide]) (s.heavy (H : Int)) := ⟨_, _, rfl, hS.out.b.sliceAt fun i j hi hj => by
            have := rowsT_get (s.heavy (H : Int)) (List.range s.nt) i j (by rw [List.length_range]; exact hi) hj
            rwa [range_getD hi] at this, HMt.out.mono HK.out.g⟩
          have hTk : ∀ i, i < s.nt → kindsF (s.sub (turnL s.nt T)) i = kindsF s ((i + T) % s.nt) := fun i hi => turn_kinds h16 T hi
          have hxo := turn_ok HOk.out T
          have hxn := turn_nu h16 T
          have hxl : (s.sub (turnL s.nt T)).nt = s.nt := turnL_len _ _
          obtain ⟨S2, hS2⟩ : ∃ x, s.sub (turnL s.nt T) = x := ⟨_, rfl⟩
          obtain ⟨NU, hNU⟩ : ∃ x, nu s.adj (belowN s.nt) 16 = x := ⟨_, rfl⟩
          obtain ⟨NC, hNC⟩ : ∃ x, cnt s.adj (belowN s.nt) 16 = x := ⟨_, rfl⟩
          rw [hS2] at hX hTk hxo hxn hxl
          rw [hNU, hNC] at hxn
          have HX := Lib.hid hX
          have HY := Lib.hid hY
          have HTk := Lib.hid hTk
          have HXo := Lib.hid hxo
          have HXn := Lib.hid hxn
          have HXl := Lib.hid hxl
          have HNU := Lib.hid hNU
          have HNC := Lib.hid hNC
          clear hS2 hNU hNC hX hY hTk hxo hxn hxl hS hC hi hlt
          go_wp2_with (go_at_call 99; fail)
          refine (v_best (HT.out.mono (HK.out.g.trans (by (repeat (first | exact World.grows.refl _ | assumption | refine World.grows.alloc ?_ _ | refine World.grows.plus ?_ _ _ | refine World.grows.drew ?_))))) HOk.out HNU.out).mono ?_
          rintro e V1 ⟨a1, d1, m1, rfl, -, -, g⟩
          replace HX := Lib.hid (HX.out.mono (World.grows.trans (by (repeat (first | exact World.grows.refl _ | assumption | refine World.grows.alloc ?_ _ | refine World.grows.plus ?_ _ _ | refine World.grows.drew ?_))) g)); replace HY := Lib.hid (HY.out.mono (World.grows.trans (by (repeat (first | exact World.grows.refl _ | assumption | refine World.grows.alloc ?_ _ | refine World.grows.plus ?_ _ _ | refine World.grows.drew ?_))) g)); replace HK := Lib.hid (HK.out.mono (World.grows.trans (by (repeat (first | exact World.grows.refl _ | assumption | refine World.grows.alloc ?_ _ | refine World.grows.plus ?_ _ _ | refine World.grows.drew ?_))) g)); replace p0 := cell_of_heap (i := 0) HK.out.hd rfl; replace p1 := cell_of_heap (i := 1) HK.out.hd rfl; replace p2 := cell_of_heap (i := 2) HK.out.hd rfl; replace r0 := cell_of_heap (i := 0) HK.out.drop.hd rfl; replace r1 := cell_of_heap (i := 1) HK.out.drop.hd rfl; replace r2 := cell_of_heap (i := 2) HK.out.drop.hd rfl; replace q0 := cell_of_heap (i := 0) HK.out.drop.drop.hd rfl; replace q1 := cell_of_heap (i := 1) HK.out.drop.drop.hd rfl; replace q2 := cell_of_heap (i := 2) HK.out.drop.drop.hd rfl; clear g
          go_wp2_with (go_at_call 99; fail)
          refine (v_best (HX.out.mono (by (repeat (first | exact World.grows.refl _ | assumption | refine World.grows.alloc ?_ _ | refine World.grows.plus ?_ _ _ | refine World.grows.drew ?_)))) HXo.out HXn.out.1).mono ?_
          rintro e V2 ⟨a2, d2, m2, rfl, -, -, g⟩
          replace HX := Lib.hid (HX.out.mono (World.grows.trans (by (repeat (first | exact World.grows.refl _ | assumption | refine World.grows.alloc ?_ _ | refine World.grows.plus ?_ _ _ | refine World.grows.drew ?_))) g)); replace HY := Lib.hid (HY.out.mono (World.grows.trans (by (repeat (first | exact World.grows.refl _ | assumption | refine World.grows.alloc ?_ _ | refine World.grows.plus ?_ _ _ | refine World.grows.drew ?_))) g)); replace HK := Lib.hid (HK.out.mono (World.grows.trans (by (repeat (first | exact World.grows.refl _ | assumption | refine World.grows.alloc ?_ _ | refine World.grows.plus ?_ _ _ | refine World.grows.drew ?_))) g)); replace p0 := cell_of_heap (i := 0) HK.out.hd rfl; replace p1 := cell_of_heap (i := 1) HK.out.hd rfl; replace p2 := cell_of_heap (i := 2) HK.out.hd rfl; replace r0 := cell_of_heap (i := 0) HK.out.drop.hd rfl; replace r1 := cell_of_heap (i := 1) HK.out.drop.hd rfl; replace r2 := cell_of_heap (i := 2) HK.out.drop.hd rfl; replace q0 := cell_of_heap (i := 0) HK.out.drop.drop.hd rfl; replace q1 := cell_of_heap (i := 1) HK.out.drop.drop.hd rfl; replace q2 := cell_of_heap (i := 2) HK.out.drop.drop.hd rfl; clear g
          go_wp2_with (go_at_call 99; fail)
          refine (v_count (HT.out.mono (HK.out.g.trans (by (repeat (first | exact World.grows.refl _ | assumption | refine World.grows.alloc ?_ _ | refine World.grows.plus ?_ _ _ | refine World.grows.drew ?_))))) HOk.out HNC.out).mono ?_
          rintro e V3 ⟨rfl, g⟩
          replace HX := Lib.hid (HX.out.mono (World.grows.trans (by (repeat (first | exact World.grows.refl _ | assumption | refine World.grows.alloc ?_ _ | refine World.grows.plus ?_ _ _ | refine World.grows.drew ?_))) g)); replace HY := Lib.hid (HY.out.mono (World.grows.trans (by (repeat (first | exact World.grows.refl _ | assumption | refine World.grows.alloc ?_ _ | refine World.grows.plus ?_ _ _ | refine World.grows.drew ?_))) g)); replace HK := Lib.hid (HK.out.mono (World.grows.trans (by (repeat (first | exact World.grows.refl _ | assumption | refine World.grows.alloc ?_ _ | refine World.grows.plus ?_ _ _ | refine World.grows.drew ?_))) g)); replace p0 := cell_of_heap (i := 0) HK.out.hd rfl; replace p1 := cell_of_heap (i := 1) HK.out.hd rfl; replace p2 := cell_of_heap (i := 2) HK.out.hd rfl; replace r0 := cell_of_heap (i := 0) HK.out.drop.hd rfl; replace r1 := cell_of_heap (i := 1) HK.out.drop.hd rfl; replace r2 := cell_of_heap (i := 2) HK.out.drop.hd rfl; replace q0 := cell_of_heap (i := 0) HK.out.drop.drop.hd rfl; replace q1 := cell_of_heap (i := 1) HK.out.drop.drop.hd rfl; replace q2 := cell_of_heap (i := 2) HK.out.drop.drop.hd rfl; clear g
          go_wp2_with (go_at_call 99; fail)
          refine (v_count (HX.out.mono (by (repeat (first | exact World.grows.refl _ | assumption | refine World.grows.alloc ?_ _ | refine World.grows.plus ?_ _ _ | refine World.grows.drew ?_)))) HXo.out HXn.out.2).mono ?_
          rintro e V4 ⟨rfl, g⟩
          replace HX := Lib.hid (HX.out.mono (World.grows.trans (by (repeat (first | exact World.grows.refl _ | assumption | refine World.grows.alloc ?_ _ | refine World.grows.plus ?_ _ _ | refine World.grows.drew ?_))) g)); replace HY := Lib.hid (HY.out.mono (World.grows.trans (by (repeat (first | exact World.grows.refl _ | assumption | refine World.grows.alloc ?_ _ | refine World.grows.plus ?_ _ _ | refine World.grows.drew ?_))) g)); replace HK := Lib.hid (HK.out.mono (World.grows.trans (by (repeat (first | exact World.grows.refl _ | assumption | refine World.grows.alloc ?_ _ | refine World.grows.plus ?_ _ _ | refine World.grows.drew ?_))) g)); replace p0 := cell_of_heap (i := 0) HK.out.hd rfl; replace p1 := cell_of_heap (i := 1) HK.out.hd rfl; replace p2 := cell_of_heap (i := 2) HK.out.hd rfl; replace r0 := cell_of_heap (i := 0) HK.out.drop.hd rfl; replace r1 := cell_of_heap (i := 1) HK.out.drop.hd rfl; replace r2 := cell_of_heap (i := 2) HK.out.drop.hd rfl; replace q0 := cell_of_heap (i := 0) HK.out.drop.drop.hd rfl; replace q1 := cell_of_heap (i := 1) HK.out.drop.drop.hd rfl; replace q2 := cell_of_heap (i := 2) HK.out.drop.drop.hd rfl; clear g
          go_wp2_with (go_at_call 99; fail)
          refine (v_kinds (HT.out.mono (HK.out.g.trans (by (repeat (first | exact World.grows.refl _ | assumption | refine World.grows.alloc ?_ _ | refine World.grows.plus ?_ _ _ | refine World.grows.drew ?_))))) HOk.out).mono ?_
          rintro e V5 ⟨a5, d5, rfl, hk5, g⟩
          have HK5 := Lib.hid hk5
          clear hk5
          replace HX := Lib.hid (HX.out.mono (World.grows.trans (by (repeat (first | exact World.grows.refl _ | assumption | refine World.grows.alloc ?_ _ | refine World.grows.plus ?_ _ _ | refine World.grows.drew ?_))) g)); replace HY := Lib.hid (HY.out.mono (World.grows.trans (by (repeat (first | exact World.grows.refl _ | assumption | refine World.grows.alloc ?_ _ | refine World.grows.plus ?_ _ _ | refine World.grows.drew ?_))) g)); replace HK := Lib.hid (HK.out.mono (World.grows.trans (by (repeat (first | exact World.grows.refl _ | assumption | refine World.grows.alloc ?_ _ | refine World.grows.plus ?_ _ _ | refine World.grows.drew ?_))) g)); replace p0 := cell_of_heap (i := 0) HK.out.hd rfl; replace p1 := cell_of_heap (i := 1) HK.out.hd rfl; replace p2 := cell_of_heap (i := 2) HK.out.hd rfl; replace r0 := cell_of_heap (i := 0) HK.out.drop.hd rfl; replace r1 := cell_of_heap (i := 1) HK.out.drop.hd rfl; replace r2 := cell_of_heap (i := 2) HK.out.drop.hd rfl; replace q0 := cell_of_heap (i := 0) HK.out.drop.drop.hd rfl; replace q1 := cell_of_heap (i := 1) HK.out.drop.drop.hd rfl; replace q2 := cell_of_heap (i := 2) HK.out.drop.drop.hd rfl; clear g
          have h32 := v_kinds HX.out HXo.out
          rw [HXl.out] at h32
          go_wp2_with (go_at_call 99; fail)
          refine h32.mono ?_
          rintro e V6 ⟨a6, d6, rfl, hk6, g⟩
          have HK6 := Lib.hid hk6
          replace HK5 := Lib.hid (IntsAt.mono HK5.out (World.grows.trans (by (repeat (first | exact World.grows.refl _ | assumption | refine World.grows.alloc ?_ _ | refine World.grows.plus ?_ _ _ | refine World.grows.drew ?_))) g))
          clear hk6 h32
          replace HX := Lib.hid (HX.out.mono (World.grows.trans (by (repeat (first | exact World.grows.refl _ | assumption | refine World.grows.alloc ?_ _ | refine World.grows.plus ?_ _ _ | refine World.grows.drew ?_))) g)); replace HY := Lib.hid (HY.out.mono (World.grows.trans (by (repeat (first | exact World.grows.refl _ | assumption | refine World.grows.alloc ?_ _ | refine World.grows.plus ?_ _ _ | refine World.grows.drew ?_))) g)); replace HK := Lib.hid (HK.out.mono (World.grows.trans (by (repeat (first | exact World.grows.refl _ | assumption | refine World.grows.alloc ?_ _ | refine World.grows.plus ?_ _ _ | refine World.grows.drew ?_))) g)); replace p0 := cell_of_heap (i := 0) HK.out.hd rfl; replace p1 := cell_of_heap (i := 1) HK.out.hd rfl; replace p2 := cell_of_heap (i := 2) HK.out.hd rfl; replace r0 := cell_of_heap (i := 0) HK.out.drop.hd rfl; replace r1 := cell_of_heap (i := 1) HK.out.drop.hd rfl; replace r2 := cell_of_heap (i := 2) HK.out.drop.hd rfl; replace q0 := cell_of_heap (i := 0) HK.out.drop.drop.hd rfl; replace q1 := cell_of_heap (i := 1) HK.out.drop.drop.hd rfl; replace q2 := cell_of_heap (i := 2) HK.out.drop.drop.hd rfl; clear g
          go_wp2
          go_loopw [26] (fun i26 wr => ∃ t : Nat, t ≤ s.nt ∧ i26 = .int .i64 (t : Nat) ∧ Hid (V6.grows wr)) (fun i26 _ => s.nt - (intOf i26).toNat)
          case atStart => exact ⟨0, by omega, rfl, Lib.hid (World.grows.refl _)⟩
          case round => as_aux_lemma =>
            clear p0 p1 p2 q0 q1 q2 r0 r1 r2
            obtain ⟨t, ht, rfl, HG⟩ := hrel
            by_cases hlt : t < s.nt
            · have hltI2 : (t : Int) < s.nt := by omega
              have hlt0 : (0 : Int) ≤ (t : Int) := by omega
              obtain ⟨q, hqe⟩ : ∃ q, (t + T) % s.nt = q := ⟨_, rfl⟩
              have hq : q < s.nt := by rw [← hqe]; exact Nat.mod_lt _ (by omega)
              obtain ⟨b6, o6, rfl, c6⟩ := ints_at (IntsAt.mono HK6.out HG.out) hlt
              obtain ⟨b5, o5, rfl, c5⟩ := ints_at (IntsAt.mono HK5.out HG.out) hq
              rw [HTk.out t hlt, hqe] at c6
              obtain ⟨KV, hKV⟩ : ∃ x, kindsF s q = x := ⟨_, rfl⟩
              rw [hKV] at c5 c6
              have hrem : ((t : Int) + (T : Int)).tmod (s.nt : Int) = (q : Nat) := by have := rem_at hqe; rwa [Int.natCast_add] at this
              obtain ⟨w1, w2⟩ := wr_turn (show t ≤ 16 by omega) hT8
              have hqI : (q : Int) < s.nt := by omega
              have hnI : ¬ (s.nt : Int) = 0 := by omega
              have hnN : ¬ s.nt = 0 := by omega
              clear hKV hqe hltI
              go_upto_region 22 with fail
              (refine wp_region_calm (by kernel_rfl) (by kernel_rfl) ?_; (repeat (refine wpCalm_step (fun K hK => ?_); go_simp; first | (refine hK _ ?_; clear hK K) | (apply Exists.intro; refine ⟨fun n' x' => ?_, hK _ ?_⟩; (fail); clear hK K))); refine wpCalm_nil ?_; intro nq xq)
              replace HG := Lib.hid (HG.out.trans (World.grows_plus wr nq xq))
              generalize wr.plus nq xq = W9 at HG ⊢
              clear w1 w2 hrem c5 c6
              go_wp2
              case roundEnd => exact ⟨⟨t + 1, by omega, by go_num, HG⟩, by simp [intOf]; omega⟩
            · have hltI2 : ¬ (t : Int) < s.nt := by omega
              replace HK := Lib.hid (HK.out.mono HG.out)
              replace HY := Lib.hid (HY.out.mono HG.out)
              replace HX := Lib.hid (HX.out.mono HG.out)
              replace HK5 := Lib.hid (IntsAt.mono HK5.out HG.out)
              clear HG
              have p0 := cell_of_heap HK.out.hd (i := 0) rfl
              have p1 := cell_of_heap HK.out.hd (i := 1) rfl
              have p2 := cell_of_heap HK.out.hd (i := 2) rfl
              have r0 := cell_of_heap HK.out.drop.hd (i := 0) rfl
              have r1 := cell_of_heap HK.out.drop.hd (i := 1) rfl
              have r2 := cell_of_heap HK.out.drop.hd (i := 2) rfl
              have q0 := cell_of_heap HK.out.drop.drop.hd (i := 0) rfl
              have q1 := cell_of_heap HK.out.drop.drop.hd (i := 1) rfl
              have q2 := cell_of_heap HK.out.drop.drop.hd (i := 2) rfl
              go_wp2_with (go_at_call 99; fail)
              refine (fine_c _ _ (s.heavy (H : Int)) HY.out).mono ?_
              rintro e V7 ⟨rfl, g⟩
              replace HK5 := Lib.hid (IntsAt.mono HK5.out (World.grows.trans (by (repeat (first | exact World.grows.refl _ | assumption | refine World.grows.alloc ?_ _ | refine World.grows.plus ?_ _ _ | refine World.grows.drew ?_))) g))
              replace HX := Lib.hid (HX.out.mono (World.grows.trans (by (repeat (first | exact World.grows.refl _ | assumption | refine World.grows.alloc ?_ _ | refine World.grows.plus ?_ _ _ | refine World.grows.drew ?_))) g)); replace HY := Lib.hid (HY.out.mono (World.grows.trans (by (repeat (first | exact World.grows.refl _ | assumption | refine World.grows.alloc ?_ _ | refine World.grows.plus ?_ _ _ | refine World.grows.drew ?_))) g)); replace HK := Lib.hid (HK.out.mono (World.grows.trans (by (repeat (first | exact World.grows.refl _ | assumption | refine World.grows.alloc ?_ _ | refine World.grows.plus ?_ _ _ | refine World.grows.drew ?_))) g)); replace p0 := cell_of_heap (i := 0) HK.out.hd rfl; replace p1 := cell_of_heap (i := 1) HK.out.hd rfl; replace p2 := cell_of_heap (i := 2) HK.out.hd rfl; replace r0 := cell_of_heap (i := 0) HK.out.drop.hd rfl; replace r1 := cell_of_heap (i := 1) HK.out.drop.hd rfl; replace r2 := cell_of_heap (i := 2) HK.out.drop.hd rfl; replace q0 := cell_of_heap (i := 0) HK.out.drop.drop.hd rfl; replace q1 := cell_of_heap (i := 1) HK.out.drop.drop.hd rfl; replace q2 := cell_of_heap (i := 2) HK.out.drop.drop.hd rfl; clear g
              by_cases hyc : (s.heavy (H : Int)).check = 0
              · rw [decide_eq_true hyc]
                have hyo := (Stk.ok_iff _).1 hyc
                have HYo := Lib.hid hyo
                have HYn : Hid (nu (s.heavy (H : Int)).adj (belowN (s.heavy (H : Int)).nt) 16 = NU ∧ cnt (s.heavy (H : Int)).adj (belowN (s.heavy (H : Int)).nt) 16 = NC) := Lib.hid (by rw [heavy_adj, show (s.heavy (H : Int)).nt = s.nt from rfl]; exact ⟨HNU.out, HNC.out⟩)
                clear hyc hyo
                go_wp2_with (go_at_call 99; fail)
                refine (v_best (HY.out.mono (by (repeat (first | exact World.grows.refl _ | assumption | refine World.grows.alloc ?_ _ | refine World.grows.plus ?_ _ _ | refine World.grows.drew ?_)))) HYo.out HYn.out.1).mono ?_
                rintro e V8 ⟨a8, d8, m8, rfl, -, -, g⟩
                replace HK5 := Lib.hid (IntsAt.mono HK5.out (World.grows.trans (by (repeat (first | exact World.grows.refl _ | assumption | refine World.grows.alloc ?_ _ | refine World.grows.plus ?_ _ _ | refine World.grows.drew ?_))) g))
                replace HX := Lib.hid (HX.out.mono (World.grows.trans (by (repeat (first | exact World.grows.refl _ | assumption | refine World.grows.alloc ?_ _ | refine World.grows.plus ?_ _ _ | refine World.grows.drew ?_))) g)); replace HY := Lib.hid (HY.out.mono (World.grows.trans (by (repeat (first | exact World.grows.refl _ | assumption | refine World.grows.alloc ?_ _ | refine World.grows.plus ?_ _ _ | refine World.grows.drew ?_))) g)); replace HK := Lib.hid (HK.out.mono (World.grows.trans (by (repeat (first | exact World.grows.refl _ | assumption | refine World.grows.alloc ?_ _ | refine World.grows.plus ?_ _ _ | refine World.grows.drew ?_))) g)); replace p0 := cell_of_heap (i := 0) HK.out.hd rfl; replace p1 := cell_of_heap (i := 1) HK.out.hd rfl; replace p2 := cell_of_heap (i := 2) HK.out.hd rfl; replace r0 := cell_of_heap (i := 0) HK.out.drop.hd rfl; replace r1 := cell_of_heap (i := 1) HK.out.drop.hd rfl; replace r2 := cell_of_heap (i := 2) HK.out.drop.hd rfl; replace q0 := cell_of_heap (i := 0) HK.out.drop.drop.hd rfl; replace q1 := cell_of_heap (i := 1) HK.out.drop.drop.hd rfl; replace q2 := cell_of_heap (i := 2) HK.out.drop.drop.hd rfl; clear g
                go_wp2_with (go_at_call 99; fail)
                refine (v_count (HY.out.mono (by (repeat (first | exact World.grows.refl _ | assumption | refine World.grows.alloc ?_ _ | refine World.grows.plus ?_ _ _ | refine World.grows.drew ?_)))) HYo.out HYn.out.2).mono ?_
                rintro e V9 ⟨rfl, g⟩
                replace HK5 := Lib.hid (IntsAt.mono HK5.out (World.grows.trans (by (repeat (first | exact World.grows.refl _ | assumption | refine World.grows.alloc ?_ _ | refine World.grows.plus ?_ _ _ | refine World.grows.drew ?_))) g))
                replace HX := Lib.hid (HX.out.mono (World.grows.trans (by (repeat (first | exact World.grows.refl _ | assumption | refine World.grows.alloc ?_ _ | refine World.grows.plus ?_ _ _ | refine World.grows.drew ?_))) g)); replace HY := Lib.hid (HY.out.mono (World.grows.trans (by (repeat (first | exact World.grows.refl _ | assumption | refine World.grows.alloc ?_ _ | refine World.grows.plus ?_ _ _ | refine World.grows.drew ?_))) g)); replace HK := Lib.hid (HK.out.mono (World.grows.trans (by (repeat (first | exact World.grows.refl _ | assumption | refine World.grows.alloc ?_ _ | refine World.grows.plus ?_ _ _ | refine World.grows.drew ?_))) g)); replace p0 := cell_of_heap (i := 0) HK.out.hd rfl; replace p1 := cell_of_heap (i := 1) HK.out.hd rfl; replace p2 := cell_of_heap (i := 2) HK.out.hd rfl; replace r0 := cell_of_heap (i := 0) HK.out.drop.hd rfl; replace r1 := cell_of_heap (i := 1) HK.out.drop.hd rfl; replace r2 := cell_of_heap (i := 2) HK.out.drop.hd rfl; replace q0 := cell_of_heap (i := 0) HK.out.drop.drop.hd rfl; replace q1 := cell_of_heap (i := 1) HK.out.drop.drop.hd rfl; replace q2 := cell_of_heap (i := 2) HK.out.drop.drop.hd rfl; clear g
                have h32 := v_kinds HY.out HYo.out
                rw [heavy_kindsF, show (s.heavy (H : Int)).nt = s.nt from rfl] at h32
                go_wp2_with (go_at_call 99; fail)
                refine h32.mono ?_
                rintro e V10 ⟨a10, d10, rfl, hk10, g⟩
                have HK10 := Lib.hid hk10
                replace HK5 := Lib.hid (IntsAt.mono HK5.out (World.grows.trans (by (repeat (first | exact World.grows.refl _ | assumption | refine World.grows.alloc ?_ _ | refine World.grows.plus ?_ _ _ | refine World.grows.drew ?_))) g))
                clear hk10 h32
                replace HX := Lib.hid (HX.out.mono (World.grows.trans (by (repeat (first | exact World.grows.refl _ | assumption | refine World.grows.alloc ?_ _ | refine World.grows.plus ?_ _ _ | refine World.grows.drew ?_))) g)); replace HY := Lib.hid (HY.out.mono (World.grows.trans (by (repeat (first | exact World.grows.refl _ | assumption | refine World.grows.alloc ?_ _ | refine World.grows.plus ?_ _ _ | refine World.grows.drew ?_))) g)); replace HK := Lib.hid (HK.out.mono (World.grows.trans (by (repeat (first | exact World.grows.refl _ | assumption | refine World.grows.alloc ?_ _ | refine World.grows.plus ?_ _ _ | refine World.grows.drew ?_))) g)); replace p0 := cell_of_heap (i := 0) HK.out.hd rfl; replace p1 := cell_of_heap (i := 1) HK.out.hd rfl; replace p2 := cell_of_heap (i := 2) HK.out.hd rfl; replace r0 := cell_of_heap (i := 0) HK.out.drop.hd rfl; replace r1 := cell_of_heap (i := 1) HK.out.drop.hd rfl; replace r2 := cell_of_heap (i := 2) HK.out.drop.hd rfl; replace q0 := cell_of_heap (i := 0) HK.out.drop.drop.hd rfl; replace q1 := cell_of_heap (i := 1) HK.out.drop.drop.hd rfl; replace q2 := cell_of_heap (i := 2) HK.out.drop.drop.hd rfl; clear g
                go_wp2_with (go_at_call 99; fail)
                refine (w_ints (IntsAt.mono HK10.out (by (repeat (first | exact World.grows.refl _ | assumption | refine World.grows.alloc ?_ _ | refine World.grows.plus ?_ _ _ | refine World.grows.drew ?_)))) (IntsAt.mono HK5.out (by (repeat (first | exact World.grows.refl _ | assumption | refine World.grows.alloc ?_ _ | refine World.grows.plus ?_ _ _ | refine World.grows.drew ?_))))).mono ?_
                rintro e V11 ⟨rfl, g⟩
                replace HX := Lib.hid (HX.out.mono (World.grows.trans (by (repeat (first | exact World.grows.refl _ | assumption | refine World.grows.alloc ?_ _ | refine World.grows.plus ?_ _ _ | refine World.grows.drew ?_))) g)); replace HY := Lib.hid (HY.out.mono (World.grows.trans (by (repeat (first | exact World.grows.refl _ | assumption | refine World.grows.alloc ?_ _ | refine World.grows.plus ?_ _ _ | refine World.grows.drew ?_))) g)); replace HK := Lib.hid (HK.out.mono (World.grows.trans (by (repeat (first | exact World.grows.refl _ | assumption | refine World.grows.alloc ?_ _ | refine World.grows.plus ?_ _ _ | refine World.grows.drew ?_))) g)); replace p0 := cell_of_heap (i := 0) HK.out.hd rfl; replace p1 := cell_of_heap (i := 1) HK.out.hd rfl; replace p2 := cell_of_heap (i := 2) HK.out.hd rfl; replace r0 := cell_of_heap (i := 0) HK.out.drop.hd rfl; replace r1 := cell_of_heap (i := 1) HK.out.drop.hd rfl; replace r2 := cell_of_heap (i := 2) HK.out.drop.hd rfl; replace q0 := cell_of_heap (i := 0) HK.out.drop.drop.hd rfl; replace q1 := cell_of_heap (i := 1) HK.out.drop.drop.hd rfl; replace q2 := cell_of_heap (i := 2) HK.out.drop.drop.hd rfl; clear g
                go_wp2_with (go_at_call 99; fail); refine (works_c _).mono ?_; rintro e U9 ⟨rfl, g⟩; replace HK := Lib.hid (HK.out.mono (World.grows.trans (by (repeat (first | exact World.grows.refl _ | assumption | refine World.grows.alloc ?_ _ | refine World.grows.plus ?_ _ _ | refine World.grows.drew ?_))) g)); clear g; go_wp2; (refine bodyPost_ret (v := .bool true) (by simp [results, Try.results10, go_sem]) rfl ?_); exact ⟨rfl, HK.out.g.trans (by (repeat (first | exact World.grows.refl _ | assumption | refine World.grows.alloc ?_ _ | refine World.grows.plus ?_ _ _ | refine World.grows.drew ?_)))⟩
              · rw [decide_eq_false hyc]
                clear hyc
                go_wp2_with (go_at_call 99; fail); refine (works_c _).mono ?_; rintro e U9 ⟨rfl, g⟩; replace HK := Lib.hid (HK.out.mono (World.grows.trans (by (repeat (first | exact World.grows.refl _ | assumption | refine World.grows.alloc ?_ _ | refine World.grows.plus ?_ _ _ | refine World.grows.drew ?_))) g)); clear g; go_wp2; (refine bodyPost_ret (v := .bool true) (by simp [results, Try.results10, go_sem]) rfl ?_); exact ⟨rfl, HK.out.g.trans (by (repeat (first | exact World.grows.refl _ | assumption | refine World.grows.alloc ?_ _ | refine World.grows.plus ?_ _ _ | refine World.grows.drew ?_)))⟩
  · rw [decide_eq_false hc]
    clear hc
    go_wp2_with (go_at_call 99; fail); refine (works_c _).mono ?_; rintro e U9 ⟨rfl, g⟩; replace HK := Lib.hid (HK.out.mono (World.grows.trans (by (repeat (first | exact World.grows.refl _ | assumption | refine World.grows.alloc ?_ _ | refine World.grows.plus ?_ _ _ | refine World.grows.drew ?_))) g)); clear g; go_wp2; (refine bodyPost_ret (v := .bool true) (by simp [results, Try.results10, go_sem]) rfl ?_); exact ⟨rfl, HK.out.g.trans (by (repeat (first | exact World.grows.refl _ | assumption | refine World.grows.alloc ?_ _ | refine World.grows.plus ?_ _ _ | refine World.grows.drew ?_)))⟩
end Go.Proofs.Yteingahlmlndkaa

