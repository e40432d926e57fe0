/-
  What is proved: the answers about a valid stock, in the words of the statements.
-/
import Derived.Test.YteingahlmlndkaaM15
import Derived.Test.YteingahlmlndkaaM14
import Derived.Test.YteingahlmlndkaaM10
import Derived.Test.YteingahlmlndkaaM12
import Derived.Test.YteingahlmlndkaaM5
import Derived.Test.YteingahlmlndkaaM8
import Derived.Test.YteingahlmlndkaaM13
set_option linter.all false
namespace Go.Proofs.Yteingahlmlndkaa
open Go.RowKit
attribute [local irreducible] Go.wpCalm rowV
section
variable {X : World} {tv : Value} {s : Stk}
theorem v_best (h : StkAt X tv s) (hok : s.Ok) {N : Nat} (hN : nu s.adj (belowN s.nt) 16 = N) : Calls Try.prog 27 #[tv] X fun e w' => ∃ a c m, e = .returned (.tuple #[.slice a s.nt c, .int .i64 (N : Nat), .int .i64 0]) ∧ Mx s.adj (belowN s.nt) 16 m ∧ IntsAt w' (.slice a s.nt c) s.nt (mvI m) ∧ X.grows w' := by
  refine (bestF_ok X tv s h hok).mono ?_
  rintro e w' ⟨u, m, rfl, hm, hu, g⟩
  rw [hN]
  obtain ⟨a, c, rfl, -⟩ := id hu
  exact ⟨a, c, m, rfl, hm, hu, g⟩
/-- the list of all kinds -/
noncomputable def kindsF (s : Stk) (i : Nat) : Int := ((((List.range s.nt).map (kindN s.adj s.nt)).getD i 0 : Nat) : Int)
theorem kindsF_at {i : Nat} (hi : i < s.nt) : kindsF s i = (kindN s.adj s.nt i : Nat) := by
  unfold kindsF
  rw [List.getD_eq_getElem?_getD, List.getElem?_map, List.getElem?_range hi]
  rfl
theorem v_kinds (h : StkAt X tv s) (hok : s.Ok) : Calls Try.prog 32 #[tv] X fun e w' => ∃ a c, e = .returned (.tuple #[.slice a s.nt c, .int .i64 0]) ∧ IntsAt w' (.slice a s.nt c) s.nt (kindsF s) ∧ X.grows w' := by
  refine (kinds_ok X tv s h hok).mono ?_
  rintro e w' ⟨u, rfl, hu, g⟩
  have hu2 : IntsAt w' u s.nt (kindsF s) := by
    have : ((List.range s.nt).map (kindN s.adj s.nt)).length = s.nt := by rw [List.length_map, List.length_range]
    unfold ListAt at hu
    rw [this] at hu
    exact hu
  obtain ⟨a, c, rfl, -⟩ := id hu2
  exact ⟨a, c, rfl, hu2, g⟩
end
end Go.Proofs.Yteingahlmlndkaa

/-
  What is proved: a stock of some of a stock's things, and how its rows lie (plain).
-/
namespace Go.Proofs.Yteingahlmlndkaa
open Go.RowKit
/-- the stock of these things -/
def Stk.sub (s : Stk) (L : List Nat) : Stk := { s with nt := L.length, tk := fun i => s.tk (L.getD i 0), tw := fun i => s.tw (L.getD i 0), tg := fun i => s.tg (L.getD i 0) }
theorem Stk.Ok.sub {s : Stk} (h : s.Ok) {L : List Nat} (hl : L.length ≤ 16) (hL : ∀ t ∈ L, t < s.nt) : (s.sub L).Ok := by
  have key : ∀ i, i < L.length → L.getD i 0 < s.nt := fun i hi => by
    rw [List.getD_eq_getElem?_getD, List.getElem?_eq_getElem hi]
    exact hL _ (List.getElem_mem hi)
  exact ⟨hl, h.m20, fun i hi => h.tk _ (key i hi), fun i hi => h.tg _ (key i hi), fun i hi => h.tw _ (key i hi), h.ma, h.mb, h.wide⟩
/-- the cells of these things, one behind the other -/
def rowsT (s : Stk) (L : List Nat) : List Value := L.flatMap fun t => [tcell s t 0, tcell s t 1, tcell s t 2]
theorem rowsT_snoc (s : Stk) (L : List Nat) (t : Nat) : rowsT s (L ++ [t]) = rowsT s L ++ [tcell s t 0, tcell s t 1, tcell s t 2] := by
  unfold rowsT
  rw [List.flatMap_append]
  rfl
theorem rowsT_get (s : Stk) : ∀ (L : List Nat) (i j : Nat), i < L.length → j < 3 → (rowsT s L)[i * 3 + j]? = some (tcell s (L.getD i 0) j)
  | [], i, j, h, _ => absurd h (Nat.not_lt_zero _)
  | t :: L, i, j, hi, hj => by
    have e : rowsT s (t :: L) = [tcell s t 0, tcell s t 1, tcell s t 2] ++ rowsT s L := rfl
    rw [e]
    by_cases h0 : i = 0
    · subst h0
      rw [List.getElem?_append_left (by simp; omega)]
      rcases (show j = 0 ∨ j = 1 ∨ j = 2 by omega) with rfl | rfl | rfl <;> rfl
    · obtain ⟨k, rfl⟩ : ∃ k, i = k + 1 := ⟨i - 1, by omega⟩
      rw [List.getElem?_append_right (by simp; omega)]
      have := rowsT_get s L k j (by simpa using hi) hj
      rw [show (k + 1) * 3 + j - [tcell s t 0, tcell s t 1, tcell s t 2].length = k * 3 + j by simp; omega, this]
      rfl
theorem rowsT_at {s : Stk} {L : List Nat} {U : World} {base : Nat} {e : TypeId} {v : Value} (h : U.ownsRow base e 3 v L.length (rowsT s L)) : SliceAt U v (s.sub L).nt 3 (tcell (s.sub L)) :=
  h.sliceAt (n := L.length) fun i j hi hj => rowsT_get s L i j hi hj
theorem tcell_one (s : Stk) (t : Nat) : ∀ u ∈ [tcell s t 0, tcell s t 1, tcell s t 2], u.oneCell' = true := by
  intro u hu
  simp only [List.mem_cons, List.not_mem_nil, or_false] at hu
  rcases hu with rfl | rfl | rfl <;> rfl
theorem nodup_getD {L : List Nat} (h : L.Nodup) {i k : Nat} (hi : i < L.length) (hk : k < L.length) (e : L.getD i 0 = L.getD k 0) : i = k := by
  rw [List.getD_eq_getElem?_getD, List.getD_eq_getElem?_getD, List.getElem?_eq_getElem hi, List.getElem?_eq_getElem hk] at e
  exact (List.getElem_inj h).1 e
/-- things suit each other as they did -/
theorem Stk.adj_sub {s : Stk} {L : List Nat} (hd : L.Nodup) (hL : ∀ t ∈ L, t < s.nt) {i k : Nat} (hi : i < L.length) (hk : k < L.length) : (s.sub L).adj i k = s.adj (L.getD i 0) (L.getD k 0) := by
  have key : ∀ i, i < L.length → L.getD i 0 < s.nt := fun i hi => by
    rw [List.getD_eq_getElem?_getD, List.getElem?_eq_getElem hi]
    exact hL _ (List.getElem_mem hi)
  rw [Stk.adj_suits (s := s.sub L) hi hk, Stk.adj_suits (key i hi) (key k hk)]
  have e : decide (i = k) = decide (L.getD i 0 = L.getD k 0) := decide_eq_decide.2 ⟨fun e => by rw [e], fun e => nodup_getD hd hi hk e⟩
  unfold Stk.suits
  rw [e]
  rfl
/-- matchings of these things are as many -/
theorem num_sub {s : Stk} {L : List Nat} (hd : L.Nodup) (hl : L.length ≤ 16) (h16 : s.nt ≤ 16) (hL : ∀ t ∈ L, t < s.nt) {S' S : Nat → Bool} (h1 : ∀ a, S' a = true → a < L.length) (h2 : ∀ a, a < L.length → (S (L.getD a 0) = true ↔ S' a = true)) (h3 : ∀ v, S v = true → v ∈ L) (k : Nat) : num (s.sub L).adj 16 S' k = num s.adj 16 S k := by
  have key : ∀ i, i < L.length → L.getD i 0 ∈ L := fun i hi => by
    rw [List.getD_eq_getElem?_getD, List.getElem?_eq_getElem hi]
    exact List.getElem_mem hi
  refine num_other s.adj_symm s.adj_irr (fun i => L.getD i 0) 16 S' S (fun a _ ha => ?_) (fun a b _ _ ha hb => ?_) (fun x _ hx => ?_) k
  · have h4 := h1 a ha
    exact ⟨by have := hL _ (key a h4); omega, (h2 a h4).2 ha⟩
  · exact ⟨fun e => nodup_getD hd (h1 a ha) (h1 b hb) e, Stk.adj_sub hd hL (h1 a ha) (h1 b hb)⟩
  · obtain ⟨a, ha⟩ := List.getElem?_of_mem (h3 x hx)
    have hlt := (List.getElem?_eq_some_iff.1 ha).1
    have he : L.getD a 0 = x := by rw [List.getD_eq_getElem?_getD, ha]; rfl
    exact ⟨a, by omega, (h2 a hlt).1 (by rw [he]; exact hx), he⟩
theorem nu_sub {s : Stk} {L : List Nat} (hd : L.Nodup) (hl : L.length ≤ 16) (h16 : s.nt ≤ 16) (hL : ∀ t ∈ L, t < s.nt) {S' S : Nat → Bool} (h1 : ∀ a, S' a = true → a < L.length) (h2 : ∀ a, a < L.length → (S (L.getD a 0) = true ↔ S' a = true)) (h3 : ∀ v, S v = true → v ∈ L) : nu (s.sub L).adj S' 16 = nu s.adj S 16 ∧ cnt (s.sub L).adj S' 16 = cnt s.adj S 16 :=
  nu_other s.adj_symm (s.sub L).adj_symm fun j => num_sub hd hl h16 hL h1 h2 h3 j
/-- all of these things -/
theorem nu_sub_all {s : Stk} {L : List Nat} (hd : L.Nodup) (hl : L.length ≤ 16) (h16 : s.nt ≤ 16) (hL : ∀ t ∈ L, t < s.nt) {S : Nat → Bool} (hS : ∀ v, S v = true ↔ v ∈ L) : nu (s.sub L).adj (belowN (s.sub L).nt) 16 = nu s.adj S 16 ∧ cnt (s.sub L).adj (belowN (s.sub L).nt) 16 = cnt s.adj S 16 :=
  nu_sub hd hl h16 hL (fun a ha => belowN_lt ha) (fun a ha => ⟨fun _ => by unfold belowN; exact decide_eq_true ha, fun _ => (hS _).2 (by
    rw [List.getD_eq_getElem?_getD, List.getElem?_eq_getElem ha]
    exact List.getElem_mem ha)⟩) (fun v hv => (hS v).1 hv)
/-! ### without one or two things -/
def woutP (x y : Int) (t : Nat) : Bool := !decide ((t : Int) = x) && !decide ((t : Int) = y)
def woutL (n : Nat) (x y : Int) : List Nat := filtL (woutP x y) n
theorem woutL_mem {n : Nat} {x y : Int} {t : Nat} : t ∈ woutL n x y ↔ t < n ∧ (t : Int) ≠ x ∧ (t : Int) ≠ y := by
  unfold woutL
  rw [mem_filtL]
  unfold woutP
  simp
theorem filtL_nodup (X : Nat → Bool) (n : Nat) : (filtL X n).Nodup := List.Pairwise.filter _ List.nodup_range
theorem filtL_range_le (X : Nat → Bool) (n : Nat) : (filtL X n).length ≤ n := by
  refine Nat.le_trans (List.length_filter_le _ _) ?_
  rw [List.length_range]
  omega
theorem wout_ok {s : Stk} (h : s.Ok) (x y : Int) : (s.sub (woutL s.nt x y)).Ok :=
  h.sub (by have := filtL_range_le (woutP x y) s.nt; have := h.n16; unfold woutL; omega) fun t ht => (woutL_mem.1 ht).1
theorem nu_wout {s : Stk} (h : s.Ok) (x y : Int) {S : Nat → Bool} (hS : ∀ v : Nat, S v = true ↔ v < s.nt ∧ (v : Int) ≠ x ∧ (v : Int) ≠ y) : nu (s.sub (woutL s.nt x y)).adj (belowN (s.sub (woutL s.nt x y)).nt) 16 = nu s.adj S 16 ∧ cnt (s.sub (woutL s.nt x y)).adj (belowN (s.sub (woutL s.nt x y)).nt) 16 = cnt s.adj S 16 :=
  nu_sub_all (L := woutL s.nt x y) (filtL_nodup _ _) (by have := filtL_range_le (woutP x y) s.nt; have := h.n16; unfold woutL; omega) h.n16 (fun t ht => (woutL_mem.1 ht).1) fun v => by rw [hS, woutL_mem]
theorem nu_wout1 {s : Stk} (h : s.Ok) (i : Nat) : nu (s.sub (woutL s.nt (i : Nat) (-1))).adj (belowN (s.sub (woutL s.nt (i : Nat) (-1))).nt) 16 = nu s.adj (less1 (belowN s.nt) i) 16 :=
  (nu_wout h _ _ fun v => by
    rw [less1_iff]
    unfold belowN
    rw [decide_eq_true_eq]
    constructor
    · rintro ⟨h1, h2⟩; exact ⟨h1, by omega, by omega⟩
    · rintro ⟨h1, h2, -⟩; exact ⟨h1, by omega⟩).1
theorem nu_wout2 {s : Stk} (h : s.Ok) (i k : Nat) : nu (s.sub (woutL s.nt (i : Nat) (k : Nat))).adj (belowN (s.sub (woutL s.nt (i : Nat) (k : Nat))).nt) 16 = nu s.adj (less1 (less1 (belowN s.nt) i) k) 16 ∧ cnt (s.sub (woutL s.nt (i : Nat) (k : Nat))).adj (belowN (s.sub (woutL s.nt (i : Nat) (k : Nat))).nt) 16 = cnt s.adj (less1 (less1 (belowN s.nt) i) k) 16 :=
  nu_wout h _ _ fun v => by
    rw [less1_iff, less1_iff]
    unfold belowN
    rw [decide_eq_true_eq]
    constructor
    · rintro ⟨⟨h1, h2⟩, h3⟩; exact ⟨h1, by omega, by omega⟩
    · rintro ⟨h1, h2, h3⟩; exact ⟨⟨h1, by omega⟩, by omega⟩
end Go.Proofs.Yteingahlmlndkaa

/-
  What is proved: what the kinds say of best pairings (plain).
-/
namespace Go.Proofs.Yteingahlmlndkaa
section
variable {s : Stk}
/-- a list of mates that is right, and has as many pairs as a best one -/
theorem list_mx (h16 : s.nt ≤ 16) {f : Nat → Int} {n : Nat} (h : Go.Proofs.Yteingahlmlndkaa.pErr s f n = 0) (hp : Go.Proofs.Yteingahlmlndkaa.pNum s f n = nu s.adj (belowN s.nt) 16) : ∃ M, Mx s.adj (belowN s.nt) 16 M ∧ n = s.nt ∧ ∀ v, v < s.nt → f v = mvI M v := by
  have hk : n = s.nt := by
    by_cases e : n = s.nt
    · exact e
    · unfold Go.Proofs.Yteingahlmlndkaa.pErr at h; rw [if_pos e] at h; cases h
  subst hk
  have h0 := h
  unfold Go.Proofs.Yteingahlmlndkaa.pErr at h
  rw [if_neg (by simp)] at h
  by_cases h1 : (List.range s.nt).any (badR s f) = true
  · rw [if_pos h1] at h; cases h
  · rw [if_neg h1] at h
    by_cases h2 : (List.range s.nt).all (okP s f) = true
    · have h1' : (List.range s.nt).any (badR s f) = false := by simpa using h1
      have hM := mates_isM h1' h2
      unfold Go.Proofs.Yteingahlmlndkaa.pNum at hp
      rw [if_pos h0, ← cov_nt h16 hM] at hp
      have hev := hM.even (below16 h16)
      refine ⟨_, mx_nu s.adj_symm (below16 h16) hM (by omega), rfl, fun v hv => ?_⟩
      rcases range_vals h1' hv with h3 | ⟨k, h3, hk⟩
      · have : mOf f s.nt v = v := by unfold mOf; rw [if_neg (by omega)]
        rw [mvI_none this, h3]
      · have e : mOf f s.nt v = k := by unfold mOf; rw [if_pos ⟨hv, by omega⟩, h3]; rfl
        have hne : mOf f s.nt v ≠ v := fun h4 => by
          have h5 := List.all_eq_true.1 h2 v (List.mem_range.2 hv)
          unfold okP at h5
          rw [e] at h4
          subst h4
          rw [h3, decide_eq_false (by omega), Bool.false_or, Bool.and_eq_true] at h5
          have h6 := h5.2
          rw [Int.toNat_natCast, s.adj_irr] at h6
          cases h6
        rw [mvI_some hne, e, h3]
    · rw [if_neg h2] at h; cases h
theorem spare_none (h16 : s.nt ≤ 16) {t : Nat} (ht : t < s.nt) (h : ∀ k, s.adj t k = false) : Spare s.adj (belowN s.nt) 16 t := by
  obtain ⟨m, hm⟩ := mx_has (s := s) h16
  refine ⟨by unfold belowN; exact decide_eq_true ht, m, hm, Classical.byContradiction fun hne => ?_⟩
  have := (hm.isM.ok t hne).2
  rw [h] at this
  cases this
theorem kind_two (h16 : s.nt ≤ 16) {t : Nat} (ht : t < s.nt) : kindN s.adj s.nt t = 2 ↔ ¬ Spare s.adj (belowN s.nt) 16 t := by
  by_cases h0 : ∀ k, s.adj t k = false
  · rw [kindN_0 h0]
    exact ⟨fun h => (by cases h), fun h => absurd (spare_none h16 ht h0) h⟩
  · by_cases h1 : Spare s.adj (belowN s.nt) 16 t
    · rw [kindN_1 h0 h1]
      exact ⟨fun h => (by cases h), fun h => absurd h1 h⟩
    · rw [kindN_2 h0 h1]
      exact ⟨fun _ => h1, fun _ => rfl⟩
theorem kind_zero (h16 : s.nt ≤ 16) {t : Nat} : kindN s.adj s.nt t = 0 ↔ ∀ k, s.adj t k = false := by
  constructor
  · intro h
    refine Classical.byContradiction fun h0 => ?_
    by_cases h1 : Spare s.adj (belowN s.nt) 16 t
    · rw [kindN_1 h0 h1] at h; cases h
    · rw [kindN_2 h0 h1] at h; cases h
  · exact fun h => kindN_0 h
theorem kind_le (t : Nat) : kindN s.adj s.nt t ≤ 2 := by
  unfold kindN
  split
  · omega
  · split <;> omega
theorem pair_le (x y : Nat) : pairN s.adj s.nt x y ≤ 2 := by
  unfold pairN
  split
  · split <;> omega
  · omega
/-- without a thing -/
theorem kind_less (h16 : s.nt ≤ 16) {t : Nat} (ht : t < s.nt) : if kindN s.adj s.nt t = 2 then nu s.adj (less1 (belowN s.nt) t) 16 + 1 = nu s.adj (belowN s.nt) 16 else nu s.adj (less1 (belowN s.nt) t) 16 = nu s.adj (belowN s.nt) 16 := by
  have hbt : belowN s.nt t = true := by unfold belowN; exact decide_eq_true ht
  have hS := below16 h16
  by_cases h : kindN s.adj s.nt t = 2
  · rw [if_pos h]
    have h1 := (kind_two h16 ht).1 h
    obtain ⟨m, hm⟩ := mx_has (s := s) h16
    obtain ⟨h2, h3, -⟩ := less_max hS hm hbt h1
    have h4 := nu_mx s.adj_symm hS hm
    have h5 := nu_mx s.adj_symm (less1_lt hS t) h2
    omega
  · rw [if_neg h]
    have h1 : Spare s.adj (belowN s.nt) 16 t := Classical.byContradiction fun h1 => h ((kind_two h16 ht).2 h1)
    exact (Spare.iff_nu s.adj_symm hS hbt).1 h1
theorem mate_two (h16 : s.nt ≤ 16) {t : Nat} (ht : t < s.nt) (h : kindN s.adj s.nt t = 2) {M : Nat → Nat} (hM : Mx s.adj (belowN s.nt) 16 M) : 0 ≤ mvI M t := by
  have h1 := (kind_two h16 ht).1 h
  have hne : M t ≠ t := fun e => h1 ⟨by unfold belowN; exact decide_eq_true ht, M, hM, e⟩
  rw [mvI_some hne]
  omega
theorem mate_zero (h16 : s.nt ≤ 16) {t : Nat} (h : kindN s.adj s.nt t = 0) {M : Nat → Nat} (hM : Mx s.adj (belowN s.nt) 16 M) : mvI M t < 0 := by
  have h1 := (kind_zero h16).1 h
  have he : M t = t := Classical.byContradiction fun hne => by
    have := (hM.isM.ok t hne).2
    rw [h1] at this
    cases this
  rw [mvI_none he]
  omega
theorem pair_two (h16 : s.nt ≤ 16) {x y : Nat} (h : pairN s.adj s.nt x y = 2) {M : Nat → Nat} (hM : Mx s.adj (belowN s.nt) 16 M) : x ≠ y ∧ M x = y ∧ s.adj x y = true := by
  unfold pairN at h
  by_cases h1 : s.adj x y = true ∧ nu s.adj (less1 (less1 (belowN s.nt) x) y) 16 + 1 = nu s.adj (belowN s.nt) 16
  · rw [if_pos h1] at h
    have hne : x ≠ y := fun e => by have := h1.1; rw [e, s.adj_irr] at this; cases this
    by_cases h2 : nu (delE s.adj x y) (belowN s.nt) 16 < nu s.adj (belowN s.nt) 16
    · exact ⟨hne, (pair_always (below16 h16) s.adj_symm hne).2 h2 M hM, h1.1⟩
    · rw [if_neg h2] at h; cases h
  · rw [if_neg h1] at h; cases h
theorem pair_kinds (h16 : s.nt ≤ 16) {x y : Nat} (hx : x < s.nt) (hy : y < s.nt) (h : pairN s.adj s.nt x y = 2) : kindN s.adj s.nt x = 2 ∧ kindN s.adj s.nt y = 2 := by
  refine ⟨(kind_two h16 hx).2 fun ⟨_, M, hM, e⟩ => ?_, (kind_two h16 hy).2 fun ⟨_, M, hM, e⟩ => ?_⟩
  · obtain ⟨h1, h2, -⟩ := pair_two h16 h hM
    exact h1 (e.symm.trans h2)
  · obtain ⟨h1, h2, -⟩ := pair_two h16 h hM
    have := hM.isM.inv x
    rw [h2, e] at this
    exact h1 this.symm
theorem pair_mate_two (h16 : s.nt ≤ 16) {x y : Nat} (h : pairN s.adj s.nt x y = 2) {M : Nat → Nat} (hM : Mx s.adj (belowN s.nt) 16 M) : mvI M x = (y : Nat) := by
  obtain ⟨h1, h2, -⟩ := pair_two h16 h hM
  rw [mvI_some (fun e => h1 (e.symm.trans h2)), h2]
theorem pair_mate_zero (h16 : s.nt ≤ 16) {x y : Nat} (hx : x < s.nt) (hy : y < s.nt) (h : pairN s.adj s.nt x y = 0) {M : Nat → Nat} (hM : Mx s.adj (belowN s.nt) 16 M) : mvI M x ≠ (y : Nat) := by
  intro e
  have hne : M x ≠ x := fun e2 => by rw [mvI_none e2] at e; omega
  rw [mvI_some hne] at e
  have e3 : M x = y := by omega
  have ha := (hM.isM.ok x hne).2
  rw [e3] at ha
  have hxy : x ≠ y := fun e4 => hne (by rw [e3, e4])
  have hb : ∀ {v}, v < s.nt → belowN s.nt v = true := fun hv => by unfold belowN; exact decide_eq_true hv
  have h1 := (pair_may (below16 h16) s.adj_symm (hb hx) (hb hy) hxy ha).1 ⟨M, hM, e3⟩
  unfold pairN at h
  rw [if_pos ⟨ha, h1⟩] at h
  split at h <;> cases h
theorem pair_pos (x y : Nat) : pairN s.adj s.nt x y ≠ 0 ↔ s.adj x y = true ∧ nu s.adj (less1 (less1 (belowN s.nt) x) y) 16 + 1 = nu s.adj (belowN s.nt) 16 := by
  unfold pairN
  constructor
  · intro h
    refine Classical.byContradiction fun h1 => h ?_
    rw [if_neg h1]
  · intro h
    rw [if_pos h]
    split <;> omega
end
end Go.Proofs.Yteingahlmlndkaa

/-
  What is proved: append onto a slice without elements and without room, as a step of a chain.
-/
namespace Go
open Go.RowKit
section
variable {P : Program} {ops : Array Oper} {w0 : World}
end
end Go

/-
  What is proved: append onto a row of the region's own, as a step of a chain.
-/
namespace Go
open Go.RowKit
section
variable {P : Program} {ops : Array Oper} {w0 : World}
end
end Go

/-
  What is proved: a stock without one or two things (40).
-/
namespace Go.Proofs.Yteingahlmlndkaa
open Go.RowKit
attribute [local irreducible] Go.wpCalm rowV
theorem el62 : Try.prog.knows 62 (.agg #[.int .i64 0, .int .i64 0, .int .i64 0]) 3 24 := Program.knows_of (by kernel_rfl)
/-- blocks that stand, when a row of the call's own grows -/
theorem KpS.own {w U U' : World} {P : List (Nat × Obj)} {v : Value} {base : Nat} {e : TypeId} {sz n : Nat} {xs : List Value} (h : KpS w P U) (ho : U.ownsRow base e sz v n xs) (hg : U.grownBy U' v.ownBlock) (hb : w.heap.size ≤ base) (hP : ∀ y ∈ P, y.1 < base) : KpS w P U' :=
  ⟨hg.grows ho h.g hb, fun y hy => (hg.block y.1 (World.lt_of_block (h.at_ y hy)) (fun e => by have := (ho.lt _ e.symm).1; have := hP y hy; omega)).trans (h.at_ y hy)⟩
theorem one_thing (w : World) (x y z : Value) (t b : Nat) (hb : b = w.heap.size) : SliceAt (w.alloc (.cells #[x, y, z] t)) (.slice (some ⟨b, 0, none⟩) 1 1) 1 3 (fun _ j => if j = 0 then x else if j = 1 then y else z) := by
  subst hb
  refine ⟨_, _, rfl, by omega, by unfold maxLen; omega, fun i j hi hj => ⟨_, _, rfl, ?_⟩⟩
  have hi0 : i = 0 := by omega
  subst hi0
  have h := World.heap_at w (.cells #[x, y, z] t) _ rfl
  rcases (show j = 0 ∨ j = 1 ∨ j = 2 by omega) with rfl | rfl | rfl <;> exact cell_of_heap h rfl
theorem thing_one (s : Stk) (t : Nat) : tableL 1 3 (fun _ j => if j = 0 then Value.int .i64 (s.tk t) else if j = 1 then .int .i64 (s.tw t) else .int .i64 (s.tg t)) = [tcell s t 0, tcell s t 1, tcell s t 2] := rfl
theorem KpS.things {w U : World} {s : Stk} {v : Value} {P : List (Nat × Obj)} (h : KpS w P U) (ht : SliceAt w v s.nt 3 (tcell s)) {i : Nat} (hi : i < s.nt) {sa : Option Addr} {sc : Nat} (hv : v = .slice sa s.nt sc) : ∃ b o, sa = some ⟨b, o, none⟩ ∧ U.cell? ⟨b, o + i * 3, none⟩ = some (.int .i64 (s.tk i)) ∧ U.cell? ⟨b, o + i * 3 + 1, none⟩ = some (.int .i64 (s.tw i)) ∧ U.cell? ⟨b, o + i * 3 + 2, none⟩ = some (.int .i64 (s.tg i)) := by
  subst hv
  obtain ⟨A, c, he, -, -, hc⟩ := ht.mono h.g
  cases he
  obtain ⟨b, o, rfl, c0⟩ := hc i 0 hi (by omega)
  obtain ⟨b', o', e', c1⟩ := hc i 1 hi (by omega)
  obtain ⟨b'', o'', e'', c2⟩ := hc i 2 hi (by omega)
  cases e'
  cases e''
  exact ⟨b, o, rfl, c0, c1, c2⟩
set_option maxRecDepth 100000 in
set_option maxHeartbeats 8000000 in
theorem wout_c (w : World) (v : Value) (s : Stk) (ht : StkAt w v s) (hok : s.Ok) (x y : Int) : Calls Try.prog 40 #[v, .int .i64 x, .int .i64 y] w fun e w' => ∃ u, e = .returned u ∧ StkAt w' u (s.sub (woutL s.nt x y)) ∧ w.grows w' := by
  obtain ⟨tv, mv, rfl, hT, hM⟩ := ht
  have HTh := Lib.hid hT
  have HMt := Lib.hid hM
  obtain ⟨sa, sc, rfl, s1, s2, -⟩ := hT
  obtain ⟨va, vc, rfl, -⟩ := hM
  have h16 := hok.n16
  unfold maxLen at s2
  clear hok
  go_enter Try.func40, Try.ntmps40
  go_wp2
  obtain ⟨x1, hx1⟩ : ∃ x, w.heap.size = x := ⟨_, rfl⟩
  have k1 : KpS w [(x1 + 2, Obj.cells #[.slice none 0 0, .slice va s.nm vc, .int .i64 s.wide] 25), (x1 + 1, Obj.cells #[.slice none 0 0, .slice none 0 0, .int .i64 0] 25), (x1, Obj.cells #[.slice sa s.nt sc, .slice va s.nm vc, .int .i64 s.wide] 25)] (((w.alloc (Obj.cells #[.slice sa s.nt sc, .slice va s.nm vc, .int .i64 s.wide] 25)).alloc (Obj.cells #[.slice none 0 0, .slice none 0 0, .int .i64 0] 25)).alloc (Obj.cells #[.slice none 0 0, .slice va s.nm vc, .int .i64 s.wide] 25)) :=
    (((KpS.mk (by (repeat (first | exact World.grows.refl _ | assumption | refine World.grows.alloc ?_ _ | refine World.grows.plus ?_ _ _ | refine World.grows.drew ?_))) (fun y hy => absurd hy List.not_mem_nil)).add (alloc_old (alloc_old (World.heap_at w _ _ hx1.symm)))).add (alloc_old (World.heap_at _ _ _ (by simp [hx1])))).add (World.heap_at _ _ _ (by simp [hx1]))
  have hB1 : Hid (x1 + 3 ≤ (((w.alloc (Obj.cells #[.slice sa s.nt sc, .slice va s.nm vc, .int .i64 s.wide] 25)).alloc (Obj.cells #[.slice none 0 0, .slice none 0 0, .int .i64 0] 25)).alloc (Obj.cells #[.slice none 0 0, .slice va s.nm vc, .int .i64 s.wide] 25)).heap.size) := Lib.hid (by simp [hx1])
  simp only [hx1]
  generalize ((w.alloc (Obj.cells #[.slice sa s.nt sc, .slice va s.nm vc, .int .i64 s.wide] 25)).alloc (Obj.cells #[.slice none 0 0, .slice none 0 0, .int .i64 0] 25)).alloc (Obj.cells #[.slice none 0 0, .slice va s.nm vc, .int .i64 s.wide] 25) = W1 at k1 hB1 ⊢
  have HK1 := Lib.hid k1
  clear k1
  go_loopw [8] (fun i8 wr => ∃ (i : Nat) (la : Option Addr) (lc : Nat), i ≤ s.nt ∧ i8 = .int .i64 (i : Nat) ∧ Hid (wr.ownsRow (x1 + 3) 62 3 (.slice la (filtL (woutP x y) i).length lc) (filtL (woutP x y) i).length (rowsT s (filtL (woutP x y) i))) ∧ Hid (x1 + 3 ≤ wr.heap.size) ∧ Hid (KpS w [(x1 + 2, Obj.cells #[.slice la (filtL (woutP x y) i).length lc, .slice va s.nm vc, .int .i64 s.wide] 25), (x1 + 1, Obj.cells #[.slice none 0 0, .slice none 0 0, .int .i64 0] 25), (x1, Obj.cells #[.slice sa s.nt sc, .slice va s.nm vc, .int .i64 s.wide] 25)] wr)) (fun i8 _ => s.nt - (intOf i8).toNat)
  case atStart => exact ⟨0, none, 0, by omega, rfl, Lib.hid (World.ownsRow_nil _ _ _ _), hB1, HK1⟩
  case round =>
    clear HK1 hB1
    obtain ⟨i, la, lc, hi, rfl, ho, hS, hKp⟩ := hrel
    have hl16 := filtL_range_le (woutP x y) i
    have hsu := filtL_succ (woutP x y) i
    obtain ⟨L, hL⟩ : ∃ L, filtL (woutP x y) i = L := ⟨_, rfl⟩
    rw [hL] at ho hKp hl16 hsu
    have HSu := Lib.hid hsu
    have HL := Lib.hid hL
    clear hL hsu
    obtain ⟨W2, rfl⟩ : ∃ W2, W2 = wr := ⟨_, rfl⟩
    have b0 := cell_of_heap hKp.out.drop.drop.hd (i := 0) rfl
    by_cases hlt : i < s.nt
    · have hltI : (i : Int) < s.nt := by omega
      by_cases hx : (i : Int) = x
      · have hxB : ((i : Int) != x) = false := by simp [hx]
        have HS2 : Hid (filtL (woutP x y) (i + 1) = L) := Lib.hid (by rw [HSu.out, if_neg]; unfold woutP; rw [decide_eq_true hx]; exact Bool.false_ne_true)
        clear hx
        go_wp2
        case roundEnd => exact ⟨⟨i + 1, la, lc, by omega, by go_num, by rw [HS2.out]; exact ho, hS, by rw [HS2.out]; exact hKp⟩, by simp [intOf]; omega⟩
      · have hxB : ((i : Int) != x) = true := by simp [hx]
        by_cases hy : (i : Int) = y
        · have hyB : ((i : Int) != y) = false := by simp [hy]
          have HS2 : Hid (filtL (woutP x y) (i + 1) = L) := Lib.hid (by rw [HSu.out, if_neg]; unfold woutP; rw [decide_eq_true hy, Bool.not_true, Bool.and_false]; exact Bool.false_ne_true)
          clear hx hy
          go_wp2
          case roundEnd => exact ⟨⟨i + 1, la, lc, by omega, by go_num, by rw [HS2.out]; exact ho, hS, by rw [HS2.out]; exact hKp⟩, by simp [intOf]; omega⟩
        · have hyB : ((i : Int) != y) = true := by simp [hy]
          have HS2 : Hid (filtL (woutP x y) (i + 1) = L ++ [i]) := Lib.hid (by rw [HSu.out, if_pos]; unfold woutP; rw [decide_eq_false hx, decide_eq_false hy]; rfl)
          clear hx hy
          obtain ⟨k, hk⟩ : ∃ k, L.length = k := ⟨_, rfl⟩
          rw [hk] at ho hKp hl16
          have Hk := Lib.hid hk
          clear hk
          go_upto_region 6 with fail
          obtain ⟨I, hIe⟩ : ∃ I : World → Prop, I = fun U => KpS w [(x1 + 2, Obj.cells #[.slice la k lc, .slice va s.nm vc, .int .i64 s.wide] 25), (x1 + 1, Obj.cells #[.slice none 0 0, .slice none 0 0, .int .i64 0] 25), (x1, Obj.cells #[.slice sa s.nt sc, .slice va s.nm vc, .int .i64 s.wide] 25)] U ∧ x1 + 3 ≤ U.heap.size := ⟨_, rfl⟩
          have hI : ∀ W W', I W → W.grows W' → I W' := by
            rw [hIe]
            rintro W W' ⟨a1, a2⟩ g
            exact ⟨a1.mono g, Nat.le_trans a2 g.size⟩
          have hIw : I W2 := by rw [hIe]; exact ⟨hKp.out, hS.out⟩
          have HI : Hid (∀ U, I U → KpS w [(x1 + 2, Obj.cells #[.slice la k lc, .slice va s.nm vc, .int .i64 s.wide] 25), (x1 + 1, Obj.cells #[.slice none 0 0, .slice none 0 0, .int .i64 0] 25), (x1, Obj.cells #[.slice sa s.nt sc, .slice va s.nm vc, .int .i64 s.wide] 25)] U ∧ x1 + 3 ≤ U.heap.size) := Lib.hid fun U h => by rw [hIe] at h; exact h
          have HIm : Hid (∀ U, KpS w [(x1 + 2, Obj.cells #[.slice la k lc, .slice va s.nm vc, .int .i64 s.wide] 25), (x1 + 1, Obj.cells #[.slice none 0 0, .slice none 0 0, .int .i64 0] 25), (x1, Obj.cells #[.slice sa s.nt sc, .slice va s.nm vc, .int .i64 s.wide] 25)] U ∧ x1 + 3 ≤ U.heap.size → I U) := Lib.hid fun U h => by rw [hIe]; exact h
          obtain ⟨tb, to_, rfl, -⟩ := hKp.out.things HTh.out hlt rfl
          have HT3 : Hid (∀ U, I U → U.cell? ⟨tb, to_ + i * 3, none⟩ = some (.int .i64 (s.tk i)) ∧ U.cell? ⟨tb, to_ + i * 3 + 1, none⟩ = some (.int .i64 (s.tw i)) ∧ U.cell? ⟨tb, to_ + i * 3 + 2, none⟩ = some (.int .i64 (s.tg i))) := Lib.hid fun U hU => by
            obtain ⟨b9, o9, e9, h9⟩ := (HI.out U hU).1.things HTh.out hlt rfl
            cases e9
            exact h9
          clear hIe b0
          (refine wp_region_chainJ 9 [7, 8] (I) (hI) (hIw) (by kernel_rfl) (by kernel_rfl) (by decide) ?_; simp only [without, only, withNo, List.take_succ_cons, List.take_zero, List.drop_succ_cons, List.drop_zero, List.take_nil, List.drop_nil, Nat.reduceAdd, Nat.reduceSub, List.filter, List.contains_cons, List.contains_nil, Nat.reduceBEq, Bool.or_false, Bool.false_or, Bool.true_or, Bool.or_true, Bool.or_self, Bool.not_true, Bool.not_false, List.map_cons, List.map_nil])
          refine wpCalmJ_go rfl (.pointer (some ⟨x1 + 2, 0, none⟩)) (fun U hU => by go_simp) ?_
          refine wpCalmJ_go rfl (.slice la k lc) (fun U hU => by have e1 := cell_of_heap (HI.out U hU).1.hd (i := 0) rfl; go_simp) ?_
          refine wpCalmJ_go rfl (.pointer (some ⟨x1, 0, none⟩)) (fun U hU => by go_simp) ?_
          refine wpCalmJ_go rfl (.slice (some ⟨tb, to_, none⟩) s.nt sc) (fun U hU => by have e1 := cell_of_heap (HI.out U hU).1.drop.drop.hd (i := 0) rfl; go_simp) ?_
          refine wpCalmJ_go rfl (.int .i64 (i : Nat)) (fun U hU => by go_simp) ?_
          refine wpCalmJ_go rfl (.pointer (some ⟨tb, to_ + i * 3, none⟩)) (fun U hU => by go_simp) ?_
          refine wpCalmJ_go rfl (.agg #[.int .i64 (s.tk i), .int .i64 (s.tw i), .int .i64 (s.tg i)]) (fun U hU => by have e1 := (HT3.out U hU).1; have e2 := (HT3.out U hU).2.1; have e3 := (HT3.out U hU).2.2; go_simp) ?_
          refine wpCalm_nilJ ?_
          simp only [Act.put, List.setIfInBounds_toArray, List.set_cons_zero, List.set_cons_succ]
          refine wpChain_stepOJ (fun K hK nd xd hgd => ?_)
          go_simp
          refine ⟨hI _ _ hgd (by (repeat (first | exact World.grows.refl _ | assumption | refine World.grows.alloc ?_ _ | refine World.grows.plus ?_ _ _ | refine World.grows.drew ?_))), hK _ _ ?_⟩
          clear hK K hgd
          have gV : W2.grows ((W2.plus nd xd).alloc (.cells #[.int .i64 (s.tk i), .int .i64 (s.tw i), .int .i64 (s.tg i)] 62)) := (World.grows_plus _ _ _).trans (by (repeat (first | exact World.grows.refl _ | assumption | refine World.grows.alloc ?_ _ | refine World.grows.plus ?_ _ _ | refine World.grows.drew ?_)))
          refine wpChainJ_append rfl (.tmp 30) (.tmp 36) 22 (by rfl) (x1 + 3) 62 (.agg #[.int .i64 0, .int .i64 0, .int .i64 0]) 3 24 Try.underlying22 el62 (by rfl) (by omega) (.slice la k lc) k _ (by rfl) (ho.out.grow gV) _ (by rfl) 1 _ (fun W0 g => SliceAt.src (by omega) ((one_thing (W2.plus nd xd) (.int .i64 (s.tk i)) (.int .i64 (s.tw i)) (.int .i64 (s.tg i)) 62 _ (by simp)).mono g)) (by rw [thing_one]; exact tcell_one s i) (by unfold maxLen; omega) (by omega) (Nat.le_trans hS.out gV.size) ?_
          rintro W0 v' w' hgW hI0 hown hgb
          have hown0 := (ho.out.grow gV).grow hgW
          have hKa := (HI.out W0 hI0).1.own hown0 hgb (by omega) (by
            intro y hy
            simp only [List.mem_cons, List.not_mem_nil, or_false] at hy
            rcases hy with rfl | rfl | rfl <;> simp only <;> omega)
          have hSa : x1 + 3 ≤ w'.heap.size := Nat.le_trans (HI.out W0 hI0).2 hgb.size
          obtain ⟨la', lc', rfl, -, -⟩ := row_form hown
          refine ⟨HIm.out _ ⟨hKa, hSa⟩, ?_⟩
          refine wpChain_nilJ (fun nc2 xc2 => ?_)
          have gX := World.grows_plus w' nc2 xc2
          rw [thing_one, ← rowsT_snoc, ← HS2.out] at hown
          have RO := hown.grow gX
          have RK := hKa.mono gX
          have RS := Nat.le_trans hSa gX.size
          clear hown hgb hown0 hI0 hgW gV hI hIw HI HIm hKa hSa HT3 ho hKp hS
          generalize w'.plus nc2 xc2 = X at RO RK RS gX ⊢
          clear gX
          have q0 := cell_of_heap RK.hd (i := 0) rfl
          have f0 := frozen_of_heap RK.hd 0
          have hlen : Hid ((filtL (woutP x y) (i + 1)).length = k + 1) := Lib.hid (by rw [HS2.out, List.length_append, Hk.out]; rfl)
          have RK2 := Lib.hid ((RK.drop.set (b := x1 + 2) (by omega) (fun y hy => by
            simp only [List.mem_cons, List.not_mem_nil, or_false] at hy
            rcases hy with rfl | rfl <;> simp only <;> omega) 0 (.slice la' (k + 1) lc')).add (store_of_heap RK.hd 0 (.slice la' (k + 1) lc')))
          have RO2 : Hid ((X.setCell ⟨x1 + 2, 0, none⟩ (.slice la' (k + 1) lc')).ownsRow (x1 + 3) 62 3 (.slice la' (k + 1) lc') (k + 1) (rowsT s (filtL (woutP x y) (i + 1)))) := Lib.hid (ownsRow_setCell_other (a := ⟨x1 + 2, 0, none⟩) RO (fun e => by have := (RO.lt _ e).1; simp only at this; omega) (.slice la' (k + 1) lc'))
          have RS2 : Hid (x1 + 3 ≤ (X.setCell ⟨x1 + 2, 0, none⟩ (.slice la' (k + 1) lc')).heap.size) := Lib.hid (by simpa using RS)
          clear RK RO RS
          go_wp2
          case roundEnd => exact ⟨⟨i + 1, la', lc', by omega, by go_num, by rw [hlen.out]; exact RO2, RS2, by rw [hlen.out]; exact RK2⟩, by simp [intOf]; omega⟩
    · have hltI : ¬ (i : Int) < s.nt := by omega
      have hin : i = s.nt := by omega
      have HLn : Hid (woutL s.nt x y = L) := Lib.hid (by unfold woutL; rw [← hin]; exact HL.out)
      obtain ⟨k, hk⟩ : ∃ k, L.length = k := ⟨_, rfl⟩
      rw [hk] at ho hKp hl16
      have Hk := Lib.hid hk
      clear hk hin hlt
      have h1 := hKp.out.hd
      have p0 := cell_of_heap h1 (i := 0) rfl
      have p1 := cell_of_heap h1 (i := 1) rfl
      have p2 := cell_of_heap h1 (i := 2) rfl
      have r0 := hKp.out.drop.hd
      have g0 := cell_of_heap r0 (i := 0) rfl
      have g1 := cell_of_heap r0 (i := 1) rfl
      have g2 := cell_of_heap r0 (i := 2) rfl
      have fz := frozen_of_heap r0 0
      have fz1 := frozen_of_heap r0 1
      have fz2 := frozen_of_heap r0 2
      have HR0 := Lib.hid r0
      clear h1 r0
      go_wp2
      clear p0 p1 p2 g0 g1 g2 fz fz1 fz2
      have e0 := store_of_heap HR0.out 0 (.slice la k lc)
      have e1 := store_of_heap e0 1 (.slice va s.nm vc)
      have e2 := store_of_heap e1 2 (.int .i64 s.wide)
      have hno : ∀ y ∈ ([] : List (Nat × Obj)), y.1 ≠ x1 + 1 := fun y hy => absurd hy List.not_mem_nil
      have KF := (((hKp.out.drop.drop.drop).set (b := x1 + 1) (by omega) hno 0 (.slice la k lc)).set (b := x1 + 1) (by omega) hno 1 (.slice va s.nm vc)).set (b := x1 + 1) (by omega) hno 2 (.int .i64 s.wide)
      have hne : ∀ (U : World), U.ownsRow (x1 + 3) 62 3 (.slice la k lc) k (rowsT s L) → ∀ j z, (U.setCell ⟨x1 + 1, j, none⟩ z).ownsRow (x1 + 3) 62 3 (.slice la k lc) k (rowsT s L) := fun U hU j z => ownsRow_setCell_other (a := ⟨x1 + 1, j, none⟩) hU (fun e => by have := (hU.lt _ e).1; simp only at this; omega) z
      have RF := hne _ (hne _ (hne _ ho.out 0 (.slice la k lc)) 1 (.slice va s.nm vc)) 2 (.int .i64 s.wide)
      generalize World.setCell _ _ _ = F at e2 KF RF ⊢
      have c0 : F.cell? ⟨x1 + 1, 0, none⟩ = some (.slice la k lc) := cell_of_heap e2 rfl
      have c1 : F.cell? ⟨x1 + 1, 1, none⟩ = some (.slice va s.nm vc) := cell_of_heap e2 rfl
      have c2 : F.cell? ⟨x1 + 1, 2, none⟩ = some (.int .i64 s.wide) := cell_of_heap e2 rfl
      have hSt : StkAt F (.agg #[.slice la k lc, .slice va s.nm vc, .int .i64 s.wide]) (s.sub (woutL s.nt x y)) := by
        rw [HLn.out]
        refine ⟨_, _, rfl, ?_, HMt.out.mono KF.g⟩
        have := RF
        rw [← Hk.out] at this ⊢
        exact rowsT_at this
      refine bodyPost_ret (v := .agg #[.slice la k lc, .slice va s.nm vc, .int .i64 s.wide]) (by simp [results, Try.results40, go_sem, c0, c1, c2]) rfl ?_
      exact ⟨_, rfl, hSt, KF.g⟩
end Go.Proofs.Yteingahlmlndkaa

/-
  What is proved: all best pairings by the definition (31): rows in memory, and what is counted (plain).
-/
namespace Go.Proofs.Yteingahlmlndkaa
open Go.RowKit
/-- rows of n numbers that lie in these blocks -/
def OutI (n : Nat) (Q : List (Nat × Obj)) (vals : List Value) (rs : List (List Int)) : Prop := (∀ y ∈ Q, ∃ c, y.2 = .cells c 3) ∧ vals.length = rs.length ∧ ∀ (i : Nat) (x : Value), vals[i]? = some x → ∃ (A : Option Addr) (c : Nat) (r : List Int), x = .slice A n c ∧ rs[i]? = some r ∧ r.length = n ∧ ∀ U : World, (∀ y ∈ Q, U.heap[y.1]? = some y.2) → IntsAt U x n (lst r)
theorem OutI.nil (n : Nat) (Q : List (Nat × Obj)) (hQ : ∀ y ∈ Q, ∃ c, y.2 = .cells c 3) : OutI n Q [] [] := ⟨hQ, rfl, fun i x h => by simp at h⟩
theorem OutI.more {n : Nat} {Q : List (Nat × Obj)} {vals : List Value} {rs : List (List Int)} (h : OutI n Q vals rs) (b : Nat) (c : Array Value) : OutI n ((b, .cells c 3) :: Q) vals rs :=
  ⟨fun y hy => by rcases List.mem_cons.1 hy with rfl | hy; exact ⟨_, rfl⟩; exact h.1 y hy, h.2.1, fun i x hx => by
    obtain ⟨A, cp, r, h1, h2, h3, h4⟩ := h.2.2 i x hx
    exact ⟨A, cp, r, h1, h2, h3, fun U hU => h4 U fun y hy => hU y (List.mem_cons_of_mem _ hy)⟩⟩
/-- a row more -/
theorem OutI.snoc {n : Nat} {Q : List (Nat × Obj)} {vals : List Value} {rs : List (List Int)} (h : OutI n Q vals rs) {x : Value} {r : List Int} (hx : ∃ (A : Option Addr) (c : Nat), x = .slice A n c) (hr : r.length = n) (hU : ∀ U : World, (∀ y ∈ Q, U.heap[y.1]? = some y.2) → IntsAt U x n (lst r)) : OutI n Q (vals ++ [x]) (rs ++ [r]) := by
  refine ⟨h.1, by simp [h.2.1], fun i u hu => ?_⟩
  by_cases hi : i < vals.length
  · rw [List.getElem?_append_left hi] at hu
    obtain ⟨A, cp, r', h1, h2, h3, h4⟩ := h.2.2 i u hu
    exact ⟨A, cp, r', h1, by rw [List.getElem?_append_left (by rw [← h.2.1]; exact hi)]; exact h2, h3, h4⟩
  · have hi2 := (List.getElem?_eq_some_iff.1 hu).1
    rw [List.length_append] at hi2
    simp at hi2
    have : i = vals.length := by omega
    subst this
    rw [List.getElem?_append_right (by omega)] at hu
    simp at hu
    subst hu
    obtain ⟨A, c, rfl⟩ := hx
    exact ⟨A, c, r, rfl, by simp [h.2.1], hr, hU⟩
theorem OutI.row {n : Nat} {Q : List (Nat × Obj)} {vals : List Value} {rs : List (List Int)} (h : OutI n Q vals rs) {i : Nat} (hi : i < rs.length) : ∃ (A : Option Addr) (c : Nat) (r : List Int), vals[i]? = some (.slice A n c) ∧ rs[i]? = some r ∧ r.length = n ∧ ∀ U : World, (∀ y ∈ Q, U.heap[y.1]? = some y.2) → IntsAt U (.slice A n c) n (lst r) := by
  have hvl : i < vals.length := by rw [h.2.1]; exact hi
  have hv : vals[i]? = some vals[i] := List.getElem?_eq_getElem hvl
  obtain ⟨A, c, r, h1, h2, h3, h4⟩ := h.2.2 i _ hv
  rw [h1] at hv h4
  exact ⟨A, c, r, hv, h2, h3, h4⟩
/-- pairs of a row -/
def prR (n : Nat) (r : List Int) : Nat := cntB (fun v => decide ((v : Int) < lst r v)) n
def mostR (n : Nat) : List (List Int) → Nat
  | [] => 0
  | r :: l => max (prR n r) (mostR n l)
/-- all best pairings, by the definition -/
def allB (A : Nat → Nat → Bool) (n : Nat) : List (List Int) := (allR A n n).filter fun r => decide (prR n r = mostR n (allR A n n))
/-- what has been made of the row p when things below k have been tried -/
def partA' (A : Nat → Nat → Bool) (n i k : Nat) (p : List Int) : List (List Int) := p.set i (-1) :: ((List.range k).filter fun k => decide (i < k) && (p.getD k 0 == -2 && A i k)).map fun (k : Nat) => (p.set i (k : Int)).set k (i : Int)
end Go.Proofs.Yteingahlmlndkaa

/-
  What is proved: all best pairings by the definition (31): what its loops keep.
-/
namespace Go.Proofs.Yteingahlmlndkaa
open Go.RowKit
attribute [local irreducible] Go.wpCalm rowV rowI
/-- the block that is appended to is not one of these -/
theorem KpS.app26 {w U U' : World} {n : Nat} {Q : List (Nat × Obj)} {x1 : Nat} {cs : Array Value} {vals : List Value} {rs : List (List Int)} {v : Value} {b0 : Nat} (h : KpS w ((x1, .cells cs 25) :: Q) U) (hO : OutI n Q vals rs) (hg : U.grownBy U' (vblk v)) (hk : ∀ (k : Nat) (o : Obj), U.heap[k]? = some o → (∀ c fr, o ≠ Obj.cells c 26 fr) → U'.heap[k]? = some o) (hb : ∀ b, vblk v = some b → b0 ≤ b) (hw : w.heap.size ≤ b0) : KpS w ((x1, .cells cs 25) :: Q) U' :=
  h.appE (e := 26) hg hk (fun b e => Nat.le_trans hw (hb b e)) (fun y hy => .inl (by
    rcases List.mem_cons.1 hy with rfl | hy
    · exact fun c fr e => by cases e
    · obtain ⟨c9, he9⟩ := hO.1 y hy
      rw [he9]
      exact fun c fr e => by cases e))
/-- the row that is filled at first -/
theorem OutI.first {U : World} {base n : Nat} {rv : Value} (hq : QAt U base 3 rv (List.replicate n (.int .i64 (-2)))) : ∃ Q, OutI n Q [rv] [List.replicate n (-2)] ∧ ∀ y ∈ Q, U.heap[y.1]? = some y.2 := by
  obtain ⟨A, cap, rfl, h1, h2, -, h4⟩ := hq
  rw [List.length_replicate] at h1 ⊢
  by_cases hn : n = 0
  · subst hn
    refine ⟨[], ⟨fun y hy => absurd hy List.not_mem_nil, rfl, fun i x hx => ?_⟩, fun y hy => absurd hy List.not_mem_nil⟩
    have hi := (List.getElem?_eq_some_iff.1 hx).1
    have : i = 0 := by simpa using hi
    subst this
    cases hx
    exact ⟨A, cap, [], rfl, rfl, rfl, fun U _ => ⟨A, cap, rfl, Nat.zero_le _, h2, fun i j hi => by omega⟩⟩
  · obtain ⟨b, o, cur, rfl, -, h5, -, h6⟩ := h4 (by omega)
    refine ⟨[(b, .cells cur 3)], ⟨fun y hy => by rw [List.mem_singleton] at hy; subst hy; exact ⟨_, rfl⟩, rfl, fun i x hx => ?_⟩, fun y hy => by rw [List.mem_singleton] at hy; subst hy; exact h5⟩
    have hi := (List.getElem?_eq_some_iff.1 hx).1
    have : i = 0 := by simpa using hi
    subst this
    cases hx
    refine ⟨_, cap, List.replicate n (-2), rfl, rfl, List.length_replicate, fun U hU => ?_⟩
    have hb := hU _ (List.mem_singleton.2 rfl)
    refine ⟨_, cap, rfl, h1, h2, fun i j hi hj => ⟨b, o, rfl, cell_of_heap hb ?_⟩⟩
    have := h6 i (.int .i64 (-2)) (by rw [List.getElem?_replicate, if_pos hi])
    rw [show o + i * 1 + j = o + i by omega, this]
    show _ = some (Value.int .i64 ((List.replicate n (-2)).getD i 0))
    rw [List.getD_eq_getElem?_getD, List.getElem?_replicate, if_pos hi]
    rfl
/-- the rows of a round (ov), and those of the next one (v7) -/
structure AllS (w U : World) (n x1 : Nat) (cs : Array Value) (B0 c1 : Nat) (ov : Value) (vals : List Value) (rs : List (List Int)) (Q : List (Nat × Obj)) (v7 : Value) (vals2 : List Value) (rs2 : List (List Int)) : Prop where
  o1 : OutI n Q vals rs
  o2 : OutI n Q vals2 rs2
  q1 : QAt U B0 26 ov vals
  q2 : QAt U c1 26 v7 vals2
  hc : c1 ≤ U.heap.size
  hov : ∀ b, vblk ov = some b → b < c1
  hw : w.heap.size ≤ c1
  kp : KpS w ((x1, .cells cs 25) :: Q) U
section
variable {w U : World} {n x1 : Nat} {cs : Array Value} {B0 c1 : Nat} {ov : Value} {vals : List Value} {rs : List (List Int)} {Q : List (Nat × Obj)} {v7 : Value} {vals2 : List Value} {rs2 : List (List Int)}
theorem AllS.mono (h : AllS w U n x1 cs B0 c1 ov vals rs Q v7 vals2 rs2) {U' : World} (g : U.grows U') : AllS w U' n x1 cs B0 c1 ov vals rs Q v7 vals2 rs2 :=
  ⟨h.o1, h.o2, h.q1.mono g, h.q2.mono g, Nat.le_trans h.hc g.size, h.hov, h.hw, h.kp.mono g⟩
theorem AllS.blk (h : AllS w U n x1 cs B0 c1 ov vals rs Q v7 vals2 rs2) {b : Nat} {cur : Array Value} (hb : U.heap[b]? = some (.cells cur 3)) : AllS w U n x1 cs B0 c1 ov vals rs ((b, .cells cur 3) :: Q) v7 vals2 rs2 :=
  ⟨h.o1.more b cur, h.o2.more b cur, h.q1, h.q2, h.hc, h.hov, h.hw, (KpS.add h.kp.drop hb).add h.kp.hd⟩
theorem AllS.app (h : AllS w U n x1 cs B0 c1 ov vals rs Q v7 vals2 rs2) {V : World} {v' x : Value} {r : List Int} (hq : QAt V c1 26 v' (vals2 ++ [x])) (hg : U.grownBy V (vblk v7)) (hk : ∀ (k : Nat) (o : Obj), U.heap[k]? = some o → (∀ c fr, o ≠ Obj.cells c 26 fr) → V.heap[k]? = some o) (hx : ∃ (A : Option Addr) (c : Nat), x = .slice A n c) (hr : r.length = n) (hU : ∀ U : World, (∀ y ∈ Q, U.heap[y.1]? = some y.2) → IntsAt U x n (lst r)) : AllS w V n x1 cs B0 c1 ov vals rs Q v' (vals2 ++ [x]) (rs2 ++ [r]) :=
  ⟨h.o1, h.o2.snoc hx hr hU, h.q1.keep hg.size fun b hb hlt => hg.block b hlt (fun e => by have h1 := (h.q2.blk e.symm).1; have h2 := h.hov b hb; omega), hq, Nat.le_trans h.hc hg.size, h.hov, h.hw, h.kp.app26 h.o1 hg hk (fun b e => (h.q2.blk e).1) h.hw⟩
theorem AllS.cells (h : AllS w U n x1 cs B0 c1 ov vals rs Q v7 vals2 rs2) {ob oo m oc p : Nat} (ho : ov = .slice (some ⟨ob, oo, none⟩) m oc) {rb ro rc : Nat} {r : List Int} (hv : vals[p]? = some (.slice (some ⟨rb, ro, none⟩) n rc)) (hr : rs[p]? = some r) : U.cell? ⟨ob, oo + p, none⟩ = some (.slice (some ⟨rb, ro, none⟩) n rc) ∧ (∀ j, j < n → U.cell? ⟨rb, ro + j, none⟩ = some (.int .i64 (lst r j))) ∧ IntsAt U (.slice (some ⟨rb, ro, none⟩) n rc) n (lst r) := by
  subst ho
  obtain ⟨b9, o9, e9, h9⟩ := h.q1.get hv
  cases e9
  obtain ⟨A8, c8, r8, e8, hr8, -, hU⟩ := h.o1.2.2 p _ hv
  rw [hr] at hr8
  cases hr8
  have hI := hU U (fun y hy => h.kp.at_ y (List.mem_cons_of_mem _ hy))
  refine ⟨h9, fun j hj => ?_, hI⟩
  obtain ⟨A7, c7, e7, -, -, hc⟩ := hI
  cases e7
  obtain ⟨b6, o6, e6, c6⟩ := hc j 0 hj (by omega)
  cases e6
  simpa only [Nat.mul_one, Nat.add_zero] using c6
/-- the row p, as it lies -/
theorem AllS.row (h : AllS w U n x1 cs B0 c1 ov vals rs Q v7 vals2 rs2) {p : Nat} (hp : p < vals.length) (hn : 0 < n) : ∃ ob oo oc rb ro rc r, ov = .slice (some ⟨ob, oo, none⟩) vals.length oc ∧ vals[p]? = some (.slice (some ⟨rb, ro, none⟩) n rc) ∧ rs[p]? = some r ∧ r.length = n ∧ n ≤ rc ∧ rc ≤ maxLen ∧ vals.length ≤ oc ∧ oc ≤ maxLen ∧ ∀ U : World, (∀ y ∈ Q, U.heap[y.1]? = some y.2) → IntsAt U (.slice (some ⟨rb, ro, none⟩) n rc) n (lst r) := by
  obtain ⟨A8, c8, r, hv, hr, hrl, hU⟩ := h.o1.row (i := p) (by rw [← h.o1.2.1]; exact hp)
  obtain ⟨A, oc, he, ho1, ho2⟩ := h.q1.form
  subst he
  obtain ⟨ob, oo, rfl, -⟩ := h.q1.get hv
  obtain ⟨A7, c7, e7, hc1, hc2, hc⟩ := hU U (fun y hy => h.kp.at_ y (List.mem_cons_of_mem _ hy))
  cases e7
  obtain ⟨rb, ro, rfl, -⟩ := hc 0 0 hn (by omega)
  exact ⟨ob, oo, oc, rb, ro, _, r, rfl, hv, hr, hrl, hc1, hc2, ho1, ho2, hU⟩
end
end Go.Proofs.Yteingahlmlndkaa

/-
  What is proved: all best pairings, by the definition (31).
-/
namespace Go.Proofs.Yteingahlmlndkaa
open Go.RowKit
attribute [local irreducible] Go.wpCalm rowV rowI
end Go.Proofs.Yteingahlmlndkaa

/-
  What is proved: the law's own right pairing of a stock, by numbers (39).
-/
namespace Go.Proofs.Yteingahlmlndkaa
open Go.RowKit
attribute [local irreducible] Go.wpCalm rowV rowI
theorem nums_shape {k : IntKind} {w : World} {v : Value} {m : Nat} {f : Nat → Int} (h : NumsAt k w v m f) : ∃ a c, v = .slice a m c ∧ m ≤ c ∧ c ≤ maxLen := by
  obtain ⟨a, c, h1, h2, h3, -⟩ := h
  exact ⟨a, c, h1, h2, h3⟩
theorem rem_at {a b x : Nat} (h : a % b = x) : (a : Int).tmod (b : Int) = (x : Nat) := by
  rw [Int.tmod_eq_emod_of_nonneg (Int.natCast_nonneg _), ← h]
  rfl
theorem mvI_swp {m : Nat → Nat} {i k : Nat} (hk : m k = k) (hik : i ≠ k) (z : Nat) : mvI (swp m i k) z = if z = k then (i : Int) else if z = i then (k : Int) else mvI m z := by
  unfold mvI
  rw [swp_alone hk]
  by_cases e1 : z = k
  · subst e1
    rw [if_pos rfl, if_pos rfl, if_neg hik]
  · rw [if_neg e1, if_neg e1]
    by_cases e2 : z = i
    · subst e2
      rw [if_pos rfl, if_pos rfl, if_neg (fun h => e1 h.symm)]
    · rw [if_neg e2, if_neg e2]
/-- the row of mates, after two have been joined -/
theorem swp_cells {xs : Array Value} {m : Nat → Nat} {n o i k : Nat} (hi : i < n) (hk : k < n) (hik : i ≠ k) (hmk : m k = k) (hx : ∀ j, j < n → xs[o + j]? = some (.int .i64 (mvI m j))) : ∀ j, j < n → ((xs.setIfInBounds (o + i) (.int .i64 (k : Nat))).setIfInBounds (o + k) (.int .i64 (i : Nat)))[o + j]? = some (.int .i64 (mvI (swp m i k) j)) := fun j hj => by
  have hsz : ∀ j, j < n → o + j < xs.size := fun j hj => (Array.getElem?_eq_some_iff.1 (hx j hj)).1
  rw [mvI_swp hmk hik, Array.getElem?_setIfInBounds]
  by_cases e1 : j = k
  · subst e1
    rw [if_pos rfl, if_pos rfl, Array.size_setIfInBounds, if_pos (hsz _ hj)]
  · rw [if_neg (fun h => e1 (by omega)), if_neg e1, Array.getElem?_setIfInBounds]
    by_cases e2 : j = i
    · subst e2
      rw [if_pos rfl, if_pos rfl, if_pos (hsz _ hj)]
    · rw [if_neg (fun h => e2 (by omega)), if_neg e2]
      exact hx j hj
set_option maxRecDepth 100000 in
set_option maxHeartbeats 8000000 in
theorem lpair_c (w : World) (v : Value) (s : Stk) (ht : StkAt w v s) (hok : s.Ok) (bv : Value) (nb : Nat) (b : Nat → Int) (hb : NumsAt .u8 w bv nb b) (hbb : ∀ i, i < nb → 0 ≤ b i ∧ b i ≤ 255) (hn40 : nb ≤ 40) : Calls Try.prog 39 #[v, bv] w fun e w' => ∃ u M, e = .returned u ∧ IsM s.adj (belowN s.nt) M ∧ IntsAt w' u s.nt (mvI M) ∧ w.grows w' := by
  have Ht := Lib.hid ht
  have Hb := Lib.hid hb
  have Hbb := Lib.hid hbb
  obtain ⟨tv, mv, rfl, ⟨sa, sc, rfl, s1, s2, -⟩, ⟨va, vc, rfl, -⟩⟩ := ht
  obtain ⟨ba, bc, rfl, b1, b2⟩ := nums_shape hb
  have h16 := hok.n16
  have HOk := Lib.hid hok
  unfold maxLen at b2
  clear hok hb hbb
  go_enter Try.func39, Try.ntmps39
  go_wp2
  obtain ⟨x1, hx1⟩ : ∃ x, w.heap.size = x := ⟨_, rfl⟩
  have k1 : KpS w [(x1, Obj.cells #[.slice sa s.nt sc, .slice va s.nm vc, .int .i64 s.wide] 25)] (w.alloc (Obj.cells #[.slice sa s.nt sc, .slice va s.nm vc, .int .i64 s.wide] 25)) :=
    (KpS.mk (by (repeat (first | exact World.grows.refl _ | assumption | refine World.grows.alloc ?_ _ | refine World.grows.plus ?_ _ _ | refine World.grows.drew ?_))) (fun y hy => absurd hy List.not_mem_nil)).add (World.heap_at w _ _ hx1.symm)
  have hB1 : Hid (x1 + 1 ≤ (w.alloc (Obj.cells #[.slice sa s.nt sc, .slice va s.nm vc, .int .i64 s.wide] 25)).heap.size) := Lib.hid (by simp [hx1])
  simp only [hx1]
  generalize w.alloc (Obj.cells #[.slice sa s.nt sc, .slice va s.nm vc, .int .i64 s.wide] 25) = W1 at k1 hB1 ⊢
  have HK1 := Lib.hid k1
  clear k1
  go_loopw [6, 7] (fun i6 i7 wr => ∃ (k : Nat), k ≤ s.nt ∧ i7 = .int .i64 (k : Nat) ∧ Hid (QAt wr (x1 + 1) 3 i6 (List.replicate k (.int .i64 (-1)))) ∧ Hid (x1 + 1 ≤ wr.heap.size) ∧ Hid (KpS w [(x1, Obj.cells #[.slice sa s.nt sc, .slice va s.nm vc, .int .i64 s.wide] 25)] wr)) (fun _ i7 _ => s.nt - (intOf i7).toNat)
  case atStart => exact ⟨0, by omega, rfl, Lib.hid (QAt.nil _ _ _), hB1, HK1⟩
  case round =>
    clear HK1 hB1
    obtain ⟨k, hk, rfl, hQ, hS, hKp⟩ := hrel
    obtain ⟨rv, rfl⟩ : ∃ rv, rv = u6 := ⟨_, rfl⟩
    by_cases hlt : k < s.nt
    · have hltI : (k : Int) < s.nt := by omega
      go_upto_region 6 with fail
      (iterate 7 go_step)
      have gA : wr.grows (wr.alloc (Obj.cells #[.int .i64 (-1)] 3)) := by (repeat (first | exact World.grows.refl _ | assumption | refine World.grows.alloc ?_ _ | refine World.grows.plus ?_ _ _ | refine World.grows.drew ?_))
      refine wpList_append_q _ rfl (.tmp 23) (.tmp 24) 26 (by rfl) (x1 + 1) 3 (.int .i64 0) 8 Try.underlying26 el3 (by rfl) rv (List.replicate k (.int .i64 (-1))) (by rfl) (hQ.out.mono gA) ⟨wr.heap.size, 0, none⟩ 1 (.int .i64 (-1)) (by rfl) (by simp [go_sem]) rfl (by rfl) (by rw [List.length_replicate]; unfold maxLen; omega) (by rw [List.length_replicate]; omega) (by have := hS.out; simp; omega) ?_
      intro v' V8 hq8 hg8 hv8 hk8
      have e8 : List.replicate k (Value.int .i64 (-1)) ++ [.int .i64 (-1)] = List.replicate (k + 1) (.int .i64 (-1)) := List.replicate_succ'.symm
      rw [e8] at hq8
      have hlb : ∀ b, vblk rv = some b → x1 + 1 ≤ b := fun b hb => (hQ.out.blk hb).1
      have kA := (hKp.out.mono gA).app hg8 hk8 (fun b hb => by have := hlb b hb; omega) (by
        intro y hy
        simp only [List.mem_cons, List.not_mem_nil, or_false] at hy
        rcases hy with rfl
        exact .inl (fun c fr e => by cases e))
      have hS8 : Hid (x1 + 1 ≤ V8.heap.size) := Lib.hid (Nat.le_trans hS.out (Nat.le_trans gA.size hg8.size))
      have KC := Lib.hid kA
      have QC := Lib.hid hq8
      clear hg8 hk8 hv8 kA hq8 hQ hKp hS gA hlb e8
      go_wp2
      case roundEnd => exact ⟨⟨k + 1, by omega, by go_num, QC, hS8, KC⟩, by simp [intOf]; omega⟩
    · have hltI : ¬ (k : Int) < s.nt := by omega
      have hkn : k = s.nt := by omega
      rw [hkn] at hQ
      clear hkn
      obtain ⟨A, cap, rfl, hc1, hc2⟩ := hQ.out.form
      rw [List.length_replicate] at hc1
      have hlr : (List.replicate s.nt (Value.int .i64 (-1))).length = s.nt := List.length_replicate
      rw [hlr] at hQ ⊢
      unfold maxLen at hc2
      obtain ⟨W2, rfl⟩ : ∃ W2, W2 = wr := ⟨_, rfl⟩
      go_upto_if 28 with fail
      go_cut [8] from 28 (fun z w' => ∃ F : Nat, F ≤ 255 ∧ z = .int .i64 (F : Nat) ∧ w' = W2)
      case first =>
        by_cases h0 : 0 < nb
        · have h0I : (0 : Int) < nb := by omega
          obtain ⟨hb1, hb2⟩ := Hbb.out 0 h0
          obtain ⟨ba', bc', he, -, -, hcb⟩ := NumsAt.mono Hb.out hKp.out.g
          cases he
          obtain ⟨bb, bo, rfl, cb⟩ := hcb 0 0 h0 (by omega)
          simp only [Nat.zero_mul, Nat.add_zero] at cb
          go_wp2
          go_meet

          case rel => exact ⟨(b 0).toNat, by omega, by rw [Int.toNat_of_nonneg hb1], rfl⟩
        · have h0I : ¬ (0 : Int) < nb := by omega
          go_wp2
          go_meet
          case rel => exact ⟨0, by omega, rfl, rfl⟩
      case rest =>
        obtain ⟨F, hF, rfl, rfl⟩ := hcut
        by_cases hn0 : s.nt = 0
        · have hltI2 : ¬ (0 : Int) < s.nt := by omega
          have hg := hKp.out.g
          have hI : IntsAt wc (.slice A s.nt cap) s.nt (mvI id) := ⟨A, cap, rfl, hc1, by unfold maxLen; omega, fun i j hi => by omega⟩
          have HI := Lib.hid hI
          clear hI hQ hKp hn0 hlr hc1
          obtain ⟨W3, rfl⟩ : ∃ W3, W3 = wc := ⟨_, rfl⟩
          go_wp2
          go_loopw [9] (fun i9 wr => i9 = .int .i64 0 ∧ Hid (W3.grows wr)) (fun _ _ => 0)
          case atStart => exact ⟨rfl, Lib.hid (World.grows.refl _)⟩
          case round =>
            obtain ⟨rfl, hg2⟩ := hrel
            go_wp2
            (refine bodyPost_ret (v := .slice A s.nt cap) (by simp [results, Try.results39, go_sem]) rfl ?_)
            exact ⟨_, id, rfl, IsM.none _ _, IntsAt.mono HI.out hg2.out, hg.trans hg2.out⟩
        · have hnI : (0 : Int) < s.nt := by omega
          obtain ⟨rb, o, rfl, hrb, cur, hhp, hcz, hcur⟩ : ∃ rb o, A = some ⟨rb, o, none⟩ ∧ x1 + 1 ≤ rb ∧ ∃ cur, wc.heap[rb]? = some (.cells cur 3) ∧ cur.size = o + cap ∧ ∀ j, j < s.nt → cur[o + j]? = some (.int .i64 (mvI id j)) := by
            obtain ⟨A9, c9, e9, -, -, -, h9⟩ := hQ.out
            simp only [Value.slice.injEq] at e9
            obtain ⟨rfl, -, rfl⟩ := e9
            obtain ⟨b9, o9, cur9, e1, e2, e3, e4, e5⟩ := h9 (by omega)
            refine ⟨b9, o9, e1, e2, cur9, e3, e4, fun j hj => ?_⟩
            rw [mvI_none (M := id) (i := j) rfl]
            exact e5 j _ (by rw [List.getElem?_replicate, if_pos hj])
          have HM0 : Hid (IsM s.adj (belowN s.nt) id) := Lib.hid (IsM.none _ _)
          have HC0 := Lib.hid hcur
          have HK0 : Hid (KpS w [(rb, .cells cur 3), (x1, Obj.cells #[.slice sa s.nt sc, .slice va s.nm vc, .int .i64 s.wide] 25)] wc) := Lib.hid (hKp.out.add hhp)
          clear hQ hKp hhp hcur hS
          obtain ⟨W3, rfl⟩ : ∃ W3, W3 = wc := ⟨_, rfl⟩
          go_wp2
          go_loopw [9] (fun i9 wr => ∃ (m : Nat) (M : Nat → Nat) (cur : Array Value), m ≤ s.nt ∧ i9 = .int .i64 (m : Nat) ∧ Hid (IsM s.adj (belowN s.nt) M) ∧ Hid (∀ j, j < s.nt → cur[o + j]? = some (.int .i64 (mvI M j))) ∧ Hid (KpS w [(rb, .cells cur 3), (x1, Obj.cells #[.slice sa s.nt sc, .slice va s.nm vc, .int .i64 s.wide] 25)] wr)) (fun i9 _ => s.nt - (intOf i9).toNat)
          case atStart => exact ⟨0, id, cur, by omega, rfl, HM0, HC0, HK0⟩
          case round =>
            clear HM0 HC0 HK0 hcz cur
            obtain ⟨m, M, cur, hm, rfl, hM, hC, hKp⟩ := hrel
            by_cases hlt : m < s.nt
            · have hltI : (m : Int) < s.nt := by omega
              obtain ⟨i, hiE⟩ : ∃ i, (F + m) % s.nt = i := ⟨_, rfl⟩
              have hi : i < s.nt := by rw [← hiE]; exact Nat.mod_lt _ (by omega)
              have hiI : (i : Int) < s.nt := by omega
              have hrem := rem_at hiE
              rw [Int.natCast_add] at hrem
              have ci := cell_of_heap hKp.out.hd (hC.out i hi)
              clear hiE
              by_cases hMi : M i = i
              · rw [mvI_none hMi] at ci
                have HMi := Lib.hid hMi
                clear hMi
                obtain ⟨W4, rfl⟩ : ∃ W4, W4 = wr := ⟨_, rfl⟩
                obtain ⟨c1, hc1'⟩ : ∃ x, W4.heap.size = x := ⟨_, rfl⟩
                have hrc1 : rb < c1 := by rw [← hc1']; exact World.lt_of_block hKp.out.hd
                have HC1 : Hid (c1 ≤ W4.heap.size) := Lib.hid (by omega)
                clear hc1'
                go_wp2
                go_loopw [11, 12] (fun i11 i12 wr => ∃ (k : Nat), k ≤ s.nt ∧ i12 = .int .i64 (k : Nat) ∧ Hid (QAt wr c1 3 i11 (ilist (filtL (fun k => decide (M k = k) && s.adj i k) k))) ∧ Hid (c1 ≤ wr.heap.size) ∧ Hid (KpS w [(rb, .cells cur 3), (x1, Obj.cells #[.slice sa s.nt sc, .slice va s.nm vc, .int .i64 s.wide] 25)] wr)) (fun _ i12 _ => s.nt - (intOf i12).toNat)
                case atStart => exact ⟨0, by omega, rfl, Lib.hid (QAt.nil _ _ _), HC1, hKp⟩
                case round =>
                  clear HC1 hKp ci
                  obtain ⟨k, hk', rfl, hL, hCw, hKp⟩ := hrel
                  obtain ⟨lv, rfl⟩ : ∃ lv, lv = u11 := ⟨_, rfl⟩
                  have hl16 := filtL_len (fun k => decide (M k = k) && s.adj i k) k
                  by_cases hlt2 : k < s.nt
                  · have hltI2 : (k : Int) < s.nt := by omega
                    have ck := cell_of_heap hKp.out.hd (hC.out k hlt2)
                    have HS := Lib.hid (filtL_succ (fun k => decide (M k = k) && s.adj i k) k)
                    by_cases hMk : M k = k
                    · rw [mvI_none hMk] at ck
                      have HMk := Lib.hid hMk
                      have c0 := cell_of_heap hKp.out.drop.hd (i := 0) rfl
                      have c1' := cell_of_heap hKp.out.drop.hd (i := 1) rfl
                      have c2 := cell_of_heap hKp.out.drop.hd (i := 2) rfl
                      clear hMk
                      go_wp2_with (go_at_call 99; fail)
                      refine (suits_c _ _ s (Ht.out.mono (hKp.out.g.trans (by (repeat (first | exact World.grows.refl _ | assumption | refine World.grows.alloc ?_ _ | refine World.grows.plus ?_ _ _ | refine World.grows.drew ?_))))) HOk.out i k hi hlt2).mono ?_
                      rintro e W6 ⟨rfl, g6⟩
                      have g6' : wr.grows W6 := World.grows.trans (by (repeat (first | exact World.grows.refl _ | assumption | refine World.grows.alloc ?_ _ | refine World.grows.plus ?_ _ _ | refine World.grows.drew ?_))) g6
                      have HL6 := Lib.hid (hL.out.mono g6')
                      have hC6 : Hid (c1 ≤ W6.heap.size) := Lib.hid (Nat.le_trans hCw.out g6'.size)
                      have HK6 := Lib.hid (hKp.out.mono g6')
                      have Hadj := Lib.hid (Stk.adj_suits hi hlt2)
                      clear g6 g6' hL hCw hKp c0 c1' c2 ck
                      cases ha : s.suits i k with
                      | false =>
                        have HS2 : Hid (filtL (fun k => decide (M k = k) && s.adj i k) (k + 1) = filtL (fun k => decide (M k = k) && s.adj i k) k) := Lib.hid (by rw [HS.out, if_neg]; rw [Hadj.out, ha, Bool.and_false]; exact Bool.false_ne_true)
                        clear ha
                        go_wp2
                        case roundEnd => exact ⟨⟨k + 1, by omega, by go_num, by rw [HS2.out]; exact HL6, hC6, HK6⟩, by simp [intOf]; omega⟩
                      | true =>
                        have HS2 : Hid (filtL (fun k => decide (M k = k) && s.adj i k) (k + 1) = filtL (fun k => decide (M k = k) && s.adj i k) k ++ [k]) := Lib.hid (by rw [HS.out, if_pos]; rw [Hadj.out, ha, decide_eq_true HMk.out]; rfl)
                        obtain ⟨L, hLL⟩ : ∃ L, filtL (fun k => decide (M k = k) && s.adj i k) k = L := ⟨_, rfl⟩
                        rw [hLL] at HL6 HS2 hl16
                        clear hLL ha
                        go_upto_region 20 with fail
                        (iterate 10 go_step)
                        have gA : W6.grows (W6.alloc (Obj.cells #[.int .i64 (k : Nat)] 3)) := by (repeat (first | exact World.grows.refl _ | assumption | refine World.grows.alloc ?_ _ | refine World.grows.plus ?_ _ _ | refine World.grows.drew ?_))
                        refine wpList_append_q _ rfl (.tmp 64) (.tmp 66) 26 (by rfl) c1 3 (.int .i64 0) 8 Try.underlying26 el3 (by rfl) lv (ilist L) (by rfl) (HL6.out.mono gA) ⟨W6.heap.size, 0, none⟩ 1 (.int .i64 (k : Nat)) (by rfl) (by simp [go_sem]) rfl (by rfl) (by rw [ilist_len]; unfold maxLen; omega) (by rw [ilist_len]; omega) (by have := hC6.out; simp; omega) ?_
                        intro v' V8 hq8 hg8 hv8 hk8
                        rw [← ilist_snoc, ← HS2.out] at hq8
                        have hlb : ∀ b, vblk lv = some b → c1 ≤ b := fun b hb => (HL6.out.blk hb).1
                        have kA := (HK6.out.mono gA).app hg8 hk8 (fun b hb => by have := hlb b hb; omega) (by
                          intro y hy
                          simp only [List.mem_cons, List.not_mem_nil, or_false] at hy
                          rcases hy with rfl | rfl
                          · exact .inr (fun e => by have := hlb _ e; simp only at this; omega)
                          · exact .inl (fun c fr e => by cases e))
                        have hC8 : Hid (c1 ≤ V8.heap.size) := Lib.hid (Nat.le_trans hC6.out (Nat.le_trans gA.size hg8.size))
                        have HK8 := Lib.hid kA
                        have HL8 := Lib.hid hq8
                        clear hg8 hk8 hv8 kA hq8 gA hlb HL6 HK6 hC6
                        go_wp2
                        case roundEnd => exact ⟨⟨k + 1, by omega, by go_num, HL8, hC8, HK8⟩, by simp [intOf]; omega⟩
                    · rw [mvI_some hMk] at ck
                      have hnl : ¬ ((M k : Nat) : Int) < 0 := by omega
                      have HS2 : Hid (filtL (fun k => decide (M k = k) && s.adj i k) (k + 1) = filtL (fun k => decide (M k = k) && s.adj i k) k) := Lib.hid (by rw [HS.out, if_neg]; rw [decide_eq_false hMk, Bool.false_and]; exact Bool.false_ne_true)
                      clear hMk
                      go_wp2
                      case roundEnd => exact ⟨⟨k + 1, by omega, by go_num, by rw [HS2.out]; exact hL, hCw, hKp⟩, by simp [intOf]; omega⟩
                  · have hltI2 : ¬ (k : Int) < s.nt := by omega
                    have hkn : k = s.nt := by omega
                    rw [hkn] at hL hl16
                    have HLm : Hid (∀ v, v ∈ filtL (fun k => decide (M k = k) && s.adj i k) s.nt → v < s.nt ∧ M v = v ∧ s.adj i v = true) := Lib.hid fun v hv => by
                      obtain ⟨h1, h2⟩ := mem_filtL.1 hv
                      rw [Bool.and_eq_true, decide_eq_true_eq] at h2
                      exact ⟨h1, h2⟩
                    obtain ⟨L, hLL⟩ : ∃ L, filtL (fun k => decide (M k = k) && s.adj i k) s.nt = L := ⟨_, rfl⟩
                    rw [hLL] at hL hl16 HLm
                    clear hLL hkn hlt2
                    obtain ⟨W5, rfl⟩ : ∃ W5, W5 = wr := ⟨_, rfl⟩
                    obtain ⟨lA, lc, rfl, hlc1, hlc2⟩ := hL.out.form
                    rw [ilist_len] at hL hlc1 ⊢
                    unfold maxLen at hlc2
                    go_upto_if 70 with fail
                    go_cut [13] from 70 to 81 (fun z w' => ∃ X : Nat, X ≤ 255 ∧ z = .int .i64 (X : Nat) ∧ w' = W5)
                    case first =>
                      by_cases h0 : 1 < nb
                      · have h0I : (1 : Int) < nb := by omega
                        obtain ⟨r, hrE⟩ : ∃ r, m % (nb - 1) = r := ⟨_, rfl⟩
                        have hr : r < nb - 1 := by rw [← hrE]; exact Nat.mod_lt _ (by omega)
                        have hrem2 := rem_at hrE
                        rw [show ((nb - 1 : Nat) : Int) = (nb : Int) - 1 by omega] at hrem2
                        obtain ⟨hb1, hb2⟩ := Hbb.out (1 + r) (by omega)
                        obtain ⟨ba', bc', he, -, -, hcb⟩ := NumsAt.mono Hb.out hKp.out.g
                        cases he
                        obtain ⟨bb, bo, rfl, cb⟩ := hcb (1 + r) 0 (by omega) (by omega)
                        simp only [Nat.mul_one, Nat.add_zero] at cb
                        have hrI : (1 : Int) + r < nb := by omega
                        have hnz : ¬ (nb : Int) - 1 = 0 := by omega
                        clear hrE hcb
                        go_wp2
                        go_meet
                        case rel => exact ⟨(b (1 + r)).toNat, by omega, by rw [Int.toNat_of_nonneg hb1], rfl⟩
                      · have h0I : ¬ (1 : Int) < nb := by omega
                        go_wp2
                        go_meet
                        case rel => exact ⟨0, by omega, rfl, rfl⟩
                    case rest =>
                      obtain ⟨X, hX, rfl, rfl⟩ := hcut
                      by_cases hl0 : 0 < L.length
                      · have hlI : (0 : Int) < L.length := by omega
                        by_cases hx2 : X < 230
                        · have hxI : (X : Int) < 230 := by omega
                          obtain ⟨q, hqE⟩ : ∃ q, X % L.length = q := ⟨_, rfl⟩
                          have hq : q < L.length := by rw [← hqE]; exact Nat.mod_lt _ hl0
                          have hqI : (q : Int) < L.length := by omega
                          have hrem2 := rem_at hqE
                          have hLq : L[q]? = some L[q] := List.getElem?_eq_getElem hq
                          obtain ⟨K, hKE⟩ : ∃ K, L[q] = K := ⟨_, rfl⟩
                          rw [hKE] at hLq
                          obtain ⟨hKn, hMK, hAK⟩ := HLm.out K (List.mem_of_getElem? hLq)
                          have hiK : i ≠ K := fun e => by rw [e, s.adj_irr] at hAK; cases hAK
                          obtain ⟨lb, lo, rfl, cl⟩ := hL.out.get (i := q) (x := .int .i64 (K : Nat)) (by unfold ilist; rw [List.getElem?_map, hLq]; rfl)
                          have hKI : (K : Int) < s.nt := by omega
                          have hx1' := hC.out
                          have HM2 : Hid (IsM s.adj (belowN s.nt) (swp M i K)) := Lib.hid (IsM.pair (n := s.nt) (fun v hv => belowN_lt hv) s.adj_symm hM.out HMi.out hMK hiK (by unfold belowN; exact decide_eq_true hi) (by unfold belowN; exact decide_eq_true hKn) (by rw [s.adj_symm]; exact hAK)).1
                          have HC2 := Lib.hid (swp_cells hi hKn hiK hMK hC.out)
                          have h1 := hKp.out.hd
                          have ci := cell_of_heap h1 (hC.out i hi)
                          have cK := cell_of_heap h1 (hC.out K hKn)
                          have fi := frozen_of_heap h1 (o + i)
                          have fK := frozen_of_heap h1 (o + K)
                          have h2 := store_of_heap h1 (o + i) (.int .i64 (K : Nat))
                          have fi2 := frozen_of_heap h2 (o + i)
                          have fK2 := frozen_of_heap h2 (o + K)
                          have cK2 : (wc.setCell ⟨rb, o + i, none⟩ (.int .i64 (K : Nat))).cell? ⟨rb, o + K, none⟩ = some (.int .i64 (mvI M K)) := cell_of_heap h2 (by
                            rw [Array.getElem?_setIfInBounds, if_neg (by omega)]
                            exact hC.out K hKn)
                          have h3 := store_of_heap h2 (o + K) (.int .i64 (i : Nat))
                          have hP : ∀ y ∈ [(x1, Obj.cells #[.slice sa s.nt sc, .slice va s.nm vc, .int .i64 s.wide] 25)], y.1 ≠ rb := fun y hy => by
                            rw [List.mem_singleton] at hy
                            subst hy
                            simp only
                            omega
                          have HK2 := Lib.hid (((hKp.out.drop.set (b := rb) (by omega) hP (o + i) (.int .i64 (K : Nat))).set (b := rb) (by omega) hP (o + K) (.int .i64 (i : Nat))).add h3)
                          clear hqE hLq hKE hAK hMK hx1' h1 h2 h3 hP hL hKp hiK
                          go_wp2
                          case roundEnd => exact ⟨⟨m + 1, _, _, by omega, by go_num, HM2, HC2, HK2⟩, by simp [intOf]; omega⟩
                        · have hxI : ¬ (X : Int) < 230 := by omega
                          clear hL
                          go_wp2
                          case roundEnd => exact ⟨⟨m + 1, M, cur, by omega, by go_num, hM, hC, hKp⟩, by simp [intOf]; omega⟩
                      · have hlI : ¬ (0 : Int) < L.length := by omega
                        clear hL
                        go_wp2
                        case roundEnd => exact ⟨⟨m + 1, M, cur, by omega, by go_num, hM, hC, hKp⟩, by simp [intOf]; omega⟩
              · rw [mvI_some hMi] at ci
                have hge : (0 : Int) ≤ (M i : Nat) := by omega
                clear hMi
                go_wp2
                case roundEnd => exact ⟨⟨m + 1, M, cur, by omega, by go_num, hM, hC, hKp⟩, by simp [intOf]; omega⟩
            · have hltI : ¬ (m : Int) < s.nt := by omega
              have hI : IntsAt wr (.slice (some ⟨rb, o, none⟩) s.nt cap) s.nt (mvI M) := ⟨_, cap, rfl, hc1, by unfold maxLen; omega, fun i j hi hj => ⟨rb, o, rfl, by
                rw [show o + i * 1 + j = o + i by omega]
                exact cell_of_heap hKp.out.hd (hC.out i hi)⟩⟩
              have HI := Lib.hid hI
              have hg := hKp.out.g
              clear hI hKp hC
              go_wp2
              (refine bodyPost_ret (v := .slice (some ⟨rb, o, none⟩) s.nt cap) (by simp [results, Try.results39, go_sem]) rfl ?_)
              exact ⟨_, rfl, M, hM.out, HI.out, hg⟩
end Go.Proofs.Yteingahlmlndkaa

/-
  What is proved: how many best pairings there are, by one thing's mates (plain).
-/
namespace Go.Proofs.Yteingahlmlndkaa
/-- the best pairings in which the thing t goes with u (u = t: stays alone) -/
def cntT (A : Nat → Nat → Bool) (S : Nat → Bool) (t u : Nat) : Nat :=
  if u = t then (if nu A (less1 (less1 S t) u) 16 = nu A S 16 then cnt A (less1 (less1 S t) u) 16 else 0)
  else if A t u = true ∧ nu A (less1 (less1 S t) u) 16 + 1 = nu A S 16 then cnt A (less1 (less1 S t) u) 16 else 0
end Go.Proofs.Yteingahlmlndkaa

/-
  What is proved: MatchCounts (8) answers true.
-/
namespace Go.Proofs.Yteingahlmlndkaa
open Go.RowKit
attribute [local irreducible] Go.wpCalm rowV
/-- the pairs of k with lesser things are not "may" only -/
noncomputable def fixJ (s : Stk) (k j : Nat) : Bool := (List.range j).all fun j => !decide (pairN s.adj s.nt j k = 1)
noncomputable def fixK (s : Stk) (k : Nat) : Bool := (List.range k).all fun k => fixJ s k k
theorem two_ok {s : Stk} (hc : s.check = 0) {i k : Nat} (hi : i < s.nt) (hk : k < s.nt) : twoE s (i : Nat) (k : Nat) = 0 := by
  unfold twoE
  rw [if_neg (by omega), if_pos]
  unfold Stk.isT
  simp
  omega
end Go.Proofs.Yteingahlmlndkaa

