/-
  What is proved: the answers about a valid stock, in the words of the statements.
-/
import Derived.Test.YteingahlmlndkaaM16
import Derived.Test.YteingahlmlndkaaM13
import Derived.Test.YteingahlmlndkaaM15
set_option linter.all false
namespace Go.Proofs.Yteingahlmlndkaa
open Go.RowKit
attribute [local irreducible] Go.wpCalm rowV
section
variable {X : World} {tv : Value} {s : Stk}
theorem filtL_le16 (Y : Nat → Bool) : (filtL Y 16).length ≤ 16 := by
  refine Nat.le_trans (List.length_filter_le _ _) ?_
  rw [List.length_range]
  omega
theorem v_best (h : StkAt X tv s) (hok : s.Ok) {N : Nat} (hN : nu s.adj (belowN s.nt) 16 = N) : Calls Try.prog 27 #[tv] X fun e w' => ∃ a c m, e = .returned (.tuple #[.slice a s.nt c, .int .i64 (N : Nat), .int .i64 0]) ∧ Mx s.adj (belowN s.nt) 16 m ∧ IntsAt w' (.slice a s.nt c) s.nt (mvI m) ∧ X.grows w' := by
  refine (bestF_ok X tv s h hok).mono ?_
  rintro e w' ⟨u, m, rfl, hm, hu, g⟩
  rw [hN]
  obtain ⟨a, c, rfl, -⟩ := id hu
  exact ⟨a, c, m, rfl, hm, hu, g⟩
theorem v_cut (h : StkAt X tv s) (hok : s.Ok) {N : Nat} (hN : nu s.adj (belowN s.nt) 16 = N) : Calls Try.prog 28 #[tv] X fun e w' => ∃ a c n f, e = .returned (.tuple #[.slice a n c, .int .i64 0]) ∧ IntsAt w' (.slice a n c) n f ∧ n ≤ 100 ∧ (grpOk s f n = true ∧ cutN s f n = N) ∧ X.grows w' := by
  refine (cut_ok X tv s h hok).mono ?_
  rintro e w' ⟨u, Y, rfl, hu, hY, g⟩
  have h2 := cut_best (s := s) hok.n16 hY
  rw [hN] at h2
  obtain ⟨a, c, rfl, -⟩ := id hu
  exact ⟨a, c, _, lstN (filtL Y 16), rfl, hu, by have := filtL_le16 Y; omega, h2, g⟩
theorem v_ccut (h : StkAt X tv s) (hok : s.Ok) {lv : Value} {n N : Nat} {f : Nat → Int} (hl : IntsAt X lv n f) (hn : n ≤ 100) (h1 : grpOk s f n = true ∧ cutN s f n = N) : Calls Try.prog 21 #[tv, lv] X fun e w' => e = .returned (.tuple #[.int .i64 (N : Nat), .int .i64 0]) ∧ X.grows w' := by
  refine (ccut_ok X tv s h hok lv n f hl hn).mono ?_
  rintro e w' ⟨g, hp⟩
  rw [if_pos h1.1, h1.2] at hp
  exact ⟨hp, g⟩
theorem v_rcut (h : StkAt X tv s) (hok : s.Ok) {lv : Value} {n N : Nat} {f : Nat → Int} (hl : IntsAt X lv n f) (hn : n ≤ 100) (h1 : grpOk s f n = true ∧ cutN s f n = N) : Calls Try.prog 22 #[tv, lv] X fun e w' => e = .returned (.tuple #[.int .i64 (N : Nat), .int .i64 0]) ∧ X.grows w' := by
  refine (rcut_ok X tv s h hok lv n f hl hn).mono ?_
  rintro e w' ⟨g, hp⟩
  rw [if_pos h1.1, h1.2] at hp
  exact ⟨hp, g⟩
theorem v_pair (h : StkAt X tv s) (hok : s.Ok) {lv : Value} {m : Nat → Nat} {N : Nat} (hN : nu s.adj (belowN s.nt) 16 = N) (hl : IntsAt X lv s.nt (mvI m)) (hm : Mx s.adj (belowN s.nt) 16 m) : Calls Try.prog 19 #[tv, lv] X fun e w' => e = .returned (.tuple #[.int .i64 (N : Nat), .int .i64 0]) ∧ X.grows w' := by
  have := pairing_ok X tv s h hok lv s.nt (mvI m) hl
  rw [hm.isM.pErr, hm.pNum hok.n16, hN] at this
  exact this
theorem v_rpair (h : StkAt X tv s) (hok : s.Ok) {lv : Value} {m : Nat → Nat} {N : Nat} (hN : nu s.adj (belowN s.nt) 16 = N) (hl : IntsAt X lv s.nt (mvI m)) (hm : Mx s.adj (belowN s.nt) 16 m) : Calls Try.prog 20 #[tv, lv] X fun e w' => e = .returned (.tuple #[.int .i64 (N : Nat), .int .i64 0]) ∧ X.grows w' := by
  have := rpairing_ok X tv s h hok lv s.nt (mvI m) hl
  rw [hm.isM.pErr, hm.pNum hok.n16, hN] at this
  exact this
/-- the list of all kinds -/
noncomputable def kindsF (s : Stk) (i : Nat) : Int := ((((List.range s.nt).map (kindN s.adj s.nt)).getD i 0 : Nat) : Int)
end
end Go.Proofs.Yteingahlmlndkaa

/-
  What is proved: all best pairings by the definition (31): rows in memory, and what is counted (plain).
-/
namespace Go.Proofs.Yteingahlmlndkaa
open Go.RowKit
/-- rows of n numbers that lie in these blocks -/
def OutI (n : Nat) (Q : List (Nat × Obj)) (vals : List Value) (rs : List (List Int)) : Prop := (∀ y ∈ Q, ∃ c, y.2 = .cells c 3) ∧ vals.length = rs.length ∧ ∀ (i : Nat) (x : Value), vals[i]? = some x → ∃ (A : Option Addr) (c : Nat) (r : List Int), x = .slice A n c ∧ rs[i]? = some r ∧ r.length = n ∧ ∀ U : World, (∀ y ∈ Q, U.heap[y.1]? = some y.2) → IntsAt U x n (lst r)
theorem OutI.nil (n : Nat) (Q : List (Nat × Obj)) (hQ : ∀ y ∈ Q, ∃ c, y.2 = .cells c 3) : OutI n Q [] [] := ⟨hQ, rfl, fun i x h => by simp at h⟩
theorem OutI.more {n : Nat} {Q : List (Nat × Obj)} {vals : List Value} {rs : List (List Int)} (h : OutI n Q vals rs) (b : Nat) (c : Array Value) : OutI n ((b, .cells c 3) :: Q) vals rs :=
  ⟨fun y hy => by rcases List.mem_cons.1 hy with rfl | hy; exact ⟨_, rfl⟩; exact h.1 y hy, h.2.1, fun i x hx => by
    obtain ⟨A, cp, r, h1, h2, h3, h4⟩ := h.2.2 i x hx
    exact ⟨A, cp, r, h1, h2, h3, fun U hU => h4 U fun y hy => hU y (List.mem_cons_of_mem _ hy)⟩⟩
/-- a row more -/
theorem OutI.snoc {n : Nat} {Q : List (Nat × Obj)} {vals : List Value} {rs : List (List Int)} (h : OutI n Q vals rs) {x : Value} {r : List Int} (hx : ∃ (A : Option Addr) (c : Nat), x = .slice A n c) (hr : r.length = n) (hU : ∀ U : World, (∀ y ∈ Q, U.heap[y.1]? = some y.2) → IntsAt U x n (lst r)) : OutI n Q (vals ++ [x]) (rs ++ [r]) := by
  refine ⟨h.1, by simp [h.2.1], fun i u hu => ?_⟩
  by_cases hi : i < vals.length
  · rw [List.getElem?_append_left hi] at hu
    obtain ⟨A, cp, r', h1, h2, h3, h4⟩ := h.2.2 i u hu
    exact ⟨A, cp, r', h1, by rw [List.getElem?_append_left (by rw [← h.2.1]; exact hi)]; exact h2, h3, h4⟩
  · have hi2 := (List.getElem?_eq_some_iff.1 hu).1
    rw [List.length_append] at hi2
    simp at hi2
    have : i = vals.length := by omega
    subst this
    rw [List.getElem?_append_right (by omega)] at hu
    simp at hu
    subst hu
    obtain ⟨A, c, rfl⟩ := hx
    exact ⟨A, c, r, rfl, by simp [h.2.1], hr, hU⟩
theorem OutI.row {n : Nat} {Q : List (Nat × Obj)} {vals : List Value} {rs : List (List Int)} (h : OutI n Q vals rs) {i : Nat} (hi : i < rs.length) : ∃ (A : Option Addr) (c : Nat) (r : List Int), vals[i]? = some (.slice A n c) ∧ rs[i]? = some r ∧ r.length = n ∧ ∀ U : World, (∀ y ∈ Q, U.heap[y.1]? = some y.2) → IntsAt U (.slice A n c) n (lst r) := by
  have hvl : i < vals.length := by rw [h.2.1]; exact hi
  have hv : vals[i]? = some vals[i] := List.getElem?_eq_getElem hvl
  obtain ⟨A, c, r, h1, h2, h3, h4⟩ := h.2.2 i _ hv
  rw [h1] at hv h4
  exact ⟨A, c, r, hv, h2, h3, h4⟩
/-- pairs of a row -/
def prR (n : Nat) (r : List Int) : Nat := cntB (fun v => decide ((v : Int) < lst r v)) n
def mostR (n : Nat) : List (List Int) → Nat
  | [] => 0
  | r :: l => max (prR n r) (mostR n l)
/-- all best pairings, by the definition -/
def allB (A : Nat → Nat → Bool) (n : Nat) : List (List Int) := (allR A n n).filter fun r => decide (prR n r = mostR n (allR A n n))
/-- what has been made of the row p when things below k have been tried -/
def partA' (A : Nat → Nat → Bool) (n i k : Nat) (p : List Int) : List (List Int) := p.set i (-1) :: ((List.range k).filter fun k => decide (i < k) && (p.getD k 0 == -2 && A i k)).map fun (k : Nat) => (p.set i (k : Int)).set k (i : Int)
end Go.Proofs.Yteingahlmlndkaa

/-
  What is proved: all best pairings by the definition (31): what its loops keep.
-/
namespace Go.Proofs.Yteingahlmlndkaa
open Go.RowKit
attribute [local irreducible] Go.wpCalm rowV rowI
/-- the block that is appended to is not one of these -/
theorem KpS.app26 {w U U' : World} {n : Nat} {Q : List (Nat × Obj)} {x1 : Nat} {cs : Array Value} {vals : List Value} {rs : List (List Int)} {v : Value} {b0 : Nat} (h : KpS w ((x1, .cells cs 25) :: Q) U) (hO : OutI n Q vals rs) (hg : U.grownBy U' (vblk v)) (hk : ∀ (k : Nat) (o : Obj), U.heap[k]? = some o → (∀ c fr, o ≠ Obj.cells c 26 fr) → U'.heap[k]? = some o) (hb : ∀ b, vblk v = some b → b0 ≤ b) (hw : w.heap.size ≤ b0) : KpS w ((x1, .cells cs 25) :: Q) U' :=
  h.appE (e := 26) hg hk (fun b e => Nat.le_trans hw (hb b e)) (fun y hy => .inl (by
    rcases List.mem_cons.1 hy with rfl | hy
    · exact fun c fr e => by cases e
    · obtain ⟨c9, he9⟩ := hO.1 y hy
      rw [he9]
      exact fun c fr e => by cases e))
/-- the row that is filled at first -/
theorem OutI.first {U : World} {base n : Nat} {rv : Value} (hq : QAt U base 3 rv (List.replicate n (.int .i64 (-2)))) : ∃ Q, OutI n Q [rv] [List.replicate n (-2)] ∧ ∀ y ∈ Q, U.heap[y.1]? = some y.2 := by
  obtain ⟨A, cap, rfl, h1, h2, -, h4⟩ := hq
  rw [List.length_replicate] at h1 ⊢
  by_cases hn : n = 0
  · subst hn
    refine ⟨[], ⟨fun y hy => absurd hy List.not_mem_nil, rfl, fun i x hx => ?_⟩, fun y hy => absurd hy List.not_mem_nil⟩
    have hi := (List.getElem?_eq_some_iff.1 hx).1
    have : i = 0 := by simpa using hi
    subst this
    cases hx
    exact ⟨A, cap, [], rfl, rfl, rfl, fun U _ => ⟨A, cap, rfl, Nat.zero_le _, h2, fun i j hi => by omega⟩⟩
  · obtain ⟨b, o, cur, rfl, -, h5, -, h6⟩ := h4 (by omega)
    refine ⟨[(b, .cells cur 3)], ⟨fun y hy => by rw [List.mem_singleton] at hy; subst hy; exact ⟨_, rfl⟩, rfl, fun i x hx => ?_⟩, fun y hy => by rw [List.mem_singleton] at hy; subst hy; exact h5⟩
    have hi := (List.getElem?_eq_some_iff.1 hx).1
    have : i = 0 := by simpa using hi
    subst this
    cases hx
    refine ⟨_, cap, List.replicate n (-2), rfl, rfl, List.length_replicate, fun U hU => ?_⟩
    have hb := hU _ (List.mem_singleton.2 rfl)
    refine ⟨_, cap, rfl, h1, h2, fun i j hi hj => ⟨b, o, rfl, cell_of_heap hb ?_⟩⟩
    have := h6 i (.int .i64 (-2)) (by rw [List.getElem?_replicate, if_pos hi])
    rw [show o + i * 1 + j = o + i by omega, this]
    show _ = some (Value.int .i64 ((List.replicate n (-2)).getD i 0))
    rw [List.getD_eq_getElem?_getD, List.getElem?_replicate, if_pos hi]
    rfl
/-- the rows of a round (ov), and those of the next one (v7) -/
structure AllS (w U : World) (n x1 : Nat) (cs : Array Value) (B0 c1 : Nat) (ov : Value) (vals : List Value) (rs : List (List Int)) (Q : List (Nat × Obj)) (v7 : Value) (vals2 : List Value) (rs2 : List (List Int)) : Prop where
  o1 : OutI n Q vals rs
  o2 : OutI n Q vals2 rs2
  q1 : QAt U B0 26 ov vals
  q2 : QAt U c1 26 v7 vals2
  hc : c1 ≤ U.heap.size
  hov : ∀ b, vblk ov = some b → b < c1
  hw : w.heap.size ≤ c1
  kp : KpS w ((x1, .cells cs 25) :: Q) U
section
variable {w U : World} {n x1 : Nat} {cs : Array Value} {B0 c1 : Nat} {ov : Value} {vals : List Value} {rs : List (List Int)} {Q : List (Nat × Obj)} {v7 : Value} {vals2 : List Value} {rs2 : List (List Int)}
theorem AllS.mono (h : AllS w U n x1 cs B0 c1 ov vals rs Q v7 vals2 rs2) {U' : World} (g : U.grows U') : AllS w U' n x1 cs B0 c1 ov vals rs Q v7 vals2 rs2 :=
  ⟨h.o1, h.o2, h.q1.mono g, h.q2.mono g, Nat.le_trans h.hc g.size, h.hov, h.hw, h.kp.mono g⟩
theorem AllS.blk (h : AllS w U n x1 cs B0 c1 ov vals rs Q v7 vals2 rs2) {b : Nat} {cur : Array Value} (hb : U.heap[b]? = some (.cells cur 3)) : AllS w U n x1 cs B0 c1 ov vals rs ((b, .cells cur 3) :: Q) v7 vals2 rs2 :=
  ⟨h.o1.more b cur, h.o2.more b cur, h.q1, h.q2, h.hc, h.hov, h.hw, (KpS.add h.kp.drop hb).add h.kp.hd⟩
theorem AllS.app (h : AllS w U n x1 cs B0 c1 ov vals rs Q v7 vals2 rs2) {V : World} {v' x : Value} {r : List Int} (hq : QAt V c1 26 v' (vals2 ++ [x])) (hg : U.grownBy V (vblk v7)) (hk : ∀ (k : Nat) (o : Obj), U.heap[k]? = some o → (∀ c fr, o ≠ Obj.cells c 26 fr) → V.heap[k]? = some o) (hx : ∃ (A : Option Addr) (c : Nat), x = .slice A n c) (hr : r.length = n) (hU : ∀ U : World, (∀ y ∈ Q, U.heap[y.1]? = some y.2) → IntsAt U x n (lst r)) : AllS w V n x1 cs B0 c1 ov vals rs Q v' (vals2 ++ [x]) (rs2 ++ [r]) :=
  ⟨h.o1, h.o2.snoc hx hr hU, h.q1.keep hg.size fun b hb hlt => hg.block b hlt (fun e => by have h1 := (h.q2.blk e.symm).1; have h2 := h.hov b hb; omega), hq, Nat.le_trans h.hc hg.size, h.hov, h.hw, h.kp.app26 h.o1 hg hk (fun b e => (h.q2.blk e).1) h.hw⟩
theorem AllS.cells (h : AllS w U n x1 cs B0 c1 ov vals rs Q v7 vals2 rs2) {ob oo m oc p : Nat} (ho : ov = .slice (some ⟨ob, oo, none⟩) m oc) {rb ro rc : Nat} {r : List Int} (hv : vals[p]? = some (.slice (some ⟨rb, ro, none⟩) n rc)) (hr : rs[p]? = some r) : U.cell? ⟨ob, oo + p, none⟩ = some (.slice (some ⟨rb, ro, none⟩) n rc) ∧ (∀ j, j < n → U.cell? ⟨rb, ro + j, none⟩ = some (.int .i64 (lst r j))) ∧ IntsAt U (.slice (some ⟨rb, ro, none⟩) n rc) n (lst r) := by
  subst ho
  obtain ⟨b9, o9, e9, h9⟩ := h.q1.get hv
  cases e9
  obtain ⟨A8, c8, r8, e8, hr8, -, hU⟩ := h.o1.2.2 p _ hv
  rw [hr] at hr8
  cases hr8
  have hI := hU U (fun y hy => h.kp.at_ y (List.mem_cons_of_mem _ hy))
  refine ⟨h9, fun j hj => ?_, hI⟩
  obtain ⟨A7, c7, e7, -, -, hc⟩ := hI
  cases e7
  obtain ⟨b6, o6, e6, c6⟩ := hc j 0 hj (by omega)
  cases e6
  simpa only [Nat.mul_one, Nat.add_zero] using c6
/-- the row p, as it lies -/
theorem AllS.row (h : AllS w U n x1 cs B0 c1 ov vals rs Q v7 vals2 rs2) {p : Nat} (hp : p < vals.length) (hn : 0 < n) : ∃ ob oo oc rb ro rc r, ov = .slice (some ⟨ob, oo, none⟩) vals.length oc ∧ vals[p]? = some (.slice (some ⟨rb, ro, none⟩) n rc) ∧ rs[p]? = some r ∧ r.length = n ∧ n ≤ rc ∧ rc ≤ maxLen ∧ vals.length ≤ oc ∧ oc ≤ maxLen ∧ ∀ U : World, (∀ y ∈ Q, U.heap[y.1]? = some y.2) → IntsAt U (.slice (some ⟨rb, ro, none⟩) n rc) n (lst r) := by
  obtain ⟨A8, c8, r, hv, hr, hrl, hU⟩ := h.o1.row (i := p) (by rw [← h.o1.2.1]; exact hp)
  obtain ⟨A, oc, he, ho1, ho2⟩ := h.q1.form
  subst he
  obtain ⟨ob, oo, rfl, -⟩ := h.q1.get hv
  obtain ⟨A7, c7, e7, hc1, hc2, hc⟩ := hU U (fun y hy => h.kp.at_ y (List.mem_cons_of_mem _ hy))
  cases e7
  obtain ⟨rb, ro, rfl, -⟩ := hc 0 0 hn (by omega)
  exact ⟨ob, oo, oc, rb, ro, _, r, rfl, hv, hr, hrl, hc1, hc2, ho1, ho2, hU⟩
end
end Go.Proofs.Yteingahlmlndkaa

/-
  What is proved: all best pairings, by the definition (31).
-/
namespace Go.Proofs.Yteingahlmlndkaa
open Go.RowKit
attribute [local irreducible] Go.wpCalm rowV rowI
end Go.Proofs.Yteingahlmlndkaa

/-
  What is proved: the law's own right pairing of a stock, by numbers (39).
-/
namespace Go.Proofs.Yteingahlmlndkaa
open Go.RowKit
attribute [local irreducible] Go.wpCalm rowV rowI
theorem nums_shape {k : IntKind} {w : World} {v : Value} {m : Nat} {f : Nat → Int} (h : NumsAt k w v m f) : ∃ a c, v = .slice a m c ∧ m ≤ c ∧ c ≤ maxLen := by
  obtain ⟨a, c, h1, h2, h3, -⟩ := h
  exact ⟨a, c, h1, h2, h3⟩
theorem rem_at {a b x : Nat} (h : a % b = x) : (a : Int).tmod (b : Int) = (x : Nat) := by
  rw [Int.tmod_eq_emod_of_nonneg (Int.natCast_nonneg _), ← h]
  rfl
theorem mvI_swp {m : Nat → Nat} {i k : Nat} (hk : m k = k) (hik : i ≠ k) (z : Nat) : mvI (swp m i k) z = if z = k then (i : Int) else if z = i then (k : Int) else mvI m z := by
  unfold mvI
  rw [swp_alone hk]
  by_cases e1 : z = k
  · subst e1
    rw [if_pos rfl, if_pos rfl, if_neg hik]
  · rw [if_neg e1, if_neg e1]
    by_cases e2 : z = i
    · subst e2
      rw [if_pos rfl, if_pos rfl, if_neg (fun h => e1 h.symm)]
    · rw [if_neg e2, if_neg e2]
/-- the row of mates, after two have been joined -/
theorem swp_cells {xs : Array Value} {m : Nat → Nat} {n o i k : Nat} (hi : i < n) (hk : k < n) (hik : i ≠ k) (hmk : m k = k) (hx : ∀ j, j < n → xs[o + j]? = some (.int .i64 (mvI m j))) : ∀ j, j < n → ((xs.setIfInBounds (o + i) (.int .i64 (k : Nat))).setIfInBounds (o + k) (.int .i64 (i : Nat)))[o + j]? = some (.int .i64 (mvI (swp m i k) j)) := fun j hj => by
  have hsz : ∀ j, j < n → o + j < xs.size := fun j hj => (Array.getElem?_eq_some_iff.1 (hx j hj)).1
  rw [mvI_swp hmk hik, Array.getElem?_setIfInBounds]
  by_cases e1 : j = k
  · subst e1
    rw [if_pos rfl, if_pos rfl, Array.size_setIfInBounds, if_pos (hsz _ hj)]
  · rw [if_neg (fun h => e1 (by omega)), if_neg e1, Array.getElem?_setIfInBounds]
    by_cases e2 : j = i
    · subst e2
      rw [if_pos rfl, if_pos rfl, if_pos (hsz _ hj)]
    · rw [if_neg (fun h => e2 (by omega)), if_neg e2]
      exact hx j hj
set_option maxRecDepth 100000 in
set_option maxHeartbeats 8000000 in
theorem lpair_c (w : World) (v : Value) (s : Stk) (ht : StkAt w v s) (hok : s.Ok) (bv : Value) (nb : Nat) (b : Nat → Int) (hb : NumsAt .u8 w bv nb b) (hbb : ∀ i, i < nb → 0 ≤ b i ∧ b i ≤ 255) (hn40 : nb ≤ 40) : Calls Try.prog 39 #[v, bv] w fun e w' => ∃ u M, e = .returned u ∧ IsM s.adj (belowN s.nt) M ∧ IntsAt w' u s.nt (mvI M) ∧ w.grows w' := by
  have Ht := Lib.hid ht
  have Hb := Lib.hid hb
  have Hbb := Lib.hid hbb
  obtain ⟨tv, mv, rfl, ⟨sa, sc, rfl, s1, s2, -⟩, ⟨va, vc, rfl, -⟩⟩ := ht
  obtain ⟨ba, bc, rfl, b1, b2⟩ := nums_shape hb
  have h16 := hok.n16
  have HOk := Lib.hid hok
  unfold maxLen at b2
  clear hok hb hbb
  go_enter Try.func39, Try.ntmps39
  go_wp2
  obtain ⟨x1, hx1⟩ : ∃ x, w.heap.size = x := ⟨_, rfl⟩
  have k1 : KpS w [(x1, Obj.cells #[.slice sa s.nt sc, .slice va s.nm vc, .int .i64 s.wide] 25)] (w.alloc (Obj.cells #[.slice sa s.nt sc, .slice va s.nm vc, .int .i64 s.wide] 25)) :=
    (KpS.mk (by (repeat (first | exact World.grows.refl _ | assumption | refine World.grows.alloc ?_ _ | refine World.grows.plus ?_ _ _ | refine World.grows.drew ?_))) (fun y hy => absurd hy List.not_mem_nil)).add (World.heap_at w _ _ hx1.symm)
  have hB1 : Hid (x1 + 1 ≤ (w.alloc (Obj.cells #[.slice sa s.nt sc, .slice va s.nm vc, .int .i64 s.wide] 25)).heap.size) := Lib.hid (by simp [hx1])
  simp only [hx1]
  generalize w.alloc (Obj.cells #[.slice sa s.nt sc, .slice va s.nm vc, .int .i64 s.wide] 25) = W1 at k1 hB1 ⊢
  have HK1 := Lib.hid k1
  clear k1
  go_loopw [6, 7] (fun i6 i7 wr => ∃ (k : Nat), k ≤ s.nt ∧ i7 = .int .i64 (k : Nat) ∧ Hid (QAt wr (x1 + 1) 3 i6 (List.replicate k (.int .i64 (-1)))) ∧ Hid (x1 + 1 ≤ wr.heap.size) ∧ Hid (KpS w [(x1, Obj.cells #[.slice sa s.nt sc, .slice va s.nm vc, .int .i64 s.wide] 25)] wr)) (fun _ i7 _ => s.nt - (intOf i7).toNat)
  case atStart => exact ⟨0, by omega, rfl, Lib.hid (QAt.nil _ _ _), hB1, HK1⟩
  case round =>
    clear HK1 hB1
    obtain ⟨k, hk, rfl, hQ, hS, hKp⟩ := hrel
    obtain ⟨rv, rfl⟩ : ∃ rv, rv = u6 := ⟨_, rfl⟩
    by_cases hlt : k < s.nt
    · have hltI : (k : Int) < s.nt := by omega
      go_upto_region 6 with fail
      (iterate 7 go_step)
      have gA : wr.grows (wr.alloc (Obj.cells #[.int .i64 (-1)] 3)) := by (repeat (first | exact World.grows.refl _ | assumption | refine World.grows.alloc ?_ _ | refine World.grows.plus ?_ _ _ | refine World.grows.drew ?_))
      refine wpList_append_q _ rfl (.tmp 23) (.tmp 24) 26 (by rfl) (x1 + 1) 3 (.int .i64 0) 8 Try.underlying26 el3 (by rfl) rv (List.replicate k (.int .i64 (-1))) (by rfl) (hQ.out.mono gA) ⟨wr.heap.size, 0, none⟩ 1 (.int .i64 (-1)) (by rfl) (by simp [go_sem]) rfl (by rfl) (by rw [List.length_replicate]; unfold maxLen; omega) (by rw [List.length_replicate]; omega) (by have := hS.out; simp; omega) ?_
      intro v' V8 hq8 hg8 hv8 hk8
      have e8 : List.replicate k (Value.int .i64 (-1)) ++ [.int .i64 (-1)] = List.replicate (k + 1) (.int .i64 (-1)) := List.replicate_succ'.symm
      rw [e8] at hq8
      have hlb : ∀ b, vblk rv = some b → x1 + 1 ≤ b := fun b hb => (hQ.out.blk hb).1
      have kA := (hKp.out.mono gA).app hg8 hk8 (fun b hb => by have := hlb b hb; omega) (by
        intro y hy
        simp only [List.mem_cons, List.not_mem_nil, or_false] at hy
        rcases hy with rfl
        exact .inl (fun c fr e => by cases e))
      have hS8 : Hid (x1 + 1 ≤ V8.heap.size) := Lib.hid (Nat.le_trans hS.out (Nat.le_trans gA.size hg8.size))
      have KC := Lib.hid kA
      have QC := Lib.hid hq8
      clear hg8 hk8 hv8 kA hq8 hQ hKp hS gA hlb e8
      go_wp2
      case roundEnd => exact ⟨⟨k + 1, by omega, by go_num, QC, hS8, KC⟩, by simp [intOf]; omega⟩
    · have hltI : ¬ (k : Int) < s.nt := by omega
      have hkn : k = s.nt := by omega
      rw [hkn] at hQ
      clear hkn
      obtain ⟨A, cap, rfl, hc1, hc2⟩ := hQ.out.form
      rw [List.length_replicate] at hc1
      have hlr : (List.replicate s.nt (Value.int .i64 (-1))).length = s.nt := List.length_replicate
      rw [hlr] at hQ ⊢
      unfold maxLen at hc2
      obtain ⟨W2, rfl⟩ : ∃ W2, W2 = wr := ⟨_, rfl⟩
      go_upto_if 28 with fail
      go_cut [8] from 28 (fun z w' => ∃ F : Nat, F ≤ 255 ∧ z = .int .i64 (F : Nat) ∧ w' = W2)
      case first =>
        by_cases h0 : 0 < nb
        · have h0I : (0 : Int) < nb := by omega
          obtain ⟨hb1, hb2⟩ := Hbb.out 0 h0
          obtain ⟨ba', bc', he, -, -, hcb⟩ := NumsAt.mono Hb.out hKp.out.g
          cases he
          obtain ⟨bb, bo, rfl, cb⟩ := hcb 0 0 h0 (by omega)
          simp only [Nat.zero_mul, Nat.add_zero] at cb
          go_wp2
          go_meet

          case rel => exact ⟨(b 0).toNat, by omega, by rw [Int.toNat_of_nonneg hb1], rfl⟩
        · have h0I : ¬ (0 : Int) < nb := by omega
          go_wp2
          go_meet
          case rel => exact ⟨0, by omega, rfl, rfl⟩
      case rest =>
        obtain ⟨F, hF, rfl, rfl⟩ := hcut
        by_cases hn0 : s.nt = 0
        · have hltI2 : ¬ (0 : Int) < s.nt := by omega
          have hg := hKp.out.g
          have hI : IntsAt wc (.slice A s.nt cap) s.nt (mvI id) := ⟨A, cap, rfl, hc1, by unfold maxLen; omega, fun i j hi => by omega⟩
          have HI := Lib.hid hI
          clear hI hQ hKp hn0 hlr hc1
          obtain ⟨W3, rfl⟩ : ∃ W3, W3 = wc := ⟨_, rfl⟩
          go_wp2
          go_loopw [9] (fun i9 wr => i9 = .int .i64 0 ∧ Hid (W3.grows wr)) (fun _ _ => 0)
          case atStart => exact ⟨rfl, Lib.hid (World.grows.refl _)⟩
          case round =>
            obtain ⟨rfl, hg2⟩ := hrel
            go_wp2
            (refine bodyPost_ret (v := .slice A s.nt cap) (by simp [results, Try.results39, go_sem]) rfl ?_)
            exact ⟨_, id, rfl, IsM.none _ _, IntsAt.mono HI.out hg2.out, hg.trans hg2.out⟩
        · have hnI : (0 : Int) < s.nt := by omega
          obtain ⟨rb, o, rfl, hrb, cur, hhp, hcz, hcur⟩ : ∃ rb o, A = some ⟨rb, o, none⟩ ∧ x1 + 1 ≤ rb ∧ ∃ cur, wc.heap[rb]? = some (.cells cur 3) ∧ cur.size = o + cap ∧ ∀ j, j < s.nt → cur[o + j]? = some (.int .i64 (mvI id j)) := by
            obtain ⟨A9, c9, e9, -, -, -, h9⟩ := hQ.out
            simp only [Value.slice.injEq] at e9
            obtain ⟨rfl, -, rfl⟩ := e9
            obtain ⟨b9, o9, cur9, e1, e2, e3, e4, e5⟩ := h9 (by omega)
            refine ⟨b9, o9, e1, e2, cur9, e3, e4, fun j hj => ?_⟩
            rw [mvI_none (M := id) (i := j) rfl]
            exact e5 j _ (by rw [List.getElem?_replicate, if_pos hj])
          have HM0 : Hid (IsM s.adj (belowN s.nt) id) := Lib.hid (IsM.none _ _)
          have HC0 := Lib.hid hcur
          have HK0 : Hid (KpS w [(rb, .cells cur 3), (x1, Obj.cells #[.slice sa s.nt sc, .slice va s.nm vc, .int .i64 s.wide] 25)] wc) := Lib.hid (hKp.out.add hhp)
          clear hQ hKp hhp hcur hS
          obtain ⟨W3, rfl⟩ : ∃ W3, W3 = wc := ⟨_, rfl⟩
          go_wp2
          go_loopw [9] (fun i9 wr => ∃ (m : Nat) (M : Nat → Nat) (cur : Array Value), m ≤ s.nt ∧ i9 = .int .i64 (m : Nat) ∧ Hid (IsM s.adj (belowN s.nt) M) ∧ Hid (∀ j, j < s.nt → cur[o + j]? = some (.int .i64 (mvI M j))) ∧ Hid (KpS w [(rb, .cells cur 3), (x1, Obj.cells #[.slice sa s.nt sc, .slice va s.nm vc, .int .i64 s.wide] 25)] wr)) (fun i9 _ => s.nt - (intOf i9).toNat)
          case atStart => exact ⟨0, id, cur, by omega, rfl, HM0, HC0, HK0⟩
          case round =>
            clear HM0 HC0 HK0 hcz cur
            obtain ⟨m, M, cur, hm, rfl, hM, hC, hKp⟩ := hrel
            by_cases hlt : m < s.nt
            · have hltI : (m : Int) < s.nt := by omega
              obtain ⟨i, hiE⟩ : ∃ i, (F + m) % s.nt = i := ⟨_, rfl⟩
              have hi : i < s.nt := by rw [← hiE]; exact Nat.mod_lt _ (by omega)
              have hiI : (i : Int) < s.nt := by omega
              have hrem := rem_at hiE
              rw [Int.natCast_add] at hrem
              have ci := cell_of_heap hKp.out.hd (hC.out i hi)
              clear hiE
              by_cases hMi : M i = i
              · rw [mvI_none hMi] at ci
                have HMi := Lib.hid hMi
                clear hMi
                obtain ⟨W4, rfl⟩ : ∃ W4, W4 = wr := ⟨_, rfl⟩
                obtain ⟨c1, hc1'⟩ : ∃ x, W4.heap.size = x := ⟨_, rfl⟩
                have hrc1 : rb < c1 := by rw [← hc1']; exact World.lt_of_block hKp.out.hd
                have HC1 : Hid (c1 ≤ W4.heap.size) := Lib.hid (by omega)
                clear hc1'
                go_wp2
                go_loopw [11, 12] (fun i11 i12 wr => ∃ (k : Nat), k ≤ s.nt ∧ i12 = .int .i64 (k : Nat) ∧ Hid (QAt wr c1 3 i11 (ilist (filtL (fun k => decide (M k = k) && s.adj i k) k))) ∧ Hid (c1 ≤ wr.heap.size) ∧ Hid (KpS w [(rb, .cells cur 3), (x1, Obj.cells #[.slice sa s.nt sc, .slice va s.nm vc, .int .i64 s.wide] 25)] wr)) (fun _ i12 _ => s.nt - (intOf i12).toNat)
                case atStart => exact ⟨0, by omega, rfl, Lib.hid (QAt.nil _ _ _), HC1, hKp⟩
                case round =>
                  clear HC1 hKp ci
                  obtain ⟨k, hk', rfl, hL, hCw, hKp⟩ := hrel
                  obtain ⟨lv, rfl⟩ : ∃ lv, lv = u11 := ⟨_, rfl⟩
                  have hl16 := filtL_len (fun k => decide (M k = k) && s.adj i k) k
                  by_cases hlt2 : k < s.nt
                  · have hltI2 : (k : Int) < s.nt := by omega
                    have ck := cell_of_heap hKp.out.hd (hC.out k hlt2)
                    have HS := Lib.hid (filtL_succ (fun k => decide (M k = k) && s.adj i k) k)
                    by_cases hMk : M k = k
                    · rw [mvI_none hMk] at ck
                      have HMk := Lib.hid hMk
                      have c0 := cell_of_heap hKp.out.drop.hd (i := 0) rfl
                      have c1' := cell_of_heap hKp.out.drop.hd (i := 1) rfl
                      have c2 := cell_of_heap hKp.out.drop.hd (i := 2) rfl
                      clear hMk
                      go_wp2_with (go_at_call 99; fail)
                      refine (suits_c _ _ s (Ht.out.mono (hKp.out.g.trans (by (repeat (first | exact World.grows.refl _ | assumption | refine World.grows.alloc ?_ _ | refine World.grows.plus ?_ _ _ | refine World.grows.drew ?_))))) HOk.out i k hi hlt2).mono ?_
                      rintro e W6 ⟨rfl, g6⟩
                      have g6' : wr.grows W6 := World.grows.trans (by (repeat (first | exact World.grows.refl _ | assumption | refine World.grows.alloc ?_ _ | refine World.grows.plus ?_ _ _ | refine World.grows.drew ?_))) g6
                      have HL6 := Lib.hid (hL.out.mono g6')
                      have hC6 : Hid (c1 ≤ W6.heap.size) := Lib.hid (Nat.le_trans hCw.out g6'.size)
                      have HK6 := Lib.hid (hKp.out.mono g6')
                      have Hadj := Lib.hid (Stk.adj_suits hi hlt2)
                      clear g6 g6' hL hCw hKp c0 c1' c2 ck
                      cases ha : s.suits i k with
                      | false =>
                        have HS2 : Hid (filtL (fun k => decide (M k = k) && s.adj i k) (k + 1) = filtL (fun k => decide (M k = k) && s.adj i k) k) := Lib.hid (by rw [HS.out, if_neg]; rw [Hadj.out, ha, Bool.and_false]; exact Bool.false_ne_true)
                        clear ha
                        go_wp2
                        case roundEnd => exact ⟨⟨k + 1, by omega, by go_num, by rw [HS2.out]; exact HL6, hC6, HK6⟩, by simp [intOf]; omega⟩
                      | true =>
                        have HS2 : Hid (filtL (fun k => decide (M k = k) && s.adj i k) (k + 1) = filtL (fun k => decide (M k = k) && s.adj i k) k ++ [k]) := Lib.hid (by rw [HS.out, if_pos]; rw [Hadj.out, ha, decide_eq_true HMk.out]; rfl)
                        obtain ⟨L, hLL⟩ : ∃ L, filtL (fun k => decide (M k = k) && s.adj i k) k = L := ⟨_, rfl⟩
                        rw [hLL] at HL6 HS2 hl16
                        clear hLL ha
                        go_upto_region 20 with fail
                        (iterate 10 go_step)
                        have gA : W6.grows (W6.alloc (Obj.cells #[.int .i64 (k : Nat)] 3)) := by (repeat (first | exact World.grows.refl _ | assumption | refine World.grows.alloc ?_ _ | refine World.grows.plus ?_ _ _ | refine World.grows.drew ?_))
                        refine wpList_append_q _ rfl (.tmp 64) (.tmp 66) 26 (by rfl) c1 3 (.int .i64 0) 8 Try.underlying26 el3 (by rfl) lv (ilist L) (by rfl) (HL6.out.mono gA) ⟨W6.heap.size, 0, none⟩ 1 (.int .i64 (k : Nat)) (by rfl) (by simp [go_sem]) rfl (by rfl) (by rw [ilist_len]; unfold maxLen; omega) (by rw [ilist_len]; omega) (by have := hC6.out; simp; omega) ?_
                        intro v' V8 hq8 hg8 hv8 hk8
                        rw [← ilist_snoc, ← HS2.out] at hq8
                        have hlb : ∀ b, vblk lv = some b → c1 ≤ b := fun b hb => (HL6.out.blk hb).1
                        have kA := (HK6.out.mono gA).app hg8 hk8 (fun b hb => by have := hlb b hb; omega) (by
                          intro y hy
                          simp only [List.mem_cons, List.not_mem_nil, or_false] at hy
                          rcases hy with rfl | rfl
                          · exact .inr (fun e => by have := hlb _ e; simp only at this; omega)
                          · exact .inl (fun c fr e => by cases e))
                        have hC8 : Hid (c1 ≤ V8.heap.size) := Lib.hid (Nat.le_trans hC6.out (Nat.le_trans gA.size hg8.size))
                        have HK8 := Lib.hid kA
                        have HL8 := Lib.hid hq8
                        clear hg8 hk8 hv8 kA hq8 gA hlb HL6 HK6 hC6
                        go_wp2
                        case roundEnd => exact ⟨⟨k + 1, by omega, by go_num, HL8, hC8, HK8⟩, by simp [intOf]; omega⟩
                    · rw [mvI_some hMk] at ck
                      have hnl : ¬ ((M k : Nat) : Int) < 0 := by omega
                      have HS2 : Hid (filtL (fun k => decide (M k = k) && s.adj i k) (k + 1) = filtL (fun k => decide (M k = k) && s.adj i k) k) := Lib.hid (by rw [HS.out, if_neg]; rw [decide_eq_false hMk, Bool.false_and]; exact Bool.false_ne_true)
                      clear hMk
                      go_wp2
                      case roundEnd => exact ⟨⟨k + 1, by omega, by go_num, by rw [HS2.out]; exact hL, hCw, hKp⟩, by simp [intOf]; omega⟩
                  · have hltI2 : ¬ (k : Int) < s.nt := by omega
                    have hkn : k = s.nt := by omega
                    rw [hkn] at hL hl16
                    have HLm : Hid (∀ v, v ∈ filtL (fun k => decide (M k = k) && s.adj i k) s.nt → v < s.nt ∧ M v = v ∧ s.adj i v = true) := Lib.hid fun v hv => by
                      obtain ⟨h1, h2⟩ := mem_filtL.1 hv
                      rw [Bool.and_eq_true, decide_eq_true_eq] at h2
                      exact ⟨h1, h2⟩
                    obtain ⟨L, hLL⟩ : ∃ L, filtL (fun k => decide (M k = k) && s.adj i k) s.nt = L := ⟨_, rfl⟩
                    rw [hLL] at hL hl16 HLm
                    clear hLL hkn hlt2
                    obtain ⟨W5, rfl⟩ : ∃ W5, W5 = wr := ⟨_, rfl⟩
                    obtain ⟨lA, lc, rfl, hlc1, hlc2⟩ := hL.out.form
                    rw [ilist_len] at hL hlc1 ⊢
                    unfold maxLen at hlc2
                    go_upto_if 70 with fail
                    go_cut [13] from 70 to 81 (fun z w' => ∃ X : Nat, X ≤ 255 ∧ z = .int .i64 (X : Nat) ∧ w' = W5)
                    case first =>
                      by_cases h0 : 1 < nb
                      · have h0I : (1 : Int) < nb := by omega
                        obtain ⟨r, hrE⟩ : ∃ r, m % (nb - 1) = r := ⟨_, rfl⟩
                        have hr : r < nb - 1 := by rw [← hrE]; exact Nat.mod_lt _ (by omega)
                        have hrem2 := rem_at hrE
                        rw [show ((nb - 1 : Nat) : Int) = (nb : Int) - 1 by omega] at hrem2
                        obtain ⟨hb1, hb2⟩ := Hbb.out (1 + r) (by omega)
                        obtain ⟨ba', bc', he, -, -, hcb⟩ := NumsAt.mono Hb.out hKp.out.g
                        cases he
                        obtain ⟨bb, bo, rfl, cb⟩ := hcb (1 + r) 0 (by omega) (by omega)
                        simp only [Nat.mul_one, Nat.add_zero] at cb
                        have hrI : (1 : Int) + r < nb := by omega
                        have hnz : ¬ (nb : Int) - 1 = 0 := by omega
                        clear hrE hcb
                        go_wp2
                        go_meet
                        case rel => exact ⟨(b (1 + r)).toNat, by omega, by rw [Int.toNat_of_nonneg hb1], rfl⟩
                      · have h0I : ¬ (1 : Int) < nb := by omega
                        go_wp2
                        go_meet
                        case rel => exact ⟨0, by omega, rfl, rfl⟩
                    case rest =>
                      obtain ⟨X, hX, rfl, rfl⟩ := hcut
                      by_cases hl0 : 0 < L.length
                      · have hlI : (0 : Int) < L.length := by omega
                        by_cases hx2 : X < 230
                        · have hxI : (X : Int) < 230 := by omega
                          obtain ⟨q, hqE⟩ : ∃ q, X % L.length = q := ⟨_, rfl⟩
                          have hq : q < L.length := by rw [← hqE]; exact Nat.mod_lt _ hl0
                          have hqI : (q : Int) < L.length := by omega
                          have hrem2 := rem_at hqE
                          have hLq : L[q]? = some L[q] := List.getElem?_eq_getElem hq
                          obtain ⟨K, hKE⟩ : ∃ K, L[q] = K := ⟨_, rfl⟩
                          rw [hKE] at hLq
                          obtain ⟨hKn, hMK, hAK⟩ := HLm.out K (List.mem_of_getElem? hLq)
                          have hiK : i ≠ K := fun e => by rw [e, s.adj_irr] at hAK; cases hAK
                          obtain ⟨lb, lo, rfl, cl⟩ := hL.out.get (i := q) (x := .int .i64 (K : Nat)) (by unfold ilist; rw [List.getElem?_map, hLq]; rfl)
                          have hKI : (K : Int) < s.nt := by omega
                          have hx1' := hC.out
                          have HM2 : Hid (IsM s.adj (belowN s.nt) (swp M i K)) := Lib.hid (IsM.pair (n := s.nt) (fun v hv => belowN_lt hv) s.adj_symm hM.out HMi.out hMK hiK (by unfold belowN; exact decide_eq_true hi) (by unfold belowN; exact decide_eq_true hKn) (by rw [s.adj_symm]; exact hAK)).1
                          have HC2 := Lib.hid (swp_cells hi hKn hiK hMK hC.out)
                          have h1 := hKp.out.hd
                          have ci := cell_of_heap h1 (hC.out i hi)
                          have cK := cell_of_heap h1 (hC.out K hKn)
                          have fi := frozen_of_heap h1 (o + i)
                          have fK := frozen_of_heap h1 (o + K)
                          have h2 := store_of_heap h1 (o + i) (.int .i64 (K : Nat))
                          have fi2 := frozen_of_heap h2 (o + i)
                          have fK2 := frozen_of_heap h2 (o + K)
                          have cK2 : (wc.setCell ⟨rb, o + i, none⟩ (.int .i64 (K : Nat))).cell? ⟨rb, o + K, none⟩ = some (.int .i64 (mvI M K)) := cell_of_heap h2 (by
                            rw [Array.getElem?_setIfInBounds, if_neg (by omega)]
                            exact hC.out K hKn)
                          have h3 := store_of_heap h2 (o + K) (.int .i64 (i : Nat))
                          have hP : ∀ y ∈ [(x1, Obj.cells #[.slice sa s.nt sc, .slice va s.nm vc, .int .i64 s.wide] 25)], y.1 ≠ rb := fun y hy => by
                            rw [List.mem_singleton] at hy
                            subst hy
                            simp only
                            omega
                          have HK2 := Lib.hid (((hKp.out.drop.set (b := rb) (by omega) hP (o + i) (.int .i64 (K : Nat))).set (b := rb) (by omega) hP (o + K) (.int .i64 (i : Nat))).add h3)
                          clear hqE hLq hKE hAK hMK hx1' h1 h2 h3 hP hL hKp hiK
                          go_wp2
                          case roundEnd => exact ⟨⟨m + 1, _, _, by omega, by go_num, HM2, HC2, HK2⟩, by simp [intOf]; omega⟩
                        · have hxI : ¬ (X : Int) < 230 := by omega
                          clear hL
                          go_wp2
                          case roundEnd => exact ⟨⟨m + 1, M, cur, by omega, by go_num, hM, hC, hKp⟩, by simp [intOf]; omega⟩
                      · have hlI : ¬ (0 : Int) < L.length := by omega
                        clear hL
                        go_wp2
                        case roundEnd => exact ⟨⟨m + 1, M, cur, by omega, by go_num, hM, hC, hKp⟩, by simp [intOf]; omega⟩
              · rw [mvI_some hMi] at ci
                have hge : (0 : Int) ≤ (M i : Nat) := by omega
                clear hMi
                go_wp2
                case roundEnd => exact ⟨⟨m + 1, M, cur, by omega, by go_num, hM, hC, hKp⟩, by simp [intOf]; omega⟩
            · have hltI : ¬ (m : Int) < s.nt := by omega
              have hI : IntsAt wr (.slice (some ⟨rb, o, none⟩) s.nt cap) s.nt (mvI M) := ⟨_, cap, rfl, hc1, by unfold maxLen; omega, fun i j hi hj => ⟨rb, o, rfl, by
                rw [show o + i * 1 + j = o + i by omega]
                exact cell_of_heap hKp.out.hd (hC.out i hi)⟩⟩
              have HI := Lib.hid hI
              have hg := hKp.out.g
              clear hI hKp hC
              go_wp2
              (refine bodyPost_ret (v := .slice (some ⟨rb, o, none⟩) s.nt cap) (by simp [results, Try.results39, go_sem]) rfl ?_)
              exact ⟨_, rfl, M, hM.out, HI.out, hg⟩
end Go.Proofs.Yteingahlmlndkaa

/-
  What is proved: MatchProved (6) answers true.
-/
namespace Go.Proofs.Yteingahlmlndkaa
open Go.RowKit
attribute [local irreducible] Go.wpCalm rowV
theorem and_u16 (a b : Nat) (ha : a < 65536) (hb : b < 65536) : bits .and .u16 (a : Int) (b : Int) = ((a &&& b : Nat) : Int) := (bits_nat .u16 16 (by decide) (fun n h0 h1 => by rw [IntKind.wrap_u16]; omega) a b (by omega) (by omega)).1
theorem has_bit16 {B t : Nat} (hB : B < 65536) : (bits .and .u16 ((B : Int) / 2 ^ t) 1 == 1) = B.testBit t := by
  have e1 : ((B : Int) / 2 ^ t) = ((B / 2 ^ t : Nat) : Int) := by simp
  have h1 : B / 2 ^ t ≤ B := Nat.div_le_self _ _
  rw [e1, show (1 : Int) = ((1 : Nat) : Int) from rfl, and_u16 _ 1 (by omega) (by omega), Nat.and_one_is_mod, Nat.testBit_eq_decide_div_mod_eq]
  by_cases h : B / 2 ^ t % 2 = 1
  · simp [h]
  · have : B / 2 ^ t % 2 = 0 := by omega
    simp [this]
theorem filtL_end {X : Nat → Bool} {n : Nat} (hX : ∀ t, X t = true → t < n) : ∀ m, n ≤ m → filtL X m = filtL X n := by
  intro m hm
  induction m with
  | zero => rw [show n = 0 by omega]
  | succ m ih =>
    by_cases e : n = m + 1
    · rw [e]
    · rw [filtL_succ, if_neg (fun h => by have := hX m h; omega)]
      exact ih (by omega)
/-- a cut that is given by bits has no lesser bound -/
theorem cut_bits {s : Stk} (h16 : s.nt ≤ 16) {X : Nat → Bool} (hX : ∀ t, X t = true → t < s.nt) : grpOk s (lstN (filtL X s.nt)) (filtL X s.nt).length = true ∧ nu s.adj (belowN s.nt) 16 ≤ cutN s (lstN (filtL X s.nt)) (filtL X s.nt).length := by
  have := nu_le_cut h16 hX
  rw [filtL_end hX 16 h16] at this
  exact ⟨grpOk_filt h16 hX, this⟩
set_option maxRecDepth 100000 in
set_option maxHeartbeats 8000000 in
theorem proved_w (w : World) (tv : Value) (s : Stk) (ht : StkAt w tv s) (bv : Value) (nb : Nat) (b : Nat → Int) (hb : NumsAt .u8 w bv nb b) (hbb : ∀ i, i < nb → 0 ≤ b i ∧ b i ≤ 255) (v3 : Value) (n3 : Nat) (f3 : Nat → Int) (h3 : IntsAt w v3 n3 f3) (z4 : Int) (hz4 : 0 ≤ z4 ∧ z4 ≤ 65535) : Calls Try.prog 6 #[tv, bv, v3, .int .u16 z4] w fun e w' => e = .returned (.bool true) ∧ w.grows w' := by
  have HT := Lib.hid ht
  have Hb := Lib.hid hb
  have Hbb := Lib.hid hbb
  have H3 := Lib.hid h3
  obtain ⟨Z, rfl⟩ : ∃ Z : Nat, z4 = (Z : Nat) := ⟨z4.toNat, by omega⟩
  have hZ : Z < 65536 := by omega
  obtain ⟨sv, vv, rfl, ⟨sa, sc, rfl, -⟩, ⟨va, vc, rfl, -⟩⟩ := ht
  obtain ⟨ba, bc, rfl, -⟩ := nums_shape hb
  obtain ⟨a3, c3, rfl, -⟩ := h3
  obtain ⟨P, hP⟩ : ∃ P, s.wide = P := ⟨_, rfl⟩
  obtain ⟨N2, hN2⟩ : ∃ N, s.nm = N := ⟨_, rfl⟩
  rw [hP, hN2] at HT ⊢
  clear hP hN2 hb hbb hz4
  go_enter Try.func6, Try.ntmps6
  have HB : Hid ((w.alloc (.cells #[.slice sa s.nt sc, .slice va N2 vc, .int .i64 P] 25)).heap[w.heap.size]? = some (.cells #[.slice sa s.nt sc, .slice va N2 vc, .int .i64 P] 25)) := Lib.hid (World.heap_at _ _ _ rfl)
  have HW : Hid (w.grows (w.alloc (.cells #[.slice sa s.nt sc, .slice va N2 vc, .int .i64 P] 25))) := Lib.hid (by (repeat (first | exact World.grows.refl _ | assumption | refine World.grows.alloc ?_ _ | refine World.grows.plus ?_ _ _ | refine World.grows.drew ?_)))
  have q0 := cell_of_heap (i := 0) HB.out rfl
  have q1 := cell_of_heap (i := 1) HB.out rfl
  have q2 := cell_of_heap (i := 2) HB.out rfl
  go_wp2_with (go_at_call 99; fail)
  refine (fine_c _ _ s (HT.out.mono (HW.out.trans (by (repeat (first | exact World.grows.refl _ | assumption | refine World.grows.alloc ?_ _ | refine World.grows.plus ?_ _ _ | refine World.grows.drew ?_)))))).mono ?_
  rintro e U ⟨rfl, g⟩
  replace HW := Lib.hid (HW.out.trans (World.grows.trans (by (repeat (first | exact World.grows.refl _ | assumption | refine World.grows.alloc ?_ _ | refine World.grows.plus ?_ _ _ | refine World.grows.drew ?_))) g)); replace HB := Lib.hid (g.heap_of (World.grows.heap_of (by (repeat (first | exact World.grows.refl _ | assumption | refine World.grows.alloc ?_ _ | refine World.grows.plus ?_ _ _ | refine World.grows.drew ?_))) HB.out)); replace q0 := cell_of_heap (i := 0) HB.out rfl; replace q1 := cell_of_heap (i := 1) HB.out rfl; replace q2 := cell_of_heap (i := 2) HB.out rfl; clear g
  by_cases hc : s.check = 0
  · rw [decide_eq_true hc]
    have hok := (Stk.ok_iff s).1 hc
    have h16 := hok.n16
    have HOk := Lib.hid hok
    clear hc hok
    by_cases hnb : 40 < nb
    · have hI : (40 : Int) < nb := by omega
      go_wp2_with (go_at_call 99; fail); refine (works_c _).mono ?_; rintro e U9 ⟨rfl, g⟩; replace HW := Lib.hid (HW.out.trans (World.grows.trans (by (repeat (first | exact World.grows.refl _ | assumption | refine World.grows.alloc ?_ _ | refine World.grows.plus ?_ _ _ | refine World.grows.drew ?_))) g)); replace HB := Lib.hid (g.heap_of (World.grows.heap_of (by (repeat (first | exact World.grows.refl _ | assumption | refine World.grows.alloc ?_ _ | refine World.grows.plus ?_ _ _ | refine World.grows.drew ?_))) HB.out)); replace q0 := cell_of_heap (i := 0) HB.out rfl; replace q1 := cell_of_heap (i := 1) HB.out rfl; replace q2 := cell_of_heap (i := 2) HB.out rfl; clear g; go_wp2; (refine bodyPost_ret (v := .bool true) (by simp [results, Try.results6, go_sem]) rfl ?_); exact ⟨rfl, HW.out.trans (by (repeat (first | exact World.grows.refl _ | assumption | refine World.grows.alloc ?_ _ | refine World.grows.plus ?_ _ _ | refine World.grows.drew ?_)))⟩
    · have hI : ¬ (40 : Int) < nb := by omega
      by_cases hn3 : 40 < n3
      · have hI3 : (40 : Int) < n3 := by omega
        go_wp2_with (go_at_call 99; fail); refine (works_c _).mono ?_; rintro e U9 ⟨rfl, g⟩; replace HW := Lib.hid (HW.out.trans (World.grows.trans (by (repeat (first | exact World.grows.refl _ | assumption | refine World.grows.alloc ?_ _ | refine World.grows.plus ?_ _ _ | refine World.grows.drew ?_))) g)); replace HB := Lib.hid (g.heap_of (World.grows.heap_of (by (repeat (first | exact World.grows.refl _ | assumption | refine World.grows.alloc ?_ _ | refine World.grows.plus ?_ _ _ | refine World.grows.drew ?_))) HB.out)); replace q0 := cell_of_heap (i := 0) HB.out rfl; replace q1 := cell_of_heap (i := 1) HB.out rfl; replace q2 := cell_of_heap (i := 2) HB.out rfl; clear g; go_wp2; (refine bodyPost_ret (v := .bool true) (by simp [results, Try.results6, go_sem]) rfl ?_); exact ⟨rfl, HW.out.trans (by (repeat (first | exact World.grows.refl _ | assumption | refine World.grows.alloc ?_ _ | refine World.grows.plus ?_ _ _ | refine World.grows.drew ?_)))⟩
      · have hI3 : ¬ (40 : Int) < n3 := by omega
        obtain ⟨NU, hNU⟩ : ∃ x, nu s.adj (belowN s.nt) 16 = x := ⟨_, rfl⟩
        have HNU := Lib.hid hNU
        clear hNU
        go_wp2_with (go_at_call 99; fail)
        refine (v_best (HT.out.mono (HW.out.trans (by (repeat (first | exact World.grows.refl _ | assumption | refine World.grows.alloc ?_ _ | refine World.grows.plus ?_ _ _ | refine World.grows.drew ?_))))) HOk.out HNU.out).mono ?_
        rintro e U3 ⟨a5, c5, m5, rfl, hm5, hi5, g⟩
        have HM := Lib.hid hm5
        have HI := Lib.hid hi5
        clear hm5 hi5
        replace HW := Lib.hid (HW.out.trans (World.grows.trans (by (repeat (first | exact World.grows.refl _ | assumption | refine World.grows.alloc ?_ _ | refine World.grows.plus ?_ _ _ | refine World.grows.drew ?_))) g)); replace HB := Lib.hid (g.heap_of (World.grows.heap_of (by (repeat (first | exact World.grows.refl _ | assumption | refine World.grows.alloc ?_ _ | refine World.grows.plus ?_ _ _ | refine World.grows.drew ?_))) HB.out)); replace q0 := cell_of_heap (i := 0) HB.out rfl; replace q1 := cell_of_heap (i := 1) HB.out rfl; replace q2 := cell_of_heap (i := 2) HB.out rfl; clear g
        go_wp2_with (go_at_call 99; fail)
        refine (v_cut (HT.out.mono (HW.out.trans (by (repeat (first | exact World.grows.refl _ | assumption | refine World.grows.alloc ?_ _ | refine World.grows.plus ?_ _ _ | refine World.grows.drew ?_))))) HOk.out HNU.out).mono ?_
        rintro e U4 ⟨a4, c4, n4, f4, rfl, hi4, hn4, hcut, g⟩
        replace HI := Lib.hid (IntsAt.mono HI.out (World.grows.trans (by (repeat (first | exact World.grows.refl _ | assumption | refine World.grows.alloc ?_ _ | refine World.grows.plus ?_ _ _ | refine World.grows.drew ?_))) g))
        have HJ := Lib.hid hi4
        have HCut := Lib.hid hcut
        clear hi4 hcut
        replace HW := Lib.hid (HW.out.trans (World.grows.trans (by (repeat (first | exact World.grows.refl _ | assumption | refine World.grows.alloc ?_ _ | refine World.grows.plus ?_ _ _ | refine World.grows.drew ?_))) g)); replace HB := Lib.hid (g.heap_of (World.grows.heap_of (by (repeat (first | exact World.grows.refl _ | assumption | refine World.grows.alloc ?_ _ | refine World.grows.plus ?_ _ _ | refine World.grows.drew ?_))) HB.out)); replace q0 := cell_of_heap (i := 0) HB.out rfl; replace q1 := cell_of_heap (i := 1) HB.out rfl; replace q2 := cell_of_heap (i := 2) HB.out rfl; clear g
        go_wp2_with (go_at_call 99; fail)
        refine (v_pair (HT.out.mono (HW.out.trans (by (repeat (first | exact World.grows.refl _ | assumption | refine World.grows.alloc ?_ _ | refine World.grows.plus ?_ _ _ | refine World.grows.drew ?_))))) HOk.out HNU.out (IntsAt.mono HI.out (by (repeat (first | exact World.grows.refl _ | assumption | refine World.grows.alloc ?_ _ | refine World.grows.plus ?_ _ _ | refine World.grows.drew ?_)))) HM.out).mono ?_
        rintro e U5 ⟨rfl, g⟩
        replace HI := Lib.hid (IntsAt.mono HI.out (World.grows.trans (by (repeat (first | exact World.grows.refl _ | assumption | refine World.grows.alloc ?_ _ | refine World.grows.plus ?_ _ _ | refine World.grows.drew ?_))) g))
        replace HJ := Lib.hid (IntsAt.mono HJ.out (World.grows.trans (by (repeat (first | exact World.grows.refl _ | assumption | refine World.grows.alloc ?_ _ | refine World.grows.plus ?_ _ _ | refine World.grows.drew ?_))) g))
        replace HW := Lib.hid (HW.out.trans (World.grows.trans (by (repeat (first | exact World.grows.refl _ | assumption | refine World.grows.alloc ?_ _ | refine World.grows.plus ?_ _ _ | refine World.grows.drew ?_))) g)); replace HB := Lib.hid (g.heap_of (World.grows.heap_of (by (repeat (first | exact World.grows.refl _ | assumption | refine World.grows.alloc ?_ _ | refine World.grows.plus ?_ _ _ | refine World.grows.drew ?_))) HB.out)); replace q0 := cell_of_heap (i := 0) HB.out rfl; replace q1 := cell_of_heap (i := 1) HB.out rfl; replace q2 := cell_of_heap (i := 2) HB.out rfl; clear g
        go_wp2_with (go_at_call 99; fail)
        refine (v_rpair (HT.out.mono (HW.out.trans (by (repeat (first | exact World.grows.refl _ | assumption | refine World.grows.alloc ?_ _ | refine World.grows.plus ?_ _ _ | refine World.grows.drew ?_))))) HOk.out HNU.out (IntsAt.mono HI.out (by (repeat (first | exact World.grows.refl _ | assumption | refine World.grows.alloc ?_ _ | refine World.grows.plus ?_ _ _ | refine World.grows.drew ?_)))) HM.out).mono ?_
        rintro e U6 ⟨rfl, g⟩
        replace HJ := Lib.hid (IntsAt.mono HJ.out (World.grows.trans (by (repeat (first | exact World.grows.refl _ | assumption | refine World.grows.alloc ?_ _ | refine World.grows.plus ?_ _ _ | refine World.grows.drew ?_))) g))
        replace HW := Lib.hid (HW.out.trans (World.grows.trans (by (repeat (first | exact World.grows.refl _ | assumption | refine World.grows.alloc ?_ _ | refine World.grows.plus ?_ _ _ | refine World.grows.drew ?_))) g)); replace HB := Lib.hid (g.heap_of (World.grows.heap_of (by (repeat (first | exact World.grows.refl _ | assumption | refine World.grows.alloc ?_ _ | refine World.grows.plus ?_ _ _ | refine World.grows.drew ?_))) HB.out)); replace q0 := cell_of_heap (i := 0) HB.out rfl; replace q1 := cell_of_heap (i := 1) HB.out rfl; replace q2 := cell_of_heap (i := 2) HB.out rfl; clear g
        clear HI HM
        go_wp2_with (go_at_call 99; fail)
        refine (v_ccut (HT.out.mono (HW.out.trans (by (repeat (first | exact World.grows.refl _ | assumption | refine World.grows.alloc ?_ _ | refine World.grows.plus ?_ _ _ | refine World.grows.drew ?_))))) HOk.out (IntsAt.mono HJ.out (by (repeat (first | exact World.grows.refl _ | assumption | refine World.grows.alloc ?_ _ | refine World.grows.plus ?_ _ _ | refine World.grows.drew ?_)))) hn4 HCut.out).mono ?_
        rintro e U7 ⟨rfl, g⟩
        replace HJ := Lib.hid (IntsAt.mono HJ.out (World.grows.trans (by (repeat (first | exact World.grows.refl _ | assumption | refine World.grows.alloc ?_ _ | refine World.grows.plus ?_ _ _ | refine World.grows.drew ?_))) g))
        replace HW := Lib.hid (HW.out.trans (World.grows.trans (by (repeat (first | exact World.grows.refl _ | assumption | refine World.grows.alloc ?_ _ | refine World.grows.plus ?_ _ _ | refine World.grows.drew ?_))) g)); replace HB := Lib.hid (g.heap_of (World.grows.heap_of (by (repeat (first | exact World.grows.refl _ | assumption | refine World.grows.alloc ?_ _ | refine World.grows.plus ?_ _ _ | refine World.grows.drew ?_))) HB.out)); replace q0 := cell_of_heap (i := 0) HB.out rfl; replace q1 := cell_of_heap (i := 1) HB.out rfl; replace q2 := cell_of_heap (i := 2) HB.out rfl; clear g
        go_wp2_with (go_at_call 99; fail)
        refine (v_rcut (HT.out.mono (HW.out.trans (by (repeat (first | exact World.grows.refl _ | assumption | refine World.grows.alloc ?_ _ | refine World.grows.plus ?_ _ _ | refine World.grows.drew ?_))))) HOk.out (IntsAt.mono HJ.out (by (repeat (first | exact World.grows.refl _ | assumption | refine World.grows.alloc ?_ _ | refine World.grows.plus ?_ _ _ | refine World.grows.drew ?_)))) hn4 HCut.out).mono ?_
        rintro e U8 ⟨rfl, g⟩
        replace HW := Lib.hid (HW.out.trans (World.grows.trans (by (repeat (first | exact World.grows.refl _ | assumption | refine World.grows.alloc ?_ _ | refine World.grows.plus ?_ _ _ | refine World.grows.drew ?_))) g)); replace HB := Lib.hid (g.heap_of (World.grows.heap_of (by (repeat (first | exact World.grows.refl _ | assumption | refine World.grows.alloc ?_ _ | refine World.grows.plus ?_ _ _ | refine World.grows.drew ?_))) HB.out)); replace q0 := cell_of_heap (i := 0) HB.out rfl; replace q1 := cell_of_heap (i := 1) HB.out rfl; replace q2 := cell_of_heap (i := 2) HB.out rfl; clear g
        clear HJ HCut
        go_wp2
        obtain ⟨X, hX⟩ : ∃ X : Nat → Bool, (fun v => decide (v < s.nt) && Z.testBit v) = X := ⟨_, rfl⟩
        have HX : Hid (∀ v, X v = (decide (v < s.nt) && Z.testBit v)) := Lib.hid fun v => by rw [← hX]
        obtain ⟨x1, hx1⟩ : ∃ x, w.heap.size = x := ⟨_, rfl⟩
        have HK : Hid (KpS w [(x1, Obj.cells #[.slice sa s.nt sc, .slice va N2 vc, .int .i64 P] 25)] U8) := Lib.hid ((KpS.mk HW.out (fun y hy => absurd hy List.not_mem_nil)).add (by rw [← hx1]; exact HB.out))
        obtain ⟨c1, hc1⟩ : ∃ x, U8.heap.size = x := ⟨_, rfl⟩
        have hxc : x1 < c1 := by rw [← hc1]; exact World.lt_of_block HK.out.hd
        have HC1 : Hid (c1 ≤ U8.heap.size) := Lib.hid (by omega)
        simp only [hx1]
        clear hX hc1 HB HW q0 q1 q2
        go_loopw [22, 23] (fun l i wr => ∃ k : Nat, k ≤ s.nt ∧ i = .int .i64 (k : Nat) ∧ Hid (QAt wr c1 3 l (ilist (filtL X k))) ∧ Hid (c1 ≤ wr.heap.size) ∧ Hid (KpS w [(x1, Obj.cells #[.slice sa s.nt sc, .slice va N2 vc, .int .i64 P] 25)] wr)) (fun _ i _ => s.nt - (intOf i).toNat)
        case atStart => exact ⟨0, by omega, rfl, Lib.hid (QAt.nil _ _ _), HC1, HK⟩
        case round =>
          clear HK HC1
          obtain ⟨k, hk, rfl, hL, hCw, hKp⟩ := hrel
          obtain ⟨lv, rfl⟩ : ∃ lv, lv = u22 := ⟨_, rfl⟩
          have hl16 := filtL_len X k
          have q0 := cell_of_heap (i := 0) hKp.out.hd rfl
          have q1 := cell_of_heap (i := 1) hKp.out.hd rfl
          have q2 := cell_of_heap (i := 2) hKp.out.hd rfl
          by_cases hlt : k < s.nt
          · have hltI : (k : Int) < s.nt := by omega
            have hk0 : ¬ (k : Int) < 0 := by omega
            have hbit := has_bit16 (t := k) hZ
            have HS := Lib.hid (filtL_succ X k)
            have hXk := HX.out k
            rw [decide_eq_true hlt, Bool.true_and] at hXk
            cases hr : Z.testBit k with
            | true =>
              rw [hr] at hbit hXk
              have HS2 : Hid (filtL X (k + 1) = filtL X k ++ [k]) := Lib.hid (by rw [HS.out, if_pos hXk])
              obtain ⟨L, hLL⟩ : ∃ L, filtL X k = L := ⟨_, rfl⟩
              rw [hLL] at hL HS2 hl16
              clear hLL hr hXk
              go_upto_region 16 with fail
              (iterate 10 go_step)
              have gA : wr.grows (wr.alloc (Obj.cells #[.int .i64 (k : Nat)] 3)) := by (repeat (first | exact World.grows.refl _ | assumption | refine World.grows.alloc ?_ _ | refine World.grows.plus ?_ _ _ | refine World.grows.drew ?_))
              refine wpList_append_q _ rfl (.tmp 131) (.tmp 133) 26 (by rfl) c1 3 (.int .i64 0) 8 Try.underlying26 el3 (by rfl) lv (ilist L) (by rfl) (hL.out.mono gA) ⟨wr.heap.size, 0, none⟩ 1 (.int .i64 (k : Nat)) (by rfl) (by simp [go_sem]) rfl (by rfl) (by rw [ilist_len]; unfold maxLen; omega) (by rw [ilist_len]; omega) (by have := hCw.out; simp; omega) ?_
              intro v' V8 hq8 hg8 hv8 hk8
              rw [← ilist_snoc, ← HS2.out] at hq8
              have hlb : ∀ b, vblk lv = some b → c1 ≤ b := fun b hb => (hL.out.blk hb).1
              have kA := (hKp.out.mono gA).app hg8 hk8 (fun b hb => by have := hlb b hb; omega) (by
                intro y hy
                simp only [List.mem_cons, List.not_mem_nil, or_false] at hy
                rcases hy with rfl
                exact .inl (fun c fr e => by cases e))
              have hC8 : Hid (c1 ≤ V8.heap.size) := Lib.hid (Nat.le_trans hCw.out (Nat.le_trans gA.size hg8.size))
              have HK8 := Lib.hid kA
              have HL8 := Lib.hid hq8
              clear hg8 hk8 hv8 kA hq8 gA hlb hL hKp hCw q0 q1 q2 hbit
              go_wp2
              case roundEnd => exact ⟨⟨k + 1, by omega, by go_num, HL8, hC8, HK8⟩, by simp [intOf]; omega⟩
            | false =>
              rw [hr] at hbit hXk
              have HS2 : Hid (filtL X (k + 1) = filtL X k) := Lib.hid (by rw [HS.out, if_neg (by rw [hXk]; exact Bool.false_ne_true)])
              clear hr hXk
              go_wp2
              case roundEnd => exact ⟨⟨k + 1, by omega, by go_num, by rw [HS2.out]; exact hL, hCw, hKp⟩, by simp [intOf]; omega⟩
          · have hltI : ¬ (k : Int) < s.nt := by omega
            have hkn : k = s.nt := by omega
            rw [hkn] at hL hl16
            have hLI := hL.out.listAt
            obtain ⟨lA, lc, rfl, -⟩ := id hLI
            have HLI : Hid (IntsAt wr (.slice lA (filtL X s.nt).length lc) (filtL X s.nt).length (lstN (filtL X s.nt))) := Lib.hid hLI
            obtain ⟨hg1, hg2⟩ := cut_bits h16 (X := X) (fun t h => by rw [HX.out, Bool.and_eq_true, decide_eq_true_eq] at h; exact h.1)
            obtain ⟨NB, hNB⟩ : ∃ x, cutN s (lstN (filtL X s.nt)) (filtL X s.nt).length = x := ⟨_, rfl⟩
            have HNB := Lib.hid (And.intro hg1 hNB)
            rw [hNB, HNU.out] at hg2
            have hle : (NU : Int) ≤ NB := by omega
            have HW : Hid (w.grows wr) := Lib.hid hKp.out.g
            have HB : Hid (wr.heap[w.heap.size]? = some (.cells #[.slice sa s.nt sc, .slice va N2 vc, .int .i64 P] 25)) := Lib.hid (by rw [hx1]; exact hKp.out.hd)
            simp only [← hx1] at q0 q1 q2 ⊢
            clear hLI hg1 hNB hL hKp hkn hx1 hxc hCw
            go_wp2_with (go_at_call 99; fail)
            refine (v_ccut (HT.out.mono (HW.out.trans (by (repeat (first | exact World.grows.refl _ | assumption | refine World.grows.alloc ?_ _ | refine World.grows.plus ?_ _ _ | refine World.grows.drew ?_))))) HOk.out (IntsAt.mono HLI.out (by (repeat (first | exact World.grows.refl _ | assumption | refine World.grows.alloc ?_ _ | refine World.grows.plus ?_ _ _ | refine World.grows.drew ?_)))) (by omega) HNB.out).mono ?_
            rintro e U9 ⟨rfl, g⟩
            replace HW := Lib.hid (HW.out.trans (World.grows.trans (by (repeat (first | exact World.grows.refl _ | assumption | refine World.grows.alloc ?_ _ | refine World.grows.plus ?_ _ _ | refine World.grows.drew ?_))) g)); replace HB := Lib.hid (g.heap_of (World.grows.heap_of (by (repeat (first | exact World.grows.refl _ | assumption | refine World.grows.alloc ?_ _ | refine World.grows.plus ?_ _ _ | refine World.grows.drew ?_))) HB.out)); replace q0 := cell_of_heap (i := 0) HB.out rfl; replace q1 := cell_of_heap (i := 1) HB.out rfl; replace q2 := cell_of_heap (i := 2) HB.out rfl; clear g
            clear HLI HNB
            go_upto_region 18 with fail
            (refine wp_region_chainR 5 [3, 4] (by kernel_rfl) (by kernel_rfl) (by decide) ?_; simp only [without, only, withNo, List.take_succ_cons, List.take_zero, List.drop_succ_cons, List.drop_zero, List.take_nil, List.drop_nil, Nat.reduceAdd, Nat.reduceSub, List.filter, List.contains_cons, List.contains_nil, Nat.reduceBEq, Bool.or_false, Bool.false_or, Bool.true_or, Bool.or_true, Bool.or_self, Bool.not_true, Bool.not_false, List.map_cons, List.map_nil]; (repeat (refine wpCalm_step (fun K hK => ?_); go_simp; first | (refine hK _ ?_; clear hK K) | (apply Exists.intro; refine ⟨fun n' x' => ?_, hK _ ?_⟩; (fail); clear hK K))); refine wpCalm_nil ?_)
            (refine wpChain_step (fun K hK nc xc => ?_); go_simp)
            refine (lpair_c _ _ s (HT.out.mono (HW.out.trans (World.grows_plus _ _ _))) HOk.out _ nb b (NumsAt.mono Hb.out (HW.out.trans (World.grows_plus _ _ _))) Hbb.out (by omega)).mono ?_
            rintro e Y1 ⟨u, M, rfl, hM, hi, g⟩
            obtain ⟨ua, uc, rfl, -⟩ := id hi
            have gY : U9.grows Y1 := (World.grows_plus U9 nc xc).trans g
            refine ⟨_, rfl, g, hK _ _ ?_⟩
            clear hK K g
            (refine wpChain_step (fun K hK nc xc => ?_); go_simp)
            have h19 := pairing_ok (Y1.plus nc xc) (.agg #[.slice sa s.nt sc, .slice va N2 vc, .int .i64 P]) s (HT.out.mono (HW.out.trans (gY.trans (World.grows_plus _ _ _)))) HOk.out _ s.nt (mvI M) (IntsAt.mono hi (World.grows_plus _ _ _))
            have hle2 := pNum_le h16 hM.pErr
            rw [hM.pErr] at h19
            obtain ⟨NP, hNP⟩ : ∃ x, pNum s (mvI M) s.nt = x := ⟨_, rfl⟩
            rw [hNP] at h19 hle2
            rw [HNU.out] at hle2
            have hle2I : (NP : Int) ≤ NU := by omega
            refine h19.mono ?_
            rintro e Y2 ⟨rfl, g⟩
            have gY2 : U9.grows Y2 := gY.trans ((World.grows_plus Y1 nc xc).trans g)
            refine ⟨_, rfl, g, hK _ _ ?_⟩
            clear hK K g h19 hNP hi hM gY
            (refine wpChain_nil (fun nc xc => ?_))
            have gV : U9.grows (Y2.plus nc xc) := gY2.trans (World.grows_plus _ _ _)
            generalize Y2.plus nc xc = V at gV ⊢
            clear gY2
            ((try simp only [without, only, withNo, List.take_succ_cons, List.take_zero, List.drop_succ_cons, List.drop_zero, List.take_nil, List.drop_nil, Nat.reduceAdd, Nat.reduceSub, List.filter, List.contains_cons, List.contains_nil, Nat.reduceBEq, Bool.or_false, Bool.false_or, Bool.true_or, Bool.or_true, Bool.or_self, Bool.not_true, Bool.not_false, List.map_cons, List.map_nil]); (repeat (refine wpCalm_step (fun K hK => ?_); go_simp; first | (refine hK _ ?_; clear hK K) | (apply Exists.intro; refine ⟨fun n' x' => ?_, hK _ ?_⟩; (fail); clear hK K))); refine wpCalm_nil ?_; intro nq xq)
            replace HW := Lib.hid (HW.out.trans gV)
            replace HB := Lib.hid (gV.heap_of HB.out)
            replace q0 := cell_of_heap (i := 0) HB.out rfl
            replace q1 := cell_of_heap (i := 1) HB.out rfl
            replace q2 := cell_of_heap (i := 2) HB.out rfl
            clear gV
            obtain ⟨E3, hE3⟩ : ∃ x, pErr s f3 n3 = x := ⟨_, rfl⟩
            obtain ⟨K3, hK3⟩ : ∃ x, pNum s f3 n3 = x := ⟨_, rfl⟩
            have h19b := fun W hT hI => pairing_ok W (.agg #[.slice sa s.nt sc, .slice va N2 vc, .int .i64 P]) s hT HOk.out (.slice a3 n3 c3) n3 f3 hI
            rw [hE3, hK3] at h19b
            have hle3 : E3 = 0 → K3 ≤ NU := fun h => by rw [← hK3, ← HNU.out]; exact pNum_le h16 (hE3.trans h)
            clear hE3 hK3
            go_wp2_with (go_at_call 99; fail)
            refine (h19b _ (HT.out.mono (HW.out.trans (by (repeat (first | exact World.grows.refl _ | assumption | refine World.grows.alloc ?_ _ | refine World.grows.plus ?_ _ _ | refine World.grows.drew ?_))))) (IntsAt.mono H3.out (HW.out.trans (by (repeat (first | exact World.grows.refl _ | assumption | refine World.grows.alloc ?_ _ | refine World.grows.plus ?_ _ _ | refine World.grows.drew ?_)))))).mono ?_
            rintro e Y3 ⟨rfl, g⟩
            replace HW := Lib.hid (HW.out.trans (World.grows.trans (by (repeat (first | exact World.grows.refl _ | assumption | refine World.grows.alloc ?_ _ | refine World.grows.plus ?_ _ _ | refine World.grows.drew ?_))) g)); replace HB := Lib.hid (g.heap_of (World.grows.heap_of (by (repeat (first | exact World.grows.refl _ | assumption | refine World.grows.alloc ?_ _ | refine World.grows.plus ?_ _ _ | refine World.grows.drew ?_))) HB.out)); replace q0 := cell_of_heap (i := 0) HB.out rfl; replace q1 := cell_of_heap (i := 1) HB.out rfl; replace q2 := cell_of_heap (i := 2) HB.out rfl; clear g
            clear h19b
            by_cases hE0 : E3 = 0
            · have hle3I : (K3 : Int) ≤ NU := by have := hle3 hE0; omega
              subst hE0
              clear hle3
              go_wp2_with (go_at_call 99; fail); refine (works_c _).mono ?_; rintro e U9 ⟨rfl, g⟩; replace HW := Lib.hid (HW.out.trans (World.grows.trans (by (repeat (first | exact World.grows.refl _ | assumption | refine World.grows.alloc ?_ _ | refine World.grows.plus ?_ _ _ | refine World.grows.drew ?_))) g)); replace HB := Lib.hid (g.heap_of (World.grows.heap_of (by (repeat (first | exact World.grows.refl _ | assumption | refine World.grows.alloc ?_ _ | refine World.grows.plus ?_ _ _ | refine World.grows.drew ?_))) HB.out)); replace q0 := cell_of_heap (i := 0) HB.out rfl; replace q1 := cell_of_heap (i := 1) HB.out rfl; replace q2 := cell_of_heap (i := 2) HB.out rfl; clear g; go_wp2; (refine bodyPost_ret (v := .bool true) (by simp [results, Try.results6, go_sem]) rfl ?_); exact ⟨rfl, HW.out.trans (by (repeat (first | exact World.grows.refl _ | assumption | refine World.grows.alloc ?_ _ | refine World.grows.plus ?_ _ _ | refine World.grows.drew ?_)))⟩
            · have hEB : ((E3 : Int) != 0) = true := by simp; omega
              clear hE0 hle3
              go_wp2_with (go_at_call 99; fail); refine (works_c _).mono ?_; rintro e U9 ⟨rfl, g⟩; replace HW := Lib.hid (HW.out.trans (World.grows.trans (by (repeat (first | exact World.grows.refl _ | assumption | refine World.grows.alloc ?_ _ | refine World.grows.plus ?_ _ _ | refine World.grows.drew ?_))) g)); replace HB := Lib.hid (g.heap_of (World.grows.heap_of (by (repeat (first | exact World.grows.refl _ | assumption | refine World.grows.alloc ?_ _ | refine World.grows.plus ?_ _ _ | refine World.grows.drew ?_))) HB.out)); replace q0 := cell_of_heap (i := 0) HB.out rfl; replace q1 := cell_of_heap (i := 1) HB.out rfl; replace q2 := cell_of_heap (i := 2) HB.out rfl; clear g; go_wp2; (refine bodyPost_ret (v := .bool true) (by simp [results, Try.results6, go_sem]) rfl ?_); exact ⟨rfl, HW.out.trans (by (repeat (first | exact World.grows.refl _ | assumption | refine World.grows.alloc ?_ _ | refine World.grows.plus ?_ _ _ | refine World.grows.drew ?_)))⟩
  · rw [decide_eq_false hc]
    clear hc
    go_wp2_with (go_at_call 99; fail); refine (works_c _).mono ?_; rintro e U9 ⟨rfl, g⟩; replace HW := Lib.hid (HW.out.trans (World.grows.trans (by (repeat (first | exact World.grows.refl _ | assumption | refine World.grows.alloc ?_ _ | refine World.grows.plus ?_ _ _ | refine World.grows.drew ?_))) g)); replace HB := Lib.hid (g.heap_of (World.grows.heap_of (by (repeat (first | exact World.grows.refl _ | assumption | refine World.grows.alloc ?_ _ | refine World.grows.plus ?_ _ _ | refine World.grows.drew ?_))) HB.out)); replace q0 := cell_of_heap (i := 0) HB.out rfl; replace q1 := cell_of_heap (i := 1) HB.out rfl; replace q2 := cell_of_heap (i := 2) HB.out rfl; clear g; go_wp2; (refine bodyPost_ret (v := .bool true) (by simp [results, Try.results6, go_sem]) rfl ?_); exact ⟨rfl, HW.out.trans (by (repeat (first | exact World.grows.refl _ | assumption | refine World.grows.alloc ?_ _ | refine World.grows.plus ?_ _ _ | refine World.grows.drew ?_)))⟩
end Go.Proofs.Yteingahlmlndkaa

/-
  What is proved: the statement MatchProved, at every input.
-/
namespace Go.Proofs.Yteingahlmlndkaa
open Go.ChangeShapes Go.WideShapes Go.ChangeAt Go.RowKit

set_option maxRecDepth 100000 in
theorem matchProved_lifted (os : Os) (started : os.Started) (H : Type) (enc : TypeId × Value → H) :
    ReturnsInHanded {} Try.checked os 6 .any (Rows.matchProvedSpec.pre6 enc Try.prog Try.f6 Rows.matchProvedRow.domain false) (Rows.matchProvedSpec.post enc Try.prog Try.f6 false true false false) := by
  refine law_lifted (C := Try.checked) (tb := 4) started own_c laid_c (by kernel_rfl) Try.func6 (of_decide_eq_true (by kernel_rfl))
    (ChangeSpec.witness6 (enc := enc) (C := Try.checked) false ⟨#[], #[.agg #[.slice none 0 0, .slice none 0 0, .int .i64 0], .slice none 0 0, .slice none 0 0, .int .u16 0], []⟩ 8 (by kernel_rfl) (by kernel_rfl) (by kernel_rfl) (by kernel_rfl))
    rfl Try.underlying4 rfl (fun ds hl => ?_) (fun W base args ds ps hval hA => ?_)
  · match ds, hl with
    | [d1, d2, d3, d4], _ => exact ⟨rfl, rfl, rfl⟩
  · have hA' : DataW.TrodAll enc Try.prog W 0 (fun _ => true) true Try.f6.params.toList args.toList ds ps := hA
    have hval' : ∀ (j : Nat) t v, Try.f6.params[j]? = some t → args[j]? = some v → Value.okWide Try.prog W .any base t v := hval
    rw [Try.params6] at hA' hval'
    obtain ⟨v1, v2, v3, v4, d1, d2, d3, d4, p1, p2, p3, p4, rfl, rfl, rfl, h1, h2, h3, h4⟩ := trodAll_four hA'
    obtain ⟨s1, hs1⟩ := stock_of (hval' 0 25 v1 rfl rfl) h1
    obtain ⟨m2, f2, hf2, hb2⟩ := bytes_of (hval' 1 54 v2 rfl rfl) h2
    obtain ⟨m3, f3, hf3, hb3⟩ := ints_of (hval' 2 26 v3 rfl rfl) h3
    obtain ⟨z4, rfl, -, -, hw4⟩ := open_int Try.underlying55 (hval' 3 55 v4 rfl rfl) h4; have hz4 := lit_u16 hw4
    exact proved_w W v1 s1 hs1 v2 m2 f2 hf2 hb2 v3 m3 f3 hf3 z4 hz4

theorem matchProved_holds : Rows.MatchProvedSaid :=
  OpenClaim.holds_of_wide 6 Try.f6 rfl rfl rfl rfl rfl rfl rfl ⟨rfl, rfl, rfl, rfl, rfl⟩ rfl rfl rfl rfl rfl (by kernel_rfl) Try.func6 (by kernel_rfl)
    (of_decide_eq_true (by kernel_rfl)) (by unfold Func.isWrapper; first | (rw [if_pos (by decide +kernel)]; kernel_rfl) | (rw [if_neg (by decide +kernel)]; exact ⟨rfl, rfl⟩))
    (fun os started H enc _ => matchProved_lifted os started H enc)
end Go.Proofs.Yteingahlmlndkaa

