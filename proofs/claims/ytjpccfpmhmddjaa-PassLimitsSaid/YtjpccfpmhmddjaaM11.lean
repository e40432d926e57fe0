/-
  What is proved: plain words on how hot it becomes at least up to a place, as the reference counts it.
-/
import Derived.Test.YtjpccfpmhmddjaaM7
import Derived.Test.YtjpccfpmhmddjaaM1
import Derived.Test.YtjpccfpmhmddjaaM9
import Derived.Deep.RegionWith
set_option linter.all false
namespace Go.Proofs.Ytjpccfpmhmddjaa
open Go.RowKit

/-- the least of what the edges below r lead to from a place before -/
def Job.coolR (J : Job) (c : (Nat → Nat) → Int) (p : Nat → Nat) : Nat → Int
  | 0 => 1099511627776
  | r + 1 => if 0 < p r then min (J.coolR c p r) (max (c (dn p r)) (J.hot (dn p r) r)) else J.coolR c p r
def Job.coolF (J : Job) : Nat → (Nat → Nat) → Int
  | 0, _ => -1099511627776
  | d + 1, p => J.coolR (J.coolF d) p J.n
/-- how hot it becomes at least up to a place -/
def Job.coolN (J : Job) (p : Nat → Nat) : Int := J.coolF (J.deg p) p

theorem Job.coolR_congr (J : Job) {c c' : (Nat → Nat) → Int} {p : Nat → Nat} : ∀ n, (∀ r, r < n → 0 < p r → c (dn p r) = c' (dn p r)) → J.coolR c p n = J.coolR c' p n
  | 0, _ => rfl
  | n + 1, h => by
    simp only [Job.coolR]
    rw [J.coolR_congr n fun r hr => h r (by omega)]
    split
    · rename_i h0; rw [h n (by omega) h0]
    · rfl
theorem Job.coolN_eq (J : Job) {p : Nat → Nat} (h : J.deg p ≠ 0) : J.coolN p = J.coolR J.coolN p J.n := by
  obtain ⟨d, hd⟩ : ∃ d, J.deg p = d + 1 := ⟨J.deg p - 1, by omega⟩
  unfold Job.coolN
  rw [hd, Job.coolF]
  refine J.coolR_congr J.n fun r hr h0 => ?_
  have := J.deg_dn hr h0
  show J.coolF d (dn p r) = J.coolF (J.deg (dn p r)) (dn p r)
  rw [show J.deg (dn p r) = d by omega]
theorem Job.coolN_zero (J : Job) {p : Nat → Nat} (h : J.deg p = 0) : J.coolN p = -1099511627776 := by unfold Job.coolN; rw [h]; rfl
theorem Job.coolR_bd (J : Job) {c : (Nat → Nat) → Int} {p : Nat → Nat} (hc : ∀ r, r < J.n → 0 < p r → -1099511627776 ≤ c (dn p r)) : ∀ n, n ≤ J.n → -1099511627776 ≤ J.coolR c p n ∧ J.coolR c p n ≤ 1099511627776
  | 0, _ => by simp [Job.coolR]
  | n + 1, hn => by
    have ih := J.coolR_bd hc n (by omega)
    simp only [Job.coolR]
    split
    · rename_i h0
      have := hc n (by omega) h0
      omega
    · exact ih
theorem Job.coolF_lo (J : Job) : ∀ d p, -1099511627776 ≤ J.coolF d p
  | 0, _ => Int.le_refl _
  | d + 1, p => (J.coolR_bd (fun r _ _ => J.coolF_lo d (dn p r)) J.n (Nat.le_refl _)).1
theorem Job.coolN_lo (J : Job) (p : Nat → Nat) : -1099511627776 ≤ J.coolN p := J.coolF_lo _ _
theorem Job.coolN_bd (J : Job) (p : Nat → Nat) : -1099511627776 ≤ J.coolN p ∧ J.coolN p ≤ 1099511627776 := by
  by_cases h : J.deg p = 0
  · rw [J.coolN_zero h]; omega
  · rw [J.coolN_eq h]
    exact J.coolR_bd (fun r _ _ => J.coolN_lo _) J.n (Nat.le_refl _)
theorem Job.coolR_le (J : Job) (c : (Nat → Nat) → Int) (p : Nat → Nat) (l : Int) (hl : l < 1099511627776) : ∀ n, J.coolR c p n ≤ l ↔ ∃ r, r < n ∧ 0 < p r ∧ c (dn p r) ≤ l ∧ J.hot (dn p r) r ≤ l
  | 0 => by simp only [Job.coolR]; constructor
            · intro h; omega
            · rintro ⟨r, hr, _⟩; omega
  | n + 1 => by
    have ih := J.coolR_le c p l hl n
    simp only [Job.coolR]
    split
    · rename_i h0
      constructor
      · intro h
        by_cases h1 : J.coolR c p n ≤ l
        · obtain ⟨r, hr, h2⟩ := ih.1 h1
          exact ⟨r, by omega, h2⟩
        · exact ⟨n, by omega, h0, by omega, by omega⟩
      · rintro ⟨r, hr, h1, h2, h3⟩
        by_cases hn : r = n
        · subst hn; omega
        · have := ih.2 ⟨r, by omega, h1, h2, h3⟩
          omega
    · rename_i h0
      rw [ih]
      constructor
      · rintro ⟨r, hr, h2⟩; exact ⟨r, by omega, h2⟩
      · rintro ⟨r, hr, h1, h2⟩
        refine ⟨r, ?_, h1, h2⟩
        rcases Nat.lt_or_ge r n with h | h
        · exact h
        · have : r = n := by omega
          subst this; exact absurd h1 h0
theorem sumN_gt {f : Nat → Nat} : ∀ n, 0 < sumN f n ↔ ∃ i, i < n ∧ 0 < f i
  | 0 => by simp [sumN]
  | n + 1 => by
    have ih := sumN_gt (f := f) n
    simp only [sumN]
    constructor
    · intro h
      by_cases h1 : 0 < sumN f n
      · obtain ⟨i, hi, h2⟩ := ih.1 h1
        exact ⟨i, by omega, h2⟩
      · exact ⟨n, by omega, by omega⟩
    · rintro ⟨i, hi, h⟩
      by_cases hn : i = n
      · subst hn; omega
      · have := ih.2 ⟨i, by omega, h⟩
        omega
/-- one comes to a place within a limit just if it need not become hotter -/
theorem Job.cool_iff (J : Job) {l : Int} (h1 : -1099511627776 ≤ l) (h2 : l < 1099511627776) : ∀ (d : Nat) (p : Nat → Nat), J.deg p = d → (0 < J.waysN l p ↔ J.coolN p ≤ l)
  | 0, p, h => by rw [J.waysN_zero l h, J.coolN_zero h]; omega
  | d + 1, p, h => by
    rw [J.waysN_eq l (by omega), J.coolN_eq (by omega), sumN_gt, J.coolR_le _ _ _ h2]
    constructor
    · rintro ⟨r, hr, h3⟩
      by_cases hc : 0 < p r ∧ J.hot (dn p r) r ≤ l
      · rw [if_pos hc] at h3
        have := J.deg_dn hr hc.1
        exact ⟨r, hr, hc.1, (J.cool_iff h1 h2 d (dn p r) (by omega)).1 h3, hc.2⟩
      · rw [if_neg hc] at h3; omega
    · rintro ⟨r, hr, h0, h3, h4⟩
      have := J.deg_dn hr h0
      refine ⟨r, hr, ?_⟩
      rw [if_pos ⟨h0, h4⟩]
      exact (J.cool_iff h1 h2 d (dn p r) (by omega)).2 h3
theorem Job.Best.cool {J : Job} (hJ : J.Ok) {hot : Int} (h : J.Best hot) : J.coolN J.last = hot := by
  have hb := h.bd hJ
  obtain ⟨h1, h2⟩ := h
  have a1 := (J.cool_iff (l := hot) (by omega) (by omega) _ J.last rfl).1 h1
  have a2 := J.coolN_lo J.last
  rcases Int.lt_or_eq_of_le a1 with hlt | he
  · have := (J.cool_iff (l := J.coolN J.last) (by omega) (by omega) _ J.last rfl).2 (Int.le_refl _)
    rw [h2 _ hlt] at this
    omega
  · exact he
end Go.Proofs.Ytjpccfpmhmddjaa

/-
  What is proved: rows of whole numbers of the call's own, that are written to by place.
-/
namespace Go
open Go.RowKit

def rowI (n : Nat) (f : Nat → Int) : Array Value := ((List.range n).map fun i => Value.int .i64 (f i)).toArray
def updI (f : Nat → Int) (i : Nat) (x : Int) : Nat → Int := fun k => if k = i then x else f k
theorem rowI_size (n : Nat) (f : Nat → Int) : (rowI n f).size = n := by simp [rowI]
theorem rowI_get (n : Nat) (f : Nat → Int) (i : Nat) (h : i < n) : (rowI n f)[i]? = some (.int .i64 (f i)) := by simp [rowI, h]
theorem rowI_set (n : Nat) (f : Nat → Int) (i : Nat) (x : Int) (h : i < n) : (rowI n f).setIfInBounds i (.int .i64 x) = rowI n (updI f i x) := by
  unfold rowI updI
  apply Array.ext_getElem?
  intro k
  rw [Array.getElem?_setIfInBounds]
  by_cases hk : i = k
  · subst hk; simp [h]
  · by_cases hkn : k < n
    · simp [hk, hkn, Ne.symm hk, show ¬ k = i from fun e => hk e.symm]
    · simp [hk, hkn]
theorem rowI_zero (n : Nat) : rowI n (fun _ => 0) = Array.replicate n (.int .i64 0) := by
  unfold rowI
  apply Array.ext_getElem?
  intro k
  by_cases hk : k < n <;> simp [hk, Array.getElem?_replicate]
theorem rowI_congr {n : Nat} {f g : Nat → Int} (h : ∀ i, i < n → f i = g i) : rowI n f = rowI n g := by
  unfold rowI
  congr 1
  apply List.map_congr_left
  intro i hi
  rw [h i (by simpa using hi)]
theorem rowI_cell {W : World} {b n : Nat} {f : Nat → Int} {t : TypeId} (h : W.heap[b]? = some (.cells (rowI n f) t)) {i : Nat} (hi : i < n) : W.cell? ⟨b, i, none⟩ = some (.int .i64 (f i)) := by
  unfold World.cell?
  simp only [h]
  exact rowI_get n f i hi
theorem rowI_frozen {W : World} {b n : Nat} {f : Nat → Int} {t : TypeId} (h : W.heap[b]? = some (.cells (rowI n f) t)) (i : Nat) : W.frozen? ⟨b, i, none⟩ = false := by
  unfold World.frozen?
  simp only [h]
  simp
theorem rowI_store {W : World} {b n : Nat} {f : Nat → Int} {t : TypeId} (h : W.heap[b]? = some (.cells (rowI n f) t)) {i : Nat} (hi : i < n) (x : Int) : (W.setCell ⟨b, i, none⟩ (.int .i64 x)).heap[b]? = some (.cells (rowI n (updI f i x)) t) := by
  unfold World.setCell
  simp only [Array.getElem?_modify, h, if_true, Option.map_some]
  have := rowI_set n f i x hi
  simp only [Option.isSome_none, Bool.false_eq_true, if_false, this]
theorem rowI_other {W : World} {b b' i : Nat} {v : Value} {o : Obj} (h : W.heap[b]? = some o) (hb : b' ≠ b) : (W.setCell ⟨b', i, none⟩ v).heap[b]? = some o := by
  unfold World.setCell
  simp only [Array.getElem?_modify, if_neg hb]
  exact h
theorem rowI_ints {W : World} {b n : Nat} {f : Nat → Int} {t : TypeId} (h : W.heap[b]? = some (.cells (rowI n f) t)) (hn : n ≤ maxLen) : IntsAt W (.slice (some ⟨b, 0, none⟩) n n) n f :=
  ⟨_, _, rfl, Nat.le_refl _, hn, fun i j hi hj => ⟨_, _, rfl, by
    have : j = 0 := by omega
    subst this
    simpa using rowI_cell h hi⟩⟩
theorem run_make_rowI {P : Program} (w : World) (t e : TypeId) (bytes : Nat) (ht : P.underlying t = some (.slice e)) (hi : P.knows e (.int .i64 0) 1 bytes) (n : Nat) (hb : bytes * n ≤ 281474976710656) (hn : n ≤ 9223372036854775807) :
    (Instr.makeSlice t (.int .i64 n) (.int .i64 n)).run P w = .ok (.slice (some ⟨w.heap.size, 0, none⟩) n n) (w.alloc (.cells (rowI n fun _ => 0) e)) := by
  rw [run_make_row w t e bytes ht hi n hb hn, rowI_zero, rowA_zero]

theorem two_made (w : World) (o o' : Obj) : ((w.alloc o).alloc o').drew.heap[w.heap.size]? = some o ∧ ((w.alloc o).alloc o').drew.heap[w.heap.size + 1]? = some o' := by
  constructor
  · show ((w.heap.push o).push o')[w.heap.size]? = some o
    rw [Array.getElem?_push, if_neg (by simp), Array.getElem?_push, if_pos rfl]
  · show ((w.heap.push o).push o')[w.heap.size + 1]? = some o'
    rw [Array.getElem?_push, if_pos (by simp)]
/-- a region that draws, cut at its end: all orders lead to one of the frames that f tells, in a world of which R holds -/
def cutE (N : Act → World → Prop) : Exit → Act → World → Prop := fun e a W => match e with | .normal => N a W | _ => False
theorem region_cutA {P : Program} {C : Code} {Q : Exit → Act → World → Prop} {a : Act} {w : World} {α : Type} (R : World → α → Prop) (f : Act → α → Act)
    (h2 : ∀ N : Act → World → Prop, (∀ W x, R W x → N (f a x) W) → C.wp P (cutE N) a w) (h1 : ∀ W x, R W x → Q .normal (f a x) W) : C.wp P Q a w :=
  Code.wp_mono (fun e a W h => by cases e <;> simp only [cutE] at h; exact h) (h2 (fun a W => Q .normal a W) h1)
end Go

/-
  What is proved: Hot of the reference.
-/
namespace Go.Proofs.Ytjpccfpmhmddjaa
open Go.RowKit
attribute [local irreducible] Go.wpCalm

@[go_sem ↓] theorem make71 (w : World) (n : Nat) (h : n ≤ 1000000000) :
    (Instr.makeSlice 71 (.int .i64 n) (.int .i64 n)).run Try.prog w = .ok (.slice (some ⟨w.heap.size, 0, none⟩) n n) (w.alloc (.cells (rowI n fun _ => 0) 2)) :=
  run_make_rowI w 71 2 8 Try.underlying71 el2 n (by omega) (by omega)

/-- the rows when the places below t are done -/
def Job.hotT (J : Job) (t : Nat) : Nat → Int := fun i => if i < t then J.coolN (J.dig i) else 0
def Job.wayT (J : Job) (l : Int) (t : Nat) : Nat → Int := fun i => if i < t then (J.waysN l (J.dig i) : Nat) else 0
def Job.wayF (J : Job) (l : Int) (p : Nat → Nat) (r : Nat) : Nat := if 0 < p r ∧ J.hot (dn p r) r ≤ l then J.waysN l (dn p r) else 0
theorem sumN_part {f : Nat → Nat} {r n : Nat} (h : r ≤ n) : sumN f r ≤ sumN f n := by
  induction n with
  | zero => have : r = 0 := by omega
            subst this; exact Nat.le_refl _
  | succ n ih =>
    rcases Nat.lt_or_ge n r with h1 | h1
    · have : r = n + 1 := by omega
      subst this; exact Nat.le_refl _
    · have := ih h1
      simp only [sumN]; omega
theorem Job.wayF_le (J : Job) (l : Int) {p : Nat → Nat} (h : J.deg p ≠ 0) {r : Nat} (hr : r ≤ J.n) : sumN (J.wayF l p) r ≤ J.waysN l p := by
  rw [J.waysN_eq l h]
  exact sumN_part (f := J.wayF l p) hr
theorem Job.hotT_zero (J : Job) (i : Nat) : J.hotT 0 i = 0 := by simp [Job.hotT]
theorem Job.wayT_zero (J : Job) (l : Int) (i : Nat) : J.wayT l 0 i = 0 := by simp [Job.wayT]
theorem Job.hotT_upd (J : Job) (t : Nat) (x : Int) (hx : x = J.coolN (J.dig t)) (i : Nat) : updI (J.hotT t) t x i = J.hotT (t + 1) i := by
  unfold updI Job.hotT
  by_cases h : i = t
  · subst h; simp [hx]
  · by_cases h2 : i < t
    · rw [if_neg h, if_pos h2, if_pos (by omega)]
    · rw [if_neg h, if_neg h2, if_neg (by omega)]
theorem Job.wayT_upd (J : Job) (l : Int) (t : Nat) (x : Int) (hx : x = (J.waysN l (J.dig t) : Nat)) (i : Nat) : updI (J.wayT l t) t x i = J.wayT l (t + 1) i := by
  unfold updI Job.wayT
  by_cases h : i = t
  · subst h; simp [hx]
  · by_cases h2 : i < t
    · rw [if_neg h, if_pos h2, if_pos (by omega)]
    · rw [if_neg h, if_neg h2, if_neg (by omega)]
theorem updI_same (f : Nat → Int) (t : Nat) (x : Int) : updI f t x t = x := by simp [updI]
theorem updI_twice (f : Nat → Int) (t : Nat) (x y : Int) (i : Nat) : updI (updI f t x) t y i = updI f t y i := by
  unfold updI; split <;> rfl
theorem updI_ne (f : Nat → Int) {t i : Nat} (x : Int) (h : i ≠ t) : updI f t x i = f i := by simp [updI, h]
theorem rowI_twice {n t : Nat} {f : Nat → Int} {c x y : Int} {ty : TypeId} (h : x = y) : (some (.cells (rowI n (updI (updI f t c) t x)) ty) : Option Obj) = some (.cells (rowI n (updI f t y)) ty) := by
  rw [h, rowI_congr fun i _ => updI_twice f t c y i]
theorem min_max_if (C D X : Int) : (if (if D < X then X else D) < C then (if D < X then X else D) else C) = min C (max D X) := by
  split <;> split <;> omega
/-- one less at r, in a row of the call's own -/
theorem own_dn {W : World} {B n g cc r q : Nat} {p : Nat → Nat} (h : W.ownsRow B 3 1 (.slice (some ⟨g, 0, none⟩) n cc) n (tableL n 1 (fun i _ => .int .i64 (p i : Nat)))) (hr : r < n) (hq : p r = q + 1) :
    IntsAt (W.setCell ⟨g, r, none⟩ (.int .i64 (q : Nat))) (.slice (some ⟨g, 0, none⟩) n cc) n (fun i => (dn p r i : Nat)) := by
  refine (h.stored r (.int .i64 (q : Nat))).1.sliceAt fun i j hi hj => ?_
  have : j = 0 := by omega
  subst this
  rw [tableL_map]
  simp only [Nat.mul_one, Nat.add_zero, List.getElem?_set, List.length_map, List.length_range, List.getElem?_map, List.getElem?_range hi, Option.map_some]
  by_cases h1 : r = i
  · subst h1
    rw [if_pos rfl, if_pos hr]
    simp [dn, upd, hq]
  · rw [if_neg h1]
    have h2 : ¬ i = r := fun e => h1 e.symm
    simp [dn, upd, h2]
theorem Job.dig_deg {J : Job} {t : Nat} (ht : t < J.size) (h : t ≠ 0) : J.deg (J.dig t) ≠ 0 := fun h0 => by
  have h1 := Job.deg_zero (J.dig_in t) h0
  have h2 := J.num_dig ht
  have h3 : J.num (fun _ => 0) = 0 := by
    have := J.num_dig J.size_pos
    rw [J.dig_zero] at this
    exact this
  rw [h1, h3] at h2
  exact h h2.symm

set_option maxRecDepth 100000 in
set_option maxHeartbeats 8000000 in
theorem hot_c (w : World) (v : Value) (J : Job) (hv : RawAt w v J) (hJ : J.Ok) (l : Int) :
    Calls Try.prog 64 #[v, .int .i64 l] w fun e w' => ∃ s1 s2, e = .returned (.tuple #[s1, s2]) ∧ w.grows w' ∧ IntsAt w' s1 J.size (fun t => J.coolN (J.dig t)) ∧ IntsAt w' s2 J.size (fun t => (J.waysN l (J.dig t) : Nat)) := by
  have Hv := Lib.hid hv
  have HJ := Lib.hid hJ
  obtain ⟨jb, jo, jcap, rb, ro, rc, rfl, hjc, hjc2, hR⟩ := Hv.out.job HJ.out
  have HR := Lib.hid hR
  unfold maxLen at hjc2
  clear hR
  have hsz := J.size_le hJ
  have hsp := J.size_pos
  have hs9 : J.size ≤ 1000000000 := by omega
  clear hv hJ
  go_enter Try.func64, Try.ntmps64
  go_wp2_with (first
    | (go_at_call 67; go_loud (refine (rall_c _ _ J ((Hv.out.mono (by (repeat (first | exact World.grows.refl _ | assumption | refine World.grows.alloc ?_ _ | refine World.grows.plus ?_ _ _ | refine World.grows.drew ?_)))).job HJ.out) HJ.out).mono ?_; rintro e w2 ⟨tv, rfl, hg2, hT⟩; have HT := Lib.hid hT; have hbx := hg2.cell_of (a := ⟨w.heap.size, 1, none⟩) (v := .slice (some ⟨jb, jo, none⟩) J.n jcap) (by simp [go_sem]); have hbs := hg2.cell_of (a := ⟨w.heap.size, 0, none⟩) (v := .int .i64 J.start) (by simp [go_sem]); have Hg2 := Lib.hid (show w.grows w2 from World.grows.trans (by (repeat (first | exact World.grows.refl _ | assumption | refine World.grows.alloc ?_ _ | refine World.grows.plus ?_ _ _ | refine World.grows.drew ?_))) hg2); clear hg2 hT; obtain ⟨trow, ⟨ta, tcap, rfl, htc1, htc2, htc⟩, hti⟩ := HT.out; unfold maxLen at htc2; have Htc := Lib.hid htc; have Hti := Lib.hid hti; clear htc hti)))
  have Hbx := Lib.hid hbx
  have Hbs := Lib.hid hbs
  refine region_cutA (α := Nat × Nat) (fun W p => p.1 ≠ p.2 ∧ w2.heap.size ≤ p.1 ∧ w2.heap.size ≤ p.2 ∧ w2.grows W ∧ W.heap[p.1]? = some (.cells (rowI J.size fun _ => 0) 2) ∧ W.heap[p.2]? = some (.cells (rowI J.size fun _ => 0) 2))
    (fun a p => ⟨(((((((a.tmps.setIfInBounds 16 (.slice ta J.size tcap)).setIfInBounds 17 (.int .i64 J.size)).setIfInBounds 18 (.slice (some ⟨p.1, 0, none⟩) J.size J.size)).setIfInBounds 19 (.slice ta J.size tcap)).setIfInBounds 20 (.int .i64 J.size)).setIfInBounds 21 (.slice (some ⟨p.2, 0, none⟩) J.size J.size)).setIfInBounds 7 (.slice (some ⟨p.1, 0, none⟩) J.size J.size)).setIfInBounds 8 (.slice (some ⟨p.2, 0, none⟩) J.size J.size), a.defers⟩) ?_ ?_
  · intro N hN
    simp only [List.setIfInBounds_toArray, List.set_cons_succ, List.set_cons_zero] at hN
    go_region
    · exact hN _ (w2.heap.size, w2.heap.size + 1) ⟨by simp, Nat.le_refl _, by simp, by (repeat (first | exact World.grows.refl _ | assumption | refine World.grows.alloc ?_ _ | refine World.grows.plus ?_ _ _ | refine World.grows.drew ?_)), (two_made _ _ _).1, (two_made _ _ _).2⟩
    · exact hN _ (w2.heap.size + 1, w2.heap.size) ⟨by simp, by simp, Nat.le_refl _, by (repeat (first | exact World.grows.refl _ | assumption | refine World.grows.alloc ?_ _ | refine World.grows.plus ?_ _ _ | refine World.grows.drew ?_)), (two_made _ _ _).2, (two_made _ _ _).1⟩
  rintro W3 ⟨b1, b2⟩ ⟨hne, hb1, hb2, hg3, hr1, hr2⟩
  simp only [List.setIfInBounds_toArray, List.set_cons_succ, List.set_cons_zero]
  simp only at hne hb1 hb2 hr1 hr2
  go_wp2
  go_loopw [9] (fun i wr => ∃ t : Nat, t ≤ J.size ∧ i = .int .i64 t ∧ Hid (wr.heap[b1]? = some (.cells (rowI J.size (J.hotT t)) 2)) ∧ Hid (wr.heap[b2]? = some (.cells (rowI J.size (J.wayT l t)) 2)) ∧ Hid (w2.grows wr)) (fun i _ => J.size - (intOf i).toNat)
  case atStart => exact ⟨0, by omega, rfl, Lib.hid (by rw [rowI_congr fun i _ => J.hotT_zero i]; exact hr1), Lib.hid (by rw [rowI_congr fun i _ => J.wayT_zero l i]; exact hr2), Lib.hid hg3⟩
  case round =>
    obtain ⟨t, ht, rfl, R1, R2, hgW⟩ := hrel
    clear hr1 hr2 hg3
    by_cases hlt : t < J.size
    · have c1 := rowI_cell R1.out hlt
      have c2 := rowI_cell R2.out hlt
      have f1 := rowI_frozen R1.out t
      have f2 := rowI_frozen R2.out t
      have hti : (t : Int) < J.size := by omega
      by_cases ht0 : t = 0
      · subst ht0
        have hd0 : J.deg (J.dig 0) = 0 := by rw [J.dig_zero]; exact sumN_zero _ fun _ _ => rfl
        go_wp2
        go_roundw
        case rel =>
          refine ⟨1, by omega, rfl, Lib.hid ?_, Lib.hid ?_, Lib.hid ((hgW.out.setCell hb1 _).setCell hb2 _)⟩
          · rw [rowI_congr fun i _ => (J.hotT_upd 0 (-1099511627776) (J.coolN_zero hd0).symm i).symm]
            exact rowI_other (rowI_store R1.out hlt _) (fun e => hne e.symm)
          · rw [rowI_congr fun i _ => (J.wayT_upd l 0 1 (by rw [J.waysN_zero l hd0]; rfl) i).symm]
            exact rowI_store (rowI_other R2.out hne) hlt _
        case measure => simp [intOf] <;> omega
      · have hdeg := Lib.hid (Job.dig_deg hlt ht0)
        have ht0i : ¬ (t : Int) = 0 := by omega
        obtain ⟨xb, xo, rfl, x0⟩ := Htc.out t 0 hlt (by omega)
        simp only [Nat.mul_one, Nat.add_zero] at x0
        obtain ⟨xa, xc, hxt, hxc1, hxc2, hxc⟩ := Hti.out t hlt
        rw [hxt] at x0
        have hxi := Lib.hid (Hti.out t hlt)
        rw [hxt] at hxi
        unfold maxLen at hxc2
        have Hxc := Lib.hid hxc
        have X0 := Lib.hid x0
        clear hxc hxt x0
        go_wp2
        obtain ⟨W0, rfl⟩ : ∃ W0, W0 = wr := ⟨_, rfl⟩
        go_loopw [10] (fun i W => ∃ r : Nat, r ≤ J.n ∧ i = .int .i64 r ∧ Hid (W.heap[b1]? = some (.cells (rowI J.size (updI (J.hotT t) t (J.coolR J.coolN (J.dig t) r))) 2)) ∧ Hid (W.heap[b2]? = some (.cells (rowI J.size (updI (J.wayT l t) t (sumN (J.wayF l (J.dig t)) r : Nat))) 2)) ∧ Hid (w2.grows W)) (fun i _ => J.n - (intOf i).toNat)
        case atStart =>
          refine ⟨0, by omega, rfl, Lib.hid (rowI_store R1.out hlt _), Lib.hid ?_, Lib.hid (hgW.out.setCell hb1 _)⟩
          rw [rowI_congr (g := J.wayT l t) fun i _ => ?_]
          · exact rowI_other R2.out hne
          · unfold updI
            split
            · rename_i h; subst h; simp [Job.wayT, sumN]
            · rfl
        case round =>
          obtain ⟨r, hr, rfl, S1, S2, hgX⟩ := hrel
          have xbx := hgX.out.cell_of Hbx.out
          have xbs := hgX.out.cell_of Hbs.out
          have hgx := Lib.hid (Hg2.out.trans hgX.out)
          by_cases hrn : r < J.n
          · have hrni : (r : Int) < J.n := by omega
            have hn4 := HJ.out.n4
            obtain ⟨yb, yo, rfl, y0⟩ := Hxc.out r 0 hrn (by omega)
            simp only [Nat.mul_one, Nat.add_zero] at y0
            have x0 := hgX.out.cell_of X0.out
            replace y0 := hgX.out.cell_of y0
            have z0 := hgx.out.cell_of (HR.out.row r hrn)
            have hrc := HR.out.cap r hrn
            unfold maxLen at hrc
            have hl6 := HJ.out.l6 r hrn
            have hle := (J.dig_in t).le r hrn
            by_cases hd : J.dig t r = 0
            · have e1 : J.coolR J.coolN (J.dig t) (r + 1) = J.coolR J.coolN (J.dig t) r := by simp only [Job.coolR]; rw [if_neg (by omega)]
              have e2 : sumN (J.wayF l (J.dig t)) (r + 1) = sumN (J.wayF l (J.dig t)) r := by simp only [sumN, Job.wayF]; rw [if_neg (by omega), Nat.add_zero]
              have E1 := Lib.hid e1
              have E2 := Lib.hid e2
              rw [hd] at y0
              clear e1 e2
              go_wp2
              go_roundw
              case rel => exact ⟨r + 1, by omega, by go_num, by rw [E1.out]; exact S1, by rw [E2.out]; exact S2, hgX⟩
              case measure => change J.n - (intOf (Value.int IntKind.i64 ((r : Int) + 1))).toNat < J.n - (intOf (Value.int IntKind.i64 (r : Int))).toNat; simp [intOf] <;> omega
            · obtain ⟨q, hq⟩ : ∃ q, J.dig t r = q + 1 := ⟨J.dig t r - 1, by omega⟩
              have hdi : ¬ ((J.dig t r : Nat) : Int) = 0 := by omega
              rw [hq] at y0 hdi
              have hin := Lib.hid (Job.in_dn r (J.dig_in t))
              have hnum : J.num (dn (J.dig t) r) < t := by
                have := Job.num_dn_lt (J.dig_in t) hrn (by omega)
                rwa [J.num_dig hlt] at this
              have hdig := Lib.hid (J.dig_num hin.out)
              have hdr : dn (J.dig t) r r = q := by simp [dn, upd, hq]
              have hpk := hgx.out.cell_of (HR.out.pk r q hrn (by omega))
              have hb9 : J.num (dn (J.dig t) r) < J.size := by omega
              have T1 := Lib.hid (rowI_cell S1.out hlt)
              have T2 := Lib.hid (rowI_cell S2.out hlt)
              have T3 := Lib.hid (rowI_cell S1.out hb9)
              have T4 := Lib.hid (rowI_cell S2.out hb9)
              rw [updI_same] at T1 T2
              rw [updI_ne _ _ (by omega)] at T3 T4
              have e3 : J.hotT t (J.num (dn (J.dig t) r)) = J.coolN (dn (J.dig t) r) := by unfold Job.hotT; rw [if_pos hnum, hdig.out]
              have e4 : J.wayT l t (J.num (dn (J.dig t) r)) = (J.waysN l (dn (J.dig t) r) : Nat) := by unfold Job.wayT; rw [if_pos hnum, hdig.out]
              rw [e3] at T3
              rw [e4] at T4
              have Hq := Lib.hid hq
              have Hnum := Lib.hid hnum
              have hq6 : q ≤ 6 := by omega
              have hql : q < J.len r := by omega
              have hqli : (q : Int) < J.len r := by omega
              clear e3 e4 hd c1 c2 f1 f2 hnum hq
              go_wp2_with (at_builtin; go_loud (refine wpList_append_g _ rfl _ _ _ (by rfl) wr.heap.size 3 (.int .i64 0) 1 8 Try.underlying25 el3 (by rfl) (by omega) _ 0 [] (by rfl) (empty_own _ _ _ (by simp) (by simp)) _ (by rfl) J.n _ (SliceAt.src (by omega) (hxi.out.mono (hgX.out.trans (by (repeat (first | exact World.grows.refl _ | assumption | refine World.grows.alloc ?_ _ | refine World.grows.plus ?_ _ _ | refine World.grows.drew ?_)))))) (ints_one _ _) (by unfold maxLen; omega) (by omega) (by simp <;> omega) ?_; intro v1 w4 hown hgr; have hg4 := hgr wr (by (repeat (first | exact World.grows.refl _ | assumption | refine World.grows.alloc ?_ _ | refine World.grows.plus ?_ _ _ | refine World.grows.drew ?_))) (Nat.le_refl _); simp only [Nat.zero_add, List.nil_append] at hown; obtain ⟨gg, cc, rfl, hgb⟩ := hown.form (by omega); have d1 := hown.cellAt r (by omega); rw [tableL_map] at d1; simp only [List.getElem?_map, List.getElem?_range hrn, Option.map_some] at d1; rw [Hq.out] at d1; have d2 := hown.frozenAt r; have Hi68 := Lib.hid (own_dn hown hrn Hq.out); have Hg4 := Lib.hid hg4; have Hgb := Lib.hid hgb.1; clear hown hgr hg4))
              have Hg5 := Lib.hid (Hg4.out.setCell (p := ⟨gg, r, none⟩) Hgb.out (.int .i64 (q : Nat)))
              have d3 := World.cell?_setCell_same w4 ⟨gg, r, none⟩ (.int .i64 (q : Nat)) d1
              generalize w4.setCell ⟨gg, r, none⟩ (.int .i64 (q : Nat)) = W5 at Hg5 d3 Hi68 ⊢
              have s0 := Hg5.out.cell_of xbs
              have s1 := Hg5.out.cell_of xbx
              have s2 := Hg5.out.cell_of z0
              have s4 := Hg5.out.cell_of hpk
              clear d1 d2 hgb x0 y0 z0 xbs xbx hpk
              (refine wp_region_calm (by kernel_rfl) (by kernel_rfl) ?_; (repeat (refine wpCalm_step (fun K hK => ?_); go_simp; first | (refine hK _ ?_; clear hK K) | (apply Exists.intro; refine ⟨fun n' x' => ?_, hK _ ?_⟩; (exact rheat_c _ _ _ J (dn (J.dig t) r) ((Hv.out.mono (hgx.out.trans (Hg5.out.trans (by (repeat (first | exact World.grows.refl _ | assumption | refine World.grows.alloc ?_ _ | refine World.grows.plus ?_ _ _ | refine World.grows.drew ?_)))))).job HJ.out) (Hi68.out.mono (by (repeat (first | exact World.grows.refl _ | assumption | refine World.grows.alloc ?_ _ | refine World.grows.plus ?_ _ _ | refine World.grows.drew ?_)))) HJ.out hin.out.le); clear hK K))); refine wpCalm_nil ?_; intro nq xq)
              go_wp2_with (go_at_call 68; go_loud (refine (number_c _ _ _ J (dn (J.dig t) r) ((Hv.out.mono (hgx.out.trans (Hg5.out.trans (by (repeat (first | exact World.grows.refl _ | assumption | refine World.grows.alloc ?_ _ | refine World.grows.plus ?_ _ _ | refine World.grows.drew ?_)))))).job HJ.out) (Hi68.out.mono (by (repeat (first | exact World.grows.refl _ | assumption | refine World.grows.alloc ?_ _ | refine World.grows.plus ?_ _ _ | refine World.grows.drew ?_)))) HJ.out hin.out.le).mono ?_; rintro e w6 ⟨rfl, hg6⟩; have Hg6 := Lib.hid (Hg5.out.trans (World.grows.trans (by (repeat (first | exact World.grows.refl _ | assumption | refine World.grows.alloc ?_ _ | refine World.grows.plus ?_ _ _ | refine World.grows.drew ?_))) hg6)); clear hg6))
              have k1 := Hg6.out.cell_of T1.out
              have k2 := Hg6.out.cell_of T2.out
              have k3 := Hg6.out.cell_of T3.out
              have k4 := Hg6.out.cell_of T4.out
              have U1 := Lib.hid (Hg6.out.heap_of S1.out)
              have U2 := Lib.hid (Hg6.out.heap_of S2.out)
              have f1 := rowI_frozen U1.out t
              have f2 := rowI_frozen U2.out t
              have hbi : ((J.num (dn (J.dig t) r) : Nat) : Int) < J.size := by omega
              have hhb := HJ.out.heat_bd hin.out.le
              have hpb := HJ.out.pk r q hrn hql
              have hhot : J.hot (dn (J.dig t) r) r = J.heat (dn (J.dig t) r) + J.pk r q := by unfold Job.hot; rw [hdr]
              have hwrap : IntKind.i64.wrap (J.heat (dn (J.dig t) r) + J.pk r q) = J.hot (dn (J.dig t) r) r := by rw [hhot]; exact wrapI (by omega)
              simp only [hwrap]
              have e1 : J.coolR J.coolN (J.dig t) (r + 1) = min (J.coolR J.coolN (J.dig t) r) (max (J.coolN (dn (J.dig t) r)) (J.hot (dn (J.dig t) r) r)) := by simp only [Job.coolR]; rw [if_pos (by have := Hq.out; omega)]
              have e2 : sumN (J.wayF l (J.dig t)) (r + 1) = sumN (J.wayF l (J.dig t)) r + (if J.hot (dn (J.dig t) r) r ≤ l then J.waysN l (dn (J.dig t) r) else 0) := by
                simp only [sumN, Job.wayF]
                congr 1
                by_cases h : J.hot (dn (J.dig t) r) r ≤ l
                · rw [if_pos ⟨by have := Hq.out; omega, h⟩, if_pos h]
                · rw [if_neg (fun h' => h h'.2), if_neg h]
              have b3 := J.wayF_le l hdeg.out hr
              have b4 := Job.waysN_bd HJ.out l (J.dig_in t)
              have b5 := Job.waysN_bd HJ.out l hin.out
              have E1 := Lib.hid e1
              have E2 := Lib.hid e2
              obtain ⟨B, hB⟩ : ∃ B, J.num (dn (J.dig t) r) = B := ⟨_, rfl⟩
              obtain ⟨C, hC⟩ : ∃ C, J.coolR J.coolN (J.dig t) r = C := ⟨_, rfl⟩
              obtain ⟨D, hD⟩ : ∃ D, J.coolN (dn (J.dig t) r) = D := ⟨_, rfl⟩
              obtain ⟨S, hS⟩ : ∃ S, sumN (J.wayF l (J.dig t)) r = S := ⟨_, rfl⟩
              obtain ⟨V, hV⟩ : ∃ V, J.waysN l (dn (J.dig t) r) = V := ⟨_, rfl⟩
              obtain ⟨X, hX⟩ : ∃ X, J.hot (dn (J.dig t) r) r = X := ⟨_, rfl⟩
              rw [hB] at k3 k4 hbi hb9
              rw [hC] at k1 E1 U1
              rw [hD] at k3 E1
              rw [hS] at k2 E2 U2 b3
              rw [hV] at k4 E2 b5
              rw [hX] at E1 E2
              simp only [hB, hX]
              have hne1 := Lib.hid hne
              have hSV : S ≤ 281474976710656 := by omega
              clear e1 e2 b3 b4 hhb hpb hhot hwrap hB hC hD hS hV hX s0 s1 s2 s4 d3 T1 T2 T3 T4 Hi68 hdr Hnum hdig hin S1 S2
              by_cases hh : X ≤ l
              · rw [if_pos hh] at E2
                (refine wp_region_tail 14 (by kernel_rfl) (by kernel_rfl) (by decide) ?_; simp only [List.take_succ_cons, List.take_zero, List.drop_succ_cons, List.drop_zero, List.take_nil, List.drop_nil, List.append_nil, List.nil_append, List.cons_append, Nat.reduceAdd, Nat.reduceSub]; (repeat (refine wpCalm_step (fun K hK => ?_); go_simp; first | (refine hK _ ?_; clear hK K) | (apply Exists.intro; refine ⟨fun n' x' => ?_, hK _ ?_⟩; (fail); clear hK K))); refine wpCalm_nil ?_; intro nq xq)
                go_wp2
                all_goals generalize hW7 : World.plus _ _ _ = W7
                all_goals have V1 : Hid (W7.heap[b1]? = some (.cells (rowI J.size (updI (J.hotT t) t (J.coolR J.coolN (J.dig t) (r + 1)))) 2)) := Lib.hid (by
                  rw [← hW7, E1.out]
                  exact (World.grows.heap_of (World.grows_plus _ _ _) (rowI_store U1.out hlt _)).trans (rowI_twice (by omega)))
                all_goals have V2 : Hid (W7.heap[b2]? = some (.cells (rowI J.size (updI (J.wayT l t) t (S : Nat))) 2)) := Lib.hid (by
                  rw [← hW7]
                  exact World.grows.heap_of (World.grows_plus _ _ _) (rowI_other U2.out hne))
                all_goals have g2 : W7.cell? ⟨b2, t, none⟩ = some (.int .i64 (S : Nat)) := (by have := rowI_cell V2.out hlt; rwa [updI_same] at this)
                all_goals have g4 : W7.cell? ⟨b2, B, none⟩ = some (.int .i64 (V : Nat)) := (by
                  have h1 := rowI_cell U2.out hb9
                  rw [k4] at h1
                  have h2 := rowI_cell V2.out hb9
                  rw [← h1] at h2
                  exact h2)
                all_goals have g5 := rowI_frozen V2.out t
                all_goals have Hg7 : Hid (w2.grows W7) := Lib.hid (by rw [← hW7]; exact ((hgX.out.trans Hg6.out).setCell hb1 _).trans (by (repeat (first | exact World.grows.refl _ | assumption | refine World.grows.alloc ?_ _ | refine World.grows.plus ?_ _ _ | refine World.grows.drew ?_))))
                all_goals clear hW7 k1 k2 k3 k4 f1 f2
                all_goals
                  (refine wp_region_tail 10 (by kernel_rfl) (by kernel_rfl) (by decide) ?_; simp only [List.take_succ_cons, List.take_zero, List.drop_succ_cons, List.drop_zero, List.take_nil, List.drop_nil, List.append_nil, List.nil_append, List.cons_append, Nat.reduceAdd, Nat.reduceSub]; (repeat (refine wpCalm_step (fun K hK => ?_); go_simp; first | (refine hK _ ?_; clear hK K) | (apply Exists.intro; refine ⟨fun n' x' => ?_, hK _ ?_⟩; (fail); clear hK K))); refine wpCalm_nil ?_; intro nq xq)
                  go_wp2
                  go_roundw
                  case rel =>
                    refine ⟨r + 1, by omega, by go_num, Lib.hid ?_, Lib.hid ?_, Lib.hid ?_⟩
                    · exact World.grows.heap_of (World.grows_plus _ _ _) (rowI_other V1.out hne.symm)
                    · rw [E2.out]
                      exact (World.grows.heap_of (World.grows_plus _ _ _) (rowI_store V2.out hlt _)).trans (rowI_twice (by omega))
                    · exact (Hg7.out.setCell hb2 _).trans (by (repeat (first | exact World.grows.refl _ | assumption | refine World.grows.alloc ?_ _ | refine World.grows.plus ?_ _ _ | refine World.grows.drew ?_)))
                  case measure => change J.n - (intOf (Value.int IntKind.i64 ((r : Int) + 1))).toNat < J.n - (intOf (Value.int IntKind.i64 (r : Int))).toNat; simp [intOf] <;> omega
              · rw [if_neg hh] at E2
                (refine wp_region_tail 14 (by kernel_rfl) (by kernel_rfl) (by decide) ?_; simp only [List.take_succ_cons, List.take_zero, List.drop_succ_cons, List.drop_zero, List.take_nil, List.drop_nil, List.append_nil, List.nil_append, List.cons_append, Nat.reduceAdd, Nat.reduceSub]; (repeat (refine wpCalm_step (fun K hK => ?_); go_simp; first | (refine hK _ ?_; clear hK K) | (apply Exists.intro; refine ⟨fun n' x' => ?_, hK _ ?_⟩; (fail); clear hK K))); refine wpCalm_nil ?_; intro nq xq)
                go_wp2
                go_roundw
                case rel =>
                  refine ⟨r + 1, by omega, by go_num, Lib.hid ?_, Lib.hid ?_, Lib.hid ?_⟩
                  · rw [E1.out, ← min_max_if C D X, rowI_congr fun i _ => (updI_twice (J.hotT t) t C _ i).symm]
                    exact World.grows.heap_of (World.grows_plus _ _ _) (rowI_store U1.out hlt _)
                  · rw [E2.out]
                    exact World.grows.heap_of (World.grows_plus _ _ _) (rowI_other U2.out hne)
                  · exact ((hgX.out.trans Hg6.out).setCell hb1 _).trans (by (repeat (first | exact World.grows.refl _ | assumption | refine World.grows.alloc ?_ _ | refine World.grows.plus ?_ _ _ | refine World.grows.drew ?_)))
                case measure => change J.n - (intOf (Value.int IntKind.i64 ((r : Int) + 1))).toNat < J.n - (intOf (Value.int IntKind.i64 (r : Int))).toNat; simp [intOf] <;> omega
          · have hre : r = J.n := by omega
            subst hre
            go_wp2
            go_roundw
            case rel =>
              refine ⟨t + 1, by omega, by go_num, Lib.hid ?_, Lib.hid ?_, hgX⟩
              · rw [rowI_congr fun i _ => (J.hotT_upd t _ (J.coolN_eq hdeg.out).symm i).symm]
                exact S1.out
              · rw [rowI_congr fun i _ => (J.wayT_upd l t _ (by rw [J.waysN_eq l hdeg.out]) i).symm]
                exact S2.out
            case measure => change J.size - (intOf (Value.int IntKind.i64 ((t : Int) + 1))).toNat < J.size - (intOf (Value.int IntKind.i64 (t : Int))).toNat; simp [intOf] <;> omega
    · have hte : t = J.size := by omega
      subst hte
      go_wp2
      (refine bodyPost_ret (v := .tuple #[.slice (some ⟨b1, 0, none⟩) J.size J.size, .slice (some ⟨b2, 0, none⟩) J.size J.size]) (by simp [results, Try.results64, go_sem]) rfl ?_)
      refine ⟨_, _, rfl, Hg2.out.trans (hgW.out.trans (by (repeat (first | exact World.grows.refl _ | assumption | refine World.grows.alloc ?_ _ | refine World.grows.plus ?_ _ _ | refine World.grows.drew ?_)))), (rowI_ints R1.out (by unfold maxLen; omega)).congr fun i j hi hj => ?_, (rowI_ints R2.out (by unfold maxLen; omega)).congr fun i j hi hj => ?_⟩
      · simp [Job.hotT, hi]
      · simp [Job.wayT, hi]
end Go.Proofs.Ytjpccfpmhmddjaa

/-
  What is proved: Count and Coolest of the reference.
-/
namespace Go.Proofs.Ytjpccfpmhmddjaa
open Go.RowKit
attribute [local irreducible] Go.wpCalm

set_option maxHeartbeats 2000000 in
theorem coolest_c (w : World) (v : Value) (J : Job) (hv : RawAt w v J) (hJ : J.Ok) :
    Calls Try.prog 28 #[v] w fun e w' => e = .returned (.int .i64 (J.coolN J.last)) ∧ w.grows w' := by
  have Hv := Lib.hid hv
  have HJ := Lib.hid hJ
  obtain ⟨rv, row, rfl, -, -⟩ := hv
  have hsp := J.size_pos
  have hsz := J.size_le hJ
  have hl := Lib.hid J.dig_last.1
  clear hJ
  go_enter Try.func28, Try.ntmps28
  go_wp2_with (go_at_call 64; refine (hot_c _ _ J (Hv.out.mono (by (repeat (first | exact World.grows.refl _ | assumption | refine World.grows.alloc ?_ _ | refine World.grows.plus ?_ _ _ | refine World.grows.drew ?_)))) HJ.out 0).mono ?_; rintro e w1 ⟨s1, s2, rfl, hg, h1, -⟩; obtain ⟨a, cap, rfl, hc1, hc2, hc⟩ := h1; unfold maxLen at hc2; obtain ⟨b, o, rfl, hc0⟩ := hc (J.size - 1) 0 (by omega) (by omega); simp only [Nat.mul_one, Nat.add_zero, hl.out] at hc0; have hi1 : ((J.size - 1 : Nat) : Int) = (J.size : Int) - 1 := (by omega); have hi2 : (0 : Int) < J.size := (by omega))
  go_ret
  exact ⟨rfl, World.grows.trans (by (repeat (first | exact World.grows.refl _ | assumption | refine World.grows.alloc ?_ _ | refine World.grows.plus ?_ _ _ | refine World.grows.drew ?_))) hg⟩

set_option maxHeartbeats 2000000 in
theorem rcount_c (w : World) (v : Value) (J : Job) (hv : RawAt w v J) (l : Int) :
    Calls Try.prog 27 #[v, .int .i64 l] w fun e w' => e = .returned (.tuple #[.int .i64 (J.countAns l), .int .i64 J.check]) ∧ w.grows w' := by
  have Hv := Lib.hid hv
  obtain ⟨rv, row, rfl, -, -⟩ := hv
  have h23 := fun W hW => rcheck_c W (.agg #[.int .i64 J.start, rv]) J hW
  go_enter Try.func27, Try.ntmps27
  by_cases hc : J.check = 0
  · have HJ := Lib.hid ((Job.Ok_iff J).2 hc)
    have hsp := J.size_pos
    have hsz := J.size_le HJ.out
    have hl := Lib.hid J.dig_last.1
    have hA : Hid (J.countAns l = J.waysN l J.last) := Lib.hid (by unfold Job.countAns; simp [hc])
    rw [hc] at h23
    have Hc := Lib.hid hc
    clear hc
    go_wp2_with (first
      | (go_at_call 23; refine (h23 _ (Hv.out.mono (by (repeat (first | exact World.grows.refl _ | assumption | refine World.grows.alloc ?_ _ | refine World.grows.plus ?_ _ _ | refine World.grows.drew ?_))))).mono ?_; rintro e w2 ⟨rfl, hg2⟩; obtain ⟨n2, x2, rfl⟩ := World.plus_of hg2)
      | (go_at_call 64; refine (hot_c _ _ J (Hv.out.mono (by (repeat (first | exact World.grows.refl _ | assumption | refine World.grows.alloc ?_ _ | refine World.grows.plus ?_ _ _ | refine World.grows.drew ?_)))) HJ.out l).mono ?_; rintro e w1 ⟨s1, s2, rfl, hg, -, h1⟩; obtain ⟨a, cap, rfl, hc1, hc2, hc⟩ := h1; unfold maxLen at hc2; obtain ⟨b, o, rfl, hc0⟩ := hc (J.size - 1) 0 (by omega) (by omega); simp only [Nat.mul_one, Nat.add_zero, hl.out] at hc0; have hi1 : ((J.size - 1 : Nat) : Int) = (J.size : Int) - 1 := (by omega); have hi2 : (0 : Int) < J.size := (by omega)))
    (refine bodyPost_ret (v := .tuple #[.int .i64 (J.waysN l J.last : Nat), .int .i64 0]) (by simp [results, Try.results27, go_sem]) rfl ?_)
    exact ⟨by rw [hA.out, Hc.out], World.grows.trans (by (repeat (first | exact World.grows.refl _ | assumption | refine World.grows.alloc ?_ _ | refine World.grows.plus ?_ _ _ | refine World.grows.drew ?_))) hg⟩
  · have hA : Hid (J.countAns l = 0) := Lib.hid (by unfold Job.countAns; simp [hc])
    go_wp2_with (go_at_call 23; refine (h23 _ (Hv.out.mono (by (repeat (first | exact World.grows.refl _ | assumption | refine World.grows.alloc ?_ _ | refine World.grows.plus ?_ _ _ | refine World.grows.drew ?_))))).mono ?_; rintro e w2 ⟨rfl, hg2⟩; obtain ⟨n2, x2, rfl⟩ := World.plus_of hg2)
    (refine bodyPost_ret (v := .tuple #[.int .i64 0, .int .i64 J.check]) (by simp [results, Try.results27, go_sem]) rfl ?_)
    exact ⟨by rw [hA.out], by (repeat (first | exact World.grows.refl _ | assumption | refine World.grows.alloc ?_ _ | refine World.grows.plus ?_ _ _ | refine World.grows.drew ?_))⟩

end Go.Proofs.Ytjpccfpmhmddjaa

