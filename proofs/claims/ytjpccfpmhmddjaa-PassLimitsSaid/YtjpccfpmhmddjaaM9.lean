/-
  What is proved: Before (36).
-/
import Derived.Test.YtjpccfpmhmddjaaM8
import Derived.Test.YtjpccfpmhmddjaaM7
import Derived.Deep.RegionWith
import Derived.Test.YtjpccfpmhmddjaaM4
import Derived.Test.YtjpccfpmhmddjaaM5
import Derived.Test.YtjpccfpmhmddjaaM1
import Derived.ProofKit
import Derived.OpenShut
import Derived.SizedLaws
import Derived.Deep.Slices
import Derived.Lib.SmallJoins
set_option linter.all false
namespace Go.Proofs.Ytjpccfpmhmddjaa
open Go.RowKit
attribute [local irreducible] Go.wpCalm

def Job.befLo (J : Job) (L : List Nat) : Nat → Int
  | 0 => 1099511627776
  | k + 1 => min (J.befLo L k) (J.heat (J.dig (L.getD k 0)))
def Job.befHi (J : Job) (L : List Nat) : Nat → Int
  | 0 => -1099511627776
  | k + 1 => max (J.befHi L k) (J.heat (J.dig (L.getD k 0)))
/-- the places at which a pass can be next -/
def Job.befL (J : Job) (l : Int) (rb kb : Int) : List Nat := filT (J.seenB l rb.toNat kb.toNat) J.size

theorem set_other {W : World} {b : Nat} {u v : Value} (_h0 : W.cell? ⟨b, 0, none⟩ = some u) (h1 : W.cell? ⟨b, 1, none⟩ = some v) (x : Value) : (W.setCell ⟨b, 0, none⟩ x).cell? ⟨b, 1, none⟩ = some v := by
  rw [cell_set_ne (.inr (by simp)) rfl]; exact h1

set_option maxHeartbeats 4000000 in
theorem bef_c (w : World) (v : Value) (J : Job) (hv : RawAt w v J) (l rb kb : Int) :
    Calls Try.prog 36 #[v, .int .i64 l, .agg #[.int .i64 rb, .int .i64 kb]] w fun e w' => ∃ lo hi,
      e = .returned (.tuple #[.agg #[.int .i64 lo, .int .i64 hi], .int .i64 (J.seenErr l 1 (fun _ => rb) (fun _ => kb))]) ∧ w.grows w' ∧
      (J.seenErr l 1 (fun _ => rb) (fun _ => kb) ≠ 0 → lo = 0 ∧ hi = 0) ∧
      (J.seenErr l 1 (fun _ => rb) (fun _ => kb) = 0 → lo = J.befLo (J.befL l rb kb) (J.befL l rb kb).length ∧ hi = J.befHi (J.befL l rb kb) (J.befL l rb kb).length) := by
  have Hv := Lib.hid hv
  obtain ⟨rv, row0, rfl, -, -⟩ := hv
  go_enter Try.func36, Try.ntmps36
  by_cases he : J.seenErr l 1 (fun _ => rb) (fun _ => kb) = 0
  · have HE := Lib.hid he
    go_wp2_with (go_at_call 70; go_loud (refine (seen_c _ _ J (Hv.out.mono (by (repeat (first | exact World.grows.refl _ | assumption | refine World.grows.alloc ?_ _ | refine World.grows.plus ?_ _ _ | refine World.grows.drew ?_)))) l _ 1 (fun _ => rb) (fun _ => kb) (names1 _ _ _ _ _ (by simp)) (by omega) (by omega)).mono ?_; rw [he]; rintro e w1 ⟨pv, sv, rfl, hg1, hs⟩; obtain ⟨P0, r, k, rfl, hr, hk, hrn, hkn, hP, hS⟩ := hs rfl; obtain ⟨aa, acap, rfl, ha1, ha2, hac⟩ := hS; unfold maxLen at ha2; have Hac := Lib.hid hac; have HP := Lib.hid hP; have r0 := hg1.cell_of (a := ⟨w.heap.size + 1 + 1, 0, none⟩) (v := .int .i64 0) (by simp [go_sem]); have r1 := hg1.cell_of (a := ⟨w.heap.size + 1 + 1, 1, none⟩) (v := .int .i64 0) (by simp [go_sem]); have f0 : w1.frozen? ⟨w.heap.size + 1 + 1, 0, none⟩ = false := (by rw [Below.frozen hg1 (by simp)]; simp [go_sem]); have f1 : w1.frozen? ⟨w.heap.size + 1 + 1, 1, none⟩ = false := (by rw [Below.frozen hg1 (by simp)]; simp [go_sem]); have bl : w.heap.size + 1 + 1 < w1.heap.size := (by have := hg1.size; simp at this; omega); have Hg1 := Lib.hid (show w.grows w1 from World.grows.trans (by (repeat (first | exact World.grows.refl _ | assumption | refine World.grows.alloc ?_ _ | refine World.grows.plus ?_ _ _ | refine World.grows.drew ?_))) hg1); clear hac hP hs hg1))
    have hL : J.befL l rb kb = filT (J.seenB l r k) J.size := by unfold Job.befL; rw [hr, hk]; simp
    generalize hLL : filT (J.seenB l r k) J.size = L at ha1 Hac hL ⊢
    have HL := Lib.hid hL.symm
    have hJ := Lib.hid ((Job.Ok_iff J).2 (Job.seenErr_pass HE.out).1)
    clear hr hk hL hLL
    go_loopw [31] (fun i wr => ∃ t : Nat, t ≤ L.length ∧ i = .int .i64 t ∧ wr.cell? ⟨w1.heap.size, 0, none⟩ = some (.int .i64 (J.befLo L t)) ∧ wr.cell? ⟨w1.heap.size, 1, none⟩ = some (.int .i64 (J.befHi L t)) ∧ wr.frozen? ⟨w1.heap.size, 0, none⟩ = false ∧ wr.frozen? ⟨w1.heap.size, 1, none⟩ = false ∧ Hid (w1.grows wr)) (fun i _ => L.length - (intOf i).toNat)
    case atStart => exact ⟨0, by omega, rfl, by simp [go_sem, Job.befLo], by simp [go_sem, Job.befHi], by simp [go_sem], by simp [go_sem], Lib.hid (by (repeat (first | exact World.grows.refl _ | assumption | refine World.grows.alloc ?_ _ | refine World.grows.plus ?_ _ _ | refine World.grows.drew ?_)))⟩
    case round =>
      obtain ⟨t, ht, rfl, b0, b1, g0, g1, hg⟩ := hrel
      obtain ⟨lo, hlo⟩ : ∃ lo, lo = J.befLo L t := ⟨_, rfl⟩
      obtain ⟨hi, hhi⟩ : ∃ hi, hi = J.befHi L t := ⟨_, rfl⟩
      rw [← hlo] at b0
      rw [← hhi] at b1
      have Hlo := Lib.hid hlo
      have Hhi := Lib.hid hhi
      clear hlo hhi
      by_cases hlt : t < L.length
      · obtain ⟨ab, ao, rfl, h0⟩ := Hac.out t 0 hlt (by omega)
        obtain ⟨_, _, e1, h1⟩ := Hac.out t 1 hlt (by omega); cases e1
        obtain ⟨_, _, e1, h2⟩ := Hac.out t 2 hlt (by omega); cases e1
        obtain ⟨_, _, e1, h3⟩ := Hac.out t 3 hlt (by omega); cases e1
        simp only [placeC, Nat.add_zero] at h0 h1 h2 h3
        replace h0 := hg.out.cell_of h0
        replace h1 := hg.out.cell_of h1
        replace h2 := hg.out.cell_of h2
        replace h3 := hg.out.cell_of h3
        clear r0 r1 f0 f1
        have hbw : w1.heap.size < wr.heap.size := World.block_lt_of_cell (w := wr) (a := ⟨w1.heap.size, 0, none⟩) (by simp [b0])
        obtain ⟨dg, hdg⟩ : ∃ dg, dg = J.dig (L.getD t 0) := ⟨_, rfl⟩
        rw [← hdg] at h0 h1 h2 h3
        have Hdg := Lib.hid hdg
        clear hdg
        obtain ⟨hv, Hhv⟩ : ∃ hv, Hid (hv = J.heat (J.dig (L.getD t 0))) := ⟨_, Lib.hid rfl⟩
        have H46 : Hid (∀ W : World, w1.grows W → Calls Try.prog 46 #[.pointer (some ⟨P0, 0, none⟩), plc dg] W fun e w' => e = .returned (.int .i64 hv) ∧ W.grows w') := Lib.hid fun W hW => by
          rw [Hhv.out, Hdg.out]; exact heat_c W P0 J _ (HP.out.mono hW) hJ.out (J.dig_in _).le
        go_wp2_with (go_at_call 44; fail)
        refine (H46.out _ (hg.out.trans (by (repeat (first | exact World.grows.refl _ | assumption | refine World.grows.alloc ?_ _ | refine World.grows.plus ?_ _ _ | refine World.grows.drew ?_))))).mono ?_
        rintro e w3 ⟨rfl, hg3⟩
        replace b0 : w3.cell? ⟨w1.heap.size, 0, none⟩ = some (.int .i64 lo) := hg3.cell_of (by simp [go_sem, b0])
        replace b1 : w3.cell? ⟨w1.heap.size, 1, none⟩ = some (.int .i64 hi) := hg3.cell_of (by simp [go_sem, b1])
        have hsz3 : w1.heap.size < (wr.alloc (plcO dg)).heap.size := by simp; omega
        replace g0 : w3.frozen? ⟨w1.heap.size, 0, none⟩ = false := (Below.frozen (p := ⟨w1.heap.size, 0, none⟩) hg3 hsz3).trans (by simp [go_sem, g0, hbw])
        replace g1 : w3.frozen? ⟨w1.heap.size, 1, none⟩ = false := (Below.frozen (p := ⟨w1.heap.size, 1, none⟩) hg3 hsz3).trans (by simp [go_sem, g1, hbw])
        have HG3 := Lib.hid (show w1.grows w3 from hg.out.trans (World.grows.trans (by (repeat (first | exact World.grows.refl _ | assumption | refine World.grows.alloc ?_ _ | refine World.grows.plus ?_ _ _ | refine World.grows.drew ?_))) hg3))
        clear hg3 hsz3 h0 h1 h2 h3
        go_wp2
        have e0 : J.befLo L (t + 1) = if hv < lo then hv else lo := by
          rw [Hhv.out, Hlo.out]
          show min (J.befLo L t) (J.heat (J.dig (L.getD t 0))) = _
          rw [Int.min_def]; split <;> split <;> omega
        have e1 : J.befHi L (t + 1) = if hi < hv then hv else hi := by
          rw [Hhv.out, Hhi.out]
          show max (J.befHi L t) (J.heat (J.dig (L.getD t 0))) = _
          rw [Int.max_def]; split <;> split <;> omega
        refine ⟨⟨t + 1, by omega, by go_num, ?_, ?_, by simp [go_sem, g0], by simp [go_sem, g1], Lib.hid ((HG3.out.setCell (Nat.le_refl _) _).setCell (Nat.le_refl _) _)⟩, by simp [intOf]; omega⟩
        · rw [e0, cell_set_ne (.inr (by simp)) rfl]; exact World.cell?_setCell_same _ _ _ b0
        · rw [e1]; exact World.cell?_setCell_same _ _ _ (set_other b0 b1 _)
      · have hte : t = L.length := by omega
        subst hte
        have q0 := hg.out.cell_of r0
        have q1 := hg.out.cell_of r1
        have k0 : wr.frozen? ⟨w.heap.size + 1 + 1, 0, none⟩ = false := by rw [Below.frozen hg.out bl]; exact f0
        have k1 : wr.frozen? ⟨w.heap.size + 1 + 1, 1, none⟩ = false := by rw [Below.frozen hg.out bl]; exact f1
        clear r0 r1 f0 f1
        go_wp2
        refine bodyPost_ret (v := .tuple #[.agg #[.int .i64 lo, .int .i64 hi], .int .i64 0]) (by simp [results, Try.results36, go_sem, World.cell?_setCell_same _ _ _ q0, World.cell?_setCell_same _ _ _ (set_other q0 q1 _)]) rfl ?_
        refine ⟨_, _, by rw [HE.out], ?_, fun h => absurd HE.out h, fun _ => by rw [← HL.out]; exact ⟨Hlo.out, Hhi.out⟩⟩
        exact ((Hg1.out.trans hg.out).setCell (by simp; omega) _).setCell (by simp; omega) _
  · have HE := Lib.hid he
    go_wp2_with (go_at_call 70; go_loud (refine (seen_c _ _ J (Hv.out.mono (by (repeat (first | exact World.grows.refl _ | assumption | refine World.grows.alloc ?_ _ | refine World.grows.plus ?_ _ _ | refine World.grows.drew ?_)))) l _ 1 (fun _ => rb) (fun _ => kb) (names1 _ _ _ _ _ (by simp)) (by omega) (by omega)).mono ?_; rintro e w1 ⟨pv, sv, rfl, hg1, -⟩; have r0 := hg1.cell_of (a := ⟨w.heap.size + 1 + 1, 0, none⟩) (v := .int .i64 0) (by simp [go_sem]); have r1 := hg1.cell_of (a := ⟨w.heap.size + 1 + 1, 1, none⟩) (v := .int .i64 0) (by simp [go_sem]); have f0 : w1.frozen? ⟨w.heap.size + 1 + 1, 0, none⟩ = false := (by rw [Below.frozen hg1 (by simp)]; simp [go_sem]); have f1 : w1.frozen? ⟨w.heap.size + 1 + 1, 1, none⟩ = false := (by rw [Below.frozen hg1 (by simp)]; simp [go_sem]); have bl : w.heap.size + 1 + 1 < w1.heap.size := (by have := hg1.size; simp at this; omega); have Hg1 := Lib.hid (show w.grows w1 from World.grows.trans (by (repeat (first | exact World.grows.refl _ | assumption | refine World.grows.alloc ?_ _ | refine World.grows.plus ?_ _ _ | refine World.grows.drew ?_))) hg1); clear hg1))
    refine bodyPost_ret (v := .tuple #[.agg #[.int .i64 0, .int .i64 0], .int .i64 (J.seenErr l 1 (fun _ => rb) (fun _ => kb))]) (by simp [results, Try.results36, go_sem, World.cell?_setCell_same _ _ _ r0, World.cell?_setCell_same _ _ _ (set_other r0 r1 (.int .i64 0))]) rfl ?_
    refine ⟨0, 0, rfl, ?_, fun _ => ⟨rfl, rfl⟩, fun h => absurd h HE.out⟩
    exact (Hg1.out.setCell (by simp; omega) _).setCell (by simp; omega) _

end Go.Proofs.Ytjpccfpmhmddjaa

/-
  What is proved: CheckBarrier of the reference (31).
-/
namespace Go.Proofs.Ytjpccfpmhmddjaa
open Go.RowKit
attribute [local irreducible] Go.wpCalm

theorem wrapI {n : Int} (h : -9223372036854775808 ≤ n ∧ n ≤ 9223372036854775807) : IntKind.i64.wrap n = n := by
  rw [IntKind.wrap_i64]; omega
/-! ### a row of numbers in a block -/
theorem rowA_cell {W : World} {b n : Nat} {f : Nat → Nat} {t : TypeId} (h : W.heap[b]? = some (.cells (rowA n f) t)) {i : Nat} (hi : i < n) : W.cell? ⟨b, i, none⟩ = some (.int .i64 (f i)) := by
  unfold World.cell?
  simp only [h]
  exact rowA_get n f i hi
theorem rowA_frozen {W : World} {b n : Nat} {f : Nat → Nat} {t : TypeId} (h : W.heap[b]? = some (.cells (rowA n f) t)) (i : Nat) : W.frozen? ⟨b, i, none⟩ = false := by
  unfold World.frozen?
  simp only [h]
  simp
theorem rowA_store {W : World} {b n : Nat} {f : Nat → Nat} {t : TypeId} (h : W.heap[b]? = some (.cells (rowA n f) t)) {i : Nat} (hi : i < n) (x : Nat) : (W.setCell ⟨b, i, none⟩ (.int .i64 x)).heap[b]? = some (.cells (rowA n (updN f i x)) t) := by
  unfold World.setCell
  simp only [Array.getElem?_modify, h, if_true, Option.map_some]
  have := rowA_set n f i x hi
  simp only [Option.isSome_none, Bool.false_eq_true, if_false, this]
theorem rowA_congr {n : Nat} {f g : Nat → Nat} (h : ∀ i, i < n → f i = g i) : rowA n f = rowA n g := by
  unfold rowA
  congr 1
  apply List.map_congr_left
  intro i hi
  rw [h i (by simpa using hi)]
theorem rowA_alloc (w : World) (n : Nat) (f : Nat → Nat) (t : TypeId) : (w.alloc (.cells (rowA n f) t)).heap[w.heap.size]? = some (.cells (rowA n f) t) := heap_alloc_new w _

/-- the marks of the positions among the first k -/
def Job.barN (J : Job) (ln : Nat → Nat) (f : Nat → Nat → Int) (k t : Nat) : Nat := if J.bar k ln f (J.dig t) = true then 1 else 0
theorem Job.barN_zero (J : Job) (ln : Nat → Nat) (f : Nat → Nat → Int) (t : Nat) : J.barN ln f 0 t = 0 := by simp [Job.barN, Job.bar]
theorem Job.barN_succ {J : Job} (hJ : J.Ok) {ln : Nat → Nat} {f : Nat → Nat → Int} {k : Nat} (hp : J.In (J.posP (ln k) (f k))) {t : Nat} (ht : t < J.size) :
    J.barN ln f (k + 1) t = updN (J.barN ln f k) (J.num (J.posP (ln k) (f k))) 1 t := by
  have e : J.bar (k + 1) ln f (J.dig t) = (J.bar k ln f (J.dig t) || decide (tup (J.posP (ln k) (f k)) = tup (J.dig t))) := by simp [Job.bar, List.range_succ]
  unfold Job.barN updN
  rw [e]
  by_cases h : t = J.num (J.posP (ln k) (f k))
  · rw [if_pos h, if_pos]
    rw [h, J.dig_num hp]
    simp
  · rw [if_neg h]
    have : decide (tup (J.posP (ln k) (f k)) = tup (J.dig t)) = false := by
      simp only [decide_eq_false_iff_not]
      intro e
      have := Job.tup_inj hJ hp (J.dig_in t) e
      rw [this, J.num_dig ht] at h
      exact h rfl
    simp [this]
theorem Job.posIn {J : Job} {m : Nat} {f : Nat → Int} (h : J.posErr m f = 0) : J.In (J.posP m f) := ⟨(Job.posP_In h).1, (Job.posP_In h).2.1⟩
theorem Job.dig_last (J : Job) : J.dig (J.size - 1) = J.last ∧ J.num J.last = J.size - 1 := by
  have h1 := J.num_last (p := J.last) (fun j hj => by simp [Job.last, hj])
  have h2 : J.num J.last = J.size - 1 := by omega
  refine ⟨?_, h2⟩
  rw [← h2, J.dig_num J.in_last]

/-- one more at r, in a row of the call's own -/
theorem own_to {W : World} {B n g cc r : Nat} {p : Nat → Nat} (h : W.ownsRow B 3 1 (.slice (some ⟨g, 0, none⟩) n cc) n (tableL n 1 (fun i _ => .int .i64 (p i : Nat)))) (hr : r < n) :
    IntsAt (W.setCell ⟨g, r, none⟩ (.int .i64 ((p r : Int) + 1))) (.slice (some ⟨g, 0, none⟩) n cc) n (fun i => (Job.to p r i : Nat)) := by
  refine (h.stored r (.int .i64 ((p r : Int) + 1))).1.sliceAt fun i j hi hj => ?_
  have : j = 0 := by omega
  subst this
  rw [tableL_map]
  simp only [Nat.mul_one, Nat.add_zero, List.getElem?_set, List.length_map, List.length_range, List.getElem?_map, List.getElem?_range hi, Option.map_some]
  by_cases h1 : r = i
  · subst h1
    rw [if_pos rfl, if_pos hr]
    simp [Job.to, upd]
  · rw [if_neg h1]
    have h2 : ¬ i = r := fun e => h1 e.symm
    simp [Job.to, upd, h2]

set_option maxRecDepth 100000 in
set_option maxHeartbeats 8000000 in
theorem rchkBar_c (w : World) (v : Value) (J : Job) (hv : RawAt w v J) (lv : Value) (m : Nat) (ln : Nat → Nat) (f : Nat → Nat → Int) (hl : RowsOf w lv m ln f) :
    Calls Try.prog 31 #[v, lv] w fun e w' => e = .returned (.tuple #[.int .i64 (J.barAns m ln f), .int .i64 (J.barErr m ln f)]) ∧ w.grows w' := by
  have Hv := Lib.hid hv
  obtain ⟨row, hrow, hints⟩ := hl
  have Hrow := Lib.hid hrow
  have Hints := Lib.hid hints
  obtain ⟨la, lcap, rfl, hlc1, hlc2, -⟩ := hrow
  unfold maxLen at hlc2
  clear hints
  by_cases hc : J.check = 0
  · have hJ := Lib.hid ((Job.Ok_iff J).2 hc)
    have Hc := Lib.hid hc
    have h23 := fun W hW => rcheck_c W v J hW
    rw [hc] at h23
    obtain ⟨jb, jo, jcap, rb, ro, rc, rfl, hjc, hjc2, hR⟩ := Hv.out.job hJ.out
    have HR := Lib.hid hR
    have H23 := Lib.hid h23
    unfold maxLen at hjc2
    clear hc hR h23
    have hord : Hid (∀ k : Nat, k < m → ∃ b o, la = some ⟨b, o, none⟩ ∧ w.cell? ⟨b, o + k, none⟩ = some (row k)) := Lib.hid (by
      obtain ⟨_, _, he, _, _, hc⟩ := Hrow.out
      cases he
      intro k hk
      obtain ⟨b, o, h1, h2⟩ := hc k 0 hk (by omega)
      exact ⟨b, o, h1, by simpa using h2⟩)
    have hsz := J.size_le hJ.out
    have hsp := J.size_pos
    have hs9 : J.size ≤ 1000000000 := by omega
    go_enter Try.func31, Try.ntmps31
    by_cases hm : 4096 < m
    · have hE := Lib.hid (Job.barErr_many (ln := ln) (f := f) Hc.out hm)
      go_wp2_with (go_at_call 23; refine (H23.out _ (Hv.out.mono (by (repeat (first | exact World.grows.refl _ | assumption | refine World.grows.alloc ?_ _ | refine World.grows.plus ?_ _ _ | refine World.grows.drew ?_))))).mono ?_; rintro e w1 ⟨rfl, hg1⟩; obtain ⟨n1, x1, rfl⟩ := World.plus_of hg1)
      (refine bodyPost_ret (v := .tuple #[.int .i64 0, .int .i64 6]) (by simp [results, Try.results31, go_sem]) rfl ?_)
      exact ⟨by unfold Job.barAns; rw [hE.out]; rfl, by (repeat (first | exact World.grows.refl _ | assumption | refine World.grows.alloc ?_ _ | refine World.grows.plus ?_ _ _ | refine World.grows.drew ?_))⟩
    · go_wp2_with (first
        | (go_at_call 23; refine (H23.out _ (Hv.out.mono (by (repeat (first | exact World.grows.refl _ | assumption | refine World.grows.alloc ?_ _ | refine World.grows.plus ?_ _ _ | refine World.grows.drew ?_))))).mono ?_; rintro e w1 ⟨rfl, hg1⟩; obtain ⟨n1, x1, rfl⟩ := World.plus_of hg1)
        | (go_at_call 67; go_loud (refine (rall_c _ _ J ((Hv.out.mono (by (repeat (first | exact World.grows.refl _ | assumption | refine World.grows.alloc ?_ _ | refine World.grows.plus ?_ _ _ | refine World.grows.drew ?_)))).job hJ.out) hJ.out).mono ?_; rintro e w2 ⟨tv, rfl, hg2, hT⟩; have HT := Lib.hid hT; have hbx := hg2.cell_of (a := ⟨w.heap.size, 1, none⟩) (v := .slice (some ⟨jb, jo, none⟩) J.n jcap) (by simp [go_sem]); have hbs := hg2.cell_of (a := ⟨w.heap.size, 0, none⟩) (v := .int .i64 J.start) (by simp [go_sem]); have Hg2 := Lib.hid (show w.grows w2 from World.grows.trans (by (repeat (first | exact World.grows.refl _ | assumption | refine World.grows.alloc ?_ _ | refine World.grows.plus ?_ _ _ | refine World.grows.drew ?_))) hg2); clear hg2 hT; obtain ⟨trow, ⟨ta, tcap, rfl, htc1, htc2, htc⟩, hti⟩ := HT.out; unfold maxLen at htc2; have Htc := Lib.hid htc; have Hti := Lib.hid hti; clear htc hti)))
      have Hbx := Lib.hid hbx
      have Hbs := Lib.hid hbs
      go_loopw [8] (fun i wr => ∃ k : Nat, k ≤ m ∧ i = .int .i64 k ∧ Hid (∀ j, j < k → J.posErr (ln j) (f j) = 0) ∧ Hid (wr.heap[w2.heap.size]? = some (.cells (rowA J.size (J.barN ln f k)) 3)) ∧ Hid (w2.grows wr)) (fun i _ => m - (intOf i).toNat)
      case atStart => exact ⟨0, by omega, rfl, Lib.hid fun j hj => by omega, Lib.hid (by rw [rowA_congr (g := J.barN ln f 0) fun i _ => (J.barN_zero ln f i).symm]; exact heap_alloc_new w2 _), Lib.hid (by (repeat (first | exact World.grows.refl _ | assumption | refine World.grows.alloc ?_ _ | refine World.grows.plus ?_ _ _ | refine World.grows.drew ?_)))⟩
      case round =>
        obtain ⟨k, hk, rfl, hok, hrow2, hg⟩ := hrel
        have hbx := hg.out.cell_of Hbx.out
        have hbs := hg.out.cell_of Hbs.out
        by_cases hlt : k < m
        · obtain ⟨lb, lo, rfl, h0⟩ := hord.out k hlt
          have hik := Lib.hid (Hints.out k hlt)
          obtain ⟨ra, rcap, hrk, -⟩ := Hints.out k hlt
          rw [hrk] at h0 hik
          replace h0 := hg.out.cell_of (Hg2.out.cell_of h0)
          have h47 := fun W hW hp => isPos_c W (.agg #[.int .i64 J.start, .slice (some ⟨jb, jo, none⟩) J.n jcap]) J hJ.out hW (.slice ra (ln k) rcap) (ln k) (f k) hp
          have hwr := Lib.hid (Hg2.out.trans hg.out)
          by_cases he : J.posErr (ln k) (f k) = 0
          · rw [he] at h47
            have H47 := Lib.hid h47
            have hpin := Job.posIn he
            have hq := J.num_lt hpin
            have hbsucc := Lib.hid (fun t (ht : t < J.size) => Job.barN_succ hJ.out hpin ht)
            have hps : Hid (∀ W : World, w.grows W → IntsAt W (.slice ra (ln k) rcap) J.n (fun i => J.posP (ln k) (f k) i)) := Lib.hid fun W hW => by
              have h := hik.out.mono hW
              have h3 := (Job.posP_In he).2.2
              have hm2 := (Job.posErr_zero he).1
              generalize J.posP (ln k) (f k) = q at h3
              rw [hm2] at h ⊢
              exact SliceAt.congr h fun i _ hi _ => by show Value.int .i64 (f k i) = .int .i64 (q i : Nat); rw [h3 i hi]
            have H68 := Lib.hid (fun W hW hp => number_c W (.agg #[.int .i64 J.start, .slice (some ⟨jb, jo, none⟩) J.n jcap]) (.slice ra (ln k) rcap) J (J.posP (ln k) (f k)) hW hp hJ.out hpin.le)
            have He := Lib.hid he
            obtain ⟨q, hqd⟩ : ∃ q, J.num (J.posP (ln k) (f k)) = q := ⟨_, rfl⟩
            rw [hqd] at hq H68 hbsucc
            clear h47 he hpin hqd
            have hqi : (q : Int) < J.size := by omega
            have c1 := rowA_cell hrow2.out hq
            have c2 := rowA_frozen hrow2.out q
            go_wp2
            (refine wp_region_calm (by kernel_rfl) (by kernel_rfl) ?_; (repeat (refine wpCalm_step (fun K hK => ?_); go_simp; first | (refine hK _ ?_; clear hK K) | (apply Exists.intro; refine ⟨fun n' x' => ?_, hK _ ?_⟩; (exact H47.out _ ((Hv.out.mono (hwr.out.trans (by (repeat (first | exact World.grows.refl _ | assumption | refine World.grows.alloc ?_ _ | refine World.grows.plus ?_ _ _ | refine World.grows.drew ?_))))).job hJ.out) (hik.out.mono (hwr.out.trans (by (repeat (first | exact World.grows.refl _ | assumption | refine World.grows.alloc ?_ _ | refine World.grows.plus ?_ _ _ | refine World.grows.drew ?_)))))); clear hK K))); refine wpCalm_nil ?_; intro nq xq)
            go_wp2
            (refine wp_region_tail 8 (by kernel_rfl) (by kernel_rfl) (by decide) ?_; simp only [List.take_succ_cons, List.take_zero, List.drop_succ_cons, List.drop_zero, List.take_nil, List.drop_nil, List.append_nil, List.nil_append, List.cons_append, Nat.reduceAdd, Nat.reduceSub]; (repeat (refine wpCalm_step (fun K hK => ?_); go_simp; first | (refine hK _ ?_; clear hK K) | (apply Exists.intro; refine ⟨fun n' x' => ?_, hK _ ?_⟩; (exact H68.out _ ((Hv.out.mono (hwr.out.trans (by (repeat (first | exact World.grows.refl _ | assumption | refine World.grows.alloc ?_ _ | refine World.grows.plus ?_ _ _ | refine World.grows.drew ?_))))).job hJ.out) (hps.out _ (hwr.out.trans (by (repeat (first | exact World.grows.refl _ | assumption | refine World.grows.alloc ?_ _ | refine World.grows.plus ?_ _ _ | refine World.grows.drew ?_)))))); clear hK K))); refine wpCalm_nil ?_; intro nq xq)
            go_wp2
            go_roundw
            case rel =>
              refine ⟨k + 1, by omega, by go_num, Lib.hid fun j hj => (by rcases Nat.lt_or_ge j k with h | h; exact hok.out j h; have hjk : j = k := (by omega); subst hjk; exact He.out), Lib.hid ?_, Lib.hid ?_⟩
              · rw [rowA_congr fun i hi => hbsucc.out i hi]
                exact World.grows.heap_of (w := wr.setCell ⟨w2.heap.size, q, none⟩ (.int .i64 1)) (by (repeat (first | exact World.grows.refl _ | assumption | refine World.grows.alloc ?_ _ | refine World.grows.plus ?_ _ _ | refine World.grows.drew ?_))) (rowA_store hrow2.out hq 1)
              · exact ((hg.out.setCell (p := ⟨w2.heap.size, q, none⟩) (Nat.le_refl _) (.int .i64 1))).trans (by (repeat (first | exact World.grows.refl _ | assumption | refine World.grows.alloc ?_ _ | refine World.grows.plus ?_ _ _ | refine World.grows.drew ?_)))
            case measure => simp [intOf]; omega
          · have hE := Lib.hid (Job.barErr_pos (m := m) (ln := ln) (f := f) Hc.out (by omega) hlt he)
            have H47 := Lib.hid h47
            clear h47
            go_wp2
            (refine wp_region_calm (by kernel_rfl) (by kernel_rfl) ?_; (repeat (refine wpCalm_step (fun K hK => ?_); go_simp; first | (refine hK _ ?_; clear hK K) | (apply Exists.intro; refine ⟨fun n' x' => ?_, hK _ ?_⟩; (exact H47.out _ ((Hv.out.mono (hwr.out.trans (by (repeat (first | exact World.grows.refl _ | assumption | refine World.grows.alloc ?_ _ | refine World.grows.plus ?_ _ _ | refine World.grows.drew ?_))))).job hJ.out) (hik.out.mono (hwr.out.trans (by (repeat (first | exact World.grows.refl _ | assumption | refine World.grows.alloc ?_ _ | refine World.grows.plus ?_ _ _ | refine World.grows.drew ?_)))))); clear hK K))); refine wpCalm_nil ?_; intro nq xq)
            go_wp2
            (refine bodyPost_ret (v := .tuple #[.int .i64 0, .int .i64 3]) (by simp [results, Try.results31, go_sem]) rfl ?_)
            exact ⟨by unfold Job.barAns; rw [hE.out]; rfl, hwr.out.trans (by (repeat (first | exact World.grows.refl _ | assumption | refine World.grows.alloc ?_ _ | refine World.grows.plus ?_ _ _ | refine World.grows.drew ?_)))⟩
        · have hke : k = m := by omega
          subst hke
          have hwr := Lib.hid (Hg2.out.trans hg.out)
          have hsum := Lib.hid (Job.barErr_sum (m := k) (ln := ln) (f := f) Hc.out (by omega) hok.out)
          have c0 := rowA_cell hrow2.out (show 0 < J.size by omega)
          have c1 := rowA_cell hrow2.out (show J.size - 1 < J.size by omega)
          have hi1 : ((J.size - 1 : Nat) : Int) = (J.size : Int) - 1 := by omega
          have b0 : J.barN ln f k 0 = if J.bar k ln f (fun _ => 0) = true then 1 else 0 := by unfold Job.barN; rw [J.dig_zero]
          have b1 : J.barN ln f k (J.size - 1) = if J.bar k ln f J.last = true then 1 else 0 := by unfold Job.barN; rw [J.dig_last.1]
          rw [b0] at c0
          rw [b1] at c1
          have hz1 : (0 : Int) < J.size := by omega
          by_cases hb0 : J.bar k ln f (fun _ => 0) = true
          · by_cases hbl : J.bar k ln f J.last = true
            · have hE : Hid (J.barErr k ln f = 14) := Lib.hid (by rw [hsum.out, if_pos (.inr hbl)])
              simp only [hb0, hbl, if_true] at c0 c1
              go_wp2
              (refine bodyPost_ret (v := .tuple #[.int .i64 0, .int .i64 14]) (by simp [results, Try.results31, go_sem]) rfl ?_)
              exact ⟨by unfold Job.barAns; rw [hE.out]; rfl, hwr.out.trans (by (repeat (first | exact World.grows.refl _ | assumption | refine World.grows.alloc ?_ _ | refine World.grows.plus ?_ _ _ | refine World.grows.drew ?_)))⟩
            · have hE : Hid (J.barErr k ln f = 0) := Lib.hid (by rw [hsum.out, if_neg (by simp [hb0, hbl])])
              simp only [hb0, hbl, if_true, Bool.false_eq_true, if_false] at c0 c1
              go_wp2
              have hE2 := Lib.hid (show J.barAns k ln f = J.bdT (J.bar k ln f) J.size by unfold Job.barAns; rw [if_pos hE.out])
              have hg2r := hg.out
              have HG := Lib.hid hg2r
              clear hg2r c0 c1 b0 b1
              obtain ⟨W0, rfl⟩ : ∃ W0, W0 = wr := ⟨_, rfl⟩
              go_loopw [9, 10] (fun b i W => ∃ t : Nat, t ≤ J.size ∧ b = .int .i64 (J.bdT (J.bar k ln f) t) ∧ i = .int .i64 t ∧ Hid (W0.grows W)) (fun _ i _ => J.size - (intOf i).toNat)
              case atStart => exact ⟨0, by omega, rfl, rfl, Lib.hid (World.grows.refl _)⟩
              case round =>
                obtain ⟨t, ht, rfl, rfl, hgW⟩ := hrel
                have xbd := Job.bdT_bd hJ.out (J.bar k ln f) t
                by_cases hlt : t < J.size
                · go_wp2
                  go_loopw [9, 11] (fun b i W => ∃ r : Nat, r ≤ J.n ∧ b = .int .i64 (J.bdR (J.bar k ln f) (J.dig t) r (J.bdT (J.bar k ln f) t)) ∧ i = .int .i64 r ∧ Hid (W0.grows W)) (fun _ i _ => J.n - (intOf i).toNat)
                  case atStart => exact ⟨0, by omega, rfl, rfl, hgW⟩
                  case round =>
                    obtain ⟨r, hr, rfl, rfl, hgX⟩ := hrel
                    have hg2x := Lib.hid (HG.out.trans hgX.out)
                    have hgx := Lib.hid (Hg2.out.trans hg2x.out)
                    have xbx := hg2x.out.cell_of Hbx.out
                    have xbs := hg2x.out.cell_of Hbs.out
                    by_cases hrn : r < J.n
                    · obtain ⟨xb, xo, rfl, x0⟩ := Htc.out t 0 hlt (by omega)
                      simp only [Nat.mul_one, Nat.add_zero] at x0
                      obtain ⟨xa, xc, hxt, hxc1, hxc2, hxc⟩ := Hti.out t hlt
                      rw [hxt] at x0
                      have hxi := Lib.hid (Hti.out t hlt)
                      rw [hxt] at hxi
                      obtain ⟨yb, yo, rfl, y0⟩ := hxc r 0 hrn (by omega)
                      simp only [Nat.mul_one, Nat.add_zero] at y0
                      replace x0 := hg2x.out.cell_of x0
                      replace y0 := hg2x.out.cell_of y0
                      unfold maxLen at hxc2
                      have z0 := hgx.out.cell_of (HR.out.row r hrn)
                      have hrc := HR.out.cap r hrn
                      unfold maxLen at hrc
                      have hl6 := hJ.out.l6 r hrn
                      have hn4 := hJ.out.n4
                      have hle := (J.dig_in t).le r hrn
                      have i0 := hgX.out.cell_of (rowA_cell hrow2.out hlt)
                      have hbb := Job.bdR_bd hJ.out (J.bar k ln f) (J.dig_in t) xbd r hr
                      have hnx : J.bdR (J.bar k ln f) (J.dig t) (r + 1) (J.bdT (J.bar k ln f) t) = if J.dig t r < J.len r ∧ J.bar k ln f (J.dig t) = true ∧ J.bar k ln f (Job.to (J.dig t) r) = false then min (J.bdR (J.bar k ln f) (J.dig t) r (J.bdT (J.bar k ln f) t)) (J.hot (J.dig t) r) else J.bdR (J.bar k ln f) (J.dig t) r (J.bdT (J.bar k ln f) t) := rfl
                      obtain ⟨c, hcdef⟩ : ∃ c, J.bdR (J.bar k ln f) (J.dig t) r (J.bdT (J.bar k ln f) t) = c := ⟨_, rfl⟩
                      rw [hcdef] at hnx hbb ⊢
                      have Hnx := Lib.hid hnx
                      clear hnx hcdef hxc hxt
                      by_cases hS1 : J.bar k ln f (J.dig t) = true
                      · have e0 : J.barN ln f k t = 1 := by unfold Job.barN; rw [if_pos hS1]
                        rw [e0] at i0
                        by_cases hd : J.dig t r < J.len r
                        · have hdi : ¬ (J.dig t r : Int) = J.len r := by omega
                          have hpk := hgx.out.cell_of (HR.out.pk r (J.dig t r) hrn hd)
                          have hto := Job.in_to (J.dig_in t) hrn hd
                          have hnum := J.num_lt hto
                          have hnumi : (J.num (Job.to (J.dig t) r) : Int) < J.size := by omega
                          have Hto := Lib.hid hto
                          clear hto
                          have hdl : (J.dig t r : Int) < J.len r := by omega
                          have e2 : J.barN ln f k (J.num (Job.to (J.dig t) r)) = if J.bar k ln f (Job.to (J.dig t) r) = true then 1 else 0 := by unfold Job.barN; rw [J.dig_num Hto.out]
                          by_cases hS2 : J.bar k ln f (Job.to (J.dig t) r) = true
                          · rw [if_pos hS2] at e2
                            have E2 := Lib.hid e2
                            have hn2 := Hnx.out
                            rw [if_neg (by simp [hS2])] at hn2
                            have Hn2 := Lib.hid hn2
                            clear e2 hn2 hS2
                            go_wp2
                            (refine wp_region_calm (by kernel_rfl) (by kernel_rfl) ?_; (repeat (refine wpCalm_step (fun K hK => ?_); go_simp; first | (refine hK _ ?_; clear hK K) | (apply Exists.intro; refine ⟨fun n' x' => ?_, hK _ ?_⟩; (fail); clear hK K))); refine wpCalm_nil ?_; intro nq xq)
                            go_wp2_with (first
                              | (go_at_call 68; go_loud (refine (number_c _ _ _ J (Job.to (J.dig t) r) ((Hv.out.mono (hgx.out.trans Hg5.out)).job hJ.out) Hi68.out hJ.out Hto.out.le).mono ?_; rintro e w6 ⟨rfl, hg6⟩; obtain ⟨n6, x6, rfl⟩ := World.plus_of hg6))
                              | (at_builtin; go_loud (refine wpList_append_g _ rfl _ _ _ (by rfl) wr.heap.size 3 (.int .i64 0) 1 8 Try.underlying25 el3 (by rfl) (by omega) _ 0 [] (by rfl) (empty_own _ _ _ (by simp) (by simp)) _ (by rfl) J.n _ (SliceAt.src (by omega) (hxi.out.mono (hg2x.out.trans (by (repeat (first | exact World.grows.refl _ | assumption | refine World.grows.alloc ?_ _ | refine World.grows.plus ?_ _ _ | refine World.grows.drew ?_)))))) (ints_one _ _) (by unfold maxLen; omega) (by omega) (by simp <;> omega) ?_; intro v1 w4 hown hgr; have hg4 := hgr wr (by (repeat (first | exact World.grows.refl _ | assumption | refine World.grows.alloc ?_ _ | refine World.grows.plus ?_ _ _ | refine World.grows.drew ?_))) (Nat.le_refl _); simp only [Nat.zero_add, List.nil_append] at hown; obtain ⟨gg, cc, rfl, hgb⟩ := hown.form (by omega); have d1 := hown.cellAt r (by omega); rw [tableL_map] at d1; simp only [List.getElem?_map, List.getElem?_range hrn, Option.map_some] at d1; have d2 := hown.frozenAt r; have Hst := Lib.hid ((hown.stored r (.int .i64 ((J.dig t r : Int) + 1))).1); have hrni : (r : Int) < J.n := (by omega); have Hg4 := Lib.hid hg4; have Hg5 := Lib.hid (hg4.setCell (p := ⟨gg, r, none⟩) hgb.1 (.int .i64 ((J.dig t r : Int) + 1))); have Hi68 := Lib.hid (show IntsAt (w4.setCell ⟨gg, r, none⟩ (.int .i64 ((J.dig t r : Int) + 1))) (.slice (some ⟨gg, 0, none⟩) J.n cc) J.n (fun i => (Job.to (J.dig t) r i : Nat)) from own_to hown hrn); have s0 := Hg5.out.cell_of xbs; have s1 := Hg5.out.cell_of xbx; have s2 := Hg5.out.cell_of z0; have s3 := Hg5.out.cell_of y0; have s4 := Hg5.out.cell_of hpk; have s5 := Hg5.out.cell_of (hgX.out.cell_of (rowA_cell hrow2.out hnum)); rw [E2.out] at s5; clear hown hgr hg4)))
                            go_roundw
                            case rel => exact ⟨r + 1, by omega, by rw [Hn2.out], by go_num, Lib.hid (hgX.out.trans (Hg5.out.trans (by (repeat (first | exact World.grows.refl _ | assumption | refine World.grows.alloc ?_ _ | refine World.grows.plus ?_ _ _ | refine World.grows.drew ?_)))))⟩
                            case measure => change J.n - (intOf (Value.int IntKind.i64 ((r : Int) + 1))).toNat < J.n - (intOf (Value.int IntKind.i64 (r : Int))).toNat; simp [intOf]; omega
                          · rw [if_neg hS2] at e2
                            have E2 := Lib.hid e2
                            have hn2 := Hnx.out
                            rw [if_pos ⟨hd, hS1, by simpa using hS2⟩] at hn2
                            have Hn2 := Lib.hid hn2
                            have hhb := Job.hot_bd hJ.out (J.dig_in t) hrn hd
                            have hhot : J.hot (J.dig t) r = J.heat (J.dig t) + J.pk r (J.dig t r) := rfl
                            have Hhot := Lib.hid hhot
                            have hhe := hJ.out.heat_bd (J.dig_in t).le
                            have hpb := hJ.out.pk r (J.dig t r) hrn hd
                            clear e2 hn2 hS2 hhot
                            go_wp2
                            (refine wp_region_calm (by kernel_rfl) (by kernel_rfl) ?_; (repeat (refine wpCalm_step (fun K hK => ?_); go_simp; first | (refine hK _ ?_; clear hK K) | (apply Exists.intro; refine ⟨fun n' x' => ?_, hK _ ?_⟩; (fail); clear hK K))); refine wpCalm_nil ?_; intro nq xq)
                            go_wp2_with (first
                              | (go_at_call 68; go_loud (refine (number_c _ _ _ J (Job.to (J.dig t) r) ((Hv.out.mono (hgx.out.trans Hg5.out)).job hJ.out) Hi68.out hJ.out Hto.out.le).mono ?_; rintro e w6 ⟨rfl, hg6⟩; obtain ⟨n6, x6, rfl⟩ := World.plus_of hg6))
                              | (at_builtin; go_loud (refine wpList_append_g _ rfl _ _ _ (by rfl) wr.heap.size 3 (.int .i64 0) 1 8 Try.underlying25 el3 (by rfl) (by omega) _ 0 [] (by rfl) (empty_own _ _ _ (by simp) (by simp)) _ (by rfl) J.n _ (SliceAt.src (by omega) (hxi.out.mono (hg2x.out.trans (by (repeat (first | exact World.grows.refl _ | assumption | refine World.grows.alloc ?_ _ | refine World.grows.plus ?_ _ _ | refine World.grows.drew ?_)))))) (ints_one _ _) (by unfold maxLen; omega) (by omega) (by simp <;> omega) ?_; intro v1 w4 hown hgr; have hg4 := hgr wr (by (repeat (first | exact World.grows.refl _ | assumption | refine World.grows.alloc ?_ _ | refine World.grows.plus ?_ _ _ | refine World.grows.drew ?_))) (Nat.le_refl _); simp only [Nat.zero_add, List.nil_append] at hown; obtain ⟨gg, cc, rfl, hgb⟩ := hown.form (by omega); have d1 := hown.cellAt r (by omega); rw [tableL_map] at d1; simp only [List.getElem?_map, List.getElem?_range hrn, Option.map_some] at d1; have d2 := hown.frozenAt r; have Hst := Lib.hid ((hown.stored r (.int .i64 ((J.dig t r : Int) + 1))).1); have hrni : (r : Int) < J.n := (by omega); have Hg4 := Lib.hid hg4; have Hg5 := Lib.hid (hg4.setCell (p := ⟨gg, r, none⟩) hgb.1 (.int .i64 ((J.dig t r : Int) + 1))); have Hi68 := Lib.hid (show IntsAt (w4.setCell ⟨gg, r, none⟩ (.int .i64 ((J.dig t r : Int) + 1))) (.slice (some ⟨gg, 0, none⟩) J.n cc) J.n (fun i => (Job.to (J.dig t) r i : Nat)) from own_to hown hrn); have s0 := Hg5.out.cell_of xbs; have s1 := Hg5.out.cell_of xbx; have s2 := Hg5.out.cell_of z0; have s3 := Hg5.out.cell_of y0; have s4 := Hg5.out.cell_of hpk; have s5 := Hg5.out.cell_of (hgX.out.cell_of (rowA_cell hrow2.out hnum)); rw [E2.out] at s5; clear hown hgr hg4)))
                            (refine wp_region_calm (by kernel_rfl) (by kernel_rfl) ?_; (repeat (refine wpCalm_step (fun K hK => ?_); go_simp; first | (refine hK _ ?_; clear hK K) | (apply Exists.intro; refine ⟨fun n' x' => ?_, hK _ ?_⟩; (exact rheat_c _ _ _ J (J.dig t) ((Hv.out.mono (hgx.out.trans (Hg5.out.trans (by (repeat (first | exact World.grows.refl _ | assumption | refine World.grows.alloc ?_ _ | refine World.grows.plus ?_ _ _ | refine World.grows.drew ?_)))))).job hJ.out) (hxi.out.mono (hg2x.out.trans (Hg5.out.trans (by (repeat (first | exact World.grows.refl _ | assumption | refine World.grows.alloc ?_ _ | refine World.grows.plus ?_ _ _ | refine World.grows.drew ?_)))))) hJ.out (J.dig_in t).le); clear hK K))); refine wpCalm_nil ?_; intro nq xq)
                            go_wp2
                            have hwrap : IntKind.i64.wrap (J.heat (J.dig t) + J.pk r (J.dig t r)) = J.heat (J.dig t) + J.pk r (J.dig t r) := by exact wrapI (by omega)
                            go_roundw
                            case rel => exact ⟨r + 1, by omega, by rw [Hn2.out, Hhot.out]; rw [hwrap]; congr 1; split <;> omega, by go_num, Lib.hid (hgX.out.trans (Hg5.out.trans (by (repeat (first | exact World.grows.refl _ | assumption | refine World.grows.alloc ?_ _ | refine World.grows.plus ?_ _ _ | refine World.grows.drew ?_)))))⟩
                            case measure => change J.n - (intOf (Value.int IntKind.i64 ((r : Int) + 1))).toNat < J.n - (intOf (Value.int IntKind.i64 (r : Int))).toNat; simp [intOf]; omega
                        · have hdi : (J.dig t r : Int) = J.len r := by omega
                          have hde : J.dig t r = J.len r := by omega
                          have hn2 := Hnx.out
                          rw [if_neg (by simp [hd])] at hn2
                          have Hn2 := Lib.hid hn2
                          clear hn2 hd
                          go_wp2
                          (refine wp_region_calm (by kernel_rfl) (by kernel_rfl) ?_; (repeat (refine wpCalm_step (fun K hK => ?_); go_simp; first | (refine hK _ ?_; clear hK K) | (apply Exists.intro; refine ⟨fun n' x' => ?_, hK _ ?_⟩; (fail); clear hK K))); refine wpCalm_nil ?_; intro nq xq)
                          go_wp2
                          go_roundw
                          case rel => exact ⟨r + 1, by omega, by rw [Hn2.out], by go_num, Lib.hid (hgX.out.trans (by (repeat (first | exact World.grows.refl _ | assumption | refine World.grows.alloc ?_ _ | refine World.grows.plus ?_ _ _ | refine World.grows.drew ?_))))⟩
                          case measure => change J.n - (intOf (Value.int IntKind.i64 ((r : Int) + 1))).toNat < J.n - (intOf (Value.int IntKind.i64 (r : Int))).toNat; simp [intOf]; omega
                      · have e0 : J.barN ln f k t = 0 := by unfold Job.barN; rw [if_neg hS1]
                        rw [e0] at i0
                        have hn2 := Hnx.out
                        rw [if_neg (by simp [hS1])] at hn2
                        have Hn2 := Lib.hid hn2
                        clear hn2
                        go_wp2
                        (refine wp_region_calm (by kernel_rfl) (by kernel_rfl) ?_; (repeat (refine wpCalm_step (fun K hK => ?_); go_simp; first | (refine hK _ ?_; clear hK K) | (apply Exists.intro; refine ⟨fun n' x' => ?_, hK _ ?_⟩; (fail); clear hK K))); refine wpCalm_nil ?_; intro nq xq)
                        go_wp2
                        go_roundw
                        case rel => exact ⟨r + 1, by omega, by rw [Hn2.out], by go_num, Lib.hid (hgX.out.trans (by (repeat (first | exact World.grows.refl _ | assumption | refine World.grows.alloc ?_ _ | refine World.grows.plus ?_ _ _ | refine World.grows.drew ?_))))⟩
                        case measure => change J.n - (intOf (Value.int IntKind.i64 ((r : Int) + 1))).toNat < J.n - (intOf (Value.int IntKind.i64 (r : Int))).toNat; simp [intOf]; omega
                    · have hre : r = J.n := by omega
                      subst hre
                      go_wp2
                      go_roundw
                      case rel => exact ⟨t + 1, by omega, rfl, by go_num, hgX⟩
                      case measure => change J.size - (intOf (Value.int IntKind.i64 ((t : Int) + 1))).toNat < J.size - (intOf (Value.int IntKind.i64 (t : Int))).toNat; simp [intOf]; omega
                · have hte : t = J.size := by omega
                  subst hte
                  go_wp2
                  (refine bodyPost_ret (v := .tuple #[.int .i64 (J.bdT (J.bar k ln f) J.size), .int .i64 0]) (by simp [results, Try.results31, go_sem]) rfl ?_)
                  exact ⟨by rw [hE2.out, hE.out], hwr.out.trans hgW.out⟩
          · have hE : Hid (J.barErr k ln f = 14) := Lib.hid (by rw [hsum.out, if_pos (.inl (by simpa using hb0))])
            simp only [hb0, if_false] at c0
            go_wp2
            (refine bodyPost_ret (v := .tuple #[.int .i64 0, .int .i64 14]) (by simp [results, Try.results31, go_sem]) rfl ?_)
            exact ⟨by unfold Job.barAns; rw [hE.out]; rfl, hwr.out.trans (by (repeat (first | exact World.grows.refl _ | assumption | refine World.grows.alloc ?_ _ | refine World.grows.plus ?_ _ _ | refine World.grows.drew ?_)))⟩
  · obtain ⟨rv, row0, rfl, -, -⟩ := id Hv.out
    have hE := Lib.hid (Job.barErr_check (m := m) (ln := ln) (f := f) hc)
    go_enter Try.func31, Try.ntmps31
    go_wp2_with (go_at_call 23; refine (rcheck_c _ _ J (Hv.out.mono (by (repeat (first | exact World.grows.refl _ | assumption | refine World.grows.alloc ?_ _ | refine World.grows.plus ?_ _ _ | refine World.grows.drew ?_))))).mono ?_; rintro e w' ⟨rfl, hg⟩; obtain ⟨n2, x2, rfl⟩ := World.plus_of hg)
    (refine bodyPost_ret (v := .tuple #[.int .i64 0, .int .i64 J.check]) (by simp [results, Try.results31, go_sem]) rfl ?_)
    exact ⟨by unfold Job.barAns; rw [hE.out, if_neg hc], by (repeat (first | exact World.grows.refl _ | assumption | refine World.grows.alloc ?_ _ | refine World.grows.plus ?_ _ _ | refine World.grows.drew ?_))⟩

end Go.Proofs.Ytjpccfpmhmddjaa

/-
  What is proved: what the functions answer at the job of the examples.
-/
namespace Go.Proofs.Ytjpccfpmhmddjaa
open Go.RowKit

def lst (l : List Int) (i : Nat) : Int := l.getD i 0
theorem ex_ways50 : exJ.waysN 50 exJ.last = 1 := by decide +kernel
theorem ex_ways49 : exJ.waysN 49 exJ.last = 0 := by decide +kernel
theorem ex_best : exJ.Best 50 := ⟨by rw [ex_ways50]; decide, fun l hl => by
  have h := Job.waysN_mono (J := exJ) (l := l) (l' := 49) (by omega) _ exJ.last rfl
  rw [ex_ways49] at h
  omega⟩
theorem ex_okL : exJ.okL 49 exJ.size = [0] := by decide +kernel

theorem exHeat (w : World) (v : Value) (hv : RawAt w v exJ) (pv : Value) (hp : IntsAt w pv 2 (lst [1, 1])) :
    Calls Try.prog 16 #[v, pv] w fun e w' => e = .returned (.tuple #[.int .i64 45, .int .i64 0]) ∧ w.grows w' := by
  have e1 : exJ.heatAns 2 (lst [1, 1]) = 45 := by decide +kernel
  have e2 : exJ.heatErr 2 (lst [1, 1]) = 0 := by decide +kernel
  have := Heat_c w v exJ hv pv 2 _ hp
  rwa [e1, e2] at this
theorem exOrdA (w : World) (v : Value) (hv : RawAt w v exJ) (pv : Value) (hp : IntsAt w pv 4 (lst [0, 1, 0, 1])) :
    Calls Try.prog 18 #[v, pv] w fun e w' => e = .returned (.tuple #[.int .i64 70, .int .i64 0]) ∧ w.grows w' := by
  have e1 : exJ.ordAns 4 (lst [0, 1, 0, 1]) = 70 := by decide +kernel
  have e2 : exJ.followErr 4 (lst [0, 1, 0, 1]) = 0 := by decide +kernel
  have := checkOrd_c w v exJ hv pv 4 _ hp
  rwa [e1, e2] at this
theorem exOrdB (w : World) (v : Value) (hv : RawAt w v exJ) (pv : Value) (hp : IntsAt w pv 3 (lst [0, 0, 1])) :
    Calls Try.prog 18 #[v, pv] w fun e w' => e = .returned (.tuple #[.int .i64 0, .int .i64 16]) ∧ w.grows w' := by
  have e1 : exJ.ordAns 3 (lst [0, 0, 1]) = 0 := by decide +kernel
  have e2 : exJ.followErr 3 (lst [0, 0, 1]) = 16 := by decide +kernel
  have := checkOrd_c w v exJ hv pv 3 _ hp
  rwa [e1, e2] at this
theorem exBlue (w : World) (v : Value) (hv : RawAt w v exJ) (pv : Value) (hp : IntsAt w pv 4 (lst [1, 0, 0, 1])) :
    Calls Try.prog 20 #[v, pv, .int .i64 64] w fun e w' => e = .returned (.tuple #[.int .i64 1, .int .i64 0]) ∧ w.grows w' := by
  have e1 : exJ.blueAns 4 (lst [1, 0, 0, 1]) 64 = 1 := by decide +kernel
  have e2 : exJ.blueErr 4 (lst [1, 0, 0, 1]) 64 = 0 := by decide +kernel
  have := blue_c w v exJ hv pv 4 _ hp 64
  rwa [e1, e2] at this
theorem exBest (w : World) (v : Value) (hv : RawAt w v exJ) :
    Calls Try.prog 25 #[v] w fun e w' => ∃ (sv : Value) (l : List Nat), e = .returned (.tuple #[sv, .int .i64 50, .int .i64 0]) ∧ w.grows w' ∧ Suf exJ 50 (fun _ => 0) l ∧ IntsAt w' sv l.length (fun i => (l.getD i 0 : Nat)) := by
  refine (best_c w v exJ hv).mono ?_
  rintro e w' ⟨sv, hot, rfl, hg, -, h⟩
  obtain ⟨hb, l, hs, hi⟩ := h exJ_check
  cases hb.unique ex_best
  exact ⟨sv, l, by rw [exJ_check], hg, hs, hi⟩
theorem exBar (w : World) (v : Value) (hv : RawAt w v exJ) :
    Calls Try.prog 32 #[v] w fun e w' => ∃ (sv : Value), e = .returned (.tuple #[sv, .int .i64 0]) ∧ w.grows w' ∧ RowsOf w' sv 1 (fun _ => 2) (fun _ _ => 0) := by
  refine (barrier_c w v exJ hv).mono ?_
  rintro e w' ⟨sv, rfl, hg, -, h⟩
  obtain ⟨hot, hb, ht⟩ := h exJ_check
  cases hb.unique ex_best
  refine ⟨sv, by rw [exJ_check], hg, ?_⟩
  rw [show (50 : Int) - 1 = 49 from rfl, ex_okL] at ht
  obtain ⟨row, h1, h2⟩ := ht
  refine ⟨row, h1, fun t ht => ?_⟩
  have := h2 t ht
  have h0 : t = 0 := by omega
  subst h0
  have e : (fun i => ((exJ.dig ([0].getD 0 0) i : Nat) : Int)) = fun _ => 0 := by
    funext i
    show ((exJ.dig 0 i : Nat) : Int) = 0
    rw [exJ.dig_zero]; rfl
  rw [e] at this
  exact this
theorem exChk2 (w : World) (v : Value) (hv : RawAt w v exJ) (lv : Value) (hp : RowsOf w lv 2 (fun _ => 2) (fun i => if i = 0 then lst [0, 0] else lst [1, 0])) :
    Calls Try.prog 30 #[v, lv] w fun e w' => e = .returned (.tuple #[.int .i64 35, .int .i64 0]) ∧ w.grows w' := by
  have e1 : exJ.barAns 2 (fun _ => 2) (fun i => if i = 0 then lst [0, 0] else lst [1, 0]) = 35 := by decide +kernel
  have e2 : exJ.barErr 2 (fun _ => 2) (fun i => if i = 0 then lst [0, 0] else lst [1, 0]) = 0 := by decide +kernel
  have := chkBar_c w v exJ hv lv 2 _ _ hp
  rwa [e1, e2] at this
theorem exChk1 (w : World) (v : Value) (hv : RawAt w v exJ) (lv : Value) (hp : RowsOf w lv 1 (fun _ => 2) (fun _ => lst [1, 0])) :
    Calls Try.prog 30 #[v, lv] w fun e w' => e = .returned (.tuple #[.int .i64 0, .int .i64 14]) ∧ w.grows w' := by
  have e1 : exJ.barAns 1 (fun _ => 2) (fun _ => lst [1, 0]) = 0 := by decide +kernel
  have e2 : exJ.barErr 1 (fun _ => 2) (fun _ => lst [1, 0]) = 14 := by decide +kernel
  have := chkBar_c w v exJ hv lv 1 _ _ hp
  rwa [e1, e2] at this
theorem exRBar (w : World) (v : Value) (hv : RawAt w v exJ) (lv : Value) (hp : RowsOf w lv 1 (fun _ => 2) (fun _ _ => 0)) :
    Calls Try.prog 31 #[v, lv] w fun e w' => e = .returned (.tuple #[.int .i64 50, .int .i64 0]) ∧ w.grows w' := by
  have e1 : exJ.barAns 1 (fun _ => 2) (fun _ _ => 0) = 50 := by decide +kernel
  have e2 : exJ.barErr 1 (fun _ => 2) (fun _ _ => 0) = 0 := by decide +kernel
  have := rchkBar_c w v exJ hv lv 1 _ _ hp
  rwa [e1, e2] at this
theorem exCount (w : World) (v : Value) (hv : RawAt w v exJ) :
    Calls Try.prog 26 #[v, .int .i64 65] w fun e w' => e = .returned (.tuple #[.int .i64 4, .int .i64 0]) ∧ w.grows w' := by
  have e1 : exJ.countAns 65 = 4 := by decide +kernel
  have := count_c w v exJ hv 65
  rwa [e1, exJ_check] at this
theorem exMust50 (w : World) (v : Value) (hv : RawAt w v exJ) :
    Calls Try.prog 34 #[v, .int .i64 50, .agg #[.int .i64 0, .int .i64 1], .agg #[.int .i64 1, .int .i64 0]] w fun e w' => e = .returned (.tuple #[.bool true, .int .i64 0]) ∧ w.grows w' := by
  have e1 : exJ.mustAns 50 0 1 1 0 = true := by decide +kernel
  have e2 : exJ.seenErr 50 2 (two 0 1) (two 1 0) = 0 := by decide +kernel
  have := must_c w v exJ hv 50 0 1 1 0
  rwa [e1, e2] at this
theorem exMust49 (w : World) (v : Value) (hv : RawAt w v exJ) :
    Calls Try.prog 34 #[v, .int .i64 49, .agg #[.int .i64 0, .int .i64 1], .agg #[.int .i64 1, .int .i64 0]] w fun e w' => e = .returned (.tuple #[.bool false, .int .i64 20]) ∧ w.grows w' := by
  have e1 : exJ.mustAns 49 0 1 1 0 = false := by decide +kernel
  have e2 : exJ.seenErr 49 2 (two 0 1) (two 1 0) = 20 := by decide +kernel
  have := must_c w v exJ hv 49 0 1 1 0
  rwa [e1, e2] at this
theorem exBef (w : World) (v : Value) (hv : RawAt w v exJ) :
    Calls Try.prog 36 #[v, .int .i64 60, .agg #[.int .i64 1, .int .i64 0]] w fun e w' => e = .returned (.tuple #[.agg #[.int .i64 10, .int .i64 20], .int .i64 0]) ∧ w.grows w' := by
  have e1 : exJ.seenErr 60 1 (fun _ => 1) (fun _ => 0) = 0 := by decide +kernel
  have e2 : exJ.befLo (exJ.befL 60 1 0) (exJ.befL 60 1 0).length = 10 := by decide +kernel
  have e3 : exJ.befHi (exJ.befL 60 1 0) (exJ.befL 60 1 0).length = 20 := by decide +kernel
  refine (bef_c w v exJ hv 60 1 0).mono ?_
  rintro e w' ⟨lo, hi, rfl, hg, -, h⟩
  obtain ⟨h1, h2⟩ := h e1
  rw [e2] at h1
  rw [e3] at h2
  subst h1; subst h2
  exact ⟨by rw [e1], hg⟩
theorem exROrd (w : World) (v : Value) (hv : RawAt w v exJ) (l : List Nat) (hs : Suf exJ 50 (fun _ => 0) l) (pv : Value) (hp : IntsAt w pv l.length (fun i => (l.getD i 0 : Nat))) :
    Calls Try.prog 19 #[v, pv] w fun e w' => e = .returned (.tuple #[.int .i64 50, .int .i64 0]) ∧ w.grows w' := by
  have hn : natOf (fun i => ((l.getD i 0 : Nat) : Int)) = fun i => l.getD i 0 := rfl
  have ho := hs.order
  have e2 : exJ.followErr l.length (fun i => (l.getD i 0 : Nat)) = 0 := by
    rw [Job.follow_ok exJ_check]
    unfold Job.ordErr
    rw [if_neg, if_neg]
    · intro hx
      obtain ⟨r, hr, h⟩ := List.any_eq_true.1 hx
      have h2 := ho.1.all r (List.mem_range.1 hr)
      rw [hn] at h
      simp only [decide_eq_true_eq] at h
      exact h h2
    · intro hx
      obtain ⟨i, hi, h⟩ := List.any_eq_true.1 hx
      have h2 := ho.1.lt i (List.mem_range.1 hi)
      simp only [Bool.or_eq_true, decide_eq_true_eq] at h h2
      omega
  have e1 : exJ.ordAns l.length (fun i => (l.getD i 0 : Nat)) = 50 := by
    rw [Job.ordAns_ok e2, hn]
    exact ex_best.max_eq exJ_ok ho.1 (ho.1.m_bd exJ_ok).1 ho.2
  have := rcheckOrd_c w v exJ hv pv _ _ hp
  rwa [e1, e2] at this

/-! slices of numbers that are written down -/
theorem lit2 (w : World) (a b : Int) (t blk : Nat) (hb : blk = w.heap.size) : IntsAt (w.alloc (.cells #[.int .i64 a, .int .i64 b] t)) (.slice (some ⟨blk, 0, none⟩) 2 2) 2 (lst [a, b]) := by
  subst hb
  refine ⟨_, _, rfl, by omega, by unfold maxLen; omega, fun i j hi hj => ⟨_, _, rfl, ?_⟩⟩
  rcases (by omega : j = 0)
  rcases (by omega : i = 0 ∨ i = 1) with rfl | rfl <;> simp [go_sem, lst]
theorem lit3 (w : World) (a b c : Int) (t blk : Nat) (hb : blk = w.heap.size) : IntsAt (w.alloc (.cells #[.int .i64 a, .int .i64 b, .int .i64 c] t)) (.slice (some ⟨blk, 0, none⟩) 3 3) 3 (lst [a, b, c]) := by
  subst hb
  refine ⟨_, _, rfl, by omega, by unfold maxLen; omega, fun i j hi hj => ⟨_, _, rfl, ?_⟩⟩
  rcases (by omega : j = 0)
  rcases (by omega : i = 0 ∨ i = 1 ∨ i = 2) with rfl | rfl | rfl <;> simp [go_sem, lst]
theorem lit4 (w : World) (a b c d : Int) (t blk : Nat) (hb : blk = w.heap.size) : IntsAt (w.alloc (.cells #[.int .i64 a, .int .i64 b, .int .i64 c, .int .i64 d] t)) (.slice (some ⟨blk, 0, none⟩) 4 4) 4 (lst [a, b, c, d]) := by
  subst hb
  refine ⟨_, _, rfl, by omega, by unfold maxLen; omega, fun i j hi hj => ⟨_, _, rfl, ?_⟩⟩
  rcases (by omega : j = 0)
  rcases (by omega : i = 0 ∨ i = 1 ∨ i = 2 ∨ i = 3) with rfl | rfl | rfl | rfl <;> simp [go_sem, lst]
theorem rows1 (w : World) (a b : Int) (t t2 blk b0 : Nat) (h0 : b0 = w.heap.size) (hb : blk = w.heap.size + 1) :
    RowsOf ((w.alloc (.cells #[.int .i64 a, .int .i64 b] t)).alloc (.cells #[.slice (some ⟨b0, 0, none⟩) 2 2] t2)) (.slice (some ⟨blk, 0, none⟩) 1 1) 1 (fun _ => 2) (fun _ => lst [a, b]) := by
  subst h0; subst hb
  refine ⟨fun _ => .slice (some ⟨w.heap.size, 0, none⟩) 2 2, ⟨_, _, rfl, by omega, by unfold maxLen; omega, fun i j hi hj => ⟨_, _, rfl, ?_⟩⟩, fun i hi => (lit2 w a b t _ rfl).mono (by (repeat (first | exact World.grows.refl _ | assumption | refine World.grows.alloc ?_ _ | refine World.grows.plus ?_ _ _ | refine World.grows.drew ?_)))⟩
  rcases (by omega : j = 0)
  rcases (by omega : i = 0)
  simp [go_sem]
theorem rows2 (w : World) (a b c d : Int) (t t2 blk b0 b1 : Nat) (h0 : b0 = w.heap.size) (h1 : b1 = w.heap.size + 1) (hb : blk = w.heap.size + 1 + 1) :
    RowsOf (((w.alloc (.cells #[.int .i64 a, .int .i64 b] t)).alloc (.cells #[.int .i64 c, .int .i64 d] t)).alloc (.cells #[.slice (some ⟨b0, 0, none⟩) 2 2, .slice (some ⟨b1, 0, none⟩) 2 2] t2)) (.slice (some ⟨blk, 0, none⟩) 2 2) 2 (fun _ => 2) (fun i => if i = 0 then lst [a, b] else lst [c, d]) := by
  subst h0; subst h1; subst hb
  refine ⟨fun i => if i = 0 then .slice (some ⟨w.heap.size, 0, none⟩) 2 2 else .slice (some ⟨w.heap.size + 1, 0, none⟩) 2 2, ⟨_, _, rfl, by omega, by unfold maxLen; omega, fun i j hi hj => ⟨_, _, rfl, ?_⟩⟩, fun i hi => ?_⟩
  · rcases (by omega : j = 0)
    rcases (by omega : i = 0 ∨ i = 1) with rfl | rfl <;> simp [go_sem]
  · rcases (by omega : i = 0 ∨ i = 1) with rfl | rfl
    · exact (lit2 w a b t _ rfl).mono (by (repeat (first | exact World.grows.refl _ | assumption | refine World.grows.alloc ?_ _ | refine World.grows.plus ?_ _ _ | refine World.grows.drew ?_)))
    · exact (lit2 (w.alloc (.cells #[.int .i64 a, .int .i64 b] t)) c d t _ (by simp)).mono (by (repeat (first | exact World.grows.refl _ | assumption | refine World.grows.alloc ?_ _ | refine World.grows.plus ?_ _ _ | refine World.grows.drew ?_)))

end Go.Proofs.Ytjpccfpmhmddjaa

/-
  What is proved: the law of a region that draws its order: reads and calls beside a chain of operations that make memory, and behind it operations that only read, in any order.
-/
namespace Go
open Go.RowKit
variable {P : Program} {ops : Array Oper}

/-- each operation behind n waits for one from n on -/
def Region.restB (ops : Array Oper) (n : Nat) : Bool := (List.range ops.size).all fun t => decide (t ≤ n) || (List.range t).any fun e => decide (n ≤ e) && Region.waitsFor .any ops t e

theorem rest_waits {n : Nat} {listed : Array Bool} (hs : Region.sinkB .any ops n = true) (hc : Region.restB ops n = true) (hn : n < ops.size) (inv : HeadInv .any ops n listed) :
    ∀ (d i : Nat), n - i = d → i < n → listed.getD i true = false → ∀ t, n ≤ t → t ∉ Region.ready .any ops listed := by
  intro d
  induction d using Nat.strongRecOn with
  | _ d ih =>
    intro i hd hi hun t ht hr
    obtain ⟨_, ot, hot, hall⟩ := mem_ready.1 hr
    have htlt : t < ops.size := (Array.getElem?_eq_some_iff.1 hot).1
    by_cases htn : t = n
    · subst htn
      have h1 := List.all_eq_true.1 hs i (List.mem_range.2 hi)
      obtain ⟨j, hj, hj2⟩ := List.any_eq_true.1 h1
      simp only [Bool.and_eq_true, decide_eq_true_eq] at hj2
      obtain ⟨oj, hoj, e, he, hb, hon⟩ := Region.waitsFor_spec hj2.2
      have hjle : j ≤ t := by have := List.mem_range.1 hj; omega
      by_cases hjt : j = t
      · subst hjt
        have : oj = ot := Option.some.inj (hoj.symm.trans hot)
        subst this
        have h2 := hall e he hb
        rw [hon, getD_both hun] at h2
        cases h2
      · cases hl : listed.getD j false with
        | true =>
          have h2 := inv.closed j oj hoj hl e he hb
          rw [hon, getD_both hun] at h2
          cases h2
        | false =>
          have hjs : j < listed.size := by rw [inv.size]; omega
          exact ih (t - j) (by omega) j rfl (by omega) (getD_in hjs hl) t (Nat.le_refl _) hr
    · have h1 := List.all_eq_true.1 hc t (List.mem_range.2 htlt)
      simp only [Bool.or_eq_true, decide_eq_true_eq] at h1
      rcases h1 with h1 | h1
      · omega
      · obtain ⟨k, hk, hk2⟩ := List.any_eq_true.1 h1
        simp only [Bool.and_eq_true, decide_eq_true_eq] at hk2
        have hkt := List.mem_range.1 hk
        obtain ⟨o', ho', e, he, hb, hon⟩ := Region.waitsFor_spec hk2.2
        have : o' = ot := Option.some.inj (ho'.symm.trans hot)
        subst this
        have h2 := hall e he hb
        rw [hon, getD_both (inv.tail k hk2.1 (by omega))] at h2
        cases h2

theorem wpAny_calm_rest {Q : Exit → Act → World → Prop} {l : List Oper} {n : Nat} (hmix : Region.mixB l.toArray l.length [] = true) (hn : n ≤ l.length) {listed : Array Bool} {a : Act} {W : World}
    (inv : HeadInv .any l.toArray n listed) (hall : ∀ i, i < n → listed.getD i false = true)
    (h : wpCalm P l.toArray W (fun a' => ∀ k x, Q .normal a' (W.plus k x)) (l.drop n) a) : wpAny P .any l.toArray Q (l.toArray.size - n) listed a W := by
  obtain ⟨n0, x0, h0⟩ := World.plus_of (World.grows.refl W)
  have key := wpAny_of_order (P := P) (ops := l.toArray) (w0 := W) (Q := Q) (n := l.toArray.size) (as0 := []) (by simpa using hmix)
    (fun listed i0 inv hi0 hun0 => heads_of_all listed)
    (K := fun F a' => ∀ n' x, F (W.plus n' x) → Q .normal a' (W.plus n' x))
    (fun F F' a hFF hK n' x hf => hK n' x (hFF _ hf))
    (fun F a hK n' x hf listed inv hall => by
      rw [Nat.sub_self]
      refine ⟨List.eq_nil_iff_forall_not_mem.2 fun t ht => ?_, hK n' x hf⟩
      obtain ⟨hun, ot, hot, _⟩ := mem_ready.1 ht
      have h1 := hall t (Array.getElem?_eq_some_iff.1 hot).1
      rw [getD_both hun] at h1
      cases h1)
    (l.length - n) (withNo n (l.drop n)) [] listed (fun _ => True) a
    (by have := congrArg List.length (withNo_snd n (l.drop n)); simp at this; simp; omega)
    ⟨inv.size, inv.closed, fun t h1 h2 => by omega⟩
    (fun i hi => by
      simp only [List.map_nil, List.not_mem_nil, or_false, List.mem_map]
      have hi' : i < l.length := by simpa using hi
      constructor
      · intro hf
        have hni : n ≤ i := by
          rcases Nat.lt_or_ge i n with h1 | h1
          · rw [hall i h1] at hf; cases hf
          · exact h1
        exact ⟨(i, l[i]), (withNo_mem n _ _).2 ⟨hni, by rw [List.getElem?_drop]; simp [show n + (i - n) = i by omega]⟩, rfl⟩
      · rintro ⟨p, hp, rfl⟩
        exact getD_both (inv.tail p.1 ((withNo_mem n _ _).1 hp).1 (by simpa using hi')))
    (fun p hp => by
      obtain ⟨h1, h2⟩ := (withNo_mem n _ _).1 hp
      rw [List.getElem?_drop, show n + (p.1 - n) = p.1 by omega] at h2
      exact ⟨by have := (List.getElem?_eq_some_iff.1 h2).1; simpa using this, by simpa using h2, by simp⟩)
    (by simp)
    (by rw [withNo_fst]; exact List.pairwise_lt_range')
    (by simp)
    (fun _ _ _ _ => trivial)
    (by
      rw [withNo_snd]
      exact wpCalm_mono (fun a' h => fun n' x _ => h n' x) _ _ h)
    n0 x0 trivial
  rw [← h0] at key
  simpa using key

def Region.chainRestB (ops : Array Oper) (n : Nat) (ms : List Nat) : Bool :=
  Region.chainsB ops n ms && decide (n < ops.size) && Region.sinkB .any ops n && Region.restB ops n && Region.mixB ops ops.size []

/-- a chain beside reads and calls, and behind all of them (from n on) operations that only read, in any order -/
theorem wp_region_chainR {id : Nat} {Q : Exit → Act → World → Prop} {a : Act} {w : World} {l : List Oper} (n : Nat) (ms : List Nat) (hm : P.follows .mixedOrders = true)
    (hB : (Region.chainRestB l.toArray n ms && decide (((withNo 0 (l.take n)).filter fun p => ms.contains p.1).map (·.1) = ms)) = true) (hn : n ≤ l.length)
    (h : wpCalm P l.toArray w (fun a' => wpChain P l.toArray w (fun a'' W => wpCalm P l.toArray W (fun a3 => ∀ k x, Q .normal a3 (W.plus k x)) (l.drop n) a'') (only l n ms) a' w) (without l n ms) a) : (Code.region id l.toArray true).wp P Q a w := by
  simp only [Region.chainRestB, Bool.and_eq_true, decide_eq_true_eq] at hB
  obtain ⟨⟨⟨⟨⟨hch, hlt⟩, hsink⟩, hrest⟩, hmix⟩, hms⟩ := hB
  have hch0 := hch
  refine wp_region_any hm ?_
  obtain ⟨n0, x0, h0⟩ := World.more_drew w
  rw [h0]
  have hat : ∀ p ∈ withNo 0 (l.take n), p.1 < n ∧ l.toArray[p.1]? = some p.2 := fun p hp => by
    have h2 := ((withNo_mem 0 _ p).1 hp).2
    rw [Nat.sub_zero, List.getElem?_take] at h2
    split at h2
    · rename_i hlt; exact ⟨by omega, by simpa using h2⟩
    · cases h2
  have hsorted : ((withNo 0 (l.take n)).map (·.1)).Pairwise (· < ·) := by rw [withNo_fst]; exact List.pairwise_lt_range'
  have hfilt : ∀ (q : Nat × Oper → Bool), (((withNo 0 (l.take n)).filter q).map (·.1)).Pairwise (· < ·) := fun q => by
    have : ((withNo 0 (l.take n)).filter q).Sublist (withNo 0 (l.take n)) := List.filter_sublist
    exact hsorted.sublist (this.map _)
  have hlen : ((withNo 0 (l.take n)).filter fun p => !ms.contains p.1).length + ((withNo 0 (l.take n)).filter fun p => ms.contains p.1).length = n := by
    have e1 : (withNo 0 (l.take n)).length = n := by
      have := congrArg List.length (withNo_snd 0 (l.take n))
      simp at this
      omega
    have := filt_len (fun p : Nat × Oper => ms.contains p.1) (withNo 0 (l.take n))
    omega
  have key := wpAny_of_chain (P := P) (ops := l.toArray) (w0 := w) (Q := Q) (n := n) (ms0 := ms) hch
    (fun listed i0 inv hi0 hun0 t ht => by
      rcases Nat.lt_or_ge t n with h | h
      · exact h
      · exact absurd ht (rest_waits hsink hrest hlt inv _ i0 rfl hi0 hun0 t h))
    (K := fun a'' W => wpCalm P l.toArray W (fun a3 => ∀ k x, Q .normal a3 (W.plus k x)) (l.drop n) a'')
    (fun a W hK listed inv hall => wpAny_calm_rest (by simpa using hmix) hn inv hall hK)
    n ((withNo 0 (l.take n)).filter fun p => !ms.contains p.1) ((withNo 0 (l.take n)).filter fun p => ms.contains p.1) (Array.replicate l.toArray.size false) a (w.plus n0 x0) hlen (headInv_start n)
    (fun i hi => by
      simp only [getD_replicate_false, true_iff, List.mem_map, List.mem_filter]
      have hil : i < (l.take n).length := by simp; omega
      have hi2 : (i, (l.take n)[i]) ∈ withNo 0 (l.take n) := (withNo_mem 0 _ _).2 ⟨Nat.zero_le _, by rw [Nat.sub_zero]; exact List.getElem?_eq_getElem hil⟩
      cases hc : ms.contains i with
      | true => exact .inr ⟨_, ⟨hi2, hc⟩, rfl⟩
      | false => exact .inl ⟨_, ⟨hi2, by simpa using hc⟩, rfl⟩)
    (fun p hp => by
      obtain ⟨h1, h2⟩ := List.mem_filter.1 hp
      exact ⟨(hat p h1).1, (hat p h1).2, by simpa using h2⟩)
    (fun p hp => by
      obtain ⟨h1, h2⟩ := List.mem_filter.1 hp
      exact ⟨(hat p h1).1, (hat p h1).2, h2⟩)
    (hfilt _) (hfilt _)
    (fun p q l1 l2 he => by
      simp only [Region.chainsB, Bool.and_eq_true] at hch0
      have hz := hch0.1.2
      have := zip_next ms (fun i j => decide (i < j) && Region.waitsFor .any l.toArray j i) hz p.1 q.1 (l1.map (·.1)) (l2.map (·.1)) (by rw [← hms, he]; simp)
      simp only [Bool.and_eq_true] at this
      exact this.2)
    (World.grows_plus _ _ _)
    (wpCalm_mono (fun a' h => wpChain_grow (World.grows_plus _ _ _) h) _ _ h)
  rw [show n + (l.toArray.size - n) = l.toArray.size by omega] at key
  exact key

end Go

/-
  What is proved: Works (15).
-/
namespace Go.Proofs.Ytjpccfpmhmddjaa
open Go.RowKit
attribute [local irreducible] Go.wpCalm

/-- what is known of a world in which the job of the examples lies, and its box -/
def ExAt (w W : World) (jb : Nat) (rv : Value) : Prop := RawAt W (.agg #[.int .i64 20, rv]) exJ ∧ w.grows W ∧ W.cell? ⟨jb, 0, none⟩ = some (.int .i64 20) ∧ W.cell? ⟨jb, 1, none⟩ = some rv
theorem ExAt.mono {w W W' : World} {jb : Nat} {rv : Value} (h : ExAt w W jb rv) (g : W.grows W') : ExAt w W' jb rv :=
  ⟨h.1.mono g, h.2.1.trans g, g.cell_of h.2.2.1, g.cell_of h.2.2.2⟩

theorem jobv_c (w : World) : Calls Try.prog 43 #[] w fun e w' => ∃ b o cap, e = .returned (.agg #[.int .i64 20, .slice (some ⟨b, o, none⟩) 2 cap]) ∧ w.grows w' ∧ RawAt w' (.agg #[.int .i64 20, .slice (some ⟨b, o, none⟩) 2 cap]) exJ := by
  refine (job_c w).mono ?_
  rintro e w' ⟨v, rfl, hg, hv⟩
  obtain ⟨b, o, cap, rb, ro, rc, rfl, -⟩ := hv.job exJ_ok
  exact ⟨b, o, cap, rfl, hg, hv⟩
theorem ExAt.start {w w1 : World} {rv : Value} (hg : w.grows w1) (hv : RawAt w1 (.agg #[.int .i64 20, rv]) exJ) : ExAt w (w1.alloc (.cells #[.int .i64 20, rv] 24)) w1.heap.size rv :=
  ⟨hv.mono (by (repeat (first | exact World.grows.refl _ | assumption | refine World.grows.alloc ?_ _ | refine World.grows.plus ?_ _ _ | refine World.grows.drew ?_))), World.grows.trans hg (World.grows.alloc (World.grows.refl _) _), by simp [go_sem], by simp [go_sem]⟩

theorem carryBox {Y W : World} (hg : (Y.alloc (.cells #[.int .i64 0, .int .i64 0] 51)).grows W) : W.cell? ⟨Y.heap.size, 0, none⟩ = some (.int .i64 0) ∧ W.cell? ⟨Y.heap.size, 1, none⟩ = some (.int .i64 0) ∧ W.frozen? ⟨Y.heap.size, 0, none⟩ = false ∧ W.frozen? ⟨Y.heap.size, 1, none⟩ = false :=
  ⟨hg.cell_of (by simp [go_sem]), hg.cell_of (by simp [go_sem]), (Below.frozen hg (by simp)).trans (by simp [go_sem]), (Below.frozen hg (by simp)).trans (by simp [go_sem])⟩
theorem carryBoxD {Y W : World} (hg : (Y.alloc (.cells #[.int .i64 0, .int .i64 0] 51)).drew.grows W) : W.cell? ⟨Y.heap.size, 0, none⟩ = some (.int .i64 0) ∧ W.cell? ⟨Y.heap.size, 1, none⟩ = some (.int .i64 0) ∧ W.frozen? ⟨Y.heap.size, 0, none⟩ = false ∧ W.frozen? ⟨Y.heap.size, 1, none⟩ = false :=
  ⟨hg.cell_of (by simp [go_sem]), hg.cell_of (by simp [go_sem]), (Below.frozen hg (by simp)).trans (by simp [go_sem]), (Below.frozen hg (by simp)).trans (by simp [go_sem])⟩
theorem carryFro {W W' : World} {a : Addr} {v : Value} (hg : W.grows W') (h : W.cell? a = some v) (hf : W.frozen? a = false) : W'.frozen? a = false :=
  (Below.frozen hg (World.block_lt_of_cell (by rw [h]; rfl))).trans hf
def cutQ (N : Act → World → Prop) : Exit → Act → World → Prop := fun e a W => match e with | .normal => N a W | _ => False
theorem region_cut {P : Program} {C : Code} {Q : Exit → Act → World → Prop} {a : Act} {w : World} (R : World → Nat → Prop) (f : Act → Nat → Act)
    (h2 : ∀ N : Act → World → Prop, (∀ W b, R W b → N (f a b) W) → C.wp P (cutQ N) a w) (h1 : ∀ W b, R W b → Q .normal (f a b) W) : C.wp P Q a w :=
  Code.wp_mono (fun e a W h => by cases e <;> simp only [cutQ] at h; exact h) (h2 (fun a W => Q .normal a W) h1)

set_option maxRecDepth 100000 in
set_option maxHeartbeats 8000000 in
theorem works_c (w : World) : Calls Try.prog 15 #[] w fun e w' => e = .returned (.bool true) ∧ w.grows w' := by
  go_enter Try.func15, Try.ntmps15
  go_wp2_with (go_at_call 43; refine (jobv_c _).mono ?_; rintro e w1 ⟨b, o, cap, rfl, hg, hv⟩; have HX := Lib.hid (ExAt.start hg hv); have c0 := HX.out.2.2.1; have c1 := HX.out.2.2.2; clear hv hg)
  (refine (exHeat _ _ ((HX.out.mono (by (repeat (first | exact World.grows.refl _ | assumption | refine World.grows.alloc ?_ _ | refine World.grows.plus ?_ _ _ | refine World.grows.drew ?_)))).1) _ (lit2 _ 1 1 _ _ (by simp))).mono ?_; rintro e W2 ⟨rfl, hg⟩; replace HX := Lib.hid (HX.out.mono (World.grows.trans (by (repeat (first | exact World.grows.refl _ | assumption | refine World.grows.alloc ?_ _ | refine World.grows.plus ?_ _ _ | refine World.grows.drew ?_))) hg)); replace c0 := HX.out.2.2.1; replace c1 := HX.out.2.2.2; clear hg)
  go_wp2_with (go_at_call 44; fail)
  (refine (exOrdA _ _ ((HX.out.mono (by (repeat (first | exact World.grows.refl _ | assumption | refine World.grows.alloc ?_ _ | refine World.grows.plus ?_ _ _ | refine World.grows.drew ?_)))).1) _ (lit4 _ 0 1 0 1 _ _ (by simp))).mono ?_; rintro e W2 ⟨rfl, hg⟩; replace HX := Lib.hid (HX.out.mono (World.grows.trans (by (repeat (first | exact World.grows.refl _ | assumption | refine World.grows.alloc ?_ _ | refine World.grows.plus ?_ _ _ | refine World.grows.drew ?_))) hg)); replace c0 := HX.out.2.2.1; replace c1 := HX.out.2.2.2; clear hg)
  go_wp2_with (go_at_call 44; fail)
  (refine (exOrdB _ _ ((HX.out.mono (by (repeat (first | exact World.grows.refl _ | assumption | refine World.grows.alloc ?_ _ | refine World.grows.plus ?_ _ _ | refine World.grows.drew ?_)))).1) _ (lit3 _ 0 0 1 _ _ (by simp))).mono ?_; rintro e W2 ⟨rfl, hg⟩; replace HX := Lib.hid (HX.out.mono (World.grows.trans (by (repeat (first | exact World.grows.refl _ | assumption | refine World.grows.alloc ?_ _ | refine World.grows.plus ?_ _ _ | refine World.grows.drew ?_))) hg)); replace c0 := HX.out.2.2.1; replace c1 := HX.out.2.2.2; clear hg)
  go_wp2_with (go_at_call 44; fail)
  (refine (exBlue _ _ ((HX.out.mono (by (repeat (first | exact World.grows.refl _ | assumption | refine World.grows.alloc ?_ _ | refine World.grows.plus ?_ _ _ | refine World.grows.drew ?_)))).1) _ (lit4 _ 1 0 0 1 _ _ (by simp))).mono ?_; rintro e W2 ⟨rfl, hg⟩; replace HX := Lib.hid (HX.out.mono (World.grows.trans (by (repeat (first | exact World.grows.refl _ | assumption | refine World.grows.alloc ?_ _ | refine World.grows.plus ?_ _ _ | refine World.grows.drew ?_))) hg)); replace c0 := HX.out.2.2.1; replace c1 := HX.out.2.2.2; clear hg)
  go_wp2_with (go_at_call 44; fail)
  (refine (exBest _ _ ((HX.out.mono (by (repeat (first | exact World.grows.refl _ | assumption | refine World.grows.alloc ?_ _ | refine World.grows.plus ?_ _ _ | refine World.grows.drew ?_)))).1)).mono ?_; rintro e W2 ⟨sv, l, rfl, hg, hs, hi⟩; replace HX := Lib.hid (HX.out.mono (World.grows.trans (by (repeat (first | exact World.grows.refl _ | assumption | refine World.grows.alloc ?_ _ | refine World.grows.plus ?_ _ _ | refine World.grows.drew ?_))) hg)); replace c0 := HX.out.2.2.1; replace c1 := HX.out.2.2.2; clear hg; have HS := Lib.hid hs; have HB := Lib.hid hi; clear hs hi)
  go_wp2_with (go_at_call 44; fail)
  (refine (exBar _ _ ((HX.out.mono (by (repeat (first | exact World.grows.refl _ | assumption | refine World.grows.alloc ?_ _ | refine World.grows.plus ?_ _ _ | refine World.grows.drew ?_)))).1)).mono ?_; rintro e W2 ⟨sr, rfl, hg, hr⟩; replace HX := Lib.hid (HX.out.mono (World.grows.trans (by (repeat (first | exact World.grows.refl _ | assumption | refine World.grows.alloc ?_ _ | refine World.grows.plus ?_ _ _ | refine World.grows.drew ?_))) hg)); replace c0 := HX.out.2.2.1; replace c1 := HX.out.2.2.2; replace HB := Lib.hid (HB.out.mono (World.grows.trans (by (repeat (first | exact World.grows.refl _ | assumption | refine World.grows.alloc ?_ _ | refine World.grows.plus ?_ _ _ | refine World.grows.drew ?_))) hg)); clear hg; have HR := Lib.hid hr; clear hr)
  go_wp2_with (go_at_call 44; fail)
  (refine (exChk2 _ _ ((HX.out.mono (by (repeat (first | exact World.grows.refl _ | assumption | refine World.grows.alloc ?_ _ | refine World.grows.plus ?_ _ _ | refine World.grows.drew ?_)))).1) _ (rows2 _ 0 0 1 0 _ _ _ _ _ (by simp) (by simp) (by simp))).mono ?_; rintro e W2 ⟨rfl, hg⟩; replace HX := Lib.hid (HX.out.mono (World.grows.trans (by (repeat (first | exact World.grows.refl _ | assumption | refine World.grows.alloc ?_ _ | refine World.grows.plus ?_ _ _ | refine World.grows.drew ?_))) hg)); replace c0 := HX.out.2.2.1; replace c1 := HX.out.2.2.2; replace HB := Lib.hid (HB.out.mono (World.grows.trans (by (repeat (first | exact World.grows.refl _ | assumption | refine World.grows.alloc ?_ _ | refine World.grows.plus ?_ _ _ | refine World.grows.drew ?_))) hg)); replace HR := Lib.hid (HR.out.mono (World.grows.trans (by (repeat (first | exact World.grows.refl _ | assumption | refine World.grows.alloc ?_ _ | refine World.grows.plus ?_ _ _ | refine World.grows.drew ?_))) hg)); clear hg)
  go_wp2_with (go_at_call 44; fail)
  (refine (exChk1 _ _ ((HX.out.mono (by (repeat (first | exact World.grows.refl _ | assumption | refine World.grows.alloc ?_ _ | refine World.grows.plus ?_ _ _ | refine World.grows.drew ?_)))).1) _ (rows1 _ 1 0 _ _ _ _ (by simp) (by simp))).mono ?_; rintro e W2 ⟨rfl, hg⟩; replace HX := Lib.hid (HX.out.mono (World.grows.trans (by (repeat (first | exact World.grows.refl _ | assumption | refine World.grows.alloc ?_ _ | refine World.grows.plus ?_ _ _ | refine World.grows.drew ?_))) hg)); replace c0 := HX.out.2.2.1; replace c1 := HX.out.2.2.2; replace HB := Lib.hid (HB.out.mono (World.grows.trans (by (repeat (first | exact World.grows.refl _ | assumption | refine World.grows.alloc ?_ _ | refine World.grows.plus ?_ _ _ | refine World.grows.drew ?_))) hg)); replace HR := Lib.hid (HR.out.mono (World.grows.trans (by (repeat (first | exact World.grows.refl _ | assumption | refine World.grows.alloc ?_ _ | refine World.grows.plus ?_ _ _ | refine World.grows.drew ?_))) hg)); clear hg)
  go_wp2_with (go_at_call 44; fail)
  (refine (exCount _ _ ((HX.out.mono (by (repeat (first | exact World.grows.refl _ | assumption | refine World.grows.alloc ?_ _ | refine World.grows.plus ?_ _ _ | refine World.grows.drew ?_)))).1)).mono ?_; rintro e W2 ⟨rfl, hg⟩; replace HX := Lib.hid (HX.out.mono (World.grows.trans (by (repeat (first | exact World.grows.refl _ | assumption | refine World.grows.alloc ?_ _ | refine World.grows.plus ?_ _ _ | refine World.grows.drew ?_))) hg)); replace c0 := HX.out.2.2.1; replace c1 := HX.out.2.2.2; replace HB := Lib.hid (HB.out.mono (World.grows.trans (by (repeat (first | exact World.grows.refl _ | assumption | refine World.grows.alloc ?_ _ | refine World.grows.plus ?_ _ _ | refine World.grows.drew ?_))) hg)); replace HR := Lib.hid (HR.out.mono (World.grows.trans (by (repeat (first | exact World.grows.refl _ | assumption | refine World.grows.alloc ?_ _ | refine World.grows.plus ?_ _ _ | refine World.grows.drew ?_))) hg)); clear hg)
  go_wp2_with (go_at_call 44; fail)
  (refine wp_region_chainR 4 [1, 2, 3] (by kernel_rfl) (by kernel_rfl) (by decide) ?_; simp only [without, only, withNo, List.take_succ_cons, List.take_zero, List.drop_succ_cons, List.drop_zero, List.take_nil, List.drop_nil, Nat.reduceAdd, Nat.reduceSub, List.filter, List.contains_cons, List.contains_nil, Nat.reduceBEq, Bool.or_false, Bool.false_or, Bool.true_or, Bool.or_true, Bool.or_self, Bool.not_true, Bool.not_false, List.map_cons, List.map_nil]; (repeat (refine wpCalm_step (fun K hK => ?_); go_simp; first | (refine hK _ ?_; clear hK K) | (apply Exists.intro; refine ⟨fun n' x' => ?_, hK _ ?_⟩; (fail); clear hK K))); refine wpCalm_nil ?_)
  (refine wpChain_step (fun K hK nc xc => ?_); go_simp)
  refine (name_c _ 0 1).mono ?_
  rintro e W3 ⟨rfl, hg⟩
  refine ⟨_, rfl, hg, hK _ _ ?_⟩
  clear hK K
  replace HX := Lib.hid (HX.out.mono (World.grows.trans (by (repeat (first | exact World.grows.refl _ | assumption | refine World.grows.alloc ?_ _ | refine World.grows.plus ?_ _ _ | refine World.grows.drew ?_))) hg)); replace c0 := HX.out.2.2.1; replace c1 := HX.out.2.2.2; replace HB := Lib.hid (HB.out.mono (World.grows.trans (by (repeat (first | exact World.grows.refl _ | assumption | refine World.grows.alloc ?_ _ | refine World.grows.plus ?_ _ _ | refine World.grows.drew ?_))) hg)); replace HR := Lib.hid (HR.out.mono (World.grows.trans (by (repeat (first | exact World.grows.refl _ | assumption | refine World.grows.alloc ?_ _ | refine World.grows.plus ?_ _ _ | refine World.grows.drew ?_))) hg)); clear hg
  (refine wpChain_step (fun K hK nc xc => ?_); go_simp)
  refine (name_c _ 1 0).mono ?_
  rintro e W3 ⟨rfl, hg⟩
  refine ⟨_, rfl, hg, hK _ _ ?_⟩
  clear hK K
  replace HX := Lib.hid (HX.out.mono (World.grows.trans (by (repeat (first | exact World.grows.refl _ | assumption | refine World.grows.alloc ?_ _ | refine World.grows.plus ?_ _ _ | refine World.grows.drew ?_))) hg)); replace c0 := HX.out.2.2.1; replace c1 := HX.out.2.2.2; replace HB := Lib.hid (HB.out.mono (World.grows.trans (by (repeat (first | exact World.grows.refl _ | assumption | refine World.grows.alloc ?_ _ | refine World.grows.plus ?_ _ _ | refine World.grows.drew ?_))) hg)); replace HR := Lib.hid (HR.out.mono (World.grows.trans (by (repeat (first | exact World.grows.refl _ | assumption | refine World.grows.alloc ?_ _ | refine World.grows.plus ?_ _ _ | refine World.grows.drew ?_))) hg)); clear hg
  (refine wpChain_step (fun K hK nc xc => ?_); go_simp)
  refine (exMust50 _ _ ((HX.out.mono (by (repeat (first | exact World.grows.refl _ | assumption | refine World.grows.alloc ?_ _ | refine World.grows.plus ?_ _ _ | refine World.grows.drew ?_)))).1)).mono ?_
  rintro e W3 ⟨rfl, hg⟩
  refine ⟨_, rfl, hg, hK _ _ ?_⟩
  clear hK K
  replace HX := Lib.hid (HX.out.mono (World.grows.trans (by (repeat (first | exact World.grows.refl _ | assumption | refine World.grows.alloc ?_ _ | refine World.grows.plus ?_ _ _ | refine World.grows.drew ?_))) hg)); replace c0 := HX.out.2.2.1; replace c1 := HX.out.2.2.2; replace HB := Lib.hid (HB.out.mono (World.grows.trans (by (repeat (first | exact World.grows.refl _ | assumption | refine World.grows.alloc ?_ _ | refine World.grows.plus ?_ _ _ | refine World.grows.drew ?_))) hg)); replace HR := Lib.hid (HR.out.mono (World.grows.trans (by (repeat (first | exact World.grows.refl _ | assumption | refine World.grows.alloc ?_ _ | refine World.grows.plus ?_ _ _ | refine World.grows.drew ?_))) hg)); clear hg
  (refine wpChain_nil (fun nc xc => ?_))
  ((try simp only [without, only, withNo, List.take_succ_cons, List.take_zero, List.drop_succ_cons, List.drop_zero, List.take_nil, List.drop_nil, Nat.reduceAdd, Nat.reduceSub, List.filter, List.contains_cons, List.contains_nil, Nat.reduceBEq, Bool.or_false, Bool.false_or, Bool.true_or, Bool.or_true, Bool.or_self, Bool.not_true, Bool.not_false, List.map_cons, List.map_nil]); (repeat (refine wpCalm_step (fun K hK => ?_); go_simp; first | (refine hK _ ?_; clear hK K) | (apply Exists.intro; refine ⟨fun n' x' => ?_, hK _ ?_⟩; (fail); clear hK K))); refine wpCalm_nil ?_; intro nq xq)
  go_wp2
  have hg : W3.grows ((W3.plus nc xc).plus nq xq) := by (repeat (first | exact World.grows.refl _ | assumption | refine World.grows.alloc ?_ _ | refine World.grows.plus ?_ _ _ | refine World.grows.drew ?_))
  generalize (W3.plus nc xc).plus nq xq = W4 at hg ⊢
  replace HX := Lib.hid (HX.out.mono hg); replace c0 := HX.out.2.2.1; replace c1 := HX.out.2.2.2; replace HB := Lib.hid (HB.out.mono hg); replace HR := Lib.hid (HR.out.mono hg); clear hg
  clear c0 c1; have c0 := HX.out.2.2.1; have c1 := HX.out.2.2.2
  (refine wp_region_chainR 4 [1, 2, 3] (by kernel_rfl) (by kernel_rfl) (by decide) ?_; simp only [without, only, withNo, List.take_succ_cons, List.take_zero, List.drop_succ_cons, List.drop_zero, List.take_nil, List.drop_nil, Nat.reduceAdd, Nat.reduceSub, List.filter, List.contains_cons, List.contains_nil, Nat.reduceBEq, Bool.or_false, Bool.false_or, Bool.true_or, Bool.or_true, Bool.or_self, Bool.not_true, Bool.not_false, List.map_cons, List.map_nil]; (repeat (refine wpCalm_step (fun K hK => ?_); go_simp; first | (refine hK _ ?_; clear hK K) | (apply Exists.intro; refine ⟨fun n' x' => ?_, hK _ ?_⟩; (fail); clear hK K))); refine wpCalm_nil ?_)
  (refine wpChain_step (fun K hK nc xc => ?_); go_simp)
  refine (name_c _ 0 1).mono ?_
  rintro e W3 ⟨rfl, hg⟩
  refine ⟨_, rfl, hg, hK _ _ ?_⟩
  clear hK K
  replace HX := Lib.hid (HX.out.mono (World.grows.trans (by (repeat (first | exact World.grows.refl _ | assumption | refine World.grows.alloc ?_ _ | refine World.grows.plus ?_ _ _ | refine World.grows.drew ?_))) hg)); replace c0 := HX.out.2.2.1; replace c1 := HX.out.2.2.2; replace HB := Lib.hid (HB.out.mono (World.grows.trans (by (repeat (first | exact World.grows.refl _ | assumption | refine World.grows.alloc ?_ _ | refine World.grows.plus ?_ _ _ | refine World.grows.drew ?_))) hg)); replace HR := Lib.hid (HR.out.mono (World.grows.trans (by (repeat (first | exact World.grows.refl _ | assumption | refine World.grows.alloc ?_ _ | refine World.grows.plus ?_ _ _ | refine World.grows.drew ?_))) hg)); clear hg
  (refine wpChain_step (fun K hK nc xc => ?_); go_simp)
  refine (name_c _ 1 0).mono ?_
  rintro e W3 ⟨rfl, hg⟩
  refine ⟨_, rfl, hg, hK _ _ ?_⟩
  clear hK K
  replace HX := Lib.hid (HX.out.mono (World.grows.trans (by (repeat (first | exact World.grows.refl _ | assumption | refine World.grows.alloc ?_ _ | refine World.grows.plus ?_ _ _ | refine World.grows.drew ?_))) hg)); replace c0 := HX.out.2.2.1; replace c1 := HX.out.2.2.2; replace HB := Lib.hid (HB.out.mono (World.grows.trans (by (repeat (first | exact World.grows.refl _ | assumption | refine World.grows.alloc ?_ _ | refine World.grows.plus ?_ _ _ | refine World.grows.drew ?_))) hg)); replace HR := Lib.hid (HR.out.mono (World.grows.trans (by (repeat (first | exact World.grows.refl _ | assumption | refine World.grows.alloc ?_ _ | refine World.grows.plus ?_ _ _ | refine World.grows.drew ?_))) hg)); clear hg
  (refine wpChain_step (fun K hK nc xc => ?_); go_simp)
  refine (exMust49 _ _ ((HX.out.mono (by (repeat (first | exact World.grows.refl _ | assumption | refine World.grows.alloc ?_ _ | refine World.grows.plus ?_ _ _ | refine World.grows.drew ?_)))).1)).mono ?_
  rintro e W3 ⟨rfl, hg⟩
  refine ⟨_, rfl, hg, hK _ _ ?_⟩
  clear hK K
  replace HX := Lib.hid (HX.out.mono (World.grows.trans (by (repeat (first | exact World.grows.refl _ | assumption | refine World.grows.alloc ?_ _ | refine World.grows.plus ?_ _ _ | refine World.grows.drew ?_))) hg)); replace c0 := HX.out.2.2.1; replace c1 := HX.out.2.2.2; replace HB := Lib.hid (HB.out.mono (World.grows.trans (by (repeat (first | exact World.grows.refl _ | assumption | refine World.grows.alloc ?_ _ | refine World.grows.plus ?_ _ _ | refine World.grows.drew ?_))) hg)); replace HR := Lib.hid (HR.out.mono (World.grows.trans (by (repeat (first | exact World.grows.refl _ | assumption | refine World.grows.alloc ?_ _ | refine World.grows.plus ?_ _ _ | refine World.grows.drew ?_))) hg)); clear hg
  (refine wpChain_nil (fun nc xc => ?_))
  ((try simp only [without, only, withNo, List.take_succ_cons, List.take_zero, List.drop_succ_cons, List.drop_zero, List.take_nil, List.drop_nil, Nat.reduceAdd, Nat.reduceSub, List.filter, List.contains_cons, List.contains_nil, Nat.reduceBEq, Bool.or_false, Bool.false_or, Bool.true_or, Bool.or_true, Bool.or_self, Bool.not_true, Bool.not_false, List.map_cons, List.map_nil]); (repeat (refine wpCalm_step (fun K hK => ?_); go_simp; first | (refine hK _ ?_; clear hK K) | (apply Exists.intro; refine ⟨fun n' x' => ?_, hK _ ?_⟩; (fail); clear hK K))); refine wpCalm_nil ?_; intro nq xq)
  have hg : W3.grows ((W3.plus nc xc).plus nq xq) := by (repeat (first | exact World.grows.refl _ | assumption | refine World.grows.alloc ?_ _ | refine World.grows.plus ?_ _ _ | refine World.grows.drew ?_))
  generalize (W3.plus nc xc).plus nq xq = W4 at hg ⊢
  replace HX := Lib.hid (HX.out.mono hg); replace c0 := HX.out.2.2.1; replace c1 := HX.out.2.2.2; replace HB := Lib.hid (HB.out.mono hg); replace HR := Lib.hid (HR.out.mono hg); clear hg
  clear c0 c1; have c0 := HX.out.2.2.1; have c1 := HX.out.2.2.2
  go_wp2
  refine region_cut (fun W bb => ExAt w W w1.heap.size (Value.slice (some { block := b, off := o }) 2 cap) ∧ IntsAt W sv l.length (fun i => (l.getD i 0 : Nat)) ∧ RowsOf W sr 1 (fun _ => 2) (fun _ _ => 0) ∧ W.cell? ⟨bb, 0, none⟩ = some (.int .i64 10) ∧ W.cell? ⟨bb, 1, none⟩ = some (.int .i64 20))
    (fun a bb => ⟨(((((((a.tmps.setIfInBounds 100 (.agg #[.int .i64 20, .slice (some ⟨b, o, none⟩) 2 cap])).setIfInBounds 101 (.agg #[.int .i64 1, .int .i64 0])).setIfInBounds 102 (.tuple #[.agg #[.int .i64 10, .int .i64 20], .int .i64 0])).setIfInBounds 99 (.tuple #[.agg #[.int .i64 10, .int .i64 20], .int .i64 0])).setIfInBounds 103 (.agg #[.int .i64 10, .int .i64 20])).setIfInBounds 104 (.int .i64 0)).setIfInBounds 25 (.pointer (some ⟨bb, 0, none⟩))).setIfInBounds 26 (.int .i64 0), a.defers⟩) ?_ ?_
  · intro N hN
    have HX4 := HX; have HB4 := HB; have HR4 := HR; have HG := Lib.hid (World.grows.refl W4)
    simp only [List.setIfInBounds_toArray, List.set_cons_succ, List.set_cons_zero] at hN
    go_region_with (first
      | (go_at_call 40; refine (name_c _ 1 0).mono ?_; rintro e W5 ⟨rfl, hg⟩; have HGo := HG; replace HG := Lib.hid (HG.out.trans (World.grows.trans (by (repeat (first | exact World.grows.refl _ | assumption | refine World.grows.alloc ?_ _ | refine World.grows.plus ?_ _ _ | refine World.grows.drew ?_))) hg)); have HGz := Lib.hid HG.out.size; replace HX := Lib.hid (HX.out.mono (World.grows.trans (by (repeat (first | exact World.grows.refl _ | assumption | refine World.grows.alloc ?_ _ | refine World.grows.plus ?_ _ _ | refine World.grows.drew ?_))) hg)); replace c0 := HX.out.2.2.1; replace c1 := HX.out.2.2.2; replace HB := Lib.hid (HB.out.mono (World.grows.trans (by (repeat (first | exact World.grows.refl _ | assumption | refine World.grows.alloc ?_ _ | refine World.grows.plus ?_ _ _ | refine World.grows.drew ?_))) hg)); replace HR := Lib.hid (HR.out.mono (World.grows.trans (by (repeat (first | exact World.grows.refl _ | assumption | refine World.grows.alloc ?_ _ | refine World.grows.plus ?_ _ _ | refine World.grows.drew ?_))) hg)); (first | (have hz := carryBox hg; obtain ⟨z0, z1, z2, z3⟩ := hz; have zz := Lib.hid HGo.out.size) | (have hz := carryBoxD hg; obtain ⟨z0, z1, z2, z3⟩ := hz; have zz := Lib.hid HGo.out.size) | (replace z2 := carryFro hg z0 z2; replace z3 := carryFro hg z1 z3; replace z0 := hg.cell_of z0; replace z1 := hg.cell_of z1) | skip))
      | (go_at_call 36; refine (exBef _ _ ((HX.out.mono (by (repeat (first | exact World.grows.refl _ | assumption | refine World.grows.alloc ?_ _ | refine World.grows.plus ?_ _ _ | refine World.grows.drew ?_)))).1)).mono ?_; rintro e W5 ⟨rfl, hg⟩; have HGo := HG; replace HG := Lib.hid (HG.out.trans (World.grows.trans (by (repeat (first | exact World.grows.refl _ | assumption | refine World.grows.alloc ?_ _ | refine World.grows.plus ?_ _ _ | refine World.grows.drew ?_))) hg)); have HGz := Lib.hid HG.out.size; replace HX := Lib.hid (HX.out.mono (World.grows.trans (by (repeat (first | exact World.grows.refl _ | assumption | refine World.grows.alloc ?_ _ | refine World.grows.plus ?_ _ _ | refine World.grows.drew ?_))) hg)); replace c0 := HX.out.2.2.1; replace c1 := HX.out.2.2.2; replace HB := Lib.hid (HB.out.mono (World.grows.trans (by (repeat (first | exact World.grows.refl _ | assumption | refine World.grows.alloc ?_ _ | refine World.grows.plus ?_ _ _ | refine World.grows.drew ?_))) hg)); replace HR := Lib.hid (HR.out.mono (World.grows.trans (by (repeat (first | exact World.grows.refl _ | assumption | refine World.grows.alloc ?_ _ | refine World.grows.plus ?_ _ _ | refine World.grows.drew ?_))) hg)); (first | (have hz := carryBox hg; obtain ⟨z0, z1, z2, z3⟩ := hz; have zz := Lib.hid HGo.out.size) | (have hz := carryBoxD hg; obtain ⟨z0, z1, z2, z3⟩ := hz; have zz := Lib.hid HGo.out.size) | (replace z2 := carryFro hg z0 z2; replace z3 := carryFro hg z1 z3; replace z0 := hg.cell_of z0; replace z1 := hg.cell_of z1) | skip)))
    all_goals show N _ _
    all_goals first
      | exact hN _ _ ⟨HX4.out.mono (HG.out.trans (by (repeat (first | exact World.grows.refl _ | assumption | refine World.grows.alloc ?_ _ | refine World.grows.plus ?_ _ _ | refine World.grows.drew ?_)))), HB4.out.mono (HG.out.trans (by (repeat (first | exact World.grows.refl _ | assumption | refine World.grows.alloc ?_ _ | refine World.grows.plus ?_ _ _ | refine World.grows.drew ?_)))), HR4.out.mono (HG.out.trans (by (repeat (first | exact World.grows.refl _ | assumption | refine World.grows.alloc ?_ _ | refine World.grows.plus ?_ _ _ | refine World.grows.drew ?_)))), by simp [go_sem], by simp [go_sem]⟩
      | exact hN _ _ ⟨HX4.out.mono ((HG.out.setCell (by first | exact Nat.le_refl _ | exact HGz.out | exact zz.out) _).setCell (by first | exact Nat.le_refl _ | exact HGz.out | exact zz.out) _), HB4.out.mono ((HG.out.setCell (by first | exact Nat.le_refl _ | exact HGz.out | exact zz.out) _).setCell (by first | exact Nat.le_refl _ | exact HGz.out | exact zz.out) _), HR4.out.mono ((HG.out.setCell (by first | exact Nat.le_refl _ | exact HGz.out | exact zz.out) _).setCell (by first | exact Nat.le_refl _ | exact HGz.out | exact zz.out) _), by rw [cell_set_ne (.inr (by simp)) rfl]; exact World.cell?_setCell_same _ _ _ z0, World.cell?_setCell_same _ _ _ (set_other z0 z1 _)⟩
  rintro W5 bb ⟨hX, hB, hR, x0, x1⟩
  replace HX := Lib.hid hX; replace HB := Lib.hid hB; replace HR := Lib.hid hR
  clear hX hB hR c0 c1
  have c0 := HX.out.2.2.1; have c1 := HX.out.2.2.2
  have Hx0 := Lib.hid x0; have Hx1 := Lib.hid x1
  clear x0 x1
  simp only [List.setIfInBounds_toArray, List.set_cons_succ, List.set_cons_zero]
  go_wp2_with (go_at_call 44; fail)
  (refine (exROrd _ _ HX.out.1 l HS.out _ HB.out).mono ?_; rintro e W6 ⟨rfl, hg⟩; replace HX := Lib.hid (HX.out.mono hg); replace c0 := HX.out.2.2.1; replace c1 := HX.out.2.2.2; replace HR := Lib.hid (HR.out.mono hg); replace Hx0 := Lib.hid (hg.cell_of Hx0.out); replace Hx1 := Lib.hid (hg.cell_of Hx1.out); clear hg HB)
  go_wp2_with (go_at_call 44; fail)
  (refine (exRBar _ _ HX.out.1 _ HR.out).mono ?_; rintro e W7 ⟨rfl, hg⟩; replace HX := Lib.hid (HX.out.mono hg); replace Hx0 := Lib.hid (hg.cell_of Hx0.out); replace Hx1 := Lib.hid (hg.cell_of Hx1.out); clear hg HR c0 c1)
  have x0 := Hx0.out
  have x1 := Hx1.out
  go_wp2
  (refine bodyPost_ret (v := .bool true) (by simp [results, Try.results15, go_sem]) rfl ?_)
  exact ⟨rfl, HX.out.2.1⟩

end Go.Proofs.Ytjpccfpmhmddjaa

/-
  What is proved: PassJobs returns true (the walk).
-/
namespace Go.Proofs.Ytjpccfpmhmddjaa
open Go.RowKit
attribute [local irreducible] Go.wpCalm

set_option maxRecDepth 100000 in
set_option maxHeartbeats 4000000 in
theorem jobs_w (w : World) (v : Value) (J : Job) (hv : RawAt w v J) (pv : Value) (m : Nat) (f : Nat → Int) (hp : IntsAt w pv m f) (ov : Value) (m2 : Nat) (f2 : Nat → Int) (ho : IntsAt w ov m2 f2) (l : Int) :
    Calls Try.prog 3 #[v, pv, ov, .int .i64 l] w fun e w' => e = .returned (.bool true) ∧ w.grows w' := by
  obtain ⟨rv, row, rfl, hs, hr⟩ := hv
  have HX := Lib.hid (BoxAt.start (w := w) (rv := rv) (J := J) ⟨rv, row, rfl, hs, hr⟩)
  clear hs hr
  have hg0 : w.grows (w.alloc (.cells #[.int .i64 J.start, rv] 24)) := by (repeat (first | exact World.grows.refl _ | assumption | refine World.grows.alloc ?_ _ | refine World.grows.plus ?_ _ _ | refine World.grows.drew ?_))
  have HP := Lib.hid (hp.mono hg0)
  have HO := Lib.hid (ho.mono hg0)
  clear hg0
  obtain ⟨pa, pcap, rfl, hp1, hp2, -⟩ := hp
  obtain ⟨oa, ocap, rfl, ho1, ho2, -⟩ := ho
  unfold maxLen at hp2 ho2
  have c0 := HX.out.2.2.1; have c1 := HX.out.2.2.2
  go_enter Try.func3, Try.ntmps3
  by_cases hsm : J.big = false ∧ m ≤ 10 ∧ m2 ≤ 40
  · obtain ⟨hb, hm, hm2⟩ := hsm
    have h14 := fun W h => great_c W (.agg #[.int .i64 J.start, rv]) J h
    rw [hb] at h14
    clear hb
    go_wp2_with (first
      | (go_at_call 14; refine (h14 _ (HX.out.1.mono (by (repeat (first | exact World.grows.refl _ | assumption | refine World.grows.alloc ?_ _ | refine World.grows.plus ?_ _ _ | refine World.grows.drew ?_))))).mono ?_; rintro e W2 ⟨rfl, hg⟩; replace HP := Lib.hid (HP.out.mono (World.grows.trans (by (repeat (first | exact World.grows.refl _ | assumption | refine World.grows.alloc ?_ _ | refine World.grows.plus ?_ _ _ | refine World.grows.drew ?_))) hg)); replace HO := Lib.hid (HO.out.mono (World.grows.trans (by (repeat (first | exact World.grows.refl _ | assumption | refine World.grows.alloc ?_ _ | refine World.grows.plus ?_ _ _ | refine World.grows.drew ?_))) hg)); replace HX := Lib.hid (HX.out.mono (World.grows.trans (by (repeat (first | exact World.grows.refl _ | assumption | refine World.grows.alloc ?_ _ | refine World.grows.plus ?_ _ _ | refine World.grows.drew ?_))) hg)); replace c0 := HX.out.2.2.1; replace c1 := HX.out.2.2.2; clear hg)
      | (go_at_call 16; refine (Heat_c _ _ J (HX.out.1.mono (by (repeat (first | exact World.grows.refl _ | assumption | refine World.grows.alloc ?_ _ | refine World.grows.plus ?_ _ _ | refine World.grows.drew ?_)))) _ m f (HP.out.mono (by (repeat (first | exact World.grows.refl _ | assumption | refine World.grows.alloc ?_ _ | refine World.grows.plus ?_ _ _ | refine World.grows.drew ?_))))).mono ?_; rintro e W2 ⟨rfl, hg⟩; replace HP := Lib.hid (HP.out.mono (World.grows.trans (by (repeat (first | exact World.grows.refl _ | assumption | refine World.grows.alloc ?_ _ | refine World.grows.plus ?_ _ _ | refine World.grows.drew ?_))) hg)); replace HO := Lib.hid (HO.out.mono (World.grows.trans (by (repeat (first | exact World.grows.refl _ | assumption | refine World.grows.alloc ?_ _ | refine World.grows.plus ?_ _ _ | refine World.grows.drew ?_))) hg)); replace HX := Lib.hid (HX.out.mono (World.grows.trans (by (repeat (first | exact World.grows.refl _ | assumption | refine World.grows.alloc ?_ _ | refine World.grows.plus ?_ _ _ | refine World.grows.drew ?_))) hg)); replace c0 := HX.out.2.2.1; replace c1 := HX.out.2.2.2; clear hg)
      | (go_at_call 17; refine (rHeat_c _ _ J (HX.out.1.mono (by (repeat (first | exact World.grows.refl _ | assumption | refine World.grows.alloc ?_ _ | refine World.grows.plus ?_ _ _ | refine World.grows.drew ?_)))) _ m f (HP.out.mono (by (repeat (first | exact World.grows.refl _ | assumption | refine World.grows.alloc ?_ _ | refine World.grows.plus ?_ _ _ | refine World.grows.drew ?_))))).mono ?_; rintro e W2 ⟨rfl, hg⟩; replace HP := Lib.hid (HP.out.mono (World.grows.trans (by (repeat (first | exact World.grows.refl _ | assumption | refine World.grows.alloc ?_ _ | refine World.grows.plus ?_ _ _ | refine World.grows.drew ?_))) hg)); replace HO := Lib.hid (HO.out.mono (World.grows.trans (by (repeat (first | exact World.grows.refl _ | assumption | refine World.grows.alloc ?_ _ | refine World.grows.plus ?_ _ _ | refine World.grows.drew ?_))) hg)); replace HX := Lib.hid (HX.out.mono (World.grows.trans (by (repeat (first | exact World.grows.refl _ | assumption | refine World.grows.alloc ?_ _ | refine World.grows.plus ?_ _ _ | refine World.grows.drew ?_))) hg)); replace c0 := HX.out.2.2.1; replace c1 := HX.out.2.2.2; clear hg)
      | (go_at_call 18; refine (checkOrd_c _ _ J (HX.out.1.mono (by (repeat (first | exact World.grows.refl _ | assumption | refine World.grows.alloc ?_ _ | refine World.grows.plus ?_ _ _ | refine World.grows.drew ?_)))) _ m2 f2 (HO.out.mono (by (repeat (first | exact World.grows.refl _ | assumption | refine World.grows.alloc ?_ _ | refine World.grows.plus ?_ _ _ | refine World.grows.drew ?_))))).mono ?_; rintro e W2 ⟨rfl, hg⟩; replace HP := Lib.hid (HP.out.mono (World.grows.trans (by (repeat (first | exact World.grows.refl _ | assumption | refine World.grows.alloc ?_ _ | refine World.grows.plus ?_ _ _ | refine World.grows.drew ?_))) hg)); replace HO := Lib.hid (HO.out.mono (World.grows.trans (by (repeat (first | exact World.grows.refl _ | assumption | refine World.grows.alloc ?_ _ | refine World.grows.plus ?_ _ _ | refine World.grows.drew ?_))) hg)); replace HX := Lib.hid (HX.out.mono (World.grows.trans (by (repeat (first | exact World.grows.refl _ | assumption | refine World.grows.alloc ?_ _ | refine World.grows.plus ?_ _ _ | refine World.grows.drew ?_))) hg)); replace c0 := HX.out.2.2.1; replace c1 := HX.out.2.2.2; clear hg)
      | (go_at_call 19; refine (rcheckOrd_c _ _ J (HX.out.1.mono (by (repeat (first | exact World.grows.refl _ | assumption | refine World.grows.alloc ?_ _ | refine World.grows.plus ?_ _ _ | refine World.grows.drew ?_)))) _ m2 f2 (HO.out.mono (by (repeat (first | exact World.grows.refl _ | assumption | refine World.grows.alloc ?_ _ | refine World.grows.plus ?_ _ _ | refine World.grows.drew ?_))))).mono ?_; rintro e W2 ⟨rfl, hg⟩; replace HP := Lib.hid (HP.out.mono (World.grows.trans (by (repeat (first | exact World.grows.refl _ | assumption | refine World.grows.alloc ?_ _ | refine World.grows.plus ?_ _ _ | refine World.grows.drew ?_))) hg)); replace HO := Lib.hid (HO.out.mono (World.grows.trans (by (repeat (first | exact World.grows.refl _ | assumption | refine World.grows.alloc ?_ _ | refine World.grows.plus ?_ _ _ | refine World.grows.drew ?_))) hg)); replace HX := Lib.hid (HX.out.mono (World.grows.trans (by (repeat (first | exact World.grows.refl _ | assumption | refine World.grows.alloc ?_ _ | refine World.grows.plus ?_ _ _ | refine World.grows.drew ?_))) hg)); replace c0 := HX.out.2.2.1; replace c1 := HX.out.2.2.2; clear hg)
      | (go_at_call 20; refine (blue_c _ _ J (HX.out.1.mono (by (repeat (first | exact World.grows.refl _ | assumption | refine World.grows.alloc ?_ _ | refine World.grows.plus ?_ _ _ | refine World.grows.drew ?_)))) _ m2 f2 (HO.out.mono (by (repeat (first | exact World.grows.refl _ | assumption | refine World.grows.alloc ?_ _ | refine World.grows.plus ?_ _ _ | refine World.grows.drew ?_)))) l).mono ?_; rintro e W2 ⟨rfl, hg⟩; replace HP := Lib.hid (HP.out.mono (World.grows.trans (by (repeat (first | exact World.grows.refl _ | assumption | refine World.grows.alloc ?_ _ | refine World.grows.plus ?_ _ _ | refine World.grows.drew ?_))) hg)); replace HO := Lib.hid (HO.out.mono (World.grows.trans (by (repeat (first | exact World.grows.refl _ | assumption | refine World.grows.alloc ?_ _ | refine World.grows.plus ?_ _ _ | refine World.grows.drew ?_))) hg)); replace HX := Lib.hid (HX.out.mono (World.grows.trans (by (repeat (first | exact World.grows.refl _ | assumption | refine World.grows.alloc ?_ _ | refine World.grows.plus ?_ _ _ | refine World.grows.drew ?_))) hg)); replace c0 := HX.out.2.2.1; replace c1 := HX.out.2.2.2; clear hg)
      | (go_at_call 21; refine (rblue_c _ _ J (HX.out.1.mono (by (repeat (first | exact World.grows.refl _ | assumption | refine World.grows.alloc ?_ _ | refine World.grows.plus ?_ _ _ | refine World.grows.drew ?_)))) _ m2 f2 (HO.out.mono (by (repeat (first | exact World.grows.refl _ | assumption | refine World.grows.alloc ?_ _ | refine World.grows.plus ?_ _ _ | refine World.grows.drew ?_)))) l).mono ?_; rintro e W2 ⟨rfl, hg⟩; replace HP := Lib.hid (HP.out.mono (World.grows.trans (by (repeat (first | exact World.grows.refl _ | assumption | refine World.grows.alloc ?_ _ | refine World.grows.plus ?_ _ _ | refine World.grows.drew ?_))) hg)); replace HO := Lib.hid (HO.out.mono (World.grows.trans (by (repeat (first | exact World.grows.refl _ | assumption | refine World.grows.alloc ?_ _ | refine World.grows.plus ?_ _ _ | refine World.grows.drew ?_))) hg)); replace HX := Lib.hid (HX.out.mono (World.grows.trans (by (repeat (first | exact World.grows.refl _ | assumption | refine World.grows.alloc ?_ _ | refine World.grows.plus ?_ _ _ | refine World.grows.drew ?_))) hg)); replace c0 := HX.out.2.2.1; replace c1 := HX.out.2.2.2; clear hg))
    (refine wp_region_calm (by kernel_rfl) (by kernel_rfl) ?_; (repeat (refine wpCalm_step (fun K hK => ?_); go_simp; first | (refine hK _ ?_; clear hK K) | (apply Exists.intro; refine ⟨fun n' x' => ?_, hK _ ?_⟩; (first | exact check_c _ _ J (HX.out.1.mono (by (repeat (first | exact World.grows.refl _ | assumption | refine World.grows.alloc ?_ _ | refine World.grows.plus ?_ _ _ | refine World.grows.drew ?_)))) | exact rcheck_c _ _ J (HX.out.1.mono (by (repeat (first | exact World.grows.refl _ | assumption | refine World.grows.alloc ?_ _ | refine World.grows.plus ?_ _ _ | refine World.grows.drew ?_)))) | exact works_c _); clear hK K))); refine wpCalm_nil ?_; intro nq xq)
    go_wp2
    go_ret
    exact ⟨rfl, HX.out.2.1.trans (by (repeat (first | exact World.grows.refl _ | assumption | refine World.grows.alloc ?_ _ | refine World.grows.plus ?_ _ _ | refine World.grows.drew ?_)))⟩
  have h14 := fun W h => great_c W (.agg #[.int .i64 J.start, rv]) J h
  by_cases hb : J.big = true
  · rw [hb] at h14
    clear hb hsm
    go_wp2_with (first
      | (go_at_call 14; refine (h14 _ (HX.out.1.mono (by (repeat (first | exact World.grows.refl _ | assumption | refine World.grows.alloc ?_ _ | refine World.grows.plus ?_ _ _ | refine World.grows.drew ?_))))).mono ?_; rintro e W2 ⟨rfl, hg⟩; replace HX := Lib.hid (HX.out.mono (World.grows.trans (by (repeat (first | exact World.grows.refl _ | assumption | refine World.grows.alloc ?_ _ | refine World.grows.plus ?_ _ _ | refine World.grows.drew ?_))) hg)); replace c0 := HX.out.2.2.1; replace c1 := HX.out.2.2.2; clear hg)
      | (go_at_call 15; refine (works_c _).mono ?_; rintro e W2 ⟨rfl, hg⟩; replace HX := Lib.hid (HX.out.mono (World.grows.trans (by (repeat (first | exact World.grows.refl _ | assumption | refine World.grows.alloc ?_ _ | refine World.grows.plus ?_ _ _ | refine World.grows.drew ?_))) hg)); clear hg))
    go_ret
    exact ⟨rfl, HX.out.2.1.trans (by (repeat (first | exact World.grows.refl _ | assumption | refine World.grows.alloc ?_ _ | refine World.grows.plus ?_ _ _ | refine World.grows.drew ?_)))⟩
  have hb' : J.big = false := by simpa using hb
  rw [hb'] at h14
  by_cases hm : 10 < m
  · clear hb hsm hb'
    go_wp2_with (first
      | (go_at_call 14; refine (h14 _ (HX.out.1.mono (by (repeat (first | exact World.grows.refl _ | assumption | refine World.grows.alloc ?_ _ | refine World.grows.plus ?_ _ _ | refine World.grows.drew ?_))))).mono ?_; rintro e W2 ⟨rfl, hg⟩; replace HX := Lib.hid (HX.out.mono (World.grows.trans (by (repeat (first | exact World.grows.refl _ | assumption | refine World.grows.alloc ?_ _ | refine World.grows.plus ?_ _ _ | refine World.grows.drew ?_))) hg)); replace c0 := HX.out.2.2.1; replace c1 := HX.out.2.2.2; clear hg)
      | (go_at_call 15; refine (works_c _).mono ?_; rintro e W2 ⟨rfl, hg⟩; replace HX := Lib.hid (HX.out.mono (World.grows.trans (by (repeat (first | exact World.grows.refl _ | assumption | refine World.grows.alloc ?_ _ | refine World.grows.plus ?_ _ _ | refine World.grows.drew ?_))) hg)); clear hg))
    go_ret
    exact ⟨rfl, HX.out.2.1.trans (by (repeat (first | exact World.grows.refl _ | assumption | refine World.grows.alloc ?_ _ | refine World.grows.plus ?_ _ _ | refine World.grows.drew ?_)))⟩
  · have hm2 : 40 < m2 := Nat.lt_of_not_le fun h => hsm ⟨hb', by omega, h⟩
    clear hb hsm hb'
    go_wp2_with (first
      | (go_at_call 14; refine (h14 _ (HX.out.1.mono (by (repeat (first | exact World.grows.refl _ | assumption | refine World.grows.alloc ?_ _ | refine World.grows.plus ?_ _ _ | refine World.grows.drew ?_))))).mono ?_; rintro e W2 ⟨rfl, hg⟩; replace HX := Lib.hid (HX.out.mono (World.grows.trans (by (repeat (first | exact World.grows.refl _ | assumption | refine World.grows.alloc ?_ _ | refine World.grows.plus ?_ _ _ | refine World.grows.drew ?_))) hg)); replace c0 := HX.out.2.2.1; replace c1 := HX.out.2.2.2; clear hg)
      | (go_at_call 15; refine (works_c _).mono ?_; rintro e W2 ⟨rfl, hg⟩; replace HX := Lib.hid (HX.out.mono (World.grows.trans (by (repeat (first | exact World.grows.refl _ | assumption | refine World.grows.alloc ?_ _ | refine World.grows.plus ?_ _ _ | refine World.grows.drew ?_))) hg)); clear hg))
    go_ret
    exact ⟨rfl, HX.out.2.1.trans (by (repeat (first | exact World.grows.refl _ | assumption | refine World.grows.alloc ?_ _ | refine World.grows.plus ?_ _ _ | refine World.grows.drew ?_)))⟩

end Go.Proofs.Ytjpccfpmhmddjaa

/-
  What is proved: a law's row, from a contract that says that the call returns true in a world that has only grown.
-/
namespace Go
open Go.ChangeShapes Go.WideShapes Go.ChangeAt Go.RowKit

theorem trodAll_stays {H : Type} {enc : TypeId × Value → H} {P : Program} (hl : laidOutB P = true) {W W' : World} (hb : Below W.heap.size W W') :
    ∀ {ts : List TypeId} {vs : List Value} {ds : List (DataW H)} {ps : List MemPlace}, (∀ t ∈ ts, P.readableRec t = true ∧ t < P.types.size) →
      DataW.TrodAll enc P W 0 (fun _ => true) true ts vs ds ps → (∀ x ∈ ps, x.block < W.heap.size) → DataW.TrodAll enc P W' 0 (fun b => decide (b < W.heap.size)) true ts vs ds ps
  | [], vs, ds, ps, _, h, _ => by
    obtain ⟨rfl, rfl, rfl⟩ := trodAll_nil h
    rfl
  | t :: ts, vs, ds, ps, ht, h, hlt => by
    match vs, ds, h with
    | v :: vs, d :: ds, ⟨p, q, h1, h2, hp⟩ =>
      subst hp
      exact ⟨p, q, Below.trod hl (ht t (by simp)).1 (ht t (by simp)).2 h1 hb (fun x hx => hlt x (by simp [hx])),
        trodAll_stays hl hb (fun t' h' => ht t' (by simp [h'])) h2 (fun x hx => hlt x (by simp [hx])), rfl⟩

theorem trodAll_len {H : Type} {enc : TypeId × Value → H} {P : Program} {w : World} {base : Nat} {spare : Nat → Bool} {held : Bool} :
    ∀ {ts : List TypeId} {vs : List Value} {ds : List (DataW H)} {ps : List MemPlace}, DataW.TrodAll enc P w base spare held ts vs ds ps → ds.length = ts.length
  | [], vs, ds, ps, h => by
    obtain ⟨rfl, rfl, rfl⟩ := trodAll_nil h
    rfl
  | t :: ts, vs, ds, ps, h => by
    match vs, ds, h with
    | v :: vs, d :: ds, ⟨p, q, h1, h2, hp⟩ =>
      simp only [List.length_cons]
      rw [trodAll_len h2]

theorem law_lifted {C : Checked} {f : FuncId} {fn : Func} {s : ChangeSpec} {tb : TypeId} {conds : List PathCond} {os : Os} (started : os.Started) {H : Type} {enc : TypeId × Value → H}
    (own : ownKnob C.prog.godebug = none) (hl : laidOutB C.prog = true) (noInit : C.prog.inits.idxOf? f = none) (hfn : C.prog.funcs[f]? = some fn)
    (hts : ∀ t ∈ fn.params.toList, C.prog.readableRec t = true ∧ t < C.prog.types.size)
    (witness : ∃ (w : World) (tape : Tape) (i : Input), w.os = os ∧ (w.forCall tape i).Shaped C.prog ∧ i.vars = [] ∧ Input.okWide C.prog (w.forCall tape i) .any w.heap.size f i ∧
      s.pre6 enc C.prog fn conds false (w.forCall tape i).memory i.args ∧ ({} : Assume).holds C.prog (lone (Frame.enter C.prog f i.args .normal) [] (w.forCall tape i)))
    (hres : fn.resultTypes = #[tb]) (hb : C.prog.underlying tb = some .bool) (hvars : s.vars = [])
    (hspec : ∀ ds : List (DataW H), ds.length = fn.params.size → (s.fn H ds).results = [.lit (.bool true)] ∧ (s.fn H ds).args = ds ∧ (s.fn H ds).vars = [])
    (walk : ∀ (W : World) (base : Nat) (args : Array Value) (ds : List (DataW H)) (ps : List MemPlace),
      (∀ (j : Nat) t v, fn.params[j]? = some t → args[j]? = some v → Value.okWide C.prog W .any base t v) →
      DataW.TrodAll enc C.prog W 0 (fun _ => true) true fn.params.toList args.toList ds ps →
      Calls C.prog f args W fun e W' => e = .returned (.bool true) ∧ W.grows W') :
    ReturnsInHanded {} C os f .any (s.pre6 enc C.prog fn conds false) (s.post enc C.prog fn false true false false) := by
  refine returnsInHanded_of_change own started noInit hfn witness ?_
  intro W base args ds gs before hval hW _ _
  have hW' := hW
  obtain ⟨p, q, hA, hV, rfl, _, _⟩ := hW
  rw [hvars] at hV
  obtain ⟨rfl, rfl⟩ := trodVars_none hV
  have hlt : ∀ x ∈ p, x.block < W.heap.size := fun x hx => by simpa using hW'.lt x (by simp [hx])
  have hlen : ds.length = fn.params.size := by simpa using trodAll_len hA
  obtain ⟨s1, s2, s3⟩ := hspec ds hlen
  refine (walk W base args ds p hval hA).mono fun e W' ⟨he, hg⟩ => ?_
  subst he
  refine ⟨_, rfl, ds, [], p ++ [], [], p, [], hW', ?_, ?_, ?_, hg.frame _, fun h => by cases h⟩
  · rw [List.append_nil, s1, hres]
    exact trodAll_mk1 (shut_bool hb _)
  · rw [List.append_nil, s2]
    exact trodAll_stays hl hg hts hA hlt
  · rw [List.append_nil, s3, hvars]
    rfl

end Go

/-
  What is proved: what a call is handed (slices of anything, structs), read as tables of cells.
-/
namespace Go
open Go.ChangeShapes Go.WideShapes Go.ChangeAt Go.RowKit Go.Deep

section
variable {H : Type} {enc : TypeId × Value → H} {P : Program} {w : World} {base : Nat} {held : Bool}

theorem add_spot (b o k : Nat) : (Addr.add ⟨b, o, none⟩ k) = ⟨b, o + k, none⟩ := by
  unfold Addr.add
  by_cases h : k = 0 <;> simp [h]

/-- the cells of a row -/
def cellsOfRow (c : Nat → Value) (sz : Nat) : List Value := (List.range sz).map c

theorem sliceAt_open {t e : TypeId} {fuel sz : Nat} {v : Value} {x : DataW H × List MemPlace} (ht : P.underlying t = some (.slice e)) (hc : P.cellsOf e = sz)
    (h : DataW.trod enc P w base (fun _ => true) held fuel t [v] = some x) :
    ∃ (m n : Nat) (c : Nat → Nat → Value), SliceAt w v m sz c ∧ ∀ i, i < m → ∃ y, DataW.trod enc P w base (fun _ => true) held n e (cellsOfRow (c i) sz) = some y := by
  rcases open_slice ht h with ⟨h1, h2⟩ | ⟨a, len, cap, m, n, D, Pl, hcs, hb, hl, hm, hmm, hx, hr⟩
  · obtain rfl : v = .slice none 0 0 := by simpa using h1
    exact ⟨0, 0, fun _ _ => default, SliceAt.none, fun i hi => absurd hi (by omega)⟩
  · obtain rfl : v = .slice (some a) len cap := by simpa using hcs
    simp only [if_true] at hmm
    subst hmm
    rw [hc] at hr
    obtain ⟨cs, hcsx⟩ := choose_lt (α := List Value) hr
    refine ⟨len, n, fun i j => (cs i).getD j default, ⟨some a, m, rfl, hl, hm, fun i j hi hj => ?_⟩, fun i hi => ?_⟩
    · obtain ⟨_, hl2, hcell⟩ := World.cells?_some (hcsx i (by omega)).1
      have hcj := hcell j hj
      have hv : (cs i)[j]? = some ((cs i).getD j default) := by
        rw [List.getElem?_eq_getElem (by omega)]
        simp [List.getD, List.getElem?_eq_getElem (show j < (cs i).length by omega)]
      rw [hv, add_add] at hcj
      obtain ⟨b, o, s⟩ := a
      have hs : s = none := by
        obtain ⟨_, hl0, hcell0⟩ := World.cells?_some (hcsx 0 (by omega)).1
        have hc0 := hcell0 0 (by omega)
        rw [List.getElem?_eq_getElem (by omega)] at hc0
        simpa [Addr.add] using World.cell?_spot hc0
      subst hs
      rw [add_spot] at hcj
      exact ⟨b, o, rfl, by rw [Nat.add_assoc]; exact hcj⟩
    · obtain ⟨hcl, htr⟩ := hcsx i (by omega)
      obtain ⟨_, hl2, _⟩ := World.cells?_some hcl
      refine ⟨(D i, Pl i), ?_⟩
      have : cellsOfRow (fun j => (cs i).getD j default) sz = cs i := by
        unfold cellsOfRow
        refine List.ext_getElem (by simp [hl2]) fun j h1 h2 => ?_
        simp [List.getD, List.getElem?_eq_getElem h2]
      rw [this]
      exact htr

theorem cellsOfRow_one (c : Nat → Value) : cellsOfRow c 1 = [c 0] := rfl
theorem cellsOfRow_two (c : Nat → Value) : cellsOfRow c 2 = [c 0, c 1] := rfl

/-- numbers of any kind in a slice -/
def NumsAt (k : IntKind) (w : World) (v : Value) (m : Nat) (f : Nat → Int) : Prop := SliceAt w v m 1 (fun i _ => .int k (f i))
theorem NumsAt.mono {k : IntKind} {w w' : World} {v : Value} {m : Nat} {f : Nat → Int} (h : NumsAt k w v m f) (g : w.grows w') : NumsAt k w' v m f := SliceAt.mono h g

theorem nums_open {t e : TypeId} {k : IntKind} {fuel : Nat} {v : Value} {x : DataW H × List MemPlace} (ht : P.underlying t = some (.slice e)) (he : P.underlying e = some (.int k)) (hc : P.cellsOf e = 1)
    (h : DataW.trod enc P w base (fun _ => true) held fuel t [v] = some x) :
    ∃ (m : Nat) (f : Nat → Int), NumsAt k w v m f ∧ ∀ i, i < m → (Lit.int k (f i)).wf = true := by
  obtain ⟨m, n, c, h1, h2⟩ := sliceAt_open ht hc h
  have h3 : ∀ i, i < m → ∃ z : Int, c i 0 = .int k z ∧ (Lit.int k z).wf = true := fun i hi => by
    obtain ⟨y, hy⟩ := h2 i hi
    rw [cellsOfRow_one] at hy
    obtain ⟨z, e1, _, e2⟩ := DataW.trod_int he hy
    exact ⟨z, by simpa using e1, e2⟩
  obtain ⟨f, hf⟩ := choose_lt h3
  refine ⟨m, f, h1.congr fun i j hi hj => ?_, fun i hi => (hf i hi).2⟩
  obtain rfl : j = 0 := by omega
  exact (hf i hi).1

theorem lit_i64 {z : Int} (h : (Lit.int .i64 z).wf = true) : -9223372036854775808 ≤ z ∧ z ≤ 9223372036854775807 := by
  have e1 : IntKind.i64.min = -9223372036854775808 := rfl
  have e2 : IntKind.i64.max = 9223372036854775807 := rfl
  simpa [Lit.wf, e1, e2] using h
theorem lit_u8 {z : Int} (h : (Lit.int .u8 z).wf = true) : 0 ≤ z ∧ z ≤ 255 := by
  have e1 : IntKind.u8.min = 0 := rfl
  have e2 : IntKind.u8.max = 255 := rfl
  simpa [Lit.wf, e1, e2] using h
theorem lit_u16 {z : Int} (h : (Lit.int .u16 z).wf = true) : 0 ≤ z ∧ z ≤ 65535 := by
  have e1 : IntKind.u16.min = 0 := rfl
  have e2 : IntKind.u16.max = 65535 := rfl
  simpa [Lit.wf, e1, e2] using h
theorem lit_i16 {z : Int} (h : (Lit.int .i16 z).wf = true) : -32768 ≤ z ∧ z ≤ 32767 := by
  have e1 : IntKind.i16.min = -32768 := rfl
  have e2 : IntKind.i16.max = 32767 := rfl
  simpa [Lit.wf, e1, e2] using h
theorem lit_i32 {z : Int} (h : (Lit.int .i32 z).wf = true) : -2147483648 ≤ z ∧ z ≤ 2147483647 := by
  have e1 : IntKind.i32.min = -2147483648 := rfl
  have e2 : IntKind.i32.max = 2147483647 := rfl
  simpa [Lit.wf, e1, e2] using h

/-- the fields of a struct that lies in a row -/
theorem struct_open {t : TypeId} {fs : Array Field} {fuel : Nat} {cs : List Value} {x : DataW H × List MemPlace} (ht : P.underlying t = some (.struct fs)) (h : DataW.trod enc P w base (fun _ => true) held fuel t cs = some x) :
    ∃ n, ∀ (i : Nat) (f : Field), fs[i]? = some f → ∃ y, DataW.trod enc P w base (fun _ => true) held n f.type ((cs.drop f.offset).take (P.cellsOf f.type)) = some y := by
  obtain ⟨xs, n, _, rfl, hl, hlen, hf⟩ := DataW.trod_struct ht h
  refine ⟨n, fun i f hi => ?_⟩
  rw [hf i f hi]
  have : i < xs.length := by rw [hlen]; exact (Array.getElem?_eq_some_iff.1 hi).1
  exact ⟨_, List.getElem?_eq_getElem this⟩

end
end Go

