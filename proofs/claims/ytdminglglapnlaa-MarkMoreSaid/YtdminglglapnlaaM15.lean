/-
  What is proved: more guards of the statements of layer 10 (13 tall, 24 long, 23 wide).
-/
import Derived.Test.YtdminglglapnlaaM14
import Derived.Test.YtdminglglapnlaaM12
import Derived.Test.YtdminglglapnlaaM11
import Derived.Test.YtdminglglapnlaaM13
import Derived.Test.YtdminglglapnlaaM6
import Derived.Test.YtdminglglapnlaaM8
import Derived.Test.YtdminglglapnlaaM1
import Derived.ProofKit
import Derived.OpenShut
import Derived.SizedLaws
import Derived.Deep.Slices
import Derived.Lib.SmallJoins
import Derived.Test.YtdminglglapnlaaM2
set_option linter.all false
namespace Go.Proofs.Ytdminglglapnlaa
open Go.RowKit
attribute [local irreducible] Go.wpCalm

def Tr.tallB (t : Tr) : Bool := decide (120 < t.n) || (List.range t.n).any fun i => decide (15 < t.nb i)
set_option maxHeartbeats 1000000 in
theorem tall_c (w : World) (v : Value) (t : Tr) (hv : TreeAt w v t) :
    Calls Try.prog 13 #[v] w fun e w' => e = .returned (.bool t.tallB) ∧ w.grows w' := by
  obtain ⟨nv, rfl, row, ⟨na, nc, rfl, hn1, hn2, hn⟩, hrow⟩ := hv
  have hrow' : ∀ m, m < t.n → ∃ a c, row m = .slice a (t.nb m) c := fun m hmm => by obtain ⟨a, c, e, _⟩ := hrow m hmm; exact ⟨a, c, e⟩
  clear hrow
  unfold maxLen at hn2
  go_enter Try.func13, Try.ntmps13
  by_cases h1 : 120 < t.n
  · have hx := Lib.hid (show t.tallB = true by simp [Tr.tallB, h1])
    go_wp2
    (refine bodyPost_ret (v := .bool true) (by simp [results, Try.results13, go_sem]) rfl ?_)
    exact ⟨by rw [hx.out], by (repeat (first | exact World.grows.refl _ | assumption | refine World.grows.alloc ?_ _ | refine World.grows.plus ?_ _ _ | refine World.grows.drew ?_))⟩
  have hg : t.tallB = (List.range t.n).any fun m => decide (15 < t.nb m) := by simp [Tr.tallB, h1]
  rw [hg]
  clear hg
  go_wp2
  go_loopw [3] (fun i wr => ∃ k : Nat, k ≤ t.n ∧ i = .int .i64 k ∧ Hid (∀ j, j < k → decide (15 < t.nb j) = false) ∧ (w.alloc (.cells #[.int .i64 t.root, .slice na t.n nc] 28)).grows wr) (fun i _ => t.n - (intOf i).toNat)
  case atStart => exact ⟨0, by omega, rfl, Lib.hid fun j hj => by omega, by (repeat (first | exact World.grows.refl _ | assumption | refine World.grows.alloc ?_ _ | refine World.grows.plus ?_ _ _ | refine World.grows.drew ?_))⟩
  case round =>
    obtain ⟨k, hk, rfl, hl, hg⟩ := hrel
    obtain ⟨n1, x1, rfl⟩ := World.plus_of hg
    by_cases hlt : k < t.n
    · obtain ⟨b, o, rfl, h0⟩ := hn k 1 hlt (by omega)
      obtain ⟨ra, rc, hr⟩ := hrow' k hlt
      simp only [ncell, if_false, Nat.one_ne_zero, hr] at h0
      by_cases he : 15 < t.nb k
      · have hx := Lib.hid (any_true_of (q := fun i => decide (15 < t.nb i)) hlt (by simp [he]))
        go_wp2
        (refine bodyPost_ret (v := .bool true) (by simp [results, Try.results13, go_sem]) rfl ?_)
        exact ⟨by rw [hx.out], by (repeat (first | exact World.grows.refl _ | assumption | refine World.grows.alloc ?_ _ | refine World.grows.plus ?_ _ _ | refine World.grows.drew ?_))⟩
      · have hnx := Lib.hid (upto_succ hl.out (decide_eq_false he))
        go_wp2
        go_roundw
        case rel => exact ⟨k + 1, by omega, by go_num, hnx, by (repeat (first | exact World.grows.refl _ | assumption | refine World.grows.alloc ?_ _ | refine World.grows.plus ?_ _ _ | refine World.grows.drew ?_))⟩
        case measure => simp [intOf]; omega
    · have hke : k = t.n := by omega
      have hx := Lib.hid (any_false_of (n := k) hl.out)
      rw [hke] at hx
      subst hke
      go_wp2
      (refine bodyPost_ret (v := .bool false) (by simp [results, Try.results13, go_sem]) rfl ?_)
      exact ⟨by rw [hx.out], by (repeat (first | exact World.grows.refl _ | assumption | refine World.grows.alloc ?_ _ | refine World.grows.plus ?_ _ _ | refine World.grows.drew ?_))⟩

def Bn.longB (b : Bn) : Bool := (decide (250 < b.n) && decide (b.n ≤ 1100)) || decide (1110 < b.n) || (List.range b.n).any fun i => decide (15 < b.len i)
set_option maxHeartbeats 1000000 in
theorem long_c (w : World) (v : Value) (b : Bn) (hv : TableAt w v b) :
    Calls Try.prog 24 #[v] w fun e w' => e = .returned (.bool b.longB) ∧ w.grows w' := by
  obtain ⟨row, ⟨na, nc, rfl, hn1, hn2, hn⟩, hrow⟩ := hv
  have hrow' : ∀ m, m < b.n → ∃ a c, row m = .slice a (b.len m) c := fun m hmm => by obtain ⟨a, c, e, _⟩ := hrow m hmm; exact ⟨a, c, e⟩
  clear hrow
  unfold maxLen at hn2
  go_enter Try.func24, Try.ntmps24
  by_cases h3 : 1110 < b.n
  · have hx := Lib.hid (show b.longB = true by simp [Bn.longB, h3])
    have h1 : 250 < b.n := by omega
    have h2 : ¬ b.n ≤ 1100 := by omega
    go_wp2
    (refine bodyPost_ret (v := .bool true) (by simp [results, Try.results24, go_sem]) rfl ?_)
    exact ⟨by rw [hx.out], by (repeat (first | exact World.grows.refl _ | assumption | refine World.grows.alloc ?_ _ | refine World.grows.plus ?_ _ _ | refine World.grows.drew ?_))⟩
  by_cases h1 : 250 < b.n
  · by_cases h2 : b.n ≤ 1100
    · have hx := Lib.hid (show b.longB = true by simp [Bn.longB, h1, h2])
      go_wp2
      (refine bodyPost_ret (v := .bool true) (by simp [results, Try.results24, go_sem]) rfl ?_)
      exact ⟨by rw [hx.out], by (repeat (first | exact World.grows.refl _ | assumption | refine World.grows.alloc ?_ _ | refine World.grows.plus ?_ _ _ | refine World.grows.drew ?_))⟩
    · have hg : b.longB = (List.range b.n).any fun m => decide (15 < b.len m) := by simp [Bn.longB, h1, h2, h3]
      rw [hg]
      clear hg
      go_wp2
      go_loopw [3] (fun i wr => ∃ k : Nat, k ≤ b.n ∧ i = .int .i64 k ∧ Hid (∀ j, j < k → decide (15 < b.len j) = false) ∧ w.grows wr) (fun i _ => b.n - (intOf i).toNat)
      case atStart => exact ⟨0, by omega, rfl, Lib.hid fun j hj => by omega, by (repeat (first | exact World.grows.refl _ | assumption | refine World.grows.alloc ?_ _ | refine World.grows.plus ?_ _ _ | refine World.grows.drew ?_))⟩
      case round =>
        obtain ⟨k, hk, rfl, hl, hg⟩ := hrel
        obtain ⟨n1, x1, rfl⟩ := World.plus_of hg
        by_cases hlt : k < b.n
        · obtain ⟨eb, eo, rfl, h0⟩ := hn k 0 hlt (by omega)
          obtain ⟨ra, rc, hr⟩ := hrow' k hlt
          simp only [ecell, if_true, hr, Nat.add_zero] at h0
          by_cases he : 15 < b.len k
          · have hx := Lib.hid (any_true_of (q := fun i => decide (15 < b.len i)) hlt (by simp [he]))
            go_wp2
            (refine bodyPost_ret (v := .bool true) (by simp [results, Try.results24, go_sem]) rfl ?_)
            exact ⟨by rw [hx.out], by (repeat (first | exact World.grows.refl _ | assumption | refine World.grows.alloc ?_ _ | refine World.grows.plus ?_ _ _ | refine World.grows.drew ?_))⟩
          · have hnx := Lib.hid (upto_succ hl.out (decide_eq_false he))
            go_wp2
            go_roundw
            case rel => exact ⟨k + 1, by omega, by go_num, hnx, by (repeat (first | exact World.grows.refl _ | assumption | refine World.grows.alloc ?_ _ | refine World.grows.plus ?_ _ _ | refine World.grows.drew ?_))⟩
            case measure => simp [intOf]; omega
        · have hke : k = b.n := by omega
          have hx := Lib.hid (any_false_of (n := k) hl.out)
          rw [hke] at hx
          subst hke
          go_wp2
          (refine bodyPost_ret (v := .bool false) (by simp [results, Try.results24, go_sem]) rfl ?_)
          exact ⟨by rw [hx.out], by (repeat (first | exact World.grows.refl _ | assumption | refine World.grows.alloc ?_ _ | refine World.grows.plus ?_ _ _ | refine World.grows.drew ?_))⟩
  · have hg : b.longB = (List.range b.n).any fun m => decide (15 < b.len m) := by simp [Bn.longB, h1, h3]
    rw [hg]
    clear hg
    go_wp2
    go_loopw [3] (fun i wr => ∃ k : Nat, k ≤ b.n ∧ i = .int .i64 k ∧ Hid (∀ j, j < k → decide (15 < b.len j) = false) ∧ w.grows wr) (fun i _ => b.n - (intOf i).toNat)
    case atStart => exact ⟨0, by omega, rfl, Lib.hid fun j hj => by omega, by (repeat (first | exact World.grows.refl _ | assumption | refine World.grows.alloc ?_ _ | refine World.grows.plus ?_ _ _ | refine World.grows.drew ?_))⟩
    case round =>
      obtain ⟨k, hk, rfl, hl, hg⟩ := hrel
      obtain ⟨n1, x1, rfl⟩ := World.plus_of hg
      by_cases hlt : k < b.n
      · obtain ⟨eb, eo, rfl, h0⟩ := hn k 0 hlt (by omega)
        obtain ⟨ra, rc, hr⟩ := hrow' k hlt
        simp only [ecell, if_true, hr, Nat.add_zero] at h0
        by_cases he : 15 < b.len k
        · have hx := Lib.hid (any_true_of (q := fun i => decide (15 < b.len i)) hlt (by simp [he]))
          go_wp2
          (refine bodyPost_ret (v := .bool true) (by simp [results, Try.results24, go_sem]) rfl ?_)
          exact ⟨by rw [hx.out], by (repeat (first | exact World.grows.refl _ | assumption | refine World.grows.alloc ?_ _ | refine World.grows.plus ?_ _ _ | refine World.grows.drew ?_))⟩
        · have hnx := Lib.hid (upto_succ hl.out (decide_eq_false he))
          go_wp2
          go_roundw
          case rel => exact ⟨k + 1, by omega, by go_num, hnx, by (repeat (first | exact World.grows.refl _ | assumption | refine World.grows.alloc ?_ _ | refine World.grows.plus ?_ _ _ | refine World.grows.drew ?_))⟩
          case measure => simp [intOf]; omega
      · have hke : k = b.n := by omega
        have hx := Lib.hid (any_false_of (n := k) hl.out)
        rw [hke] at hx
        subst hke
        go_wp2
        (refine bodyPost_ret (v := .bool false) (by simp [results, Try.results24, go_sem]) rfl ?_)
        exact ⟨by rw [hx.out], by (repeat (first | exact World.grows.refl _ | assumption | refine World.grows.alloc ?_ _ | refine World.grows.plus ?_ _ _ | refine World.grows.drew ?_))⟩

set_option maxHeartbeats 1000000 in
theorem wide_c (w : World) (v : Value) (r : Reg) (hv : RegAt w v r) :
    Calls Try.prog 23 #[v] w fun e w' => e = .returned (.bool (decide (r.check = 0) && decide (7 < r.nm))) ∧ w.grows w' := by
  have Hv := Lib.hid hv
  obtain ⟨mv, cv, row, rfl, ⟨ma, mc, rfl, hm1, hm2, -⟩, -⟩ := hv
  have h22 := fun W h => rcheck_c W (.agg #[.slice ma r.nm mc, cv]) r h
  unfold maxLen at hm2
  go_enter Try.func23, Try.ntmps23
  by_cases hc : r.check = 0
  · rw [hc] at h22
    have Hc := Lib.hid hc
    clear hc
    by_cases h7 : 7 < r.nm
    · have h7I : (7 : Int) < (r.nm : Int) := by omega
      have h7d : decide ((7 : Int) < (r.nm : Int)) = true := decide_eq_true h7I
      go_wp2_with (go_at_call 22; refine (h22 _ (Hv.out.mono (by (repeat (first | exact World.grows.refl _ | assumption | refine World.grows.alloc ?_ _ | refine World.grows.plus ?_ _ _ | refine World.grows.drew ?_))))).mono ?_; rintro e w' ⟨rfl, hg⟩; obtain ⟨n3, x3, rfl⟩ := World.plus_of hg)
      refine bodyPost_ret (v := .bool true) (by simp [results, Try.results23, go_sem] <;> omega) rfl ?_
      exact ⟨by rw [decide_eq_true Hc.out, decide_eq_true h7]; rfl, by (repeat (first | exact World.grows.refl _ | assumption | refine World.grows.alloc ?_ _ | refine World.grows.plus ?_ _ _ | refine World.grows.drew ?_))⟩
    · have h7I : ¬ (7 : Int) < (r.nm : Int) := by omega
      go_wp2_with (go_at_call 22; refine (h22 _ (Hv.out.mono (by (repeat (first | exact World.grows.refl _ | assumption | refine World.grows.alloc ?_ _ | refine World.grows.plus ?_ _ _ | refine World.grows.drew ?_))))).mono ?_; rintro e w' ⟨rfl, hg⟩; obtain ⟨n3, x3, rfl⟩ := World.plus_of hg)
      refine bodyPost_ret (v := .bool false) (by simp [results, Try.results23, go_sem]; omega) rfl ?_
      exact ⟨by rw [decide_eq_false h7, Bool.and_false], by (repeat (first | exact World.grows.refl _ | assumption | refine World.grows.alloc ?_ _ | refine World.grows.plus ?_ _ _ | refine World.grows.drew ?_))⟩
  · have Hc := Lib.hid hc
    have hcb : (r.check == 0) = false := beq_eq_false_iff_ne.2 hc
    go_wp2_with (go_at_call 22; refine (h22 _ (Hv.out.mono (by (repeat (first | exact World.grows.refl _ | assumption | refine World.grows.alloc ?_ _ | refine World.grows.plus ?_ _ _ | refine World.grows.drew ?_))))).mono ?_; rintro e w' ⟨rfl, hg⟩; obtain ⟨n3, x3, rfl⟩ := World.plus_of hg)
    (refine bodyPost_ret (v := .bool false) (by simp [results, Try.results23, go_sem]) rfl ?_)
    exact ⟨by rw [decide_eq_false Hc.out, Bool.false_and], by (repeat (first | exact World.grows.refl _ | assumption | refine World.grows.alloc ?_ _ | refine World.grows.plus ?_ _ _ | refine World.grows.drew ?_))⟩
end Go.Proofs.Ytdminglglapnlaa

/-
  What is proved: what each call of Works answers at the example.
-/
namespace Go.Proofs.Ytdminglglapnlaa
open Go.RowKit

theorem exR_noTw : exR.NoTwins := (Reg.solvE_zero.1 exR_solvE).2
theorem w_tw1 {w : World} {v : Value} (hv : RegAt w v exR) : Calls Try.prog 15 #[v] w fun e w' => e = .returned (.tuple #[.int .i64 0, .int .i64 0, .int .i64 5]) ∧ w.grows w' := ptwins_none hv exR_check exR_noTw
theorem w_tw2 {w : World} {v : Value} (hv : RegAt w v exR2) : Calls Try.prog 15 #[v] w fun e w' => e = .returned (.tuple #[.int .i64 1, .int .i64 4, .int .i64 0]) ∧ w.grows w' :=
  (ptwins_some hv exR2_check (fun h => by have := h 1 4 (by decide) (by decide); rw [exR2_first.is] at this; cases this)).mono (by
    rintro e w' ⟨i, k, rfl, hf, hg⟩
    obtain ⟨rfl, rfl⟩ := hf.unique exR2_first
    exact ⟨rfl, hg⟩)
theorem w_fo1 {w : World} {v tv lv : Value} (hv : RegAt w v exR) (ht : TreeAt w tv exT) (hl : IntsAt w lv 3 fun i => if i = 0 then 1 else 0) : Calls Try.prog 17 #[v, tv, lv] w fun e w' => e = .returned (.tuple #[.int .i64 7, .int .i64 12, .int .i64 0]) ∧ w.grows w' := by
  have h := pfollow_c w v exR hv tv exT ht lv 3 _ hl
  rwa [exT_follow.1, exT_follow.2.1, exT_follow.2.2] at h
theorem w_fo2 {w : World} {v tv lv : Value} (hv : RegAt w v exR) (ht : TreeAt w tv exT) (hl : IntsAt w lv 3 fun i => if i = 1 then 2 else 0) : Calls Try.prog 17 #[v, tv, lv] w fun e w' => e = .returned (.tuple #[.int .i64 0, .int .i64 0, .int .i64 5]) ∧ w.grows w' := by
  have h := pfollow_c w v exR hv tv exT ht lv 3 _ hl
  unfold Tr.followA Tr.followC at h
  rwa [exT_follow5] at h
theorem w_tr {w : World} {v tv : Value} (hv : RegAt w v exR) (ht : TreeAt w tv exT) : Calls Try.prog 19 #[v, tv] w fun e w' => e = .returned (.tuple #[.int .i64 12, .int .i64 0]) ∧ w.grows w' := by
  have h := ptree_c w v exR hv tv exT ht
  rwa [exT_A.1, exT_A.2] at h
theorem w_be {w : World} {v : Value} (hv : RegAt w v exR) : Calls Try.prog 25 #[v] w fun e w' => ∃ (x : Int) (a : Option Addr) (n c : Nat) (t : Tr), e = .returned (.tuple #[.agg #[.int .i64 x, .slice a n c], .int .i64 12, .int .i64 0]) ∧ (TreeAt w' (.agg #[.int .i64 x, .slice a n c]) t ∧ t.treeE exR = 0 ∧ t.treeA exR = 12) ∧ w.grows w' := by
  have h := best_c w v exR hv exR_solvE
  rw [exR_cst] at h
  exact h.mono (by
    rintro e w' ⟨tv, t, rfl, h1, h2, h3, h4⟩
    have h1' := h1
    obtain ⟨nv, rfl, row, ⟨a, c, rfl, -⟩, -⟩ := h1'
    exact ⟨_, _, _, _, t, rfl, ⟨h1, h2, h3⟩, h4⟩)
theorem w_bo12 {w : World} {v tv : Value} (hv : RegAt w v exR) (ht : TableAt w tv (exB 12)) : Calls Try.prog 27 #[v, tv] w fun e w' => e = .returned (.tuple #[.int .i64 12, .int .i64 0]) ∧ w.grows w' := by
  have h := pbounds_c w v exR hv tv _ ht
  rwa [exB_12.1, exB_12.2] at h
theorem w_bo13 {w : World} {v tv : Value} (hv : RegAt w v exR) (ht : TableAt w tv (exB 13)) : Calls Try.prog 27 #[v, tv] w fun e w' => e = .returned (.tuple #[.int .i64 0, .int .i64 14]) ∧ w.grows w' := by
  have h := pbounds_c w v exR hv tv _ ht
  rwa [exB_13.1, exB_13.2] at h
theorem w_tab {w : World} {v : Value} (hv : RegAt w v exR) : Calls Try.prog 26 #[v] w fun e w' => ∃ a n c, e = .returned (.tuple #[.slice a n c, .int .i64 0]) ∧ TableAt w' (.slice a n c) (exR.tab exR.sets) ∧ w.grows w' :=
  (ptab_c w v exR hv exR_solvE).mono (by
    rintro e w' ⟨lv, rfl, h1, h2⟩
    have h1' := h1
    obtain ⟨row, ⟨a, c, rfl, -⟩, -⟩ := h1'
    exact ⟨_, _, _, rfl, h1, h2⟩)
theorem w_fix {w : World} {v : Value} (hv : RegAt w v exR) : Calls Try.prog 32 #[v] w fun e w' => ∃ a c, e = .returned (.tuple #[.slice a 2 c, .int .i64 12, .int .i64 0]) ∧ ListAt w' (.slice a 2 c) [1, 2] ∧ w.grows w' := by
  have h := pfix_c w v exR hv exR_solvE
  rw [ex_fix.2, ex_fix.1] at h
  exact h.mono (by
    rintro e w' ⟨lv, rfl, h1, h2⟩
    have h1' := h1
    obtain ⟨a, c, rfl, -⟩ := h1'
    exact ⟨_, _, rfl, h1, h2⟩)
theorem w_cf {w : World} {v lv : Value} (hv : RegAt w v exR) (hl : IntsAt w lv 2 fun i => i) : Calls Try.prog 30 #[v, lv] w fun e w' => e = .returned (.tuple #[.int .i64 0, .int .i64 24]) ∧ w.grows w' := by
  have h := pfixed_c w v exR hv lv 2 _ hl
  unfold Reg.fixA at h
  rwa [ex_fix01] at h
theorem w_mu {w : World} {v : Value} (hv : RegAt w v exR) : Calls Try.prog 34 #[v] w fun e w' => ∃ a c, e = .returned (.tuple #[.slice a 2 c, .int .i64 0]) ∧ ListAt w' (.slice a 2 c) [1, 2] ∧ w.grows w' := by
  have h := pmust_c w v exR hv exR_solvE
  rw [ex_must] at h
  exact h.mono (by
    rintro e w' ⟨lv, rfl, h1, h2⟩
    have h1' := h1
    obtain ⟨a, c, rfl, -⟩ := h1'
    exact ⟨_, _, rfl, h1, h2⟩)
theorem w_rt {w : World} {v tv : Value} {t : Tr} (hv : RegAt w v exR) (ht : TreeAt w tv t) (h1 : t.treeE exR = 0) (h2 : t.treeA exR = 12) : Calls Try.prog 20 #[v, tv] w fun e w' => e = .returned (.tuple #[.int .i64 12, .int .i64 0]) ∧ w.grows w' := by
  have h := rtree_c w v exR hv tv t ht
  rwa [h1, h2] at h
theorem w_rb {w : World} {v tv : Value} (hv : RegAt w v exR) (ht : TableAt w tv (exR.tab exR.sets)) : Calls Try.prog 28 #[v, tv] w fun e w' => e = .returned (.tuple #[.int .i64 12, .int .i64 0]) ∧ w.grows w' := by
  have h := rbounds_c w v exR hv tv _ ht
  have ht := Reg.tab_err (Reg.ok_of exR_check) exR_noTw
  rwa [ht.1, ht.2, exR_cst] at h
theorem w_in {w : World} {av bv : Value} (ha : ListAt w av [1, 2]) (hb : IntsAt w bv 2 fun i => (i + 1 : Nat)) : Calls Try.prog 36 #[av, bv] w fun e w' => e = .returned (.bool true) ∧ w.grows w' := by
  have h := ints_c w av bv 2 2 _ _ ha hb
  have e : (decide (2 = 2) && eqL (fun i => (([1, 2].getD i 0 : Nat) : Int)) (fun i => ((i + 1 : Nat) : Int)) 2) = true := by decide
  rwa [e] at h
end Go.Proofs.Ytdminglglapnlaa

/-
  What is proved: Works (14) answers true.
-/
namespace Go.Proofs.Ytdminglglapnlaa
open Go.RowKit
attribute [local irreducible] Go.wpCalm

set_option maxRecDepth 100000 in
set_option maxHeartbeats 16000000 in
theorem works_c (w : World) : Calls Try.prog 14 #[] w fun e w' => e = .returned (.bool true) ∧ w.grows w' := by
  go_enter Try.func14, Try.ntmps14
  go_wp2_with (go_at_call 44; fail)
  refine (exRegX_c _).mono ?_
  rintro e W1 ⟨mb, cb, rb, rfl, hX, g, -⟩
  have G : Hid (w.grows W1) := Lib.hid (World.grows.trans (by (repeat (first | exact World.grows.refl _ | assumption | refine World.grows.alloc ?_ _ | refine World.grows.plus ?_ _ _ | refine World.grows.drew ?_))) g)
  have HX := Lib.hid hX
  clear g hX
  go_wp2_with (go_at_call 44; fail)
  refine (exTree_c _).mono ?_
  rintro e W2 ⟨tv, rfl, hT, g⟩
  replace G : Hid (w.grows W2) := Lib.hid (G.out.trans (World.grows.trans (by (repeat (first | exact World.grows.refl _ | assumption | refine World.grows.alloc ?_ _ | refine World.grows.plus ?_ _ _ | refine World.grows.drew ?_))) g))
  replace HX := Lib.hid (HX.out.mono (World.grows.trans (by (repeat (first | exact World.grows.refl _ | assumption | refine World.grows.alloc ?_ _ | refine World.grows.plus ?_ _ _ | refine World.grows.drew ?_))) g))
  have HT := Lib.hid hT
  obtain ⟨nv, rfl, row, ⟨ta, tc, rfl, -⟩, -⟩ := hT
  have er : exT.root = 0 := rfl
  rw [er] at HT ⊢
  have en : exT.n = 2 := rfl
  rw [en] at HT ⊢
  clear g er en
  go_wp2_with (go_at_call 44; fail)
  refine (exRegX_c _).mono ?_
  rintro e W3 ⟨m3, d3, r3, rfl, h3, g, hm3⟩
  have B1 : Hid (W3.heap[W2.heap.size]? = some (.cells #[.slice (some ⟨mb, 0, none⟩) 5 5, .slice (some ⟨cb, 0, none⟩) 3 3] 25)) := Lib.hid (g.heap_of (World.grows.heap_of (by (repeat (first | exact World.grows.refl _ | assumption | refine World.grows.alloc ?_ _ | refine World.grows.plus ?_ _ _ | refine World.grows.drew ?_))) (World.heap_at _ _ _ rfl)))
  have B2 : Hid (W3.heap[W2.heap.size + 1]? = some (.cells #[.int .i64 0, .slice ta 2 tc] 28)) := Lib.hid (g.heap_of (World.heap_at _ _ _ (by simp)))
  have G3 : Hid (W2.grows W3) := Lib.hid (World.grows.trans (by (repeat (first | exact World.grows.refl _ | assumption | refine World.grows.alloc ?_ _ | refine World.grows.plus ?_ _ _ | refine World.grows.drew ?_))) g)
  have H3 := Lib.hid h3
  have c38 : W3.cell? ⟨m3, 8, none⟩ = some (.int .i64 9) := cell_of_heap h3.heap rfl
  have c39 : W3.cell? ⟨m3, 9, none⟩ = some (.slice (some ⟨r3 4, 0, none⟩) 3 3) := cell_of_heap h3.heap rfl
  have f38 := frozen_of_heap h3.heap 8
  have f39 := frozen_of_heap h3.heap 9
  have hm3' : m3 < W3.heap.size := World.lt_of_block h3.heap
  have hm2 : W2.heap.size + 1 + 1 ≤ m3 := by simpa using hm3
  clear g h3 hm3
  go_wp2
  (refine wp_region_chain 4 [2, 3] (by kernel_rfl) (by kernel_rfl) (by decide) ?_; simp only [without, only, withNo, List.take_succ_cons, List.take_zero, List.drop_succ_cons, List.drop_zero, List.take_nil, List.drop_nil, Nat.reduceAdd, Nat.reduceSub, List.filter, List.contains_cons, List.contains_nil, Nat.reduceBEq, Bool.or_false, Bool.false_or, Bool.true_or, Bool.or_true, Bool.or_self, Bool.not_true, Bool.not_false, List.map_cons, List.map_nil]; (repeat (refine wpCalm_step (fun K hK => ?_); go_simp; first | (refine hK _ ?_; clear hK K) | (apply Exists.intro; refine ⟨fun n' x' => ?_, hK _ ?_⟩; (fail); clear hK K))); refine wpCalm_nil ?_)
  (refine wpChain_step (fun K hK nc xc => ?_); go_simp)
  refine ⟨by (repeat (first | exact World.grows.refl _ | assumption | refine World.grows.alloc ?_ _ | refine World.grows.plus ?_ _ _ | refine World.grows.drew ?_)), hK _ _ ?_⟩
  clear hK K
  (refine wpChain_step (fun K hK nc xc => ?_); go_simp)
  refine (mark_s _ _ _ _ _).mono ?_
  rintro e W4 ⟨rfl, g⟩
  refine ⟨_, rfl, g, hK _ _ ?_⟩
  clear hK K
  (refine wpChain_nil (fun nc xc => ?_))
  rename_i n1 x1 n2 x2
  have r4 : SliceAt (W4.plus nc xc) (.slice (some ⟨W3.heap.size + 1 + n1, 0, none⟩) 3 3) 3 1 (fun i _ => .int .i64 (exVal2 4 i)) := (((cells_at (w := World.plus (W3.alloc _) n1 x1) _ 3 _ 3 1 _ (by simp) (by decide) (fun i j hi hj => by have hj' : j = 0 := (by omega); have hi' : i = 0 ∨ i = 1 ∨ i = 2 ∨ i = 3 ∨ i = 4 := (by omega); subst hj'; rcases hi' with rfl | rfl | rfl | rfl | rfl <;> first | rfl | omega)).mono (World.grows_plus _ n2 x2)).mono g).mono (World.grows_plus _ _ _)
  have b3 : (W4.plus nc xc).heap[W3.heap.size]? = some (.cells #[.slice (some ⟨m3, 0, none⟩) 5 5, .slice (some ⟨d3, 0, none⟩) 3 3] 25) := World.grows.heap_of (World.grows_plus _ _ _) (g.heap_of (World.grows.heap_of (by (repeat (first | exact World.grows.refl _ | assumption | refine World.grows.alloc ?_ _ | refine World.grows.plus ?_ _ _ | refine World.grows.drew ?_))) (World.heap_at _ _ _ rfl)))
  have g4 : W3.grows (W4.plus nc xc) := World.grows.trans (World.grows.trans (by (repeat (first | exact World.grows.refl _ | assumption | refine World.grows.alloc ?_ _ | refine World.grows.plus ?_ _ _ | refine World.grows.drew ?_))) g) (World.grows_plus _ _ _)
  generalize hV : W4.plus nc xc = V at *
  replace c38 := g4.cell_of c38
  replace c39 := g4.cell_of c39
  replace f38 := frozen_of_heap (g4.heap_of H3.out.heap) 8
  replace f39 := frozen_of_heap (g4.heap_of H3.out.heap) 9
  have B3 := Lib.hid b3
  have R4 := Lib.hid r4
  have G4 := Lib.hid g4
  clear r4 b3 g4 g hV
  go_upto_region 4 with fail
  have H3' := (H3.out.mono G4.out).put (by omega) R4.out
  have g24 : W2.grows ((V.setCell ⟨m3, 8, none⟩ (.int .i64 9)).setCell ⟨m3, 9, none⟩ (.slice (some ⟨W3.heap.size + 1 + n1, 0, none⟩) 3 3)) := World.grows.setCell (World.grows.setCell (G3.out.trans G4.out) (by simp; omega) _) (by simp; omega) _
  have b1 := G4.out.heap_of B1.out
  have b2 := G4.out.heap_of B2.out
  have b3 := B3.out
  rw [← World.heap_setCell_map V ⟨m3, 8, none⟩ (.int .i64 9) _ (by simp; omega), ← World.heap_setCell_map _ ⟨m3, 9, none⟩ (.slice (some ⟨W3.heap.size + 1 + n1, 0, none⟩) 3 3) _ (by simp; omega)] at b1 b2 b3
  generalize hZ : World.setCell _ _ _ = Z at H3' g24 b1 b2 b3 ⊢
  have HR1 := Lib.hid (HX.out.mono g24).at1
  have HR2 := Lib.hid H3'.at2
  have HTZ := Lib.hid (HT.out.mono g24)
  have HG := Lib.hid (G.out.trans g24)
  have q10 : Z.cell? ⟨W2.heap.size, 0, none⟩ = some (.slice (some ⟨mb, 0, none⟩) 5 5) := cell_of_heap b1 rfl
  have q11 : Z.cell? ⟨W2.heap.size, 1, none⟩ = some (.slice (some ⟨cb, 0, none⟩) 3 3) := cell_of_heap b1 rfl
  have q20 : Z.cell? ⟨W2.heap.size + 1, 0, none⟩ = some (.int .i64 0) := cell_of_heap b2 rfl
  have q21 : Z.cell? ⟨W2.heap.size + 1, 1, none⟩ = some (.slice ta 2 tc) := cell_of_heap b2 rfl
  have q30 : Z.cell? ⟨W3.heap.size, 0, none⟩ = some (.slice (some ⟨m3, 0, none⟩) 5 5) := cell_of_heap b3 rfl
  have q31 : Z.cell? ⟨W3.heap.size, 1, none⟩ = some (.slice (some ⟨d3, 0, none⟩) 3 3) := cell_of_heap b3 rfl
  obtain ⟨k1, hk1⟩ : ∃ k, W2.heap.size = k := ⟨_, rfl⟩
  obtain ⟨k3, hk3⟩ : ∃ k, W3.heap.size = k := ⟨_, rfl⟩
  rw [hk1] at q10 q11 q20 q21 ⊢
  rw [hk3] at q30 q31 ⊢
  clear hk1 hk3 hZ b1 b2 b3 g24 H3' c38 c39 f38 f39 hm3' hm2 B1 B2 B3 G3 G4 H3 R4 HX HT G
  have HZ : Hid (Z.grows Z) := Lib.hid (World.grows.refl _)
  go_wp2_with (go_at_call 44; fail)
  refine (w_tw1 (HR1.out.mono (HZ.out.trans (by (repeat (first | exact World.grows.refl _ | assumption | refine World.grows.alloc ?_ _ | refine World.grows.plus ?_ _ _ | refine World.grows.drew ?_)))))).mono ?_
  rintro e U ⟨rfl, g⟩
  replace q10 := World.grows.cell_of (World.grows.trans (by (repeat (first | exact World.grows.refl _ | assumption | refine World.grows.alloc ?_ _ | refine World.grows.plus ?_ _ _ | refine World.grows.drew ?_))) g) q10; replace q11 := World.grows.cell_of (World.grows.trans (by (repeat (first | exact World.grows.refl _ | assumption | refine World.grows.alloc ?_ _ | refine World.grows.plus ?_ _ _ | refine World.grows.drew ?_))) g) q11; replace q20 := World.grows.cell_of (World.grows.trans (by (repeat (first | exact World.grows.refl _ | assumption | refine World.grows.alloc ?_ _ | refine World.grows.plus ?_ _ _ | refine World.grows.drew ?_))) g) q20; replace q21 := World.grows.cell_of (World.grows.trans (by (repeat (first | exact World.grows.refl _ | assumption | refine World.grows.alloc ?_ _ | refine World.grows.plus ?_ _ _ | refine World.grows.drew ?_))) g) q21; replace q30 := World.grows.cell_of (World.grows.trans (by (repeat (first | exact World.grows.refl _ | assumption | refine World.grows.alloc ?_ _ | refine World.grows.plus ?_ _ _ | refine World.grows.drew ?_))) g) q30; replace q31 := World.grows.cell_of (World.grows.trans (by (repeat (first | exact World.grows.refl _ | assumption | refine World.grows.alloc ?_ _ | refine World.grows.plus ?_ _ _ | refine World.grows.drew ?_))) g) q31; replace HZ := Lib.hid (HZ.out.trans (World.grows.trans (by (repeat (first | exact World.grows.refl _ | assumption | refine World.grows.alloc ?_ _ | refine World.grows.plus ?_ _ _ | refine World.grows.drew ?_))) g)); clear g
  go_wp2_with (go_at_call 44; fail)
  refine (w_tw2 (HR2.out.mono (HZ.out.trans (by (repeat (first | exact World.grows.refl _ | assumption | refine World.grows.alloc ?_ _ | refine World.grows.plus ?_ _ _ | refine World.grows.drew ?_)))))).mono ?_
  rintro e U ⟨rfl, g⟩
  replace q10 := World.grows.cell_of (World.grows.trans (by (repeat (first | exact World.grows.refl _ | assumption | refine World.grows.alloc ?_ _ | refine World.grows.plus ?_ _ _ | refine World.grows.drew ?_))) g) q10; replace q11 := World.grows.cell_of (World.grows.trans (by (repeat (first | exact World.grows.refl _ | assumption | refine World.grows.alloc ?_ _ | refine World.grows.plus ?_ _ _ | refine World.grows.drew ?_))) g) q11; replace q20 := World.grows.cell_of (World.grows.trans (by (repeat (first | exact World.grows.refl _ | assumption | refine World.grows.alloc ?_ _ | refine World.grows.plus ?_ _ _ | refine World.grows.drew ?_))) g) q20; replace q21 := World.grows.cell_of (World.grows.trans (by (repeat (first | exact World.grows.refl _ | assumption | refine World.grows.alloc ?_ _ | refine World.grows.plus ?_ _ _ | refine World.grows.drew ?_))) g) q21; replace q30 := World.grows.cell_of (World.grows.trans (by (repeat (first | exact World.grows.refl _ | assumption | refine World.grows.alloc ?_ _ | refine World.grows.plus ?_ _ _ | refine World.grows.drew ?_))) g) q30; replace q31 := World.grows.cell_of (World.grows.trans (by (repeat (first | exact World.grows.refl _ | assumption | refine World.grows.alloc ?_ _ | refine World.grows.plus ?_ _ _ | refine World.grows.drew ?_))) g) q31; replace HZ := Lib.hid (HZ.out.trans (World.grows.trans (by (repeat (first | exact World.grows.refl _ | assumption | refine World.grows.alloc ?_ _ | refine World.grows.plus ?_ _ _ | refine World.grows.drew ?_))) g)); clear g
  go_wp2_with (go_at_call 44; fail)
  refine (w_fo1 (HR1.out.mono (HZ.out.trans (by (repeat (first | exact World.grows.refl _ | assumption | refine World.grows.alloc ?_ _ | refine World.grows.plus ?_ _ _ | refine World.grows.drew ?_))))) (HTZ.out.mono (HZ.out.trans (by (repeat (first | exact World.grows.refl _ | assumption | refine World.grows.alloc ?_ _ | refine World.grows.plus ?_ _ _ | refine World.grows.drew ?_))))) (cells_at _ _ _ 3 1 _ rfl (by decide) (fun i j hi hj => by have hj' : j = 0 := (by omega); have hi' : i = 0 ∨ i = 1 ∨ i = 2 ∨ i = 3 ∨ i = 4 := (by omega); subst hj'; rcases hi' with rfl | rfl | rfl | rfl | rfl <;> first | rfl | omega))).mono ?_
  rintro e U ⟨rfl, g⟩
  replace q10 := World.grows.cell_of (World.grows.trans (by (repeat (first | exact World.grows.refl _ | assumption | refine World.grows.alloc ?_ _ | refine World.grows.plus ?_ _ _ | refine World.grows.drew ?_))) g) q10; replace q11 := World.grows.cell_of (World.grows.trans (by (repeat (first | exact World.grows.refl _ | assumption | refine World.grows.alloc ?_ _ | refine World.grows.plus ?_ _ _ | refine World.grows.drew ?_))) g) q11; replace q20 := World.grows.cell_of (World.grows.trans (by (repeat (first | exact World.grows.refl _ | assumption | refine World.grows.alloc ?_ _ | refine World.grows.plus ?_ _ _ | refine World.grows.drew ?_))) g) q20; replace q21 := World.grows.cell_of (World.grows.trans (by (repeat (first | exact World.grows.refl _ | assumption | refine World.grows.alloc ?_ _ | refine World.grows.plus ?_ _ _ | refine World.grows.drew ?_))) g) q21; replace q30 := World.grows.cell_of (World.grows.trans (by (repeat (first | exact World.grows.refl _ | assumption | refine World.grows.alloc ?_ _ | refine World.grows.plus ?_ _ _ | refine World.grows.drew ?_))) g) q30; replace q31 := World.grows.cell_of (World.grows.trans (by (repeat (first | exact World.grows.refl _ | assumption | refine World.grows.alloc ?_ _ | refine World.grows.plus ?_ _ _ | refine World.grows.drew ?_))) g) q31; replace HZ := Lib.hid (HZ.out.trans (World.grows.trans (by (repeat (first | exact World.grows.refl _ | assumption | refine World.grows.alloc ?_ _ | refine World.grows.plus ?_ _ _ | refine World.grows.drew ?_))) g)); clear g
  go_wp2_with (go_at_call 44; fail)
  refine (w_fo2 (HR1.out.mono (HZ.out.trans (by (repeat (first | exact World.grows.refl _ | assumption | refine World.grows.alloc ?_ _ | refine World.grows.plus ?_ _ _ | refine World.grows.drew ?_))))) (HTZ.out.mono (HZ.out.trans (by (repeat (first | exact World.grows.refl _ | assumption | refine World.grows.alloc ?_ _ | refine World.grows.plus ?_ _ _ | refine World.grows.drew ?_))))) (cells_at _ _ _ 3 1 _ rfl (by decide) (fun i j hi hj => by have hj' : j = 0 := (by omega); have hi' : i = 0 ∨ i = 1 ∨ i = 2 ∨ i = 3 ∨ i = 4 := (by omega); subst hj'; rcases hi' with rfl | rfl | rfl | rfl | rfl <;> first | rfl | omega))).mono ?_
  rintro e U ⟨rfl, g⟩
  replace q10 := World.grows.cell_of (World.grows.trans (by (repeat (first | exact World.grows.refl _ | assumption | refine World.grows.alloc ?_ _ | refine World.grows.plus ?_ _ _ | refine World.grows.drew ?_))) g) q10; replace q11 := World.grows.cell_of (World.grows.trans (by (repeat (first | exact World.grows.refl _ | assumption | refine World.grows.alloc ?_ _ | refine World.grows.plus ?_ _ _ | refine World.grows.drew ?_))) g) q11; replace q20 := World.grows.cell_of (World.grows.trans (by (repeat (first | exact World.grows.refl _ | assumption | refine World.grows.alloc ?_ _ | refine World.grows.plus ?_ _ _ | refine World.grows.drew ?_))) g) q20; replace q21 := World.grows.cell_of (World.grows.trans (by (repeat (first | exact World.grows.refl _ | assumption | refine World.grows.alloc ?_ _ | refine World.grows.plus ?_ _ _ | refine World.grows.drew ?_))) g) q21; replace q30 := World.grows.cell_of (World.grows.trans (by (repeat (first | exact World.grows.refl _ | assumption | refine World.grows.alloc ?_ _ | refine World.grows.plus ?_ _ _ | refine World.grows.drew ?_))) g) q30; replace q31 := World.grows.cell_of (World.grows.trans (by (repeat (first | exact World.grows.refl _ | assumption | refine World.grows.alloc ?_ _ | refine World.grows.plus ?_ _ _ | refine World.grows.drew ?_))) g) q31; replace HZ := Lib.hid (HZ.out.trans (World.grows.trans (by (repeat (first | exact World.grows.refl _ | assumption | refine World.grows.alloc ?_ _ | refine World.grows.plus ?_ _ _ | refine World.grows.drew ?_))) g)); clear g
  go_wp2_with (go_at_call 44; fail)
  refine (w_tr (HR1.out.mono (HZ.out.trans (by (repeat (first | exact World.grows.refl _ | assumption | refine World.grows.alloc ?_ _ | refine World.grows.plus ?_ _ _ | refine World.grows.drew ?_))))) (HTZ.out.mono (HZ.out.trans (by (repeat (first | exact World.grows.refl _ | assumption | refine World.grows.alloc ?_ _ | refine World.grows.plus ?_ _ _ | refine World.grows.drew ?_)))))).mono ?_
  rintro e U ⟨rfl, g⟩
  replace q10 := World.grows.cell_of (World.grows.trans (by (repeat (first | exact World.grows.refl _ | assumption | refine World.grows.alloc ?_ _ | refine World.grows.plus ?_ _ _ | refine World.grows.drew ?_))) g) q10; replace q11 := World.grows.cell_of (World.grows.trans (by (repeat (first | exact World.grows.refl _ | assumption | refine World.grows.alloc ?_ _ | refine World.grows.plus ?_ _ _ | refine World.grows.drew ?_))) g) q11; replace q20 := World.grows.cell_of (World.grows.trans (by (repeat (first | exact World.grows.refl _ | assumption | refine World.grows.alloc ?_ _ | refine World.grows.plus ?_ _ _ | refine World.grows.drew ?_))) g) q20; replace q21 := World.grows.cell_of (World.grows.trans (by (repeat (first | exact World.grows.refl _ | assumption | refine World.grows.alloc ?_ _ | refine World.grows.plus ?_ _ _ | refine World.grows.drew ?_))) g) q21; replace q30 := World.grows.cell_of (World.grows.trans (by (repeat (first | exact World.grows.refl _ | assumption | refine World.grows.alloc ?_ _ | refine World.grows.plus ?_ _ _ | refine World.grows.drew ?_))) g) q30; replace q31 := World.grows.cell_of (World.grows.trans (by (repeat (first | exact World.grows.refl _ | assumption | refine World.grows.alloc ?_ _ | refine World.grows.plus ?_ _ _ | refine World.grows.drew ?_))) g) q31; replace HZ := Lib.hid (HZ.out.trans (World.grows.trans (by (repeat (first | exact World.grows.refl _ | assumption | refine World.grows.alloc ?_ _ | refine World.grows.plus ?_ _ _ | refine World.grows.drew ?_))) g)); clear g
  go_wp2_with (go_at_call 44; fail)
  refine (w_be (HR1.out.mono (HZ.out.trans (by (repeat (first | exact World.grows.refl _ | assumption | refine World.grows.alloc ?_ _ | refine World.grows.plus ?_ _ _ | refine World.grows.drew ?_)))))).mono ?_
  rintro e U ⟨bx, ba, bn, bc, bt, rfl, hB, g⟩
  have HB := Lib.hid hB
  replace q10 := World.grows.cell_of (World.grows.trans (by (repeat (first | exact World.grows.refl _ | assumption | refine World.grows.alloc ?_ _ | refine World.grows.plus ?_ _ _ | refine World.grows.drew ?_))) g) q10; replace q11 := World.grows.cell_of (World.grows.trans (by (repeat (first | exact World.grows.refl _ | assumption | refine World.grows.alloc ?_ _ | refine World.grows.plus ?_ _ _ | refine World.grows.drew ?_))) g) q11; replace q20 := World.grows.cell_of (World.grows.trans (by (repeat (first | exact World.grows.refl _ | assumption | refine World.grows.alloc ?_ _ | refine World.grows.plus ?_ _ _ | refine World.grows.drew ?_))) g) q20; replace q21 := World.grows.cell_of (World.grows.trans (by (repeat (first | exact World.grows.refl _ | assumption | refine World.grows.alloc ?_ _ | refine World.grows.plus ?_ _ _ | refine World.grows.drew ?_))) g) q21; replace q30 := World.grows.cell_of (World.grows.trans (by (repeat (first | exact World.grows.refl _ | assumption | refine World.grows.alloc ?_ _ | refine World.grows.plus ?_ _ _ | refine World.grows.drew ?_))) g) q30; replace q31 := World.grows.cell_of (World.grows.trans (by (repeat (first | exact World.grows.refl _ | assumption | refine World.grows.alloc ?_ _ | refine World.grows.plus ?_ _ _ | refine World.grows.drew ?_))) g) q31; replace HZ := Lib.hid (HZ.out.trans (World.grows.trans (by (repeat (first | exact World.grows.refl _ | assumption | refine World.grows.alloc ?_ _ | refine World.grows.plus ?_ _ _ | refine World.grows.drew ?_))) g)); clear g
  clear hB
  go_wp2
  clear q20 q21 q30 q31
  have q80 : (U.alloc (Obj.cells #[Value.int IntKind.i64 bx, Value.slice ba bn bc] 28)).cell? ⟨U.heap.size, 0, none⟩ = some (.int .i64 bx) := cell_of_heap (World.heap_at _ _ _ rfl) rfl
  have q81 : (U.alloc (Obj.cells #[Value.int IntKind.i64 bx, Value.slice ba bn bc] 28)).cell? ⟨U.heap.size, 1, none⟩ = some (.slice ba bn bc) := cell_of_heap (World.heap_at _ _ _ rfl) rfl
  replace q10 := World.grows.cell_of (World.grows.alloc (World.grows.refl U) (Obj.cells #[Value.int IntKind.i64 bx, Value.slice ba bn bc] 28)) q10
  replace q11 := World.grows.cell_of (World.grows.alloc (World.grows.refl U) (Obj.cells #[Value.int IntKind.i64 bx, Value.slice ba bn bc] 28)) q11
  replace HZ := Lib.hid (HZ.out.trans (World.grows.alloc (World.grows.refl U) (Obj.cells #[Value.int IntKind.i64 bx, Value.slice ba bn bc] 28)))
  replace HB := Lib.hid (And.intro (HB.out.1.mono (World.grows.alloc (World.grows.refl U) (Obj.cells #[Value.int IntKind.i64 bx, Value.slice ba bn bc] 28))) HB.out.2)
  obtain ⟨k8, hk8⟩ : ∃ k, U.heap.size = k := ⟨_, rfl⟩
  rw [hk8] at q80 q81 ⊢
  generalize World.alloc _ _ = Y at q80 q81 q10 q11 HZ HB ⊢
  clear hk8
  have HY : Hid (Y.grows Y) := Lib.hid (World.grows.refl _)
  (refine wp_region_chainR 3 [1, 2] (by kernel_rfl) (by kernel_rfl) (by decide) ?_; simp only [without, only, withNo, List.take_succ_cons, List.take_zero, List.drop_succ_cons, List.drop_zero, List.take_nil, List.drop_nil, Nat.reduceAdd, Nat.reduceSub, List.filter, List.contains_cons, List.contains_nil, Nat.reduceBEq, Bool.or_false, Bool.false_or, Bool.true_or, Bool.or_true, Bool.or_self, Bool.not_true, Bool.not_false, List.map_cons, List.map_nil]; (repeat (refine wpCalm_step (fun K hK => ?_); go_simp; first | (refine hK _ ?_; clear hK K) | (apply Exists.intro; refine ⟨fun n' x' => ?_, hK _ ?_⟩; (fail); clear hK K))); refine wpCalm_nil ?_)
  (refine wpChain_step (fun K hK nc xc => ?_); go_simp)
  refine (exTab_c _ _).mono ?_
  rintro e T ⟨v, rfl, hT, g⟩
  refine ⟨_, rfl, g, hK _ _ ?_⟩
  clear hK K
  replace HY := Lib.hid (HY.out.trans (World.grows.trans (by (repeat (first | exact World.grows.refl _ | assumption | refine World.grows.alloc ?_ _ | refine World.grows.plus ?_ _ _ | refine World.grows.drew ?_))) g))
  replace q10 := World.grows.cell_of (World.grows.trans (by (repeat (first | exact World.grows.refl _ | assumption | refine World.grows.alloc ?_ _ | refine World.grows.plus ?_ _ _ | refine World.grows.drew ?_))) g) q10; replace q11 := World.grows.cell_of (World.grows.trans (by (repeat (first | exact World.grows.refl _ | assumption | refine World.grows.alloc ?_ _ | refine World.grows.plus ?_ _ _ | refine World.grows.drew ?_))) g) q11; replace q80 := World.grows.cell_of (World.grows.trans (by (repeat (first | exact World.grows.refl _ | assumption | refine World.grows.alloc ?_ _ | refine World.grows.plus ?_ _ _ | refine World.grows.drew ?_))) g) q80; replace q81 := World.grows.cell_of (World.grows.trans (by (repeat (first | exact World.grows.refl _ | assumption | refine World.grows.alloc ?_ _ | refine World.grows.plus ?_ _ _ | refine World.grows.drew ?_))) g) q81
  clear g
  (refine wpChain_step (fun K hK nc xc => ?_); go_simp)
  refine (w_bo12 (HR1.out.mono (HZ.out.trans (HY.out.trans (by (repeat (first | exact World.grows.refl _ | assumption | refine World.grows.alloc ?_ _ | refine World.grows.plus ?_ _ _ | refine World.grows.drew ?_)))))) (hT.mono (by (repeat (first | exact World.grows.refl _ | assumption | refine World.grows.alloc ?_ _ | refine World.grows.plus ?_ _ _ | refine World.grows.drew ?_))))).mono ?_
  rintro e U ⟨rfl, g⟩
  refine ⟨_, rfl, g, hK _ _ ?_⟩
  clear hK K
  replace HY := Lib.hid (HY.out.trans (World.grows.trans (by (repeat (first | exact World.grows.refl _ | assumption | refine World.grows.alloc ?_ _ | refine World.grows.plus ?_ _ _ | refine World.grows.drew ?_))) g))
  replace q10 := World.grows.cell_of (World.grows.trans (by (repeat (first | exact World.grows.refl _ | assumption | refine World.grows.alloc ?_ _ | refine World.grows.plus ?_ _ _ | refine World.grows.drew ?_))) g) q10; replace q11 := World.grows.cell_of (World.grows.trans (by (repeat (first | exact World.grows.refl _ | assumption | refine World.grows.alloc ?_ _ | refine World.grows.plus ?_ _ _ | refine World.grows.drew ?_))) g) q11; replace q80 := World.grows.cell_of (World.grows.trans (by (repeat (first | exact World.grows.refl _ | assumption | refine World.grows.alloc ?_ _ | refine World.grows.plus ?_ _ _ | refine World.grows.drew ?_))) g) q80; replace q81 := World.grows.cell_of (World.grows.trans (by (repeat (first | exact World.grows.refl _ | assumption | refine World.grows.alloc ?_ _ | refine World.grows.plus ?_ _ _ | refine World.grows.drew ?_))) g) q81
  clear g hT
  (refine wpChain_nil (fun nc xc => ?_))
  ((try simp only [without, only, withNo, List.take_succ_cons, List.take_zero, List.drop_succ_cons, List.drop_zero, List.take_nil, List.drop_nil, Nat.reduceAdd, Nat.reduceSub, List.filter, List.contains_cons, List.contains_nil, Nat.reduceBEq, Bool.or_false, Bool.false_or, Bool.true_or, Bool.or_true, Bool.or_self, Bool.not_true, Bool.not_false, List.map_cons, List.map_nil]); (repeat (refine wpCalm_step (fun K hK => ?_); go_simp; first | (refine hK _ ?_; clear hK K) | (apply Exists.intro; refine ⟨fun n' x' => ?_, hK _ ?_⟩; (fail); clear hK K))); refine wpCalm_nil ?_; intro nq xq)
  go_upto_region 11 with fail
  (refine wp_region_chainR 3 [1, 2] (by kernel_rfl) (by kernel_rfl) (by decide) ?_; simp only [without, only, withNo, List.take_succ_cons, List.take_zero, List.drop_succ_cons, List.drop_zero, List.take_nil, List.drop_nil, Nat.reduceAdd, Nat.reduceSub, List.filter, List.contains_cons, List.contains_nil, Nat.reduceBEq, Bool.or_false, Bool.false_or, Bool.true_or, Bool.or_true, Bool.or_self, Bool.not_true, Bool.not_false, List.map_cons, List.map_nil]; (repeat (refine wpCalm_step (fun K hK => ?_); go_simp; first | (refine hK _ ?_; clear hK K) | (apply Exists.intro; refine ⟨fun n' x' => ?_, hK _ ?_⟩; (fail); clear hK K))); refine wpCalm_nil ?_)
  (refine wpChain_step (fun K hK nc xc => ?_); go_simp)
  refine (exTab_c _ _).mono ?_
  rintro e T ⟨v, rfl, hT, g⟩
  refine ⟨_, rfl, g, hK _ _ ?_⟩
  clear hK K
  replace HY := Lib.hid (HY.out.trans (World.grows.trans (by (repeat (first | exact World.grows.refl _ | assumption | refine World.grows.alloc ?_ _ | refine World.grows.plus ?_ _ _ | refine World.grows.drew ?_))) g))
  replace q10 := World.grows.cell_of (World.grows.trans (by (repeat (first | exact World.grows.refl _ | assumption | refine World.grows.alloc ?_ _ | refine World.grows.plus ?_ _ _ | refine World.grows.drew ?_))) g) q10; replace q11 := World.grows.cell_of (World.grows.trans (by (repeat (first | exact World.grows.refl _ | assumption | refine World.grows.alloc ?_ _ | refine World.grows.plus ?_ _ _ | refine World.grows.drew ?_))) g) q11; replace q80 := World.grows.cell_of (World.grows.trans (by (repeat (first | exact World.grows.refl _ | assumption | refine World.grows.alloc ?_ _ | refine World.grows.plus ?_ _ _ | refine World.grows.drew ?_))) g) q80; replace q81 := World.grows.cell_of (World.grows.trans (by (repeat (first | exact World.grows.refl _ | assumption | refine World.grows.alloc ?_ _ | refine World.grows.plus ?_ _ _ | refine World.grows.drew ?_))) g) q81
  clear g
  (refine wpChain_step (fun K hK nc xc => ?_); go_simp)
  refine (w_bo13 (HR1.out.mono (HZ.out.trans (HY.out.trans (by (repeat (first | exact World.grows.refl _ | assumption | refine World.grows.alloc ?_ _ | refine World.grows.plus ?_ _ _ | refine World.grows.drew ?_)))))) (hT.mono (by (repeat (first | exact World.grows.refl _ | assumption | refine World.grows.alloc ?_ _ | refine World.grows.plus ?_ _ _ | refine World.grows.drew ?_))))).mono ?_
  rintro e U ⟨rfl, g⟩
  refine ⟨_, rfl, g, hK _ _ ?_⟩
  clear hK K
  replace HY := Lib.hid (HY.out.trans (World.grows.trans (by (repeat (first | exact World.grows.refl _ | assumption | refine World.grows.alloc ?_ _ | refine World.grows.plus ?_ _ _ | refine World.grows.drew ?_))) g))
  replace q10 := World.grows.cell_of (World.grows.trans (by (repeat (first | exact World.grows.refl _ | assumption | refine World.grows.alloc ?_ _ | refine World.grows.plus ?_ _ _ | refine World.grows.drew ?_))) g) q10; replace q11 := World.grows.cell_of (World.grows.trans (by (repeat (first | exact World.grows.refl _ | assumption | refine World.grows.alloc ?_ _ | refine World.grows.plus ?_ _ _ | refine World.grows.drew ?_))) g) q11; replace q80 := World.grows.cell_of (World.grows.trans (by (repeat (first | exact World.grows.refl _ | assumption | refine World.grows.alloc ?_ _ | refine World.grows.plus ?_ _ _ | refine World.grows.drew ?_))) g) q80; replace q81 := World.grows.cell_of (World.grows.trans (by (repeat (first | exact World.grows.refl _ | assumption | refine World.grows.alloc ?_ _ | refine World.grows.plus ?_ _ _ | refine World.grows.drew ?_))) g) q81
  clear g hT
  (refine wpChain_nil (fun nc xc => ?_))
  ((try simp only [without, only, withNo, List.take_succ_cons, List.take_zero, List.drop_succ_cons, List.drop_zero, List.take_nil, List.drop_nil, Nat.reduceAdd, Nat.reduceSub, List.filter, List.contains_cons, List.contains_nil, Nat.reduceBEq, Bool.or_false, Bool.false_or, Bool.true_or, Bool.or_true, Bool.or_self, Bool.not_true, Bool.not_false, List.map_cons, List.map_nil]); (repeat (refine wpCalm_step (fun K hK => ?_); go_simp; first | (refine hK _ ?_; clear hK K) | (apply Exists.intro; refine ⟨fun n' x' => ?_, hK _ ?_⟩; (fail); clear hK K))); refine wpCalm_nil ?_; intro nq xq)
  go_wp2_with (go_at_call 44; fail)
  refine (w_tab (HR1.out.mono (HZ.out.trans (HY.out.trans (by (repeat (first | exact World.grows.refl _ | assumption | refine World.grows.alloc ?_ _ | refine World.grows.plus ?_ _ _ | refine World.grows.drew ?_))))))).mono ?_
  rintro e U ⟨la, ln, lc, rfl, hL, g⟩
  replace q10 := World.grows.cell_of (World.grows.trans (by (repeat (first | exact World.grows.refl _ | assumption | refine World.grows.alloc ?_ _ | refine World.grows.plus ?_ _ _ | refine World.grows.drew ?_))) g) q10; replace q11 := World.grows.cell_of (World.grows.trans (by (repeat (first | exact World.grows.refl _ | assumption | refine World.grows.alloc ?_ _ | refine World.grows.plus ?_ _ _ | refine World.grows.drew ?_))) g) q11; replace q80 := World.grows.cell_of (World.grows.trans (by (repeat (first | exact World.grows.refl _ | assumption | refine World.grows.alloc ?_ _ | refine World.grows.plus ?_ _ _ | refine World.grows.drew ?_))) g) q80; replace q81 := World.grows.cell_of (World.grows.trans (by (repeat (first | exact World.grows.refl _ | assumption | refine World.grows.alloc ?_ _ | refine World.grows.plus ?_ _ _ | refine World.grows.drew ?_))) g) q81
  replace HY := Lib.hid (HY.out.trans (World.grows.trans (by (repeat (first | exact World.grows.refl _ | assumption | refine World.grows.alloc ?_ _ | refine World.grows.plus ?_ _ _ | refine World.grows.drew ?_))) g))
  have HL := Lib.hid hL
  have HU1 : Hid (U.grows U) := Lib.hid (World.grows.refl _)
  clear g hL
  go_wp2_with (go_at_call 44; fail)
  refine (w_fix (HR1.out.mono (HZ.out.trans (HY.out.trans (by (repeat (first | exact World.grows.refl _ | assumption | refine World.grows.alloc ?_ _ | refine World.grows.plus ?_ _ _ | refine World.grows.drew ?_))))))).mono ?_
  rintro e U ⟨fa, fc, rfl, hF, g⟩
  replace q10 := World.grows.cell_of (World.grows.trans (by (repeat (first | exact World.grows.refl _ | assumption | refine World.grows.alloc ?_ _ | refine World.grows.plus ?_ _ _ | refine World.grows.drew ?_))) g) q10; replace q11 := World.grows.cell_of (World.grows.trans (by (repeat (first | exact World.grows.refl _ | assumption | refine World.grows.alloc ?_ _ | refine World.grows.plus ?_ _ _ | refine World.grows.drew ?_))) g) q11; replace q80 := World.grows.cell_of (World.grows.trans (by (repeat (first | exact World.grows.refl _ | assumption | refine World.grows.alloc ?_ _ | refine World.grows.plus ?_ _ _ | refine World.grows.drew ?_))) g) q80; replace q81 := World.grows.cell_of (World.grows.trans (by (repeat (first | exact World.grows.refl _ | assumption | refine World.grows.alloc ?_ _ | refine World.grows.plus ?_ _ _ | refine World.grows.drew ?_))) g) q81
  replace HY := Lib.hid (HY.out.trans (World.grows.trans (by (repeat (first | exact World.grows.refl _ | assumption | refine World.grows.alloc ?_ _ | refine World.grows.plus ?_ _ _ | refine World.grows.drew ?_))) g))
  replace HU1 := Lib.hid (HU1.out.trans (World.grows.trans (by (repeat (first | exact World.grows.refl _ | assumption | refine World.grows.alloc ?_ _ | refine World.grows.plus ?_ _ _ | refine World.grows.drew ?_))) g))
  have HF := Lib.hid hF
  have HU2 : Hid (U.grows U) := Lib.hid (World.grows.refl _)
  clear g hF
  go_wp2_with (go_at_call 44; fail)
  refine (w_cf (HR1.out.mono (HZ.out.trans (HY.out.trans (by (repeat (first | exact World.grows.refl _ | assumption | refine World.grows.alloc ?_ _ | refine World.grows.plus ?_ _ _ | refine World.grows.drew ?_)))))) (cells_at _ _ _ 2 1 _ rfl (by decide) (fun i j hi hj => by have hj' : j = 0 := (by omega); have hi' : i = 0 ∨ i = 1 ∨ i = 2 ∨ i = 3 ∨ i = 4 := (by omega); subst hj'; rcases hi' with rfl | rfl | rfl | rfl | rfl <;> first | rfl | omega))).mono ?_
  rintro e U ⟨rfl, g⟩
  replace q10 := World.grows.cell_of (World.grows.trans (by (repeat (first | exact World.grows.refl _ | assumption | refine World.grows.alloc ?_ _ | refine World.grows.plus ?_ _ _ | refine World.grows.drew ?_))) g) q10; replace q11 := World.grows.cell_of (World.grows.trans (by (repeat (first | exact World.grows.refl _ | assumption | refine World.grows.alloc ?_ _ | refine World.grows.plus ?_ _ _ | refine World.grows.drew ?_))) g) q11; replace q80 := World.grows.cell_of (World.grows.trans (by (repeat (first | exact World.grows.refl _ | assumption | refine World.grows.alloc ?_ _ | refine World.grows.plus ?_ _ _ | refine World.grows.drew ?_))) g) q80; replace q81 := World.grows.cell_of (World.grows.trans (by (repeat (first | exact World.grows.refl _ | assumption | refine World.grows.alloc ?_ _ | refine World.grows.plus ?_ _ _ | refine World.grows.drew ?_))) g) q81
  replace HY := Lib.hid (HY.out.trans (World.grows.trans (by (repeat (first | exact World.grows.refl _ | assumption | refine World.grows.alloc ?_ _ | refine World.grows.plus ?_ _ _ | refine World.grows.drew ?_))) g))
  replace HU1 := Lib.hid (HU1.out.trans (World.grows.trans (by (repeat (first | exact World.grows.refl _ | assumption | refine World.grows.alloc ?_ _ | refine World.grows.plus ?_ _ _ | refine World.grows.drew ?_))) g))
  replace HU2 := Lib.hid (HU2.out.trans (World.grows.trans (by (repeat (first | exact World.grows.refl _ | assumption | refine World.grows.alloc ?_ _ | refine World.grows.plus ?_ _ _ | refine World.grows.drew ?_))) g))
  clear g
  go_wp2_with (go_at_call 44; fail)
  refine (w_mu (HR1.out.mono (HZ.out.trans (HY.out.trans (by (repeat (first | exact World.grows.refl _ | assumption | refine World.grows.alloc ?_ _ | refine World.grows.plus ?_ _ _ | refine World.grows.drew ?_))))))).mono ?_
  rintro e U ⟨ma, mc, rfl, hM, g⟩
  replace q10 := World.grows.cell_of (World.grows.trans (by (repeat (first | exact World.grows.refl _ | assumption | refine World.grows.alloc ?_ _ | refine World.grows.plus ?_ _ _ | refine World.grows.drew ?_))) g) q10; replace q11 := World.grows.cell_of (World.grows.trans (by (repeat (first | exact World.grows.refl _ | assumption | refine World.grows.alloc ?_ _ | refine World.grows.plus ?_ _ _ | refine World.grows.drew ?_))) g) q11; replace q80 := World.grows.cell_of (World.grows.trans (by (repeat (first | exact World.grows.refl _ | assumption | refine World.grows.alloc ?_ _ | refine World.grows.plus ?_ _ _ | refine World.grows.drew ?_))) g) q80; replace q81 := World.grows.cell_of (World.grows.trans (by (repeat (first | exact World.grows.refl _ | assumption | refine World.grows.alloc ?_ _ | refine World.grows.plus ?_ _ _ | refine World.grows.drew ?_))) g) q81
  replace HY := Lib.hid (HY.out.trans (World.grows.trans (by (repeat (first | exact World.grows.refl _ | assumption | refine World.grows.alloc ?_ _ | refine World.grows.plus ?_ _ _ | refine World.grows.drew ?_))) g))
  replace HU1 := Lib.hid (HU1.out.trans (World.grows.trans (by (repeat (first | exact World.grows.refl _ | assumption | refine World.grows.alloc ?_ _ | refine World.grows.plus ?_ _ _ | refine World.grows.drew ?_))) g))
  replace HU2 := Lib.hid (HU2.out.trans (World.grows.trans (by (repeat (first | exact World.grows.refl _ | assumption | refine World.grows.alloc ?_ _ | refine World.grows.plus ?_ _ _ | refine World.grows.drew ?_))) g))
  have HM := Lib.hid hM
  have HU3 : Hid (U.grows U) := Lib.hid (World.grows.refl _)
  clear g hM
  go_wp2_with (go_at_call 44; fail)
  refine (w_rt (HR1.out.mono (HZ.out.trans (HY.out.trans (by (repeat (first | exact World.grows.refl _ | assumption | refine World.grows.alloc ?_ _ | refine World.grows.plus ?_ _ _ | refine World.grows.drew ?_)))))) (HB.out.1.mono (HY.out.trans (by (repeat (first | exact World.grows.refl _ | assumption | refine World.grows.alloc ?_ _ | refine World.grows.plus ?_ _ _ | refine World.grows.drew ?_))))) HB.out.2.1 HB.out.2.2).mono ?_
  rintro e U ⟨rfl, g⟩
  replace q10 := World.grows.cell_of (World.grows.trans (by (repeat (first | exact World.grows.refl _ | assumption | refine World.grows.alloc ?_ _ | refine World.grows.plus ?_ _ _ | refine World.grows.drew ?_))) g) q10; replace q11 := World.grows.cell_of (World.grows.trans (by (repeat (first | exact World.grows.refl _ | assumption | refine World.grows.alloc ?_ _ | refine World.grows.plus ?_ _ _ | refine World.grows.drew ?_))) g) q11; replace q80 := World.grows.cell_of (World.grows.trans (by (repeat (first | exact World.grows.refl _ | assumption | refine World.grows.alloc ?_ _ | refine World.grows.plus ?_ _ _ | refine World.grows.drew ?_))) g) q80; replace q81 := World.grows.cell_of (World.grows.trans (by (repeat (first | exact World.grows.refl _ | assumption | refine World.grows.alloc ?_ _ | refine World.grows.plus ?_ _ _ | refine World.grows.drew ?_))) g) q81
  replace HY := Lib.hid (HY.out.trans (World.grows.trans (by (repeat (first | exact World.grows.refl _ | assumption | refine World.grows.alloc ?_ _ | refine World.grows.plus ?_ _ _ | refine World.grows.drew ?_))) g))
  replace HU1 := Lib.hid (HU1.out.trans (World.grows.trans (by (repeat (first | exact World.grows.refl _ | assumption | refine World.grows.alloc ?_ _ | refine World.grows.plus ?_ _ _ | refine World.grows.drew ?_))) g))
  replace HU2 := Lib.hid (HU2.out.trans (World.grows.trans (by (repeat (first | exact World.grows.refl _ | assumption | refine World.grows.alloc ?_ _ | refine World.grows.plus ?_ _ _ | refine World.grows.drew ?_))) g))
  replace HU3 := Lib.hid (HU3.out.trans (World.grows.trans (by (repeat (first | exact World.grows.refl _ | assumption | refine World.grows.alloc ?_ _ | refine World.grows.plus ?_ _ _ | refine World.grows.drew ?_))) g))
  clear g
  go_wp2_with (go_at_call 44; fail)
  refine (w_rb (HR1.out.mono (HZ.out.trans (HY.out.trans (by (repeat (first | exact World.grows.refl _ | assumption | refine World.grows.alloc ?_ _ | refine World.grows.plus ?_ _ _ | refine World.grows.drew ?_)))))) (HL.out.mono (HU1.out.trans (by (repeat (first | exact World.grows.refl _ | assumption | refine World.grows.alloc ?_ _ | refine World.grows.plus ?_ _ _ | refine World.grows.drew ?_)))))).mono ?_
  rintro e U ⟨rfl, g⟩
  clear q10 q11 q80 q81
  replace HY := Lib.hid (HY.out.trans (World.grows.trans (by (repeat (first | exact World.grows.refl _ | assumption | refine World.grows.alloc ?_ _ | refine World.grows.plus ?_ _ _ | refine World.grows.drew ?_))) g))
  replace HU2 := Lib.hid (HU2.out.trans (World.grows.trans (by (repeat (first | exact World.grows.refl _ | assumption | refine World.grows.alloc ?_ _ | refine World.grows.plus ?_ _ _ | refine World.grows.drew ?_))) g))
  replace HU3 := Lib.hid (HU3.out.trans (World.grows.trans (by (repeat (first | exact World.grows.refl _ | assumption | refine World.grows.alloc ?_ _ | refine World.grows.plus ?_ _ _ | refine World.grows.drew ?_))) g))
  clear g HU1 HL
  go_wp2_with (go_at_call 44; fail)
  refine (w_in (HF.out.mono (HU2.out.trans (by (repeat (first | exact World.grows.refl _ | assumption | refine World.grows.alloc ?_ _ | refine World.grows.plus ?_ _ _ | refine World.grows.drew ?_))))) (cells_at _ _ _ 2 1 _ rfl (by decide) (fun i j hi hj => by have hj' : j = 0 := (by omega); have hi' : i = 0 ∨ i = 1 ∨ i = 2 ∨ i = 3 ∨ i = 4 := (by omega); subst hj'; rcases hi' with rfl | rfl | rfl | rfl | rfl <;> first | rfl | omega))).mono ?_
  rintro e U ⟨rfl, g⟩
  replace HY := Lib.hid (HY.out.trans (World.grows.trans (by (repeat (first | exact World.grows.refl _ | assumption | refine World.grows.alloc ?_ _ | refine World.grows.plus ?_ _ _ | refine World.grows.drew ?_))) g))
  replace HU3 := Lib.hid (HU3.out.trans (World.grows.trans (by (repeat (first | exact World.grows.refl _ | assumption | refine World.grows.alloc ?_ _ | refine World.grows.plus ?_ _ _ | refine World.grows.drew ?_))) g))
  clear g HU2
  go_wp2_with (go_at_call 44; fail)
  refine (w_in (HM.out.mono (HU3.out.trans (by (repeat (first | exact World.grows.refl _ | assumption | refine World.grows.alloc ?_ _ | refine World.grows.plus ?_ _ _ | refine World.grows.drew ?_))))) (cells_at _ _ _ 2 1 _ rfl (by decide) (fun i j hi hj => by have hj' : j = 0 := (by omega); have hi' : i = 0 ∨ i = 1 ∨ i = 2 ∨ i = 3 ∨ i = 4 := (by omega); subst hj'; rcases hi' with rfl | rfl | rfl | rfl | rfl <;> first | rfl | omega))).mono ?_
  rintro e U ⟨rfl, g⟩
  replace HY := Lib.hid (HY.out.trans (World.grows.trans (by (repeat (first | exact World.grows.refl _ | assumption | refine World.grows.alloc ?_ _ | refine World.grows.plus ?_ _ _ | refine World.grows.drew ?_))) g))
  clear g HU3
  go_wp2
  (refine bodyPost_ret (v := .bool true) (by simp [results, Try.results14, go_sem]) rfl ?_)
  exact ⟨rfl, HG.out.trans (HZ.out.trans (HY.out.trans (by (repeat (first | exact World.grows.refl _ | assumption | refine World.grows.alloc ?_ _ | refine World.grows.plus ?_ _ _ | refine World.grows.drew ?_)))))⟩
end Go.Proofs.Ytdminglglapnlaa

/-
  What is proved: MarkRegisters (3) answers true.
-/
namespace Go.Proofs.Ytdminglglapnlaa
open Go.RowKit
attribute [local irreducible] Go.wpCalm

set_option maxRecDepth 100000 in
set_option maxHeartbeats 8000000 in
theorem registers_w (w : World) (rv : Value) (r : Reg) (hr : RegAt w rv r) (tv : Value) (t : Tr) (ht : TreeAt w tv t) (lv : Value) (n : Nat) (f : Nat → Int) (hl : IntsAt w lv n f) :
    Calls Try.prog 3 #[rv, tv, lv] w fun e w' => e = .returned (.bool true) ∧ w.grows w' := by
  have h12 := fun W (g : w.grows W) => great_c W rv r (hr.mono g)
  have h13 := fun W (g : w.grows W) => tall_c W tv t (ht.mono g)
  have Hr := Lib.hid hr
  have Ht := Lib.hid ht
  have Hl := Lib.hid hl
  obtain ⟨mv, cv, row, rfl, ⟨ma, mc, rfl, -⟩, ⟨ca, cc, rfl, -⟩, -⟩ := hr
  obtain ⟨nv, rfl, row2, ⟨na, nc, rfl, -⟩, -⟩ := ht
  obtain ⟨la, lc, rfl, -⟩ := hl
  go_enter Try.func3, Try.ntmps3
  cases hg : r.greatB with
  | true =>
    rw [hg] at h12
    go_wp2_with (first | (go_at_call 12; refine (h12 _ (by (repeat (first | exact World.grows.refl _ | assumption | refine World.grows.alloc ?_ _ | refine World.grows.plus ?_ _ _ | refine World.grows.drew ?_)))).mono ?_; rintro e w' ⟨rfl, hg⟩; obtain ⟨n2, x2, rfl⟩ := World.plus_of hg) | (go_at_call 13; refine (h13 _ (by (repeat (first | exact World.grows.refl _ | assumption | refine World.grows.alloc ?_ _ | refine World.grows.plus ?_ _ _ | refine World.grows.drew ?_)))).mono ?_; rintro e w' ⟨rfl, hg⟩; obtain ⟨n2, x2, rfl⟩ := World.plus_of hg) | (go_at_call 14; refine (works_c _).mono ?_; rintro e w' ⟨rfl, hg⟩; obtain ⟨n2, x2, rfl⟩ := World.plus_of hg)); (refine bodyPost_ret (v := .bool true) (by simp [results, Try.results3, go_sem]) rfl ?_); exact ⟨rfl, by (repeat (first | exact World.grows.refl _ | assumption | refine World.grows.alloc ?_ _ | refine World.grows.plus ?_ _ _ | refine World.grows.drew ?_))⟩
  | false =>
    rw [hg] at h12
    cases htl : t.tallB with
    | true =>
      rw [htl] at h13
      go_wp2_with (first | (go_at_call 12; refine (h12 _ (by (repeat (first | exact World.grows.refl _ | assumption | refine World.grows.alloc ?_ _ | refine World.grows.plus ?_ _ _ | refine World.grows.drew ?_)))).mono ?_; rintro e w' ⟨rfl, hg⟩; obtain ⟨n2, x2, rfl⟩ := World.plus_of hg) | (go_at_call 13; refine (h13 _ (by (repeat (first | exact World.grows.refl _ | assumption | refine World.grows.alloc ?_ _ | refine World.grows.plus ?_ _ _ | refine World.grows.drew ?_)))).mono ?_; rintro e w' ⟨rfl, hg⟩; obtain ⟨n2, x2, rfl⟩ := World.plus_of hg) | (go_at_call 14; refine (works_c _).mono ?_; rintro e w' ⟨rfl, hg⟩; obtain ⟨n2, x2, rfl⟩ := World.plus_of hg)); (refine bodyPost_ret (v := .bool true) (by simp [results, Try.results3, go_sem]) rfl ?_); exact ⟨rfl, by (repeat (first | exact World.grows.refl _ | assumption | refine World.grows.alloc ?_ _ | refine World.grows.plus ?_ _ _ | refine World.grows.drew ?_))⟩
    | false =>
      rw [htl] at h13
      by_cases hn : 15 < n
      · have hnI : (15 : Int) < (n : Int) := by omega
        go_wp2_with (first | (go_at_call 12; refine (h12 _ (by (repeat (first | exact World.grows.refl _ | assumption | refine World.grows.alloc ?_ _ | refine World.grows.plus ?_ _ _ | refine World.grows.drew ?_)))).mono ?_; rintro e w' ⟨rfl, hg⟩; obtain ⟨n2, x2, rfl⟩ := World.plus_of hg) | (go_at_call 13; refine (h13 _ (by (repeat (first | exact World.grows.refl _ | assumption | refine World.grows.alloc ?_ _ | refine World.grows.plus ?_ _ _ | refine World.grows.drew ?_)))).mono ?_; rintro e w' ⟨rfl, hg⟩; obtain ⟨n2, x2, rfl⟩ := World.plus_of hg) | (go_at_call 14; refine (works_c _).mono ?_; rintro e w' ⟨rfl, hg⟩; obtain ⟨n2, x2, rfl⟩ := World.plus_of hg)); (refine bodyPost_ret (v := .bool true) (by simp [results, Try.results3, go_sem]) rfl ?_); exact ⟨rfl, by (repeat (first | exact World.grows.refl _ | assumption | refine World.grows.alloc ?_ _ | refine World.grows.plus ?_ _ _ | refine World.grows.drew ?_))⟩
      · have hnI : ¬ (15 : Int) < (n : Int) := by omega
        clear hn hg htl
        go_upto_region 1 with fail
        generalize hV : World.alloc _ _ = V
        have gV : w.grows V := by rw [← hV]; (repeat (first | exact World.grows.refl _ | assumption | refine World.grows.alloc ?_ _ | refine World.grows.plus ?_ _ _ | refine World.grows.drew ?_))
        have q10 : V.cell? ⟨w.heap.size, 0, none⟩ = some (.slice ma r.nm mc) := by rw [← hV]; simp [go_sem]
        have q11 : V.cell? ⟨w.heap.size, 1, none⟩ = some (.slice ca r.nc cc) := by rw [← hV]; simp [go_sem]
        have q20 : V.cell? ⟨w.heap.size + 1, 0, none⟩ = some (.int .i64 t.root) := by rw [← hV]; simp [go_sem]
        have q21 : V.cell? ⟨w.heap.size + 1, 1, none⟩ = some (.slice na t.n nc) := by rw [← hV]; simp [go_sem]
        have HZ := Lib.hid gV
        clear hV gV
        go_wp2_with (go_at_call 44; fail)
        refine (h12 _ (HZ.out.trans (by (repeat (first | exact World.grows.refl _ | assumption | refine World.grows.alloc ?_ _ | refine World.grows.plus ?_ _ _ | refine World.grows.drew ?_))))).mono ?_
        rintro e U ⟨rfl, g⟩
        replace q10 := World.grows.cell_of (World.grows.trans (by (repeat (first | exact World.grows.refl _ | assumption | refine World.grows.alloc ?_ _ | refine World.grows.plus ?_ _ _ | refine World.grows.drew ?_))) g) q10; replace q11 := World.grows.cell_of (World.grows.trans (by (repeat (first | exact World.grows.refl _ | assumption | refine World.grows.alloc ?_ _ | refine World.grows.plus ?_ _ _ | refine World.grows.drew ?_))) g) q11; replace q20 := World.grows.cell_of (World.grows.trans (by (repeat (first | exact World.grows.refl _ | assumption | refine World.grows.alloc ?_ _ | refine World.grows.plus ?_ _ _ | refine World.grows.drew ?_))) g) q20; replace q21 := World.grows.cell_of (World.grows.trans (by (repeat (first | exact World.grows.refl _ | assumption | refine World.grows.alloc ?_ _ | refine World.grows.plus ?_ _ _ | refine World.grows.drew ?_))) g) q21; replace HZ := Lib.hid (HZ.out.trans (World.grows.trans (by (repeat (first | exact World.grows.refl _ | assumption | refine World.grows.alloc ?_ _ | refine World.grows.plus ?_ _ _ | refine World.grows.drew ?_))) g)); clear g
        go_wp2_with (go_at_call 44; fail)
        refine (h13 _ (HZ.out.trans (by (repeat (first | exact World.grows.refl _ | assumption | refine World.grows.alloc ?_ _ | refine World.grows.plus ?_ _ _ | refine World.grows.drew ?_))))).mono ?_
        rintro e U ⟨rfl, g⟩
        replace q10 := World.grows.cell_of (World.grows.trans (by (repeat (first | exact World.grows.refl _ | assumption | refine World.grows.alloc ?_ _ | refine World.grows.plus ?_ _ _ | refine World.grows.drew ?_))) g) q10; replace q11 := World.grows.cell_of (World.grows.trans (by (repeat (first | exact World.grows.refl _ | assumption | refine World.grows.alloc ?_ _ | refine World.grows.plus ?_ _ _ | refine World.grows.drew ?_))) g) q11; replace q20 := World.grows.cell_of (World.grows.trans (by (repeat (first | exact World.grows.refl _ | assumption | refine World.grows.alloc ?_ _ | refine World.grows.plus ?_ _ _ | refine World.grows.drew ?_))) g) q20; replace q21 := World.grows.cell_of (World.grows.trans (by (repeat (first | exact World.grows.refl _ | assumption | refine World.grows.alloc ?_ _ | refine World.grows.plus ?_ _ _ | refine World.grows.drew ?_))) g) q21; replace HZ := Lib.hid (HZ.out.trans (World.grows.trans (by (repeat (first | exact World.grows.refl _ | assumption | refine World.grows.alloc ?_ _ | refine World.grows.plus ?_ _ _ | refine World.grows.drew ?_))) g)); clear g
        clear h12 h13
        go_wp2_with (go_at_call 44; fail)
        refine (twins_c _ _ r (Hr.out.mono (HZ.out.trans (by (repeat (first | exact World.grows.refl _ | assumption | refine World.grows.alloc ?_ _ | refine World.grows.plus ?_ _ _ | refine World.grows.drew ?_)))))).mono ?_
        rintro e U ⟨x, y, z, rfl, hT, g⟩
        replace q10 := World.grows.cell_of (World.grows.trans (by (repeat (first | exact World.grows.refl _ | assumption | refine World.grows.alloc ?_ _ | refine World.grows.plus ?_ _ _ | refine World.grows.drew ?_))) g) q10; replace q11 := World.grows.cell_of (World.grows.trans (by (repeat (first | exact World.grows.refl _ | assumption | refine World.grows.alloc ?_ _ | refine World.grows.plus ?_ _ _ | refine World.grows.drew ?_))) g) q11; replace q20 := World.grows.cell_of (World.grows.trans (by (repeat (first | exact World.grows.refl _ | assumption | refine World.grows.alloc ?_ _ | refine World.grows.plus ?_ _ _ | refine World.grows.drew ?_))) g) q20; replace q21 := World.grows.cell_of (World.grows.trans (by (repeat (first | exact World.grows.refl _ | assumption | refine World.grows.alloc ?_ _ | refine World.grows.plus ?_ _ _ | refine World.grows.drew ?_))) g) q21; replace HZ := Lib.hid (HZ.out.trans (World.grows.trans (by (repeat (first | exact World.grows.refl _ | assumption | refine World.grows.alloc ?_ _ | refine World.grows.plus ?_ _ _ | refine World.grows.drew ?_))) g)); clear g
        have HT := Lib.hid hT
        clear hT
        go_wp2_with (go_at_call 44; fail)
        refine (rtwins_c _ _ r (Hr.out.mono (HZ.out.trans (by (repeat (first | exact World.grows.refl _ | assumption | refine World.grows.alloc ?_ _ | refine World.grows.plus ?_ _ _ | refine World.grows.drew ?_)))))).mono ?_
        rintro e U ⟨x', y', z', rfl, hT', g⟩
        replace q10 := World.grows.cell_of (World.grows.trans (by (repeat (first | exact World.grows.refl _ | assumption | refine World.grows.alloc ?_ _ | refine World.grows.plus ?_ _ _ | refine World.grows.drew ?_))) g) q10; replace q11 := World.grows.cell_of (World.grows.trans (by (repeat (first | exact World.grows.refl _ | assumption | refine World.grows.alloc ?_ _ | refine World.grows.plus ?_ _ _ | refine World.grows.drew ?_))) g) q11; replace q20 := World.grows.cell_of (World.grows.trans (by (repeat (first | exact World.grows.refl _ | assumption | refine World.grows.alloc ?_ _ | refine World.grows.plus ?_ _ _ | refine World.grows.drew ?_))) g) q20; replace q21 := World.grows.cell_of (World.grows.trans (by (repeat (first | exact World.grows.refl _ | assumption | refine World.grows.alloc ?_ _ | refine World.grows.plus ?_ _ _ | refine World.grows.drew ?_))) g) q21; replace HZ := Lib.hid (HZ.out.trans (World.grows.trans (by (repeat (first | exact World.grows.refl _ | assumption | refine World.grows.alloc ?_ _ | refine World.grows.plus ?_ _ _ | refine World.grows.drew ?_))) g)); clear g
        obtain ⟨ex, ey, ez⟩ := hT'.unique HT.out
        subst ex ey ez
        clear hT' HT
        obtain ⟨fa, hfa⟩ : ∃ x, t.followA r n f = x := ⟨_, rfl⟩
        obtain ⟨fc, hfc⟩ : ∃ x, t.followC r n f = x := ⟨_, rfl⟩
        obtain ⟨fe, hfe⟩ : ∃ x, t.followE r n f = x := ⟨_, rfl⟩
        have h17 := fun W (g : w.grows W) => pfollow_c W _ r (Hr.out.mono g) _ t (Ht.out.mono g) _ n f (Hl.out.mono g)
        have h18 := fun W (g : w.grows W) => rfollow_c W _ r (Hr.out.mono g) _ t (Ht.out.mono g) _ n f (Hl.out.mono g)
        rw [hfa, hfc, hfe] at h17 h18
        clear hfa hfc hfe
        go_wp2_with (go_at_call 44; fail)
        refine (h17 _ (HZ.out.trans (by (repeat (first | exact World.grows.refl _ | assumption | refine World.grows.alloc ?_ _ | refine World.grows.plus ?_ _ _ | refine World.grows.drew ?_))))).mono ?_
        rintro e U ⟨rfl, g⟩
        replace q10 := World.grows.cell_of (World.grows.trans (by (repeat (first | exact World.grows.refl _ | assumption | refine World.grows.alloc ?_ _ | refine World.grows.plus ?_ _ _ | refine World.grows.drew ?_))) g) q10; replace q11 := World.grows.cell_of (World.grows.trans (by (repeat (first | exact World.grows.refl _ | assumption | refine World.grows.alloc ?_ _ | refine World.grows.plus ?_ _ _ | refine World.grows.drew ?_))) g) q11; replace q20 := World.grows.cell_of (World.grows.trans (by (repeat (first | exact World.grows.refl _ | assumption | refine World.grows.alloc ?_ _ | refine World.grows.plus ?_ _ _ | refine World.grows.drew ?_))) g) q20; replace q21 := World.grows.cell_of (World.grows.trans (by (repeat (first | exact World.grows.refl _ | assumption | refine World.grows.alloc ?_ _ | refine World.grows.plus ?_ _ _ | refine World.grows.drew ?_))) g) q21; replace HZ := Lib.hid (HZ.out.trans (World.grows.trans (by (repeat (first | exact World.grows.refl _ | assumption | refine World.grows.alloc ?_ _ | refine World.grows.plus ?_ _ _ | refine World.grows.drew ?_))) g)); clear g
        go_wp2_with (go_at_call 44; fail)
        refine (h18 _ (HZ.out.trans (by (repeat (first | exact World.grows.refl _ | assumption | refine World.grows.alloc ?_ _ | refine World.grows.plus ?_ _ _ | refine World.grows.drew ?_))))).mono ?_
        rintro e U ⟨rfl, g⟩
        replace q10 := World.grows.cell_of (World.grows.trans (by (repeat (first | exact World.grows.refl _ | assumption | refine World.grows.alloc ?_ _ | refine World.grows.plus ?_ _ _ | refine World.grows.drew ?_))) g) q10; replace q11 := World.grows.cell_of (World.grows.trans (by (repeat (first | exact World.grows.refl _ | assumption | refine World.grows.alloc ?_ _ | refine World.grows.plus ?_ _ _ | refine World.grows.drew ?_))) g) q11; replace q20 := World.grows.cell_of (World.grows.trans (by (repeat (first | exact World.grows.refl _ | assumption | refine World.grows.alloc ?_ _ | refine World.grows.plus ?_ _ _ | refine World.grows.drew ?_))) g) q20; replace q21 := World.grows.cell_of (World.grows.trans (by (repeat (first | exact World.grows.refl _ | assumption | refine World.grows.alloc ?_ _ | refine World.grows.plus ?_ _ _ | refine World.grows.drew ?_))) g) q21; replace HZ := Lib.hid (HZ.out.trans (World.grows.trans (by (repeat (first | exact World.grows.refl _ | assumption | refine World.grows.alloc ?_ _ | refine World.grows.plus ?_ _ _ | refine World.grows.drew ?_))) g)); clear g
        clear h17 h18
        obtain ⟨ta, hta⟩ : ∃ x, t.treeA r = x := ⟨_, rfl⟩
        obtain ⟨te, hte⟩ : ∃ x, t.treeE r = x := ⟨_, rfl⟩
        have h19 := fun W (g : w.grows W) => ptree_c W _ r (Hr.out.mono g) _ t (Ht.out.mono g)
        have h20 := fun W (g : w.grows W) => rtree_c W _ r (Hr.out.mono g) _ t (Ht.out.mono g)
        rw [hta, hte] at h19 h20
        clear hta hte
        go_wp2_with (go_at_call 44; fail)
        refine (h19 _ (HZ.out.trans (by (repeat (first | exact World.grows.refl _ | assumption | refine World.grows.alloc ?_ _ | refine World.grows.plus ?_ _ _ | refine World.grows.drew ?_))))).mono ?_
        rintro e U ⟨rfl, g⟩
        replace q10 := World.grows.cell_of (World.grows.trans (by (repeat (first | exact World.grows.refl _ | assumption | refine World.grows.alloc ?_ _ | refine World.grows.plus ?_ _ _ | refine World.grows.drew ?_))) g) q10; replace q11 := World.grows.cell_of (World.grows.trans (by (repeat (first | exact World.grows.refl _ | assumption | refine World.grows.alloc ?_ _ | refine World.grows.plus ?_ _ _ | refine World.grows.drew ?_))) g) q11; replace q20 := World.grows.cell_of (World.grows.trans (by (repeat (first | exact World.grows.refl _ | assumption | refine World.grows.alloc ?_ _ | refine World.grows.plus ?_ _ _ | refine World.grows.drew ?_))) g) q20; replace q21 := World.grows.cell_of (World.grows.trans (by (repeat (first | exact World.grows.refl _ | assumption | refine World.grows.alloc ?_ _ | refine World.grows.plus ?_ _ _ | refine World.grows.drew ?_))) g) q21; replace HZ := Lib.hid (HZ.out.trans (World.grows.trans (by (repeat (first | exact World.grows.refl _ | assumption | refine World.grows.alloc ?_ _ | refine World.grows.plus ?_ _ _ | refine World.grows.drew ?_))) g)); clear g
        go_wp2_with (go_at_call 44; fail)
        refine (h20 _ (HZ.out.trans (by (repeat (first | exact World.grows.refl _ | assumption | refine World.grows.alloc ?_ _ | refine World.grows.plus ?_ _ _ | refine World.grows.drew ?_))))).mono ?_
        rintro e U ⟨rfl, g⟩
        replace q10 := World.grows.cell_of (World.grows.trans (by (repeat (first | exact World.grows.refl _ | assumption | refine World.grows.alloc ?_ _ | refine World.grows.plus ?_ _ _ | refine World.grows.drew ?_))) g) q10; replace q11 := World.grows.cell_of (World.grows.trans (by (repeat (first | exact World.grows.refl _ | assumption | refine World.grows.alloc ?_ _ | refine World.grows.plus ?_ _ _ | refine World.grows.drew ?_))) g) q11; replace q20 := World.grows.cell_of (World.grows.trans (by (repeat (first | exact World.grows.refl _ | assumption | refine World.grows.alloc ?_ _ | refine World.grows.plus ?_ _ _ | refine World.grows.drew ?_))) g) q20; replace q21 := World.grows.cell_of (World.grows.trans (by (repeat (first | exact World.grows.refl _ | assumption | refine World.grows.alloc ?_ _ | refine World.grows.plus ?_ _ _ | refine World.grows.drew ?_))) g) q21; replace HZ := Lib.hid (HZ.out.trans (World.grows.trans (by (repeat (first | exact World.grows.refl _ | assumption | refine World.grows.alloc ?_ _ | refine World.grows.plus ?_ _ _ | refine World.grows.drew ?_))) g)); clear g
        clear h19 h20
        obtain ⟨ck, hck⟩ : ∃ x, r.check = x := ⟨_, rfl⟩
        have h21 := fun W (g : w.grows W) => check_c W _ r (Hr.out.mono g)
        have h22 := fun W (g : w.grows W) => rcheck_c W _ r (Hr.out.mono g)
        rw [hck] at h21 h22
        clear hck
        go_wp2
        (refine wp_region_calm (by kernel_rfl) (by kernel_rfl) ?_; (repeat (refine wpCalm_step (fun K hK => ?_); go_simp; first | (refine hK _ ?_; clear hK K) | (apply Exists.intro; refine ⟨fun n' x' => ?_, hK _ ?_⟩; (first | exact h21 _ (HZ.out.trans (by (repeat (first | exact World.grows.refl _ | assumption | refine World.grows.alloc ?_ _ | refine World.grows.plus ?_ _ _ | refine World.grows.drew ?_)))) | exact h22 _ (HZ.out.trans (by (repeat (first | exact World.grows.refl _ | assumption | refine World.grows.alloc ?_ _ | refine World.grows.plus ?_ _ _ | refine World.grows.drew ?_)))) | exact works_c _); clear hK K))); refine wpCalm_nil ?_; intro nq xq)
        go_wp2
        (refine bodyPost_ret (v := .bool true) (by simp [results, Try.results3, go_sem]) rfl ?_)
        exact ⟨rfl, HZ.out.trans (by (repeat (first | exact World.grows.refl _ | assumption | refine World.grows.alloc ?_ _ | refine World.grows.plus ?_ _ _ | refine World.grows.drew ?_)))⟩
end Go.Proofs.Ytdminglglapnlaa

/-
  What is proved: a law's row, from a contract that says that the call returns true in a world that has only grown.
-/
namespace Go
open Go.ChangeShapes Go.WideShapes Go.ChangeAt Go.RowKit

theorem trodAll_stays {H : Type} {enc : TypeId × Value → H} {P : Program} (hl : laidOutB P = true) {W W' : World} (hb : Below W.heap.size W W') :
    ∀ {ts : List TypeId} {vs : List Value} {ds : List (DataW H)} {ps : List MemPlace}, (∀ t ∈ ts, P.readableRec t = true ∧ t < P.types.size) →
      DataW.TrodAll enc P W 0 (fun _ => true) true ts vs ds ps → (∀ x ∈ ps, x.block < W.heap.size) → DataW.TrodAll enc P W' 0 (fun b => decide (b < W.heap.size)) true ts vs ds ps
  | [], vs, ds, ps, _, h, _ => by
    obtain ⟨rfl, rfl, rfl⟩ := trodAll_nil h
    rfl
  | t :: ts, vs, ds, ps, ht, h, hlt => by
    match vs, ds, h with
    | v :: vs, d :: ds, ⟨p, q, h1, h2, hp⟩ =>
      subst hp
      exact ⟨p, q, Below.trod hl (ht t (by simp)).1 (ht t (by simp)).2 h1 hb (fun x hx => hlt x (by simp [hx])),
        trodAll_stays hl hb (fun t' h' => ht t' (by simp [h'])) h2 (fun x hx => hlt x (by simp [hx])), rfl⟩

theorem trodAll_len {H : Type} {enc : TypeId × Value → H} {P : Program} {w : World} {base : Nat} {spare : Nat → Bool} {held : Bool} :
    ∀ {ts : List TypeId} {vs : List Value} {ds : List (DataW H)} {ps : List MemPlace}, DataW.TrodAll enc P w base spare held ts vs ds ps → ds.length = ts.length
  | [], vs, ds, ps, h => by
    obtain ⟨rfl, rfl, rfl⟩ := trodAll_nil h
    rfl
  | t :: ts, vs, ds, ps, h => by
    match vs, ds, h with
    | v :: vs, d :: ds, ⟨p, q, h1, h2, hp⟩ =>
      simp only [List.length_cons]
      rw [trodAll_len h2]

theorem law_lifted {C : Checked} {f : FuncId} {fn : Func} {s : ChangeSpec} {tb : TypeId} {conds : List PathCond} {os : Os} (started : os.Started) {H : Type} {enc : TypeId × Value → H}
    (own : ownKnob C.prog.godebug = none) (hl : laidOutB C.prog = true) (noInit : C.prog.inits.idxOf? f = none) (hfn : C.prog.funcs[f]? = some fn)
    (hts : ∀ t ∈ fn.params.toList, C.prog.readableRec t = true ∧ t < C.prog.types.size)
    (witness : ∃ (w : World) (tape : Tape) (i : Input), w.os = os ∧ (w.forCall tape i).Shaped C.prog ∧ i.vars = [] ∧ Input.okWide C.prog (w.forCall tape i) .any w.heap.size f i ∧
      s.pre6 enc C.prog fn conds false (w.forCall tape i).memory i.args ∧ ({} : Assume).holds C.prog (lone (Frame.enter C.prog f i.args .normal) [] (w.forCall tape i)))
    (hres : fn.resultTypes = #[tb]) (hb : C.prog.underlying tb = some .bool) (hvars : s.vars = [])
    (hspec : ∀ ds : List (DataW H), ds.length = fn.params.size → (s.fn H ds).results = [.lit (.bool true)] ∧ (s.fn H ds).args = ds ∧ (s.fn H ds).vars = [])
    (walk : ∀ (W : World) (base : Nat) (args : Array Value) (ds : List (DataW H)) (ps : List MemPlace),
      (∀ (j : Nat) t v, fn.params[j]? = some t → args[j]? = some v → Value.okWide C.prog W .any base t v) →
      DataW.TrodAll enc C.prog W 0 (fun _ => true) true fn.params.toList args.toList ds ps →
      Calls C.prog f args W fun e W' => e = .returned (.bool true) ∧ W.grows W') :
    ReturnsInHanded {} C os f .any (s.pre6 enc C.prog fn conds false) (s.post enc C.prog fn false true false false) := by
  refine returnsInHanded_of_change own started noInit hfn witness ?_
  intro W base args ds gs before hval hW _ _
  have hW' := hW
  obtain ⟨p, q, hA, hV, rfl, _, _⟩ := hW
  rw [hvars] at hV
  obtain ⟨rfl, rfl⟩ := trodVars_none hV
  have hlt : ∀ x ∈ p, x.block < W.heap.size := fun x hx => by simpa using hW'.lt x (by simp [hx])
  have hlen : ds.length = fn.params.size := by simpa using trodAll_len hA
  obtain ⟨s1, s2, s3⟩ := hspec ds hlen
  refine (walk W base args ds p hval hA).mono fun e W' ⟨he, hg⟩ => ?_
  subst he
  refine ⟨_, rfl, ds, [], p ++ [], [], p, [], hW', ?_, ?_, ?_, hg.frame _, fun h => by cases h⟩
  · rw [List.append_nil, s1, hres]
    exact trodAll_mk1 (shut_bool hb _)
  · rw [List.append_nil, s2]
    exact trodAll_stays hl hg hts hA hlt
  · rw [List.append_nil, s3, hvars]
    rfl

end Go

/-
  What is proved: what a call is handed (slices of anything, structs), read as tables of cells.
-/
namespace Go
open Go.ChangeShapes Go.WideShapes Go.ChangeAt Go.RowKit Go.Deep

section
variable {H : Type} {enc : TypeId × Value → H} {P : Program} {w : World} {base : Nat} {held : Bool}

theorem add_spot (b o k : Nat) : (Addr.add ⟨b, o, none⟩ k) = ⟨b, o + k, none⟩ := by
  unfold Addr.add
  by_cases h : k = 0 <;> simp [h]

/-- the cells of a row -/
def cellsOfRow (c : Nat → Value) (sz : Nat) : List Value := (List.range sz).map c

theorem sliceAt_open {t e : TypeId} {fuel sz : Nat} {v : Value} {x : DataW H × List MemPlace} (ht : P.underlying t = some (.slice e)) (hc : P.cellsOf e = sz)
    (h : DataW.trod enc P w base (fun _ => true) held fuel t [v] = some x) :
    ∃ (m n : Nat) (c : Nat → Nat → Value), SliceAt w v m sz c ∧ ∀ i, i < m → ∃ y, DataW.trod enc P w base (fun _ => true) held n e (cellsOfRow (c i) sz) = some y := by
  rcases open_slice ht h with ⟨h1, h2⟩ | ⟨a, len, cap, m, n, D, Pl, hcs, hb, hl, hm, hmm, hx, hr⟩
  · obtain rfl : v = .slice none 0 0 := by simpa using h1
    exact ⟨0, 0, fun _ _ => default, SliceAt.none, fun i hi => absurd hi (by omega)⟩
  · obtain rfl : v = .slice (some a) len cap := by simpa using hcs
    simp only [if_true] at hmm
    subst hmm
    rw [hc] at hr
    obtain ⟨cs, hcsx⟩ := choose_lt (α := List Value) hr
    refine ⟨len, n, fun i j => (cs i).getD j default, ⟨some a, m, rfl, hl, hm, fun i j hi hj => ?_⟩, fun i hi => ?_⟩
    · obtain ⟨_, hl2, hcell⟩ := World.cells?_some (hcsx i (by omega)).1
      have hcj := hcell j hj
      have hv : (cs i)[j]? = some ((cs i).getD j default) := by
        rw [List.getElem?_eq_getElem (by omega)]
        simp [List.getD, List.getElem?_eq_getElem (show j < (cs i).length by omega)]
      rw [hv, add_add] at hcj
      obtain ⟨b, o, s⟩ := a
      have hs : s = none := by
        obtain ⟨_, hl0, hcell0⟩ := World.cells?_some (hcsx 0 (by omega)).1
        have hc0 := hcell0 0 (by omega)
        rw [List.getElem?_eq_getElem (by omega)] at hc0
        simpa [Addr.add] using World.cell?_spot hc0
      subst hs
      rw [add_spot] at hcj
      exact ⟨b, o, rfl, by rw [Nat.add_assoc]; exact hcj⟩
    · obtain ⟨hcl, htr⟩ := hcsx i (by omega)
      obtain ⟨_, hl2, _⟩ := World.cells?_some hcl
      refine ⟨(D i, Pl i), ?_⟩
      have : cellsOfRow (fun j => (cs i).getD j default) sz = cs i := by
        unfold cellsOfRow
        refine List.ext_getElem (by simp [hl2]) fun j h1 h2 => ?_
        simp [List.getD, List.getElem?_eq_getElem h2]
      rw [this]
      exact htr

theorem cellsOfRow_one (c : Nat → Value) : cellsOfRow c 1 = [c 0] := rfl
theorem cellsOfRow_two (c : Nat → Value) : cellsOfRow c 2 = [c 0, c 1] := rfl

/-- numbers of any kind in a slice -/
def NumsAt (k : IntKind) (w : World) (v : Value) (m : Nat) (f : Nat → Int) : Prop := SliceAt w v m 1 (fun i _ => .int k (f i))
theorem NumsAt.mono {k : IntKind} {w w' : World} {v : Value} {m : Nat} {f : Nat → Int} (h : NumsAt k w v m f) (g : w.grows w') : NumsAt k w' v m f := SliceAt.mono h g

theorem nums_open {t e : TypeId} {k : IntKind} {fuel : Nat} {v : Value} {x : DataW H × List MemPlace} (ht : P.underlying t = some (.slice e)) (he : P.underlying e = some (.int k)) (hc : P.cellsOf e = 1)
    (h : DataW.trod enc P w base (fun _ => true) held fuel t [v] = some x) :
    ∃ (m : Nat) (f : Nat → Int), NumsAt k w v m f ∧ ∀ i, i < m → (Lit.int k (f i)).wf = true := by
  obtain ⟨m, n, c, h1, h2⟩ := sliceAt_open ht hc h
  have h3 : ∀ i, i < m → ∃ z : Int, c i 0 = .int k z ∧ (Lit.int k z).wf = true := fun i hi => by
    obtain ⟨y, hy⟩ := h2 i hi
    rw [cellsOfRow_one] at hy
    obtain ⟨z, e1, _, e2⟩ := DataW.trod_int he hy
    exact ⟨z, by simpa using e1, e2⟩
  obtain ⟨f, hf⟩ := choose_lt h3
  refine ⟨m, f, h1.congr fun i j hi hj => ?_, fun i hi => (hf i hi).2⟩
  obtain rfl : j = 0 := by omega
  exact (hf i hi).1

theorem lit_i64 {z : Int} (h : (Lit.int .i64 z).wf = true) : -9223372036854775808 ≤ z ∧ z ≤ 9223372036854775807 := by
  have e1 : IntKind.i64.min = -9223372036854775808 := rfl
  have e2 : IntKind.i64.max = 9223372036854775807 := rfl
  simpa [Lit.wf, e1, e2] using h
theorem lit_u8 {z : Int} (h : (Lit.int .u8 z).wf = true) : 0 ≤ z ∧ z ≤ 255 := by
  have e1 : IntKind.u8.min = 0 := rfl
  have e2 : IntKind.u8.max = 255 := rfl
  simpa [Lit.wf, e1, e2] using h
theorem lit_u16 {z : Int} (h : (Lit.int .u16 z).wf = true) : 0 ≤ z ∧ z ≤ 65535 := by
  have e1 : IntKind.u16.min = 0 := rfl
  have e2 : IntKind.u16.max = 65535 := rfl
  simpa [Lit.wf, e1, e2] using h
theorem lit_i16 {z : Int} (h : (Lit.int .i16 z).wf = true) : -32768 ≤ z ∧ z ≤ 32767 := by
  have e1 : IntKind.i16.min = -32768 := rfl
  have e2 : IntKind.i16.max = 32767 := rfl
  simpa [Lit.wf, e1, e2] using h
theorem lit_i32 {z : Int} (h : (Lit.int .i32 z).wf = true) : -2147483648 ≤ z ∧ z ≤ 2147483647 := by
  have e1 : IntKind.i32.min = -2147483648 := rfl
  have e2 : IntKind.i32.max = 2147483647 := rfl
  simpa [Lit.wf, e1, e2] using h

/-- the fields of a struct that lies in a row -/
theorem struct_open {t : TypeId} {fs : Array Field} {fuel : Nat} {cs : List Value} {x : DataW H × List MemPlace} (ht : P.underlying t = some (.struct fs)) (h : DataW.trod enc P w base (fun _ => true) held fuel t cs = some x) :
    ∃ n, ∀ (i : Nat) (f : Field), fs[i]? = some f → ∃ y, DataW.trod enc P w base (fun _ => true) held n f.type ((cs.drop f.offset).take (P.cellsOf f.type)) = some y := by
  obtain ⟨xs, n, _, rfl, hl, hlen, hf⟩ := DataW.trod_struct ht h
  refine ⟨n, fun i f hi => ?_⟩
  rw [hf i f hi]
  have : i < xs.length := by rw [hlen]; exact (Array.getElem?_eq_some_iff.1 hi).1
  exact ⟨_, List.getElem?_eq_getElem this⟩

end
end Go

/-
  What is proved: what the laws of layer 10 are handed: registers, trees, tables, lists.
-/
namespace Go.Proofs.Ytdminglglapnlaa
open Go.ChangeShapes Go.WideShapes Go.ChangeAt Go.RowKit Go.Deep Go.Joins

theorem own_c : ownKnob Try.prog.godebug = none := by kernel_rfl
theorem laid_c : laidOutB Try.prog = true := by kernel_rfl
theorem kcs2 : Try.prog.cellsOf 2 = 1 := by kernel_rfl
theorem kcs3 : Try.prog.cellsOf 3 = 1 := by kernel_rfl
theorem kcs5 : Try.prog.cellsOf 5 = 1 := by kernel_rfl
theorem kcs22 : Try.prog.cellsOf 22 = 1 := by kernel_rfl
theorem kcs23 : Try.prog.cellsOf 23 = 1 := by kernel_rfl
theorem kcs25 : Try.prog.cellsOf 25 = 2 := by kernel_rfl
theorem kcs26 : Try.prog.cellsOf 26 = 1 := by kernel_rfl
theorem kcs28 : Try.prog.cellsOf 28 = 2 := by kernel_rfl
theorem kcs29 : Try.prog.cellsOf 29 = 1 := by kernel_rfl
theorem kcs65 : Try.prog.cellsOf 65 = 2 := by kernel_rfl
theorem kcs81 : Try.prog.cellsOf 81 = 1 := by kernel_rfl
theorem kcs83 : Try.prog.cellsOf 83 = 2 := by kernel_rfl
theorem kcs97 : Try.prog.cellsOf 97 = 2 := by kernel_rfl
theorem kcs129 : Try.prog.cellsOf 129 = 2 := by kernel_rfl

section
variable {H : Type} {enc : TypeId × Value → H} {w : World} {base : Nat} {held : Bool}

set_option maxRecDepth 100000 in
theorem ints_of {v : Value} {d : DataW H} {p : List MemPlace} (hv : Value.okWide Try.prog w .any base 29 v) (h : DataW.Trod enc Try.prog w 0 (fun _ => true) held 29 v d p) :
    ∃ m f, IntsAt w v m f ∧ ∀ i, i < m → -9223372036854775808 ≤ f i ∧ f i ≤ 9223372036854775807 := by
  obtain ⟨a, len, cap, rfl⟩ := okWide_slice Try.underlying29 hv
  obtain ⟨fuel, hf⟩ := h
  obtain ⟨m, f, h1, h2⟩ := nums_open Try.underlying29 Try.underlying3 kcs3 hf
  exact ⟨m, f, h1, fun i hi => lit_i64 (h2 i hi)⟩
set_option maxRecDepth 100000 in
theorem bytes_of {v : Value} {d : DataW H} {p : List MemPlace} (hv : Value.okWide Try.prog w .any base 58 v) (h : DataW.Trod enc Try.prog w 0 (fun _ => true) held 58 v d p) :
    ∃ m f, NumsAt .u8 w v m f ∧ ∀ i, i < m → 0 ≤ f i ∧ f i ≤ 255 := by
  obtain ⟨a, len, cap, rfl⟩ := okWide_slice Try.underlying58 hv
  obtain ⟨fuel, hf⟩ := h
  obtain ⟨m, f, h1, h2⟩ := nums_open Try.underlying58 Try.underlying5 kcs5 hf
  exact ⟨m, f, h1, fun i hi => lit_u8 (h2 i hi)⟩
set_option maxRecDepth 100000 in
theorem reg_of {v : Value} {d : DataW H} {p : List MemPlace} (hv : Value.okWide Try.prog w .any base 25 v) (h : DataW.Trod enc Try.prog w 0 (fun _ => true) held 25 v d p) :
    ∃ r, RegAt w v r := by
  obtain ⟨cs, rfl, hsz⟩ := okWide_struct Try.underlying25 hv
  rw [kcs25] at hsz
  obtain ⟨c0, c1, rfl⟩ := array2 hsz
  obtain ⟨fuel, hf⟩ := h
  obtain ⟨y0, y1, n, -, -, hy0, hy1⟩ := trod_struct2 Try.underlying25 hf
  simp only [Value.cells, kcs22, kcs23, List.drop_zero, List.take_succ_cons, List.take_zero, List.drop_succ_cons] at hy0 hy1
  obtain ⟨nc, co, hc1, hc2⟩ := nums_open Try.underlying23 Try.underlying2 kcs2 hy1
  obtain ⟨m, n2, c, h1, h2⟩ := sliceAt_open Try.underlying22 kcs65 hy0
  have h3 : ∀ i, i < m → ∃ q : Int × Nat × (Nat → Int), c i 0 = .int .i64 q.1 ∧ IntsAt w (c i 1) q.2.1 q.2.2 := fun i hi => by
    obtain ⟨y, hy⟩ := h2 i hi
    rw [cellsOfRow_two] at hy
    obtain ⟨y0, y1, n2, -, -, hy0, hy1⟩ := trod_struct2 Try.underlying65 hy
    simp only [kcs3, kcs29, List.drop_zero, List.take_succ_cons, List.take_zero, List.drop_succ_cons] at hy0 hy1
    obtain ⟨s, e0, _, b0⟩ := DataW.trod_int Try.underlying3 hy0
    obtain ⟨m', f, h4, _⟩ := nums_open Try.underlying29 Try.underlying3 kcs3 hy1
    exact ⟨(s, m', f), by simpa using e0, h4⟩
  obtain ⟨q, hq⟩ := choose_lt h3
  refine ⟨{ nm := m, who := fun i => (q i).1, nv := fun i => (q i).2.1, val := fun i => (q i).2.2, nc := nc, cost := co }, c0, c1, fun i => c i 1, rfl, h1.congr fun i j hi hj => ?_, hc1, fun i hi => (hq i hi).2⟩
  have hj' : j = 0 ∨ j = 1 := by omega
  rcases hj' with rfl | rfl
  · exact (hq i hi).1
  · rfl
set_option maxRecDepth 100000 in
theorem tree_of {v : Value} {d : DataW H} {p : List MemPlace} (hv : Value.okWide Try.prog w .any base 28 v) (h : DataW.Trod enc Try.prog w 0 (fun _ => true) held 28 v d p) :
    ∃ t, TreeAt w v t := by
  obtain ⟨cs, rfl, hsz⟩ := okWide_struct Try.underlying28 hv
  rw [kcs28] at hsz
  obtain ⟨c0, c1, rfl⟩ := array2 hsz
  obtain ⟨fuel, hf⟩ := h
  obtain ⟨y0, y1, n, -, -, hy0, hy1⟩ := trod_struct2 Try.underlying28 hf
  simp only [Value.cells, kcs3, kcs26, List.drop_zero, List.take_succ_cons, List.take_zero, List.drop_succ_cons] at hy0 hy1
  obtain ⟨rt, e0, _, b0⟩ := DataW.trod_int Try.underlying3 hy0
  obtain rfl : c0 = .int .i64 rt := by simpa using e0
  obtain ⟨m, n2, c, h1, h2⟩ := sliceAt_open Try.underlying26 kcs83 hy1
  have h3 : ∀ i, i < m → ∃ q : Int × Nat × (Nat → Int) × (Nat → Int), c i 0 = .int .i64 q.1 ∧ SliceAt w (c i 1) q.2.1 2 (bcell q.2.2.1 q.2.2.2) := fun i hi => by
    obtain ⟨y, hy⟩ := h2 i hi
    rw [cellsOfRow_two] at hy
    obtain ⟨y0, y1, n2, -, -, hy0, hy1⟩ := trod_struct2 Try.underlying83 hy
    simp only [kcs3, kcs81, List.drop_zero, List.take_succ_cons, List.take_zero, List.drop_succ_cons] at hy0 hy1
    obtain ⟨s, e0, _, b0⟩ := DataW.trod_int Try.underlying3 hy0
    obtain ⟨m2, n3, c2, g1, g2⟩ := sliceAt_open Try.underlying81 kcs129 hy1
    have g3 : ∀ k, k < m2 → ∃ z : Int × Int, c2 k 0 = .int .i64 z.1 ∧ c2 k 1 = .int .i64 z.2 := fun k hk => by
      obtain ⟨y, hy⟩ := g2 k hk
      rw [cellsOfRow_two] at hy
      obtain ⟨y0, y1, n2, -, -, hy0, hy1⟩ := trod_struct2 Try.underlying129 hy
      simp only [kcs3, List.drop_zero, List.take_succ_cons, List.take_zero, List.drop_succ_cons] at hy0 hy1
      obtain ⟨z0, e0, _, b0⟩ := DataW.trod_int Try.underlying3 hy0
      obtain ⟨z1, e1, _, b1⟩ := DataW.trod_int Try.underlying3 hy1
      exact ⟨(z0, z1), by simpa using e0, by simpa using e1⟩
    obtain ⟨z, hz⟩ := choose_lt g3
    refine ⟨(s, m2, fun k => (z k).1, fun k => (z k).2), by simpa using e0, g1.congr fun k j hk hj => ?_⟩
    have hj' : j = 0 ∨ j = 1 := by omega
    rcases hj' with rfl | rfl
    · exact (hz k hk).1
    · exact (hz k hk).2
  obtain ⟨q, hq⟩ := choose_lt h3
  refine ⟨{ n := m, feat := fun i => (q i).1, nb := fun i => (q i).2.1, bv := fun i => (q i).2.2.1, bt := fun i => (q i).2.2.2, root := rt }, c1, rfl, fun i => c i 1, h1.congr fun i j hi hj => ?_, fun i hi => (hq i hi).2⟩
  have hj' : j = 0 ∨ j = 1 := by omega
  rcases hj' with rfl | rfl
  · exact (hq i hi).1
  · rfl
set_option maxRecDepth 100000 in
theorem table_of {v : Value} {d : DataW H} {p : List MemPlace} (hv : Value.okWide Try.prog w .any base 42 v) (h : DataW.Trod enc Try.prog w 0 (fun _ => true) held 42 v d p) :
    ∃ b, TableAt w v b := by
  obtain ⟨a, len, cap, rfl⟩ := okWide_slice Try.underlying42 hv
  obtain ⟨fuel, hf⟩ := h
  obtain ⟨m, n2, c, h1, h2⟩ := sliceAt_open Try.underlying42 kcs97 hf
  have h3 : ∀ i, i < m → ∃ q : Int × Nat × (Nat → Int), c i 1 = .int .i64 q.1 ∧ IntsAt w (c i 0) q.2.1 q.2.2 := fun i hi => by
    obtain ⟨y, hy⟩ := h2 i hi
    rw [cellsOfRow_two] at hy
    obtain ⟨y0, y1, n2, -, -, hy0, hy1⟩ := trod_struct2 Try.underlying97 hy
    simp only [kcs2, kcs29, List.drop_zero, List.take_succ_cons, List.take_zero, List.drop_succ_cons] at hy0 hy1
    obtain ⟨s, e0, _, b0⟩ := DataW.trod_int Try.underlying2 hy1
    obtain ⟨m', f, h4, _⟩ := nums_open Try.underlying29 Try.underlying3 kcs3 hy0
    exact ⟨(s, m', f), by simpa using e0, h4⟩
  obtain ⟨q, hq⟩ := choose_lt h3
  refine ⟨{ n := m, len := fun i => (q i).2.1, el := fun i => (q i).2.2, cost := fun i => (q i).1 }, fun i => c i 0, h1.congr fun i j hi hj => ?_, fun i hi => (hq i hi).2⟩
  have hj' : j = 0 ∨ j = 1 := by omega
  rcases hj' with rfl | rfl
  · rfl
  · exact (hq i hi).1
end
end Go.Proofs.Ytdminglglapnlaa

/-
  What is proved: the statement MarkRegisters, at every input.
-/
namespace Go.Proofs.Ytdminglglapnlaa
open Go.ChangeShapes Go.WideShapes Go.ChangeAt Go.RowKit

set_option maxRecDepth 100000 in
theorem markRegisters_lifted (os : Os) (started : os.Started) (H : Type) (enc : TypeId × Value → H) :
    ReturnsInHanded {} Try.checked os 3 .any (Rows.markRegistersSpec.pre6 enc Try.prog Try.f3 Rows.markRegistersRow.domain false) (Rows.markRegistersSpec.post enc Try.prog Try.f3 false true false false) := by
  refine law_lifted (C := Try.checked) (tb := 4) started own_c laid_c (by kernel_rfl) Try.func3 (of_decide_eq_true (by kernel_rfl))
    (ChangeSpec.witness6 (enc := enc) (C := Try.checked) false ⟨#[], #[.agg #[.slice none 0 0, .slice none 0 0], .agg #[.int .i64 0, .slice none 0 0], .slice none 0 0], []⟩ 8 (by kernel_rfl) (by kernel_rfl) (by kernel_rfl) (by kernel_rfl))
    rfl Try.underlying4 rfl (fun ds hl => ?_) (fun W base args ds ps hval hA => ?_)
  · match ds, hl with
    | [d1, d2, d3], _ => exact ⟨rfl, rfl, rfl⟩
  · have hA' : DataW.TrodAll enc Try.prog W 0 (fun _ => true) true Try.f3.params.toList args.toList ds ps := hA
    have hval' : ∀ (j : Nat) t v, Try.f3.params[j]? = some t → args[j]? = some v → Value.okWide Try.prog W .any base t v := hval
    rw [Try.params3] at hA' hval'
    obtain ⟨v1, v2, v3, d1, d2, d3, p1, p2, p3, rfl, rfl, rfl, h1, h2, h3⟩ := trodAll_three hA'
    obtain ⟨r1, hr1⟩ := reg_of (hval' 0 25 v1 rfl rfl) h1
    obtain ⟨t2, ht2⟩ := tree_of (hval' 1 28 v2 rfl rfl) h2
    obtain ⟨m3, f3, hf3, hb3⟩ := ints_of (hval' 2 29 v3 rfl rfl) h3
    exact registers_w W v1 r1 hr1 v2 t2 ht2 v3 m3 f3 hf3

theorem markRegisters_holds : Rows.MarkRegistersSaid :=
  OpenClaim.holds_of_wide 3 Try.f3 rfl rfl rfl rfl rfl rfl rfl ⟨rfl, rfl, rfl, rfl, rfl⟩ rfl rfl rfl rfl rfl (by kernel_rfl) Try.func3 (by kernel_rfl)
    (of_decide_eq_true (by kernel_rfl)) (by unfold Func.isWrapper; first | (rw [if_pos (by decide +kernel)]; kernel_rfl) | (rw [if_neg (by decide +kernel)]; exact ⟨rfl, rfl⟩))
    (fun os started H enc _ => markRegisters_lifted os started H enc)
end Go.Proofs.Ytdminglglapnlaa

