/-
  What is proved: bad entries of a table, in the program (65).
-/
import Derived.Test.YtdminglglapnlaaM9
import Derived.Test.YtdminglglapnlaaM7
import Derived.Test.YtdminglglapnlaaM13
import Derived.Test.YtdminglglapnlaaM12
import Derived.Test.YtdminglglapnlaaM8
import Derived.Deep.RegionHeldLaw
import Derived.Test.YtdminglglapnlaaM6
import Derived.Test.YtdminglglapnlaaM5
set_option linter.all false
namespace Go.Proofs.Ytdminglglapnlaa
open Go.RowKit
attribute [local irreducible] Go.wpCalm

set_option maxHeartbeats 1000000 in
theorem badEntry_c (w : World) (r : Reg) (bn : Bn) (i : Nat) (vv : Value) (hv : IntsAt w vv (bn.len i) (bn.el i)) (b : Nat) (ma : Option Addr) (mc : Nat) (h0 : r.nm ≤ 1000) (h1 : r.nm ≤ mc) (h2 : mc ≤ maxLen) (hb : w.cell? ⟨b, 0, none⟩ = some (.slice ma r.nm mc)) :
    Calls Try.prog 65 #[.agg #[vv, .int .i64 (bn.cost i)], .pointer (some ⟨b, 0, none⟩)] w fun e w' => e = .returned (.bool (bn.badB r i)) ∧ w.grows w' := by
  have Hv := Lib.hid hv
  obtain ⟨va, vc, rfl, v1, v2, -⟩ := hv
  unfold maxLen at h2 v2
  have hm : bn.badB r i = (decide (bn.len i = 0) || (List.range (bn.len i)).any (riseB (bn.el i) r.nm) || decide (bn.cost i < 0) || decide (100000 < bn.cost i)) := rfl
  have h66 := fun W h => rising_c W (.slice va (bn.len i) vc) (bn.len i) (bn.el i) r.nm h0 h
  go_enter Try.func65, Try.ntmps65
  by_cases q1 : bn.len i = 0
  · have HM : Hid (bn.badB r i = true) := Lib.hid (by rw [hm]; simp [q1])
    have q1' : (bn.len i : Int) = 0 := by omega
    rw [q1] at h66 Hv
    simp only [q1]
    clear hm
    go_wp2
    (refine bodyPost_ret (v := .bool true) (by simp [results, Try.results65, go_sem]) rfl ?_)
    exact ⟨by rw [HM.out], by (repeat (first | exact World.grows.refl _ | assumption | refine World.grows.alloc ?_ _ | refine World.grows.plus ?_ _ _ | refine World.grows.drew ?_))⟩
  have q1' : ¬ ((bn.len i : Int) = 0) := by omega
  have q1b : ((bn.len i : Int) == 0) = false := beq_eq_false_iff_ne.2 q1'
  cases q2 : (List.range (bn.len i)).any (riseB (bn.el i) r.nm) with
  | true =>
    have HM : Hid (bn.badB r i = true) := Lib.hid (by rw [hm, q2]; simp)
    rw [q2] at h66
    clear hm q2
    go_wp2_with (go_at_call 66; refine (h66 _ (Hv.out.mono (by (repeat (first | exact World.grows.refl _ | assumption | refine World.grows.alloc ?_ _ | refine World.grows.plus ?_ _ _ | refine World.grows.drew ?_))))).mono ?_; rintro e w' ⟨rfl, hg⟩; obtain ⟨n2, x2, rfl⟩ := World.plus_of hg)
    (refine bodyPost_ret (v := .bool true) (by simp [results, Try.results65, go_sem]) rfl ?_)
    exact ⟨by rw [HM.out], by (repeat (first | exact World.grows.refl _ | assumption | refine World.grows.alloc ?_ _ | refine World.grows.plus ?_ _ _ | refine World.grows.drew ?_))⟩
  | false =>
    rw [q2] at h66
    by_cases q3 : bn.cost i < 0
    · have HM : Hid (bn.badB r i = true) := Lib.hid (by rw [hm]; simp [q3])
      clear hm q2
      go_wp2_with (go_at_call 66; refine (h66 _ (Hv.out.mono (by (repeat (first | exact World.grows.refl _ | assumption | refine World.grows.alloc ?_ _ | refine World.grows.plus ?_ _ _ | refine World.grows.drew ?_))))).mono ?_; rintro e w' ⟨rfl, hg⟩; obtain ⟨n2, x2, rfl⟩ := World.plus_of hg)
      (refine bodyPost_ret (v := .bool true) (by simp [results, Try.results65, go_sem]) rfl ?_)
      exact ⟨by rw [HM.out], by (repeat (first | exact World.grows.refl _ | assumption | refine World.grows.alloc ?_ _ | refine World.grows.plus ?_ _ _ | refine World.grows.drew ?_))⟩
    by_cases q4 : 100000 < bn.cost i
    · have HM : Hid (bn.badB r i = true) := Lib.hid (by rw [hm]; simp [q4])
      clear hm q2
      go_wp2_with (go_at_call 66; refine (h66 _ (Hv.out.mono (by (repeat (first | exact World.grows.refl _ | assumption | refine World.grows.alloc ?_ _ | refine World.grows.plus ?_ _ _ | refine World.grows.drew ?_))))).mono ?_; rintro e w' ⟨rfl, hg⟩; obtain ⟨n2, x2, rfl⟩ := World.plus_of hg)
      (refine bodyPost_ret (v := .bool true) (by simp [results, Try.results65, go_sem]) rfl ?_)
      exact ⟨by rw [HM.out], by (repeat (first | exact World.grows.refl _ | assumption | refine World.grows.alloc ?_ _ | refine World.grows.plus ?_ _ _ | refine World.grows.drew ?_))⟩
    · have HM : Hid (bn.badB r i = false) := Lib.hid (by rw [hm, q2]; simp [q1, q3, q4])
      clear hm q2
      go_wp2_with (go_at_call 66; refine (h66 _ (Hv.out.mono (by (repeat (first | exact World.grows.refl _ | assumption | refine World.grows.alloc ?_ _ | refine World.grows.plus ?_ _ _ | refine World.grows.drew ?_))))).mono ?_; rintro e w' ⟨rfl, hg⟩; obtain ⟨n2, x2, rfl⟩ := World.plus_of hg)
      refine bodyPost_ret (v := .bool false) (by simp [results, Try.results65, go_sem] <;> omega) rfl ?_
      exact ⟨by rw [HM.out], by (repeat (first | exact World.grows.refl _ | assumption | refine World.grows.alloc ?_ _ | refine World.grows.plus ?_ _ _ | refine World.grows.drew ?_))⟩
end Go.Proofs.Ytdminglglapnlaa

/-
  What is proved: whether an entry of a table is right, in the reference (73).
-/
namespace Go.Proofs.Ytdminglglapnlaa
open Go.RowKit
attribute [local irreducible] Go.wpCalm

set_option maxHeartbeats 4000000 in
theorem right73 (w : World) (v : Value) (r : Reg) (hv : RegOk w v r) (hr : r.Ok) (lv : Value) (n : Nat) (f : Nat → Int) (hl : IntsAt w lv n f) (hf : Rise f n r.nm) (cost : Int) (hco : 0 ≤ cost ∧ cost ≤ 100000)
    (bv : Value) (c : Nat → Int) (hb : IntsAt w bv (2 ^ r.nm) c) (hc : ∀ s, s < 2 ^ r.nm → 0 ≤ c s ∧ c s ≤ 100000) :
    Calls Try.prog 73 #[v, .agg #[lv, .int .i64 cost], bv] w fun e w' => e = .returned (.bool (decide (cost ≤ 0) || (r.mixed (setN f n) && decide (cost ≤ r.looksR c (setN f n) r.nc)))) ∧ w.grows w' := by
  have Hv := Lib.hid hv
  have Hl := Lib.hid hl
  have Hr := Lib.hid hr
  have Hc := Lib.hid hc
  have hsN := hf.set_lt
  obtain ⟨mb, mo, mc, cb, co, cc, rb, ro, rc, rfl, hm1, hm2, hc1, hc2, hR⟩ := hv
  have HR := Lib.hid hR
  have hm10 := hr.m10
  unfold maxLen at hm2 hc2
  have h74 := fun W h => bits74 W lv n f r.nm h hf hm10
  have h75 := fun W h s hs => makers_c W (.agg #[.slice (some ⟨mb, mo, none⟩) r.nm mc, .slice (some ⟨cb, co, none⟩) r.nc cc]) r h hr s hs
  have h76 := fun W h s f hs hf => rparts_c W (.agg #[.slice (some ⟨mb, mo, none⟩) r.nm mc, .slice (some ⟨cb, co, none⟩) r.nc cc]) r h hr s f hs hf
  have h77 := fun W h s f hs hf x => part77 W (.agg #[.slice (some ⟨mb, mo, none⟩) r.nm mc, .slice (some ⟨cb, co, none⟩) r.nc cc]) r h hr s f hs hf x
  obtain ⟨s, hs⟩ : ∃ s, setN f n = s := ⟨_, rfl⟩
  rw [hs] at hsN h74
  rw [hs]
  obtain ⟨N, hN⟩ : ∃ N, 2 ^ r.nm = N := ⟨_, rfl⟩
  have hN10 : N ≤ 1024 := by rw [← hN]; exact Nat.pow_le_pow_right (by omega) hm10
  have hplt : ∀ f v, r.part s f v < N := fun f v => by rw [← hN]; exact r.part_lt s f v
  have Hplt := Lib.hid hplt
  rw [hN] at hsN hb Hc
  obtain ⟨ba, bc, rfl, b1, b2, hb⟩ := hb
  obtain ⟨bb, bo, rfl, -⟩ := hb 0 0 (by omega) (by omega)
  have Hb : Hid (∀ x, x < N → w.cell? ⟨bb, bo + x, none⟩ = some (.int .i64 (c x))) := Lib.hid fun x hx => by
    obtain ⟨_, _, e, h⟩ := hb x 0 hx (by omega)
    cases e
    simpa using h
  unfold maxLen at b2
  have hs62 : s < 2 ^ 62 := by omega
  clear hs hf hr hc hR hl hb hplt hN
  go_enter Try.func73, Try.ntmps73
  by_cases hc0 : cost = 0
  · subst hc0
    clear h75 h76 h77
    go_wp2_with (go_at_call 74; refine (h74 _ (Hl.out.mono (by (repeat (first | exact World.grows.refl _ | assumption | refine World.grows.alloc ?_ _ | refine World.grows.plus ?_ _ _ | refine World.grows.drew ?_))))).mono ?_; rintro e w' ⟨rfl, hg⟩; obtain ⟨n2, x2, rfl⟩ := World.plus_of hg)
    (refine bodyPost_ret (v := .bool true) (by simp [results, Try.results73, go_sem]) rfl ?_)
    exact ⟨rfl, by (repeat (first | exact World.grows.refl _ | assumption | refine World.grows.alloc ?_ _ | refine World.grows.plus ?_ _ _ | refine World.grows.drew ?_))⟩
  · have hcb : (cost == 0) = false := beq_eq_false_iff_ne.2 hc0
    have hcl : ¬ cost ≤ 0 := by omega
    have h7 := fun W h => h75 W h s hs62
    cases hmx : r.mixed s with
    | false =>
      rw [hmx] at h7
      clear h75 h76 h77 hmx
      go_wp2_with (first
        | (go_at_call 74; refine (h74 _ (Hl.out.mono (by (repeat (first | exact World.grows.refl _ | assumption | refine World.grows.alloc ?_ _ | refine World.grows.plus ?_ _ _ | refine World.grows.drew ?_))))).mono ?_; rintro e w' ⟨rfl, hg⟩; obtain ⟨n2, x2, rfl⟩ := World.plus_of hg)
        | (go_at_call 75; refine (h7 _ (Hv.out.mono (by (repeat (first | exact World.grows.refl _ | assumption | refine World.grows.alloc ?_ _ | refine World.grows.plus ?_ _ _ | refine World.grows.drew ?_))))).mono ?_; rintro e w' ⟨rfl, hg⟩; obtain ⟨n3, x3, rfl⟩ := World.plus_of hg))
      (refine bodyPost_ret (v := .bool false) (by simp [results, Try.results73, go_sem]) rfl ?_)
      exact ⟨by simp [hcl], by (repeat (first | exact World.grows.refl _ | assumption | refine World.grows.alloc ?_ _ | refine World.grows.plus ?_ _ _ | refine World.grows.drew ?_))⟩
    | true =>
      rw [hmx] at h7
      clear h75 hmx
      have Hcl := Lib.hid hcl
      go_wp2_with (first
        | (go_at_call 74; refine (h74 _ (Hl.out.mono (by (repeat (first | exact World.grows.refl _ | assumption | refine World.grows.alloc ?_ _ | refine World.grows.plus ?_ _ _ | refine World.grows.drew ?_))))).mono ?_; rintro e w' ⟨rfl, hg⟩; obtain ⟨n2, x2, rfl⟩ := World.plus_of hg)
        | (go_at_call 75; refine (h7 _ (Hv.out.mono (by (repeat (first | exact World.grows.refl _ | assumption | refine World.grows.alloc ?_ _ | refine World.grows.plus ?_ _ _ | refine World.grows.drew ?_))))).mono ?_; rintro e w' ⟨rfl, hg⟩; obtain ⟨n3, x3, rfl⟩ := World.plus_of hg))
      clear hcb h7 h74 hc0 hcl
      go_loopw [8] (fun i wr => ∃ f : Nat, f ≤ r.nc ∧ i = .int .i64 f ∧ Hid (cost ≤ r.looksR c s f) ∧ ((w.alloc (.cells #[.slice (some ⟨mb, mo, none⟩) r.nm mc, .slice (some ⟨cb, co, none⟩) r.nc cc] 25)).alloc (.cells #[lv, .int .i64 cost] 97)).grows wr) (fun i _ => r.nc - (intOf i).toNat)
      case atStart => exact ⟨0, by omega, rfl, Lib.hid (by simp only [Reg.looksR]; omega), by (repeat (first | exact World.grows.refl _ | assumption | refine World.grows.alloc ?_ _ | refine World.grows.plus ?_ _ _ | refine World.grows.drew ?_))⟩
      case round =>
        obtain ⟨f, hf, rfl, hlk, hg3⟩ := hrel
        obtain ⟨n4, x4, rfl⟩ := World.plus_of hg3
        by_cases hltf : f < r.nc
        · have hcf := HR.out.cost f hltf
          have hL : Hid (r.looksR c s (f + 1) = if r.parted s f = true then min (r.looksR c s f) (r.cost f + r.mostR c s f 10) else r.looksR c s f) := Lib.hid rfl
          cases hpd : r.parted s f with
          | false =>
            have h8 := fun W h => h76 W h s f hs62 hltf
            rw [hpd] at h8 hL
            clear hpd h76 h77
            go_wp2_with (go_at_call 76; refine (h8 _ (Hv.out.mono (by (repeat (first | exact World.grows.refl _ | assumption | refine World.grows.alloc ?_ _ | refine World.grows.plus ?_ _ _ | refine World.grows.drew ?_))))).mono ?_; rintro e w' ⟨rfl, hg2⟩; obtain ⟨n2, x2, rfl⟩ := World.plus_of hg2)
            go_roundw
            case rel => exact ⟨f + 1, by omega, by go_num, Lib.hid (by rw [hL.out]; exact hlk.out), by (repeat (first | exact World.grows.refl _ | assumption | refine World.grows.alloc ?_ _ | refine World.grows.plus ?_ _ _ | refine World.grows.drew ?_))⟩
            case measure => simp [intOf]; omega
          | true =>
            have Hpd := Lib.hid hpd
            have h8 := fun W h => h76 W h s f hs62 hltf
            have h9 := fun W h x => h77 W h s f hs62 hltf x
            have hc1000 := Hr.out.cost f hltf
            rw [hpd] at h8 hL
            clear hpd h76 h77
            go_wp2_with (go_at_call 76; refine (h8 _ (Hv.out.mono (by (repeat (first | exact World.grows.refl _ | assumption | refine World.grows.alloc ?_ _ | refine World.grows.plus ?_ _ _ | refine World.grows.drew ?_))))).mono ?_; rintro e w' ⟨rfl, hg2⟩; obtain ⟨n2, x2, rfl⟩ := World.plus_of hg2)
            go_loopw [9, 10] (fun mo' v wr => ∃ k : Nat, k ≤ 10 ∧ v = .int .i64 k ∧ mo' = .int .i64 (r.mostR c s f k) ∧ ((w.alloc (.cells #[.slice (some ⟨mb, mo, none⟩) r.nm mc, .slice (some ⟨cb, co, none⟩) r.nc cc] 25)).alloc (.cells #[lv, .int .i64 cost] 97)).grows wr) (fun _ v _ => 10 - (intOf v).toNat)
            case atStart => exact ⟨0, by omega, rfl, rfl, by (repeat (first | exact World.grows.refl _ | assumption | refine World.grows.alloc ?_ _ | refine World.grows.plus ?_ _ _ | refine World.grows.drew ?_))⟩
            case round =>
              obtain ⟨k, hk, rfl, rfl, hg4⟩ := hrel
              obtain ⟨n5, x5, rfl⟩ := World.plus_of hg4
              by_cases hltk : k < 10
              · have hpl := Hplt.out f (k : Nat)
                have hM : Hid (r.mostR c s f (k + 1) = max (r.mostR c s f k) (c (r.part s f (k : Nat)))) := Lib.hid rfl
                have h10 := fun W h => h9 W h (k : Nat)
                obtain ⟨p, hp⟩ : ∃ p, r.part s f (k : Nat) = p := ⟨_, rfl⟩
                rw [hp] at hpl hM h10
                obtain ⟨M, hMM⟩ : ∃ M, r.mostR c s f k = M := ⟨_, rfl⟩
                have hbp := Hb.out p hpl
                obtain ⟨C, hC⟩ : ∃ C, c p = C := ⟨_, rfl⟩
                rw [hMM, hC] at hM
                rw [hC] at hbp
                rw [hMM]
                clear hp hMM hC h9 h8
                go_wp2_with (go_at_call 77; refine (h10 _ (Hv.out.mono (by (repeat (first | exact World.grows.refl _ | assumption | refine World.grows.alloc ?_ _ | refine World.grows.plus ?_ _ _ | refine World.grows.drew ?_))))).mono ?_; rintro e w' ⟨rfl, hg2⟩; obtain ⟨n6, x6, rfl⟩ := World.plus_of hg2)
                go_roundw
                case rel => exact ⟨k + 1, by omega, by go_num, by rw [hM.out, max_if], by (repeat (first | exact World.grows.refl _ | assumption | refine World.grows.alloc ?_ _ | refine World.grows.plus ?_ _ _ | refine World.grows.drew ?_))⟩
                case measure => simp [intOf]; omega
              · have hke : k = 10 := by omega
                subst hke
                have hM1 := r.mostR_nonneg c s f 10
                have hM2 : r.mostR c s f 10 ≤ 100000 := (r.mostR_le c s f _ 10).2 ⟨by omega, fun v _ => (Hc.out _ (Hplt.out f v)).2⟩
                have hall := Lib.hid ((r.looksR_le c s r.nc).2 f hltf Hpd.out)
                obtain ⟨M, hMM⟩ : ∃ M, r.mostR c s f 10 = M := ⟨_, rfl⟩
                rw [hMM] at hL hM1 hM2 hall
                rw [hMM]
                have hwc : IntKind.i64.wrap (r.cost f + M) = r.cost f + M := wrapI rfl (by omega)
                clear hMM
                by_cases hlt5 : r.cost f + M < cost
                · go_wp2
                  (refine wp_region_calm (by kernel_rfl) (by kernel_rfl) ?_; (repeat (refine wpCalm_step (fun K hK => ?_); go_simp; first | (refine hK _ ?_; clear hK K) | (apply Exists.intro; refine ⟨fun n' x' => ?_, hK _ ?_⟩; (fail); clear hK K))); refine wpCalm_nil ?_; intro nq xq)
                  go_wp2
                  (refine bodyPost_ret (v := .bool false) (by simp [results, Try.results73, go_sem]) rfl ?_)
                  refine ⟨?_, by (repeat (first | exact World.grows.refl _ | assumption | refine World.grows.alloc ?_ _ | refine World.grows.plus ?_ _ _ | refine World.grows.drew ?_))⟩
                  have := hall.out
                  rw [decide_eq_false (show ¬ cost ≤ 0 by have := Hcl.out; omega), decide_eq_false (by omega)]
                  rfl
                · go_wp2
                  (refine wp_region_calm (by kernel_rfl) (by kernel_rfl) ?_; (repeat (refine wpCalm_step (fun K hK => ?_); go_simp; first | (refine hK _ ?_; clear hK K) | (apply Exists.intro; refine ⟨fun n' x' => ?_, hK _ ?_⟩; (fail); clear hK K))); refine wpCalm_nil ?_; intro nq xq)
                  go_wp2
                  go_roundw
                  case rel => exact ⟨f + 1, by omega, by go_num, Lib.hid (by rw [hL.out, if_pos trivial]; have := hlk.out; omega), by (repeat (first | exact World.grows.refl _ | assumption | refine World.grows.alloc ?_ _ | refine World.grows.plus ?_ _ _ | refine World.grows.drew ?_))⟩
                  case measure => simp [intOf]; omega
        · have hfe : f = r.nc := by omega
          subst hfe
          go_wp2
          (refine bodyPost_ret (v := .bool true) (by simp [results, Try.results73, go_sem]) rfl ?_)
          refine ⟨?_, by (repeat (first | exact World.grows.refl _ | assumption | refine World.grows.alloc ?_ _ | refine World.grows.plus ?_ _ _ | refine World.grows.drew ?_))⟩
          rw [decide_eq_true hlk.out]
          simp
end Go.Proofs.Ytdminglglapnlaa

/-
  What is proved: CheckBounds of the reference (28).
-/
namespace Go.Proofs.Ytdminglglapnlaa
open Go.RowKit
attribute [local irreducible] Go.wpCalm

theorem Bn.err_bad {b : Bn} {r : Reg} (h : r.check ≠ 0) : b.err r = r.check ∧ b.ans r = 0 := by
  have e : b.err r = r.check := by unfold Bn.err; rw [if_neg h]
  exact ⟨e, by unfold Bn.ans; rw [if_neg (by rw [e]; exact h)]⟩
theorem Bn.err_6 {b : Bn} {r : Reg} (h : r.check = 0) (hn : 1100 < b.n) : b.err r = 6 ∧ b.ans r = 0 := by
  have e : b.err r = 6 := by unfold Bn.err; rw [if_pos h, if_pos hn]
  exact ⟨e, by unfold Bn.ans; rw [if_neg (by rw [e]; decide)]⟩
theorem Bn.err_3 {b : Bn} {r : Reg} (h : r.check = 0) (hn : ¬ 1100 < b.n) {i : Nat} (hi : i < b.n) (hb : b.badB r i = true) : b.err r = 3 ∧ b.ans r = 0 := by
  have e : b.err r = 3 := by unfold Bn.err; rw [if_pos h, if_neg hn, if_pos (any_true_of hi hb)]
  exact ⟨e, by unfold Bn.ans; rw [if_neg (by rw [e]; decide)]⟩
theorem Bn.err_14 {b : Bn} {r : Reg} (h : r.check = 0) (hn : ¬ 1100 < b.n) (hb : ∀ i, i < b.n → b.badB r i = false) (hs : b.sumB r = true) : b.err r = 14 ∧ b.ans r = 0 := by
  have e : b.err r = 14 := by unfold Bn.err; rw [if_pos h, if_neg hn, if_neg (by rw [any_false_of hb]; decide), if_pos hs]
  exact ⟨e, by unfold Bn.ans; rw [if_neg (by rw [e]; decide)]⟩
theorem Bn.err_14b {b : Bn} {r : Reg} (h : r.check = 0) (hn : ¬ 1100 < b.n) (hb : ∀ i, i < b.n → b.badB r i = false) (hs : b.sumB r = false) {i : Nat} (hi : i < b.n) (hr : b.rightB r i = false) : b.err r = 14 ∧ b.ans r = 0 := by
  have e : b.err r = 14 := by
    unfold Bn.err
    rw [if_pos h, if_neg hn, if_neg (by rw [any_false_of hb]; decide), if_neg (by rw [hs]; decide), if_neg]
    simp only [List.all_eq_true, List.mem_range, Classical.not_forall]
    exact ⟨i, hi, by rw [hr]; decide⟩
  exact ⟨e, by unfold Bn.ans; rw [if_neg (by rw [e]; decide)]⟩
theorem Bn.err_0 {b : Bn} {r : Reg} (h : r.check = 0) (hn : ¬ 1100 < b.n) (hb : ∀ i, i < b.n → b.badB r i = false) (hs : b.sumB r = false) (hr : ∀ i, i < b.n → b.rightB r i = true) : b.err r = 0 ∧ b.ans r = b.cost (b.n - 1) := by
  have e : b.err r = 0 := by
    unfold Bn.err
    rw [if_pos h, if_neg hn, if_neg (by rw [any_false_of hb]; decide), if_neg (by rw [hs]; decide), if_pos]
    simp only [List.all_eq_true, List.mem_range]
    exact hr
  exact ⟨e, by unfold Bn.ans; rw [if_pos e]⟩
theorem Bn.top_bd {b : Bn} (h : ∀ i, i < b.n → 0 ≤ b.cost i ∧ b.cost i ≤ 100000) : ∀ k, k ≤ b.n → ∀ s, 0 ≤ b.top k s ∧ b.top k s ≤ 100000
  | 0, _, _ => by simp [Bn.top]
  | k + 1, hk, s => by
    have h1 := Bn.top_bd h k (by omega) s
    have h2 := h k (by omega)
    simp only [Bn.top]
    split <;> omega
theorem Bn.top_up (b : Bn) (k : Nat) : updI (b.top k) (b.set k) (max (b.top k (b.set k)) (b.cost k)) = b.top (k + 1) := by
  funext s
  unfold updI
  simp only [Bn.top]
  by_cases h : s = b.set k
  · subst h; simp
  · simp [h]

set_option maxRecDepth 100000 in
set_option maxHeartbeats 8000000 in
theorem rbounds_c (w : World) (v : Value) (r : Reg) (hv : RegAt w v r) (tv : Value) (b : Bn) (ht : TableAt w tv b) :
    Calls Try.prog 28 #[v, tv] w fun e w' => e = .returned (.tuple #[.int .i64 (b.ans r), .int .i64 (b.err r)]) ∧ w.grows w' := by
  have Hv := Lib.hid hv
  obtain ⟨mv, cv, row0, rfl, -, -, -⟩ := hv
  have h22 := fun W h => rcheck_c W (.agg #[mv, cv]) r h
  obtain ⟨row, ⟨ta, tc, rfl, t1, t2, htc⟩, hrow⟩ := ht
  have Hrow := Lib.hid hrow
  unfold maxLen at t2
  clear hrow
  go_enter Try.func28, Try.ntmps28
  by_cases hc : r.check = 0
  · have Hok := Lib.hid (Hv.out.ok (Reg.ok_of hc))
    have Hr := Lib.hid (Reg.ok_of hc)
    have Hc := Lib.hid hc
    rw [hc] at h22
    obtain ⟨mb, mo, mc, cb, co, cc, rb, ro, rc, he, hm1, hm2, hc1, hc2, hR⟩ := Hok.out
    simp only [Value.agg.injEq, Array.mk.injEq, List.cons.injEq, and_true] at he
    obtain ⟨rfl, rfl⟩ := he
    have HR := Lib.hid hR
    have hm10 := Hr.out.m10
    unfold maxLen at hm2 hc2
    clear hc hR
    by_cases hN : 1100 < b.n
    · have hE := Lib.hid (Bn.err_6 Hc.out hN)
      go_wp2_with (go_at_call 22; refine (h22 _ (Hv.out.mono (by (repeat (first | exact World.grows.refl _ | assumption | refine World.grows.alloc ?_ _ | refine World.grows.plus ?_ _ _ | refine World.grows.drew ?_))))).mono ?_; rintro e w' ⟨rfl, hg⟩; obtain ⟨n2, x2, rfl⟩ := World.plus_of hg)
      (refine bodyPost_ret (v := .tuple #[.int .i64 0, .int .i64 6]) (by simp [results, Try.results28, go_sem]) rfl ?_)
      exact ⟨by rw [hE.out.1, hE.out.2], by (repeat (first | exact World.grows.refl _ | assumption | refine World.grows.alloc ?_ _ | refine World.grows.plus ?_ _ _ | refine World.grows.drew ?_))⟩
    have HN := Lib.hid hN
    have hN2 : b.n ≤ 1100 := by omega
    clear hN
    go_wp2_with (go_at_call 22; refine (h22 _ (Hv.out.mono (by (repeat (first | exact World.grows.refl _ | assumption | refine World.grows.alloc ?_ _ | refine World.grows.plus ?_ _ _ | refine World.grows.drew ?_))))).mono ?_; rintro e w' ⟨rfl, hg⟩; obtain ⟨n2, x2, rfl⟩ := World.plus_of hg)
    go_loopw [6] (fun i wr => ∃ k : Nat, k ≤ b.n ∧ i = .int .i64 k ∧ Hid (∀ j, j < k → b.badB r j = false) ∧ ((w.alloc (.cells #[.slice (some ⟨mb, mo, none⟩) r.nm mc, .slice (some ⟨cb, co, none⟩) r.nc cc] 25))).grows wr) (fun i _ => b.n - (intOf i).toNat)
    case atStart => exact ⟨0, by omega, rfl, Lib.hid fun j hj => by omega, by (repeat (first | exact World.grows.refl _ | assumption | refine World.grows.alloc ?_ _ | refine World.grows.plus ?_ _ _ | refine World.grows.drew ?_))⟩
    case round =>
      obtain ⟨k, hk, rfl, hl, hg⟩ := hrel
      by_cases hlt : k < b.n
      · obtain ⟨n1, x1, rfl⟩ := World.plus_of hg
        obtain ⟨tb, to', rfl, h0⟩ := htc k 0 hlt (by omega)
        obtain ⟨_, _, e1, h1⟩ := htc k 1 hlt (by omega)
        cases e1
        simp only [Nat.add_zero, ecell, if_true, if_false, Nat.one_ne_zero] at h0 h1
        have Hrk := Lib.hid (Hrow.out k hlt)
        obtain ⟨ra, rcap, hr1, hr2, hr3, -⟩ := Hrk.out
        rw [hr1] at h0 Hrk
        have bad : b.badB r k = true → Hid (b.err r = 3 ∧ b.ans r = 0) := fun h => Lib.hid (Bn.err_3 Hc.out HN.out hlt h)
        have good : b.badB r k = false → Hid (∀ j, j < k + 1 → b.badB r j = false) := fun h => Lib.hid (upto_succ hl.out h)
        by_cases q1 : b.len k = 0
        · have hE := bad (by simp [Bn.badB, q1])
          rw [q1] at h0
          clear bad good
          go_wp2
          (refine wp_region_calm (by kernel_rfl) (by kernel_rfl) ?_; (repeat (refine wpCalm_step (fun K hK => ?_); go_simp; first | (refine hK _ ?_; clear hK K) | (apply Exists.intro; refine ⟨fun n' x' => ?_, hK _ ?_⟩; (fail); clear hK K))); refine wpCalm_nil ?_; intro nq xq)
          go_wp2
          (refine bodyPost_ret (v := .tuple #[.int .i64 0, .int .i64 3]) (by simp [results, Try.results28, go_sem]) rfl ?_)
          exact ⟨by rw [hE.out.1, hE.out.2], by (repeat (first | exact World.grows.refl _ | assumption | refine World.grows.alloc ?_ _ | refine World.grows.plus ?_ _ _ | refine World.grows.drew ?_))⟩
        have q1' : ¬ ((b.len k : Int) = 0) := by omega
        have q1b : ((b.len k : Int) == 0) = false := beq_eq_false_iff_ne.2 q1'
        have h72 := fun W h => isList_c W (.slice ra (b.len k) rcap) (b.len k) (b.el k) r.nm h
        cases q2 : (List.range (b.len k)).any (riseB (b.el k) r.nm) with
        | true =>
          have hE := bad (by simp [Bn.badB, q2])
          rw [q2] at h72
          clear bad good q2
          go_wp2
          (refine wp_region_calm (by kernel_rfl) (by kernel_rfl) ?_; (repeat (refine wpCalm_step (fun K hK => ?_); go_simp; first | (refine hK _ ?_; clear hK K) | (apply Exists.intro; refine ⟨fun n' x' => ?_, hK _ ?_⟩; (exact h72 _ (Hrk.out.mono (by (repeat (first | exact World.grows.refl _ | assumption | refine World.grows.alloc ?_ _ | refine World.grows.plus ?_ _ _ | refine World.grows.drew ?_))))); clear hK K))); refine wpCalm_nil ?_; intro nq xq)
          go_wp2
          (refine bodyPost_ret (v := .tuple #[.int .i64 0, .int .i64 3]) (by simp [results, Try.results28, go_sem]) rfl ?_)
          exact ⟨by rw [hE.out.1, hE.out.2], by (repeat (first | exact World.grows.refl _ | assumption | refine World.grows.alloc ?_ _ | refine World.grows.plus ?_ _ _ | refine World.grows.drew ?_))⟩
        | false =>
          rw [q2] at h72
          by_cases q3 : b.cost k < 0
          · have hE := bad (by simp [Bn.badB, q3])
            clear bad good q2
            go_wp2
            (refine wp_region_calm (by kernel_rfl) (by kernel_rfl) ?_; (repeat (refine wpCalm_step (fun K hK => ?_); go_simp; first | (refine hK _ ?_; clear hK K) | (apply Exists.intro; refine ⟨fun n' x' => ?_, hK _ ?_⟩; (exact h72 _ (Hrk.out.mono (by (repeat (first | exact World.grows.refl _ | assumption | refine World.grows.alloc ?_ _ | refine World.grows.plus ?_ _ _ | refine World.grows.drew ?_))))); clear hK K))); refine wpCalm_nil ?_; intro nq xq)
            go_wp2
            (refine bodyPost_ret (v := .tuple #[.int .i64 0, .int .i64 3]) (by simp [results, Try.results28, go_sem]) rfl ?_)
            exact ⟨by rw [hE.out.1, hE.out.2], by (repeat (first | exact World.grows.refl _ | assumption | refine World.grows.alloc ?_ _ | refine World.grows.plus ?_ _ _ | refine World.grows.drew ?_))⟩
          by_cases q4 : 100000 < b.cost k
          · have hE := bad (by simp [Bn.badB, q4])
            clear bad good q2
            go_wp2
            (refine wp_region_calm (by kernel_rfl) (by kernel_rfl) ?_; (repeat (refine wpCalm_step (fun K hK => ?_); go_simp; first | (refine hK _ ?_; clear hK K) | (apply Exists.intro; refine ⟨fun n' x' => ?_, hK _ ?_⟩; (exact h72 _ (Hrk.out.mono (by (repeat (first | exact World.grows.refl _ | assumption | refine World.grows.alloc ?_ _ | refine World.grows.plus ?_ _ _ | refine World.grows.drew ?_))))); clear hK K))); refine wpCalm_nil ?_; intro nq xq)
            go_wp2
            (refine bodyPost_ret (v := .tuple #[.int .i64 0, .int .i64 3]) (by simp [results, Try.results28, go_sem]) rfl ?_)
            exact ⟨by rw [hE.out.1, hE.out.2], by (repeat (first | exact World.grows.refl _ | assumption | refine World.grows.alloc ?_ _ | refine World.grows.plus ?_ _ _ | refine World.grows.drew ?_))⟩
          have hnx := good (by simp [Bn.badB, q1, q2, q3, q4])
          clear bad good q2
          go_wp2
          (refine wp_region_calm (by kernel_rfl) (by kernel_rfl) ?_; (repeat (refine wpCalm_step (fun K hK => ?_); go_simp; first | (refine hK _ ?_; clear hK K) | (apply Exists.intro; refine ⟨fun n' x' => ?_, hK _ ?_⟩; (exact h72 _ (Hrk.out.mono (by (repeat (first | exact World.grows.refl _ | assumption | refine World.grows.alloc ?_ _ | refine World.grows.plus ?_ _ _ | refine World.grows.drew ?_))))); clear hK K))); refine wpCalm_nil ?_; intro nq xq)
          go_wp2
          go_roundw
          case rel => exact ⟨k + 1, by omega, by go_num, hnx, by (repeat (first | exact World.grows.refl _ | assumption | refine World.grows.alloc ?_ _ | refine World.grows.plus ?_ _ _ | refine World.grows.drew ?_))⟩
          case measure => simp [intOf]; omega
      · have hke : k = b.n := by omega
        subst hke
        have hgw : w.grows wr := World.grows.trans (by (repeat (first | exact World.grows.refl _ | assumption | refine World.grows.alloc ?_ _ | refine World.grows.plus ?_ _ _ | refine World.grows.drew ?_))) hg
        have b0 := hg.cell_of (a := ⟨w.heap.size, 0, none⟩) (by simp [go_sem]; rfl)
        have b1 := hg.cell_of (a := ⟨w.heap.size, 1, none⟩) (by simp [go_sem]; rfl)
        have Htc : Hid (∀ i j, i < b.n → j < 2 → ∃ tb o, ta = some ⟨tb, o, none⟩ ∧ wr.cell? ⟨tb, o + i * 2 + j, none⟩ = some (ecell row b.cost i j)) := Lib.hid fun i j hi hj => by obtain ⟨tb, o, e, h⟩ := htc i j hi hj; exact ⟨tb, o, e, hgw.cell_of h⟩
        have Hrow2 : Hid (∀ i, i < b.n → IntsAt wr (row i) (b.len i) (b.el i)) := Lib.hid fun i hi => (Hrow.out i hi).mono hgw
        have Hok2 := Lib.hid (Hok.out.mono hgw)
        have Hg := Lib.hid hgw
        clear htc hg hgw Hrow Hok h22 Hv HR
        have Hb := Lib.hid fun i hi => (b.badB_false r i).1 (hl.out i hi)
        by_cases q1 : b.n = 0
        · have hE := Lib.hid (Bn.err_14 Hc.out HN.out hl.out (by simp [Bn.sumB, q1]))
          have q1' : ((b.n : Int) = 0) := by omega
          go_wp2
          (refine wp_region_calm (by kernel_rfl) (by kernel_rfl) ?_; (repeat (refine wpCalm_step (fun K hK => ?_); go_simp; first | (refine hK _ ?_; clear hK K) | (apply Exists.intro; refine ⟨fun n' x' => ?_, hK _ ?_⟩; (fail); clear hK K))); refine wpCalm_nil ?_; intro nq xq)
          go_wp2
          (refine bodyPost_ret (v := .tuple #[.int .i64 0, .int .i64 14]) (by simp [results, Try.results28, go_sem]) rfl ?_)
          exact ⟨by rw [hE.out.1, hE.out.2], Hg.out.trans (by (repeat (first | exact World.grows.refl _ | assumption | refine World.grows.alloc ?_ _ | refine World.grows.plus ?_ _ _ | refine World.grows.drew ?_)))⟩
        have q1' : ¬ ((b.n : Int) = 0) := by omega
        have q1b : ((b.n : Int) == 0) = false := beq_eq_false_iff_ne.2 q1'
        have hwn : IntKind.i64.wrap ((b.n : Int) - 1) = ((b.n - 1 : Nat) : Int) := wrapI (by omega) (by omega)
        have hln : b.n - 1 < b.n := by omega
        obtain ⟨tb, to', rfl, h0⟩ := Htc.out (b.n - 1) 0 hln (by omega)
        obtain ⟨_, _, e1, h1⟩ := Htc.out (b.n - 1) 1 hln (by omega)
        cases e1
        simp only [Nat.add_zero, ecell, if_true, if_false, Nat.one_ne_zero] at h0 h1
        obtain ⟨ra, rcap, hr1, hr2, hr3, -⟩ := Hrow2.out (b.n - 1) hln
        rw [hr1] at h0
        have hlm := (Hb.out (b.n - 1) hln).2.1.len
        by_cases q5 : b.len (b.n - 1) = r.nm
        · have hS := Lib.hid (show b.sumB r = false by simp [Bn.sumB, q1, q5])
          rw [q5] at h0
          have Hb1 := Lib.hid fun i hi => (Hb.out i hi).2.2
          obtain ⟨N, hNN⟩ : ∃ N, 2 ^ r.nm = N := ⟨_, rfl⟩
          have hN10 : N ≤ 1000000000 := by rw [← hNN]; exact Nat.le_trans (Nat.pow_le_pow_right (by omega) hm10) (by decide)
          have hpc := two_pow_cast r.nm
          have hwp := wrap_pow (k := r.nm) (by omega)
          have HNN := Lib.hid hNN
          rw [hNN] at hpc
          have hwz : wrap64 ((2 : Int) ^ r.nm) = ((N : Nat) : Int) := by rw [hwp, hpc]
          have Hlast := Lib.hid h1
          clear hNN hpc hwp
          go_wp2
          (refine wp_region_calm (by kernel_rfl) (by kernel_rfl) ?_; (repeat (refine wpCalm_step (fun K hK => ?_); go_simp; first | (refine hK _ ?_; clear hK K) | (apply Exists.intro; refine ⟨fun n' x' => ?_, hK _ ?_⟩; (fail); clear hK K))); refine wpCalm_nil ?_; intro nq xq)
          go_wp2
          clear h0 h1 hwz q5 q1b hlm
          go_loopw [8] (fun i wr' => ∃ k : Nat, k ≤ b.n ∧ i = .int .i64 k ∧ Hid (∀ j, j < k → b.rightB r j = true) ∧ ((wr.plus nq xq).alloc (.cells (rowI N (b.top k)) 2)).grows wr') (fun i _ => b.n - (intOf i).toNat)
          case atStart => exact ⟨0, by omega, rfl, Lib.hid fun j hj => by omega, by show (((wr.plus nq xq).alloc (.cells (rowI N (fun _ => 0)) 2))).grows _; (repeat (first | exact World.grows.refl _ | assumption | refine World.grows.alloc ?_ _ | refine World.grows.plus ?_ _ _ | refine World.grows.drew ?_))⟩
          case round =>
            obtain ⟨k, hk, rfl, hl2, hg2⟩ := hrel
            obtain ⟨n3, x3, rfl⟩ := World.plus_of hg2
            by_cases hlt : k < b.n
            · obtain ⟨_, _, e1, h0⟩ := Htc.out k 0 hlt (by omega)
              cases e1
              obtain ⟨_, _, e1, h1⟩ := Htc.out k 1 hlt (by omega)
              cases e1
              simp only [Nat.add_zero, ecell, if_true, if_false, Nat.one_ne_zero] at h0 h1
              have Hrk := Lib.hid (Hrow2.out k hlt)
              obtain ⟨ra, rcap, hr1, hr2, hr3, -⟩ := Hrk.out
              rw [hr1] at h0 Hrk
              obtain ⟨hbl, hbr, hbc1, hbc2⟩ := Hb.out k hlt
              have hbd := Bn.top_bd Hb1.out k (by omega)
              have HB : Hid (IntsAt ((wr.plus nq xq).alloc (.cells (rowI N (b.top k)) 2)) (.slice (some ⟨wr.heap.size + nq, 0, none⟩) N N) (2 ^ r.nm) (b.top k)) := Lib.hid (by rw [HNN.out]; exact rowI_ints _ N _ 2 _ (by simp) (by unfold maxLen; omega))
              have h73 := fun W h1 h2 h3 => right73 W (.agg #[.slice (some ⟨mb, mo, none⟩) r.nm mc, .slice (some ⟨cb, co, none⟩) r.nc cc]) r h1 Hr.out (.slice ra (b.len k) rcap) (b.len k) (b.el k) h2 hbr (b.cost k) ⟨hbc1, hbc2⟩ (.slice (some ⟨wr.heap.size + nq, 0, none⟩) N N) (b.top k) h3 (fun s _ => hbd s)
              have hR : b.rightB r k = (decide (b.cost k ≤ 0) || (r.mixed (setN (b.el k) (b.len k)) && decide (b.cost k ≤ r.looksR (b.top k) (setN (b.el k) (b.len k)) r.nc))) := rfl
              rw [← hR] at h73
              clear hR
              cases hrk : b.rightB r k with
              | false =>
                have hE := Lib.hid (Bn.err_14b Hc.out HN.out hl.out hS.out hlt hrk)
                rw [hrk] at h73
                clear hbl hbr hbd hrk
                go_wp2
                (refine wp_region_calm (by kernel_rfl) (by kernel_rfl) ?_; (repeat (refine wpCalm_step (fun K hK => ?_); go_simp; first | (refine hK _ ?_; clear hK K) | (apply Exists.intro; refine ⟨fun n' x' => ?_, hK _ ?_⟩; (exact h73 _ (Hok2.out.mono (by (repeat (first | exact World.grows.refl _ | assumption | refine World.grows.alloc ?_ _ | refine World.grows.plus ?_ _ _ | refine World.grows.drew ?_)))) (Hrk.out.mono (by (repeat (first | exact World.grows.refl _ | assumption | refine World.grows.alloc ?_ _ | refine World.grows.plus ?_ _ _ | refine World.grows.drew ?_)))) (HB.out.mono (by (repeat (first | exact World.grows.refl _ | assumption | refine World.grows.alloc ?_ _ | refine World.grows.plus ?_ _ _ | refine World.grows.drew ?_))))); clear hK K))); refine wpCalm_nil ?_; intro nq xq)
                go_wp2
                (refine bodyPost_ret (v := .tuple #[.int .i64 0, .int .i64 14]) (by simp [results, Try.results28, go_sem]) rfl ?_)
                exact ⟨by rw [hE.out.1, hE.out.2], Hg.out.trans (by (repeat (first | exact World.grows.refl _ | assumption | refine World.grows.alloc ?_ _ | refine World.grows.plus ?_ _ _ | refine World.grows.drew ?_)))⟩
              | true =>
                rw [hrk] at h73
                have hnx := Lib.hid (upto_succ hl2.out hrk)
                have hslt := hbr.set_lt
                rw [HNN.out] at hslt
                have h74 := fun W h => bits74 W (.slice ra (b.len k) rcap) (b.len k) (b.el k) r.nm h hbr hm10
                have hup := b.top_up k
                unfold Bn.set at hup
                obtain ⟨S, hSS⟩ : ∃ S, setN (b.el k) (b.len k) = S := ⟨_, rfl⟩
                rw [hSS] at hslt h74 hup
                have Hup := Lib.hid hup
                clear hbl hbr hbd hrk hSS hup
                go_wp2
                (refine wp_region_calm (by kernel_rfl) (by kernel_rfl) ?_; (repeat (refine wpCalm_step (fun K hK => ?_); go_simp; first | (refine hK _ ?_; clear hK K) | (apply Exists.intro; refine ⟨fun n' x' => ?_, hK _ ?_⟩; (exact h73 _ (Hok2.out.mono (by (repeat (first | exact World.grows.refl _ | assumption | refine World.grows.alloc ?_ _ | refine World.grows.plus ?_ _ _ | refine World.grows.drew ?_)))) (Hrk.out.mono (by (repeat (first | exact World.grows.refl _ | assumption | refine World.grows.alloc ?_ _ | refine World.grows.plus ?_ _ _ | refine World.grows.drew ?_)))) (HB.out.mono (by (repeat (first | exact World.grows.refl _ | assumption | refine World.grows.alloc ?_ _ | refine World.grows.plus ?_ _ _ | refine World.grows.drew ?_))))); clear hK K))); refine wpCalm_nil ?_; intro nq xq)
                go_wp2_with (go_at_call 74; refine (h74 _ (Hrk.out.mono (by (repeat (first | exact World.grows.refl _ | assumption | refine World.grows.alloc ?_ _ | refine World.grows.plus ?_ _ _ | refine World.grows.drew ?_))))).mono ?_; rintro e w' ⟨rfl, hg⟩; obtain ⟨n5, x5, rfl⟩ := World.plus_of hg)
                (refine wp_region_tail 12 (by kernel_rfl) (by kernel_rfl) (by decide) ?_; simp only [List.take_succ_cons, List.take_zero, List.drop_succ_cons, List.drop_zero, List.take_nil, List.drop_nil, List.append_nil, List.nil_append, List.cons_append, Nat.reduceAdd, Nat.reduceSub]; (repeat (refine wpCalm_step (fun K hK => ?_); go_simp; first | (refine hK _ ?_; clear hK K) | (apply Exists.intro; refine ⟨fun n' x' => ?_, hK _ ?_⟩; (fail); clear hK K))); refine wpCalm_nil ?_; intro nq xq)
                go_wp2
                go_roundw
                case rel => exact ⟨k + 1, by omega, by go_num, hnx, by rw [← Hup.out, ← max_if]; (repeat (first | exact World.grows.refl _ | assumption | refine World.grows.alloc ?_ _ | refine World.grows.plus ?_ _ _ | refine World.grows.drew ?_))⟩
                case measure => simp [intOf]; omega
            · have hke : k = b.n := by omega
              subst hke
              have hE := Lib.hid (Bn.err_0 Hc.out HN.out hl.out hS.out hl2.out)
              have h1 := Hlast.out
              go_wp2
              (refine bodyPost_ret (v := .tuple #[.int .i64 (b.cost (b.n - 1)), .int .i64 0]) (by simp [results, Try.results28, go_sem]) rfl ?_)
              exact ⟨by rw [hE.out.1, hE.out.2], Hg.out.trans (by (repeat (first | exact World.grows.refl _ | assumption | refine World.grows.alloc ?_ _ | refine World.grows.plus ?_ _ _ | refine World.grows.drew ?_)))⟩
        · have hE := Lib.hid (Bn.err_14 Hc.out HN.out hl.out (by simp [Bn.sumB]; omega))
          have q5' : ¬ ((b.len (b.n - 1) : Int) = (r.nm : Int)) := by omega
          have q5b : ((b.len (b.n - 1) : Int) == (r.nm : Int)) = false := beq_eq_false_iff_ne.2 q5'
          go_wp2
          (refine wp_region_calm (by kernel_rfl) (by kernel_rfl) ?_; (repeat (refine wpCalm_step (fun K hK => ?_); go_simp; first | (refine hK _ ?_; clear hK K) | (apply Exists.intro; refine ⟨fun n' x' => ?_, hK _ ?_⟩; (fail); clear hK K))); refine wpCalm_nil ?_; intro nq xq)
          go_wp2
          (refine bodyPost_ret (v := .tuple #[.int .i64 0, .int .i64 14]) (by simp [results, Try.results28, go_sem]) rfl ?_)
          exact ⟨by rw [hE.out.1, hE.out.2], Hg.out.trans (by (repeat (first | exact World.grows.refl _ | assumption | refine World.grows.alloc ?_ _ | refine World.grows.plus ?_ _ _ | refine World.grows.drew ?_)))⟩
  · have hE := Lib.hid (Bn.err_bad (b := b) hc)
    go_wp2_with (go_at_call 22; refine (h22 _ (Hv.out.mono (by (repeat (first | exact World.grows.refl _ | assumption | refine World.grows.alloc ?_ _ | refine World.grows.plus ?_ _ _ | refine World.grows.drew ?_))))).mono ?_; rintro e w' ⟨rfl, hg⟩; obtain ⟨n2, x2, rfl⟩ := World.plus_of hg)
    (refine bodyPost_ret (v := .tuple #[.int .i64 0, .int .i64 r.check]) (by simp [results, Try.results28, go_sem]) rfl ?_)
    exact ⟨by rw [hE.out.1, hE.out.2], by (repeat (first | exact World.grows.refl _ | assumption | refine World.grows.alloc ?_ _ | refine World.grows.plus ?_ _ _ | refine World.grows.drew ?_))⟩
end Go.Proofs.Ytdminglglapnlaa

/-
  What is proved: CheckBounds of the program (27).
-/
namespace Go.Proofs.Ytdminglglapnlaa
open Go.RowKit
attribute [local irreducible] Go.wpCalm deskA rowI rowA

theorem Bn.top_zero {b : Bn} {r : Reg} (h : ∀ i, i < b.n → b.badB r i = false) : ∀ k, k ≤ b.n → b.top k 0 = 0
  | 0, _ => rfl
  | k + 1, hk => by
    have ih := Bn.top_zero h k (by omega)
    have hb := (b.badB_false r k).1 (h k (by omega))
    simp only [Bn.top]
    rw [if_neg]
    · exact ih
    · intro e
      have : (b.set k).testBit (b.el k 0).toNat = true := by
        unfold Bn.set setN
        rw [testBit_bitsN]
        simp only [List.any_eq_true, List.mem_range, decide_eq_true_eq]
        exact ⟨0, by omega, rfl⟩
      rw [← e] at this
      simp at this
set_option maxRecDepth 100000 in
set_option maxHeartbeats 8000000 in
theorem pbounds_c (w : World) (v : Value) (r : Reg) (hv : RegAt w v r) (tv : Value) (b : Bn) (ht : TableAt w tv b) :
    Calls Try.prog 27 #[v, tv] w fun e w' => e = .returned (.tuple #[.int .i64 (b.ans r), .int .i64 (b.err r)]) ∧ w.grows w' := by
  have h21 := fun W (g : w.grows W) => check_c W v r (hv.mono g)
  have Hv := Lib.hid hv
  have Ht := Lib.hid ht
  obtain ⟨mv, cv, mrow, rfl, hmv, -, -⟩ := hv
  obtain ⟨row, ⟨ta, tc, rfl, t1, t2, htc⟩, hrow⟩ := ht
  obtain ⟨ma, mc, rfl, m1, m2, -⟩ := hmv
  unfold maxLen at t2
  have Htc := Lib.hid htc
  have Hrow := Lib.hid hrow
  clear htc hrow
  go_enter Try.func27, Try.ntmps27
  by_cases hc : r.check ≠ 0
  · have hE := Lib.hid (Bn.err_bad (b := b) hc)
    have hcb : (r.check != 0) = true := by simpa using hc
    go_wp2_with (go_at_call 21; refine (h21 _ (by (repeat (first | exact World.grows.refl _ | assumption | refine World.grows.alloc ?_ _ | refine World.grows.plus ?_ _ _ | refine World.grows.drew ?_)))).mono ?_; rintro e w' ⟨rfl, hg⟩; obtain ⟨n2, x2, rfl⟩ := World.plus_of hg)
    (refine bodyPost_ret (v := .tuple #[.int .i64 0, .int .i64 r.check]) (by simp [results, Try.results27, go_sem]) rfl ?_)
    exact ⟨by rw [hE.out.1, hE.out.2], by (repeat (first | exact World.grows.refl _ | assumption | refine World.grows.alloc ?_ _ | refine World.grows.plus ?_ _ _ | refine World.grows.drew ?_))⟩
  replace hc : r.check = 0 := Classical.not_not.1 hc
  have Hc := Lib.hid hc
  have Hr := Lib.hid (Reg.ok_of hc)
  have Hok := Lib.hid (Hv.out.ok (Reg.ok_of hc))
  have hm10 := Hr.out.m10
  have hm1' := Hr.out.m1
  rw [hc] at h21
  clear hc
  by_cases hn : 1100 < b.n
  · have hE := Lib.hid (Bn.err_6 (b := b) Hc.out hn)
    have hnI : (1100 : Int) < (b.n : Int) := by omega
    go_wp2_with (go_at_call 21; refine (h21 _ (by (repeat (first | exact World.grows.refl _ | assumption | refine World.grows.alloc ?_ _ | refine World.grows.plus ?_ _ _ | refine World.grows.drew ?_)))).mono ?_; rintro e w' ⟨rfl, hg⟩; obtain ⟨n2, x2, rfl⟩ := World.plus_of hg)
    (refine bodyPost_ret (v := .tuple #[.int .i64 0, .int .i64 6]) (by simp [results, Try.results27, go_sem]) rfl ?_)
    exact ⟨by rw [hE.out.1, hE.out.2], by (repeat (first | exact World.grows.refl _ | assumption | refine World.grows.alloc ?_ _ | refine World.grows.plus ?_ _ _ | refine World.grows.drew ?_))⟩
  have hnI : ¬ (1100 : Int) < (b.n : Int) := by omega
  have hf := fun (V : World) (hV : w.grows V) (bx : Nat) (hbx : V.cell? ⟨bx, 0, none⟩ = some (.slice ma r.nm mc)) i (hi : i < b.n) (W : World) (hW : V.grows W) => badEntry_c W r b i (row i) ((Hrow.out i hi).mono (hV.trans hW)) bx ma mc (by omega) m1 m2 (hW.cell_of hbx)
  have h67 := fun (V : World) (hV : w.grows V) (bx : Nat) (hbx : V.cell? ⟨bx, 0, none⟩ = some (.slice ma r.nm mc)) => has67 V (.slice ta b.n tc) b.n (ecell row b.cost) 65 #[.pointer (some ⟨bx, 0, none⟩)] (b.badB r)
    (SliceAt.mono (w := w) ⟨ta, tc, rfl, t1, by unfold maxLen; omega, Htc.out⟩ hV) (fun args w => by simp [go_sem]) (fun i hi W hW => hf V hV bx hbx i hi W hW)
  clear hf
  have hn0 : ¬ 1100 < b.n := hn
  clear hn
  cases hany : (List.range b.n).any (b.badB r) with
  | true =>
    rw [hany] at h67
    obtain ⟨i, hi, hbi⟩ := List.any_eq_true.1 hany
    have hE := Lib.hid (Bn.err_3 (b := b) Hc.out hn0 (List.mem_range.1 hi) hbi)
    clear hi hbi hany
    go_wp2_with (first
      | (go_at_call 21; refine (h21 _ (by (repeat (first | exact World.grows.refl _ | assumption | refine World.grows.alloc ?_ _ | refine World.grows.plus ?_ _ _ | refine World.grows.drew ?_)))).mono ?_; rintro e w' ⟨rfl, hg⟩; obtain ⟨n2, x2, rfl⟩ := World.plus_of hg)
      | (go_at_call 67; refine (h67 _ (by (repeat (first | exact World.grows.refl _ | assumption | refine World.grows.alloc ?_ _ | refine World.grows.plus ?_ _ _ | refine World.grows.drew ?_))) _ (by simp [go_sem])).mono ?_; rintro e w' ⟨rfl, hg⟩; obtain ⟨n3, x3, rfl⟩ := World.plus_of hg))
    (refine bodyPost_ret (v := .tuple #[.int .i64 0, .int .i64 3]) (by simp [results, Try.results27, go_sem]) rfl ?_)
    exact ⟨by rw [hE.out.1, hE.out.2], by (repeat (first | exact World.grows.refl _ | assumption | refine World.grows.alloc ?_ _ | refine World.grows.plus ?_ _ _ | refine World.grows.drew ?_))⟩
  | false =>
    rw [hany] at h67
    have HN : Hid (∀ i, i < b.n → b.badB r i = false) := Lib.hid fun i hi => by
      cases hb : b.badB r i with
      | false => rfl
      | true => rw [List.any_eq_true.2 ⟨i, List.mem_range.2 hi, hb⟩] at hany; cases hany
    clear hany
    go_wp2_with (first
      | (go_at_call 21; refine (h21 _ (by (repeat (first | exact World.grows.refl _ | assumption | refine World.grows.alloc ?_ _ | refine World.grows.plus ?_ _ _ | refine World.grows.drew ?_)))).mono ?_; rintro e w' ⟨rfl, hg⟩; obtain ⟨n2, x2, rfl⟩ := World.plus_of hg)
      | (go_at_call 67; refine (h67 _ (by (repeat (first | exact World.grows.refl _ | assumption | refine World.grows.alloc ?_ _ | refine World.grows.plus ?_ _ _ | refine World.grows.drew ?_))) _ (by simp [go_sem])).mono ?_; rintro e w' ⟨rfl, hg⟩; obtain ⟨n3, x3, rfl⟩ := World.plus_of hg))
    clear h67 h21
    by_cases q1 : b.n = 0
    · have hE := Lib.hid (Bn.err_14 Hc.out hn0 HN.out (by simp [Bn.sumB, q1]))
      have q1' : ((b.n : Int) = 0) := by omega
      (refine wp_region_calm (by kernel_rfl) (by kernel_rfl) ?_; (repeat (refine wpCalm_step (fun K hK => ?_); go_simp; first | (refine hK _ ?_; clear hK K) | (apply Exists.intro; refine ⟨fun n' x' => ?_, hK _ ?_⟩; (fail); clear hK K))); refine wpCalm_nil ?_; intro nq xq)
      go_wp2
      (refine bodyPost_ret (v := .tuple #[.int .i64 0, .int .i64 14]) (by simp [results, Try.results27, go_sem]) rfl ?_)
      exact ⟨by rw [hE.out.1, hE.out.2], by (repeat (first | exact World.grows.refl _ | assumption | refine World.grows.alloc ?_ _ | refine World.grows.plus ?_ _ _ | refine World.grows.drew ?_))⟩
    have q1' : ¬ ((b.n : Int) = 0) := by omega
    have q1b : ((b.n : Int) == 0) = false := beq_eq_false_iff_ne.2 q1'
    have hwn : IntKind.i64.wrap ((b.n : Int) - 1) = ((b.n - 1 : Nat) : Int) := wrapI (by omega) (by omega)
    have hln : b.n - 1 < b.n := by omega
    obtain ⟨tb, tof, rfl, h0⟩ := Htc.out (b.n - 1) 0 hln (by omega)
    obtain ⟨_, _, e1, h1⟩ := Htc.out (b.n - 1) 1 hln (by omega)
    cases e1
    simp only [Nat.add_zero, ecell, if_true, if_false, Nat.one_ne_zero] at h0 h1
    obtain ⟨ra, rcap, hr1, hr2, hr3, -⟩ := Hrow.out (b.n - 1) hln
    rw [hr1] at h0
    have hlm := ((b.badB_false r _).1 (HN.out (b.n - 1) hln)).2.1.len
    have Hlast := Lib.hid h1
    by_cases q5 : b.len (b.n - 1) < r.nm
    · have hE := Lib.hid (Bn.err_14 Hc.out hn0 HN.out (by simp [Bn.sumB, q5]))
      have q5' : (b.len (b.n - 1) : Int) < (r.nm : Int) := by omega
      clear h1
      (refine wp_region_calm (by kernel_rfl) (by kernel_rfl) ?_; (repeat (refine wpCalm_step (fun K hK => ?_); go_simp; first | (refine hK _ ?_; clear hK K) | (apply Exists.intro; refine ⟨fun n' x' => ?_, hK _ ?_⟩; (fail); clear hK K))); refine wpCalm_nil ?_; intro nq xq)
      go_wp2
      (refine bodyPost_ret (v := .tuple #[.int .i64 0, .int .i64 14]) (by simp [results, Try.results27, go_sem]) rfl ?_)
      exact ⟨by rw [hE.out.1, hE.out.2], by (repeat (first | exact World.grows.refl _ | assumption | refine World.grows.alloc ?_ _ | refine World.grows.plus ?_ _ _ | refine World.grows.drew ?_))⟩
    · have hS := Lib.hid (show b.sumB r = false by simp [Bn.sumB, q1]; omega)
      have q5' : ¬ (b.len (b.n - 1) : Int) < (r.nm : Int) := by omega
      clear h1
      (refine wp_region_calm (by kernel_rfl) (by kernel_rfl) ?_; (repeat (refine wpCalm_step (fun K hK => ?_); go_simp; first | (refine hK _ ?_; clear hK K) | (apply Exists.intro; refine ⟨fun n' x' => ?_, hK _ ?_⟩; (fail); clear hK K))); refine wpCalm_nil ?_; intro nq xq)
      clear h0 q5 q5' hwn
      go_wp2_with (go_at_call 68; go_loud (refine (newDesk_c _ (.slice ma r.nm mc) cv).mono ?_); rintro e W3 ⟨db, mb, rfl, hD, k1, k2, hg3⟩; have HD : Hid (DeskW _ W3 db mb r (fun _ => 0) VM.empty) := Lib.hid ((Hok.out.mono (by (repeat (first | exact World.grows.refl _ | assumption | refine World.grows.alloc ?_ _ | refine World.grows.plus ?_ _ _ | refine World.grows.drew ?_)))).deskW hD k1 k2 hg3))
      obtain ⟨W0, hW0⟩ : ∃ W0, W0 = ((((w.alloc (Obj.cells #[Value.slice ma r.nm mc, cv] 25)).plus n2 x2).plus n3 x3).plus nq xq) := ⟨_, rfl⟩
      have gw0 : w.grows W0 := by rw [hW0]; (repeat (first | exact World.grows.refl _ | assumption | refine World.grows.alloc ?_ _ | refine World.grows.plus ?_ _ _ | refine World.grows.drew ?_))
      rw [← hW0] at HD
      have Gw0 := Lib.hid gw0
      have hwn2 : Hid (wrap64 ((b.n : Int) - 1) = ((b.n - 1 : Nat) : Int)) := Lib.hid (by unfold wrap64; omega)
      have Hcost := Lib.hid fun i (hi : i < b.n) => ((b.badB_false r i).1 (HN.out i hi)).2.2
      have Hz := Lib.hid (Bn.top_zero HN.out)
      have Hla : Hid ((b.n : Int) = 0 → False) := Lib.hid q1'
      generalize decide (1100 < (b.n : Int)) = dc
      clear hW0 gw0 hD k1 k2 hg3 q1b q1' hr1 hr2 hr3 hlm hnI Hv Ht
      go_loopw [49] (fun i wr => ∃ k : Nat, k ≤ b.n ∧ i = .int .i64 k ∧ Hid (∀ j, j < k → b.rightB r j = true) ∧ Hid (DeskW W0 wr db mb r (b.top k) VM.empty)) (fun i _ => b.n - (intOf i).toNat)
      case atStart => exact ⟨0, by omega, rfl, Lib.hid fun j hj => by omega, HD⟩
      case round =>
        obtain ⟨k, hk, rfl, hl, HDk⟩ := hrel
        by_cases hlt : k < b.n
        · have hgr := Gw0.out.trans HDk.out.ge.2.2
          obtain ⟨_, _, e1, h0⟩ := Htc.out k 0 hlt (by omega)
          cases e1
          obtain ⟨_, _, e1, h1⟩ := Htc.out k 1 hlt (by omega)
          cases e1
          simp only [Nat.add_zero, ecell, if_true, if_false, Nat.one_ne_zero] at h0 h1
          replace h0 := hgr.cell_of h0
          replace h1 := hgr.cell_of h1
          have Hrk := Lib.hid ((Hrow.out k hlt).mono hgr)
          obtain ⟨ra2, rcap2, hr1, hr2, hr3, -⟩ := Hrk.out
          rw [hr1] at h0 Hrk
          obtain ⟨hbl, hbr, hbc1, hbc2⟩ := (b.badB_false r k).1 (HN.out k hlt)
          have hbd := Bn.top_bd Hcost.out k (by omega)
          have hslt := hbr.set_lt
          have hs10 : setN (b.el k) (b.len k) < 1024 := Nat.lt_of_lt_of_le hslt (Nat.pow_le_pow_right (by omega) hm10)
          have h69 := fun W (g : wr.grows W) => setOf69 W (.slice ra2 (b.len k) rcap2) (b.len k) (b.el k) r.nm (Hrk.out.mono g) hbr hm10
          have hR : b.rightB r k = (decide (b.cost k ≤ 0) || (r.mixed (setN (b.el k) (b.len k)) && decide (b.cost k ≤ r.looksR (b.top k) (setN (b.el k) (b.len k)) r.nc))) := rfl
          have hup := b.top_up k
          unfold Bn.set at hup
          obtain ⟨S, hSS⟩ : ∃ S, setN (b.el k) (b.len k) = S := ⟨_, rfl⟩
          rw [hSS] at hslt hs10 h69 hup hR
          have h70 := fun W (g : wr.grows W) => alike_c W db mb r _ _ (HDk.out.mono g).deskR Hr.out S hslt
          have h71 := fun W (g : wr.grows W) => looks_c W db mb r _ _ (HDk.out.mono g).deskR Hr.out S hslt (fun x _ => by have := hbd x; omega) (Hz.out k (by omega))
          have hsnd := r.lookR_snd (b.top k) S r.nc
          obtain ⟨lk, hlk⟩ : ∃ lk, r.lookR (b.top k) S r.nc = lk := ⟨_, rfl⟩
          rw [hlk] at h71 hsnd
          obtain ⟨lf, ll⟩ := lk
          dsimp only at hsnd
          rw [← hsnd] at hR
          unfold lookV at h71
          dsimp only at h71
          have Hup := Lib.hid hup
          have hf7 := fun W => fld115 lf ll W
          clear hlk hsnd hup hbl hbr hSS hr1 hr2 hr3
          by_cases q6 : 0 < b.cost k
          · have q6' : ¬ b.cost k ≤ 0 := by omega
            have hRd : b.rightB r k = (r.mixed S && decide (b.cost k ≤ ll)) := by rw [hR]; simp [q6']
            clear hR
            cases hmx : r.mixed S with
            | false =>
              rw [hmx] at hRd h70
              have hE := Lib.hid (Bn.err_14b Hc.out hn0 HN.out hS.out hlt (by rw [hRd]; rfl))
              clear hRd hmx
              go_wp2_with (go_at_call 69; refine (h69 _ (by (repeat (first | exact World.grows.refl _ | assumption | refine World.grows.alloc ?_ _ | refine World.grows.plus ?_ _ _ | refine World.grows.drew ?_)))).mono ?_; rintro e w' ⟨rfl, hg⟩; obtain ⟨n5, x5, rfl⟩ := World.plus_of hg)
              (refine wp_region_calm (by kernel_rfl) (by kernel_rfl) ?_; (repeat (refine wpCalm_step (fun K hK => ?_); go_simp; first | (refine hK _ ?_; clear hK K) | (apply Exists.intro; refine ⟨fun n' x' => ?_, hK _ ?_⟩; (exact h70 _ (by (repeat (first | exact World.grows.refl _ | assumption | refine World.grows.alloc ?_ _ | refine World.grows.plus ?_ _ _ | refine World.grows.drew ?_)))); clear hK K))); refine wpCalm_nil ?_; intro nq xq)
              go_wp2
              (refine bodyPost_ret (v := .tuple #[.int .i64 0, .int .i64 14]) (by simp [results, Try.results27, go_sem]) rfl ?_)
              exact ⟨by rw [hE.out.1, hE.out.2], hgr.trans (by (repeat (first | exact World.grows.refl _ | assumption | refine World.grows.alloc ?_ _ | refine World.grows.plus ?_ _ _ | refine World.grows.drew ?_)))⟩
            | true =>
              rw [hmx] at hRd h70
              clear hmx
              by_cases q7 : ll < b.cost k
              · have hE := Lib.hid (Bn.err_14b Hc.out hn0 HN.out hS.out hlt (by rw [hRd]; simp; omega))
                clear hRd
                go_wp2_with (go_at_call 69; refine (h69 _ (by (repeat (first | exact World.grows.refl _ | assumption | refine World.grows.alloc ?_ _ | refine World.grows.plus ?_ _ _ | refine World.grows.drew ?_)))).mono ?_; rintro e w' ⟨rfl, hg⟩; obtain ⟨n5, x5, rfl⟩ := World.plus_of hg)
                (refine wp_region_calm (by kernel_rfl) (by kernel_rfl) ?_; (repeat (refine wpCalm_step (fun K hK => ?_); go_simp; first | (refine hK _ ?_; clear hK K) | (apply Exists.intro; refine ⟨fun n' x' => ?_, hK _ ?_⟩; (first | exact h70 _ (by (repeat (first | exact World.grows.refl _ | assumption | refine World.grows.alloc ?_ _ | refine World.grows.plus ?_ _ _ | refine World.grows.drew ?_))) | exact h71 _ (by (repeat (first | exact World.grows.refl _ | assumption | refine World.grows.alloc ?_ _ | refine World.grows.plus ?_ _ _ | refine World.grows.drew ?_)))); clear hK K))); refine wpCalm_nil ?_; intro nq xq)
                go_wp2
                (refine bodyPost_ret (v := .tuple #[.int .i64 0, .int .i64 14]) (by simp [results, Try.results27, go_sem]) rfl ?_)
                exact ⟨by rw [hE.out.1, hE.out.2], hgr.trans (by (repeat (first | exact World.grows.refl _ | assumption | refine World.grows.alloc ?_ _ | refine World.grows.plus ?_ _ _ | refine World.grows.drew ?_)))⟩
              · have hrk : b.rightB r k = true := by rw [hRd]; simp; omega
                have hnx := Lib.hid (upto_succ hl.out hrk)
                clear hRd hrk
                go_wp2_with (go_at_call 69; refine (h69 _ (by (repeat (first | exact World.grows.refl _ | assumption | refine World.grows.alloc ?_ _ | refine World.grows.plus ?_ _ _ | refine World.grows.drew ?_)))).mono ?_; rintro e w' ⟨rfl, hg⟩; obtain ⟨n5, x5, rfl⟩ := World.plus_of hg)
                (refine wp_region_calm (by kernel_rfl) (by kernel_rfl) ?_; (repeat (refine wpCalm_step (fun K hK => ?_); go_simp; first | (refine hK _ ?_; clear hK K) | (apply Exists.intro; refine ⟨fun n' x' => ?_, hK _ ?_⟩; (first | exact h70 _ (by (repeat (first | exact World.grows.refl _ | assumption | refine World.grows.alloc ?_ _ | refine World.grows.plus ?_ _ _ | refine World.grows.drew ?_))) | exact h71 _ (by (repeat (first | exact World.grows.refl _ | assumption | refine World.grows.alloc ?_ _ | refine World.grows.plus ?_ _ _ | refine World.grows.drew ?_)))); clear hK K))); refine wpCalm_nil ?_; intro nq xq)
                generalize hUe : World.plus _ _ _ = U; have gU : wr.grows U := (by rw [← hUe]; (repeat (first | exact World.grows.refl _ | assumption | refine World.grows.alloc ?_ _ | refine World.grows.plus ?_ _ _ | refine World.grows.drew ?_))); have hbx : U.heap[wr.heap.size]? = some (.cells #[.slice ra2 (b.len k) rcap2, .int .i64 (b.cost k)] 97) := (by rw [← hUe]; exact World.grows.heap_of (by (repeat (first | exact World.grows.refl _ | assumption | refine World.grows.alloc ?_ _ | refine World.grows.plus ?_ _ _ | refine World.grows.drew ?_))) (World.heap_at _ _ _ rfl)); have kb1 : U.cell? ⟨wr.heap.size, 1, none⟩ = some (.int .i64 (b.cost k)) := cell_of_heap hbx rfl; have HDU := Lib.hid (HDk.out.mono gU); have kc := HDU.out.cost hs10; have kf := HDU.out.frozen (2 + S); have hsI : (S : Int) < 1024 := (by omega); clear hbx gU hUe h0 h1 hgr hbd h69 h70 h71 hf7
                go_wp2
                (refine wp_region_tail 14 (by kernel_rfl) (by kernel_rfl) (by decide) ?_; simp only [List.take_succ_cons, List.take_zero, List.drop_succ_cons, List.drop_zero, List.take_nil, List.drop_nil, List.append_nil, List.nil_append, List.cons_append, Nat.reduceAdd, Nat.reduceSub]; (repeat (refine wpCalm_step (fun K hK => ?_); go_simp; first | (refine hK _ ?_; clear hK K) | (apply Exists.intro; refine ⟨fun n' x' => ?_, hK _ ?_⟩; (fail); clear hK K))); refine wpCalm_nil ?_; intro nq xq)
                go_wp2
                go_roundw
                case rel => exact ⟨k + 1, by omega, by go_num, hnx, Lib.hid (by rw [← Hup.out, ← max_if]; exact (HDU.out.store hs10 _).mono (by (repeat (first | exact World.grows.refl _ | assumption | refine World.grows.alloc ?_ _ | refine World.grows.plus ?_ _ _ | refine World.grows.drew ?_))))⟩
                case measure => simp [intOf]; omega
          · have q6' : b.cost k ≤ 0 := by omega
            have hrk : b.rightB r k = true := by rw [hR]; simp [q6']
            have hnx := Lib.hid (upto_succ hl.out hrk)
            have hd6 : decide (0 < b.cost k) = false := by simp; omega
            clear hR hrk
            go_wp2_with (go_at_call 69; refine (h69 _ (by (repeat (first | exact World.grows.refl _ | assumption | refine World.grows.alloc ?_ _ | refine World.grows.plus ?_ _ _ | refine World.grows.drew ?_)))).mono ?_; rintro e w' ⟨rfl, hg⟩; obtain ⟨n5, x5, rfl⟩ := World.plus_of hg)
            (refine wp_region_calm (by kernel_rfl) (by kernel_rfl) ?_; (repeat (refine wpCalm_step (fun K hK => ?_); go_simp; first | (refine hK _ ?_; clear hK K) | (apply Exists.intro; refine ⟨fun n' x' => ?_, hK _ ?_⟩; (fail); clear hK K))); refine wpCalm_nil ?_; intro nq xq)
            generalize hUe : World.plus _ _ _ = U; have gU : wr.grows U := (by rw [← hUe]; (repeat (first | exact World.grows.refl _ | assumption | refine World.grows.alloc ?_ _ | refine World.grows.plus ?_ _ _ | refine World.grows.drew ?_))); have hbx : U.heap[wr.heap.size]? = some (.cells #[.slice ra2 (b.len k) rcap2, .int .i64 (b.cost k)] 97) := (by rw [← hUe]; exact World.grows.heap_of (by (repeat (first | exact World.grows.refl _ | assumption | refine World.grows.alloc ?_ _ | refine World.grows.plus ?_ _ _ | refine World.grows.drew ?_))) (World.heap_at _ _ _ rfl)); have kb1 : U.cell? ⟨wr.heap.size, 1, none⟩ = some (.int .i64 (b.cost k)) := cell_of_heap hbx rfl; have HDU := Lib.hid (HDk.out.mono gU); have kc := HDU.out.cost hs10; have kf := HDU.out.frozen (2 + S); have hsI : (S : Int) < 1024 := (by omega); clear hbx gU hUe h0 h1 hgr hbd h69 h70 h71 hf7
            go_wp2
            (refine wp_region_tail 14 (by kernel_rfl) (by kernel_rfl) (by decide) ?_; simp only [List.take_succ_cons, List.take_zero, List.drop_succ_cons, List.drop_zero, List.take_nil, List.drop_nil, List.append_nil, List.nil_append, List.cons_append, Nat.reduceAdd, Nat.reduceSub]; (repeat (refine wpCalm_step (fun K hK => ?_); go_simp; first | (refine hK _ ?_; clear hK K) | (apply Exists.intro; refine ⟨fun n' x' => ?_, hK _ ?_⟩; (fail); clear hK K))); refine wpCalm_nil ?_; intro nq xq)
            go_wp2
            go_roundw
            case rel => exact ⟨k + 1, by omega, by go_num, hnx, Lib.hid (by rw [← Hup.out, ← max_if]; exact (HDU.out.store hs10 _).mono (by (repeat (first | exact World.grows.refl _ | assumption | refine World.grows.alloc ?_ _ | refine World.grows.plus ?_ _ _ | refine World.grows.drew ?_))))⟩
            case measure => simp [intOf]; omega
        · have hke : k = b.n := by omega
          subst hke
          have hE := Lib.hid (Bn.err_0 Hc.out hn0 HN.out hS.out hl.out)
          have hgr := Gw0.out.trans HDk.out.ge.2.2
          have h1 := hgr.cell_of Hlast.out
          have hwn := hwn2.out
          go_wp2
          (refine bodyPost_ret (v := .tuple #[.int .i64 (b.cost (b.n - 1)), .int .i64 0]) (by simp [results, Try.results27, go_sem]) rfl ?_)
          exact ⟨by rw [hE.out.1, hE.out.2], hgr.trans (by (repeat (first | exact World.grows.refl _ | assumption | refine World.grows.alloc ?_ _ | refine World.grows.plus ?_ _ _ | refine World.grows.drew ?_)))⟩
end Go.Proofs.Ytdminglglapnlaa

/-
  What is proved: a best tree (62), and Best (25), of the program.
-/
namespace Go.Proofs.Ytdminglglapnlaa
open Go.RowKit
attribute [local irreducible] Go.wpCalm Go.wpCalm2 deskA rowI rowA

theorem grow_c (B : World) (db mb : Nat) (r : Reg) (c : Nat → Int) (m : VM) (hD : DeskR B db mb r c m) (hr : r.Ok) (ht : r.NoTwins) (hB : BestM r (2 ^ r.nm) m) (s : Nat) (hs : s < 2 ^ r.nm) (h0 : s ≠ 0) : Grows B db r s := by
  induction s using Nat.strongRecOn with
  | ind s ih =>
    cases hm : r.mixed s with
    | false => exact grow_leaf B db mb r c m hD hr hB s hs h0 hm
    | true => exact grow_node B db mb r c m hD hr ht hB s hs h0 hm fun p hp h0 hs => ih p hp hs h0
theorem GS.nodesAt {B W : World} {tb : Nat} {z : Value} {L : List Nd} {us : Nat → Value} (h : GS B W tb z L us) (root : Int) : ∃ nv, W.heap[tb]? = some (.cells #[z, nv] 28) ∧ NodesAt W nv (Tr.ofL root L) := by
  obtain ⟨nv, h1, h2, h3, h4, h5⟩ := h
  refine ⟨nv, h3, us, h4.sliceAt fun i j hi hj => tableL_get _ hi hj, fun i hi => ?_⟩
  exact (h5 i hi).pairsAt rfl

/-- nodes in rows of the call's own -/
def NodesOwn (W : World) (base : Nat) (nv : Value) (L : List Nd) (us : Nat → Value) : Prop :=
  W.ownsRow base 83 2 nv L.length (tableL L.length 2 (ncell (ndF L) us)) ∧ ∀ i, i < L.length → W.ownsRow base 129 2 (us i) (ndB L i).length (pcells (ndB L i))
theorem NodesOwn.set {W : World} {base : Nat} {nv : Value} {L : List Nd} {us : Nat → Value} (h : NodesOwn W base nv L us) {b : Nat} {c : Array Value} (hb : W.heap[b]? = some (.cells c 28)) (i : Nat) (x : Value) : NodesOwn (W.setCell ⟨b, i, none⟩ x) base nv L us :=
  ⟨ownsRow_setCell_other h.1 (fun e => row_block h.1 hb (by decide) _ e rfl) _, fun j hj => ownsRow_setCell_other (h.2 j hj) (fun e => row_block (h.2 j hj) hb (by decide) _ e rfl) _⟩
theorem NodesOwn.grow {W W' : World} {base : Nat} {nv : Value} {L : List Nd} {us : Nat → Value} (h : NodesOwn W base nv L us) (g : W.grows W') : NodesOwn W' base nv L us := ⟨h.1.grow g, fun i hi => (h.2 i hi).grow g⟩
theorem NodesOwn.at' {W : World} {base : Nat} {nv : Value} {L : List Nd} {us : Nat → Value} (h : NodesOwn W base nv L us) (root : Int) : NodesAt W nv (Tr.ofL root L) :=
  ⟨us, h.1.sliceAt fun i j hi hj => tableL_get _ hi hj, fun i hi => (h.2 i hi).pairsAt rfl⟩

set_option maxHeartbeats 2000000 in
theorem tree_c (w : World) (db mb : Nat) (r : Reg) (c : Nat → Int) (m : VM) (hD : DeskR w db mb r c m) (hr : r.Ok) (ht : r.NoTwins) (hB : BestM r (2 ^ r.nm) m) :
    Calls Try.prog 62 #[.pointer (some ⟨db, 0, none⟩)] w fun e w' => ∃ (root : Int) (nv : Value) (L : List Nd) (us : Nat → Value), e = .returned (.agg #[.int .i64 root, nv]) ∧ NodesOwn w' w.heap.size nv L us ∧ r.Good (2 ^ r.nm - 1) 0 L root ∧ w.grows w' := by
  have h63 := fun W (g : w.grows W) => all_c W db mb r _ _ (hD.mono g) hr
  have hpos : 2 ≤ 2 ^ r.nm := by
    have := hr.m1
    calc 2 = 2 ^ 1 := rfl
      _ ≤ 2 ^ r.nm := Nat.pow_le_pow_right (by omega) this
  have h96 := grow_c w db mb r c m hD hr ht hB (2 ^ r.nm - 1) (by omega) (by omega)
  have hcnt : r.cnt (2 ^ r.nm - 1) ≤ 10 := by
    have h2 := cntB_le (fun m => (2 ^ r.nm - 1).testBit m) r.nm
    have h3 := hr.m10
    unfold Reg.cnt; omega
  obtain ⟨N, hN⟩ : ∃ N, 2 ^ r.nm - 1 = N := ⟨_, rfl⟩
  rw [hN] at h63 h96 hcnt
  have HN := Lib.hid hN
  clear hD hr ht hB hN hpos
  go_enter Try.func62, Try.ntmps62
  go_wp2_with (go_at_call 63; refine (h63 _ (by (repeat (first | exact World.grows.refl _ | assumption | refine World.grows.alloc ?_ _ | refine World.grows.plus ?_ _ _ | refine World.grows.drew ?_)))).mono ?_; rintro e W1 ⟨rfl, hg1⟩)
  have b0 : W1.heap[w.heap.size]? = some (.cells #[.int .i64 0, .slice none 0 0] 28) := hg1.heap_of (by rw [World.heap_a _ _ _ (by rw [World.heap_at _ _ _ rfl]; rfl), World.heap_at _ _ _ rfl])
  have b1 : W1.heap[w.heap.size + 1]? = some (.cells #[.int .i64 0, .slice none 0 0] 28) := hg1.heap_of (World.heap_at _ _ _ (by simp))
  have hg := World.grows.trans (show w.grows _ by (repeat (first | exact World.grows.refl _ | assumption | refine World.grows.alloc ?_ _ | refine World.grows.plus ?_ _ _ | refine World.grows.drew ?_))) hg1
  have hG : GS w W1 (w.heap.size + 1) (.int .i64 0) [] (fun _ => .slice none 0 0) := ⟨.slice none 0 0, hg, by omega, b1, World.ownsRow_nil _ _ _ _, fun i hi => by simp at hi⟩
  refine (h96 W1 (w.heap.size + 1) _ [] _ hG (by simp; omega)).mono ?_
  rintro e W2 ⟨l, dz, us', rfl, hgood, hG2, hF2, hK2⟩
  rw [List.nil_append] at hG2
  obtain ⟨nv, q0, -, q1, q2, q4⟩ := hG2
  obtain ⟨na, nc, rfl, n1, n2⟩ := row_form q2
  have q3 := hK2.block _ _ b0 (by omega) (fun c fr h => by cases h)
  have c0 : W2.cell? ⟨w.heap.size + 1, 0, none⟩ = some (.int .i64 0) := cell_of_heap q1 rfl
  have c1 : W2.cell? ⟨w.heap.size + 1, 1, none⟩ = some (.slice na l.length nc) := cell_of_heap q1 rfl
  have f0 := frozen_of_heap q1 0
  have d0 : W2.cell? ⟨w.heap.size, 0, none⟩ = some (.int .i64 0) := cell_of_heap q3 rfl
  have d1 : W2.cell? ⟨w.heap.size, 1, none⟩ = some (.slice none 0 0) := cell_of_heap q3 rfl
  have e0 := frozen_of_heap q3 0
  have e1 := frozen_of_heap q3 1
  have HN2 : Hid (NodesOwn W2 w.heap.size (.slice na l.length nc) l us') := Lib.hid ⟨q2, q4⟩
  have Hq3 := Lib.hid q3
  have Hgood := Lib.hid hgood
  have Hq1 := Lib.hid q1
  have HB2 := Lib.hid q0
  clear q0 q2 q4 hgood q1 q3 hK2 hF2 hG hg b0 b1 hg1 h63 h96
  go_wp2
  have a1 := HN2.out.set Hq1.out 0 (.int .i64 dz)
  have b1 : (W2.setCell ⟨w.heap.size + 1, 0, none⟩ (.int .i64 dz)).heap[w.heap.size]? = some (.cells #[.int .i64 0, .slice none 0 0] 28) := by
    rw [World.heap_setCell_map _ _ _ _ (show w.heap.size + 1 ≠ w.heap.size by omega)]; exact Hq3.out
  have a2 := a1.set b1 0 (.int .i64 dz)
  have a3 := a2.set (store_of_heap b1 0 _) 1 (.slice na l.length nc)
  have b3 := store_of_heap (store_of_heap b1 0 (.int .i64 dz)) 1 (.slice na l.length nc)
  have g3 : w.grows _ := ((HB2.out.setCell (p := ⟨w.heap.size + 1, 0, none⟩) (by simp) (.int .i64 dz)).setCell (p := ⟨w.heap.size, 0, none⟩) (by simp) (.int .i64 dz)).setCell (p := ⟨w.heap.size, 1, none⟩) (by simp) (.slice na l.length nc)
  obtain ⟨F, hF⟩ : ∃ F, F = (((W2.setCell { block := w.heap.size + 1, off := 0 } (Value.int IntKind.i64 dz)).setCell { block := w.heap.size, off := 0 } (Value.int IntKind.i64 dz)).setCell { block := w.heap.size, off := 1 } (Value.slice na l.length nc)) := ⟨_, rfl⟩
  rw [← hF] at a3 b3 g3 ⊢
  have r0 : F.cell? ⟨w.heap.size, 0, none⟩ = some (.int .i64 dz) := cell_of_heap b3 rfl
  have r1 : F.cell? ⟨w.heap.size, 1, none⟩ = some (.slice na l.length nc) := cell_of_heap b3 rfl
  refine bodyPost_ret (v := .agg #[.int .i64 dz, .slice na l.length nc]) (by simp [results, Try.results62, go_sem, r0, r1]) rfl ?_
  exact ⟨dz, _, l, us', rfl, a3, by rw [HN.out]; exact Hgood.out, g3⟩

theorem NodesAt.treeAt {w : World} {root : Int} {nv : Value} {L : List Nd} (h : NodesAt w nv (Tr.ofL root L)) : TreeAt w (.agg #[.int .i64 root, nv]) (Tr.ofL root L) := ⟨nv, rfl, h⟩
set_option maxHeartbeats 2000000 in
theorem best_bad (w : World) (v : Value) (r : Reg) (hv : RegAt w v r) (h : r.solvE ≠ 0) :
    Calls Try.prog 25 #[v] w fun e w' => e = .returned (.tuple #[.agg #[.int .i64 0, .slice none 0 0], .int .i64 0, .int .i64 r.solvE]) ∧ w.grows w' := by
  have h61 := fun W (g : w.grows W) => solved_bad W v r (hv.mono g) h
  obtain ⟨mv, cv, row, rfl, -⟩ := hv
  obtain ⟨E, hE⟩ : ∃ E, r.solvE = E := ⟨_, rfl⟩
  rw [hE] at h61 h
  have HE := Lib.hid hE
  clear hE
  have hb : (E != 0) = true := by simpa using h
  go_enter Try.func25, Try.ntmps25
  go_wp2_with (go_at_call 61; refine (h61 _ (by (repeat (first | exact World.grows.refl _ | assumption | refine World.grows.alloc ?_ _ | refine World.grows.plus ?_ _ _ | refine World.grows.drew ?_)))).mono ?_; rintro e w' ⟨rfl, hg⟩; obtain ⟨n2, x2, rfl⟩ := World.plus_of hg)
  (refine bodyPost_ret (v := .tuple #[.agg #[.int .i64 0, .slice none 0 0], .int .i64 0, .int .i64 E]) (by simp [results, Try.results25, go_sem]) rfl ?_)
  exact ⟨by rw [HE.out], by (repeat (first | exact World.grows.refl _ | assumption | refine World.grows.alloc ?_ _ | refine World.grows.plus ?_ _ _ | refine World.grows.drew ?_))⟩
set_option maxHeartbeats 2000000 in
theorem best_c (w : World) (v : Value) (r : Reg) (hv : RegAt w v r) (h : r.solvE = 0) :
    Calls Try.prog 25 #[v] w fun e w' => ∃ (tv : Value) (t : Tr), e = .returned (.tuple #[tv, .int .i64 (r.cst (2 ^ r.nm - 1)), .int .i64 0]) ∧ TreeAt w' tv t ∧ t.treeE r = 0 ∧ t.treeA r = r.cst (2 ^ r.nm - 1) ∧ w.grows w' := by
  have h61 := fun W (g : w.grows W) => solved_c W v r (hv.mono g) h
  obtain ⟨hc, hn⟩ := Reg.solvE_zero.1 h
  have Hr := Lib.hid (Reg.ok_of hc)
  have Hn := Lib.hid hn
  obtain ⟨mv, cv, row, rfl, -⟩ := hv
  clear h hc hn
  go_enter Try.func25, Try.ntmps25
  go_wp2_with (go_at_call 61; refine (h61 _ (by (repeat (first | exact World.grows.refl _ | assumption | refine World.grows.alloc ?_ _ | refine World.grows.plus ?_ _ _ | refine World.grows.drew ?_)))).mono ?_; rintro e W1 ⟨w0, db, mb, m, rfl, hg0, hF⟩; have HF := Lib.hid hF; have Hg0 := Lib.hid hg0)
  have hN10 : 2 ^ r.nm ≤ 2 ^ 10 := Nat.pow_le_pow_right (by omega) Hr.out.m10
  have hpos : 0 < 2 ^ r.nm := Nat.two_pow_pos _
  have kc := HF.out.1.cost (show 2 ^ r.nm - 1 < 1024 by omega)
  have hcst : r.cstTo (2 ^ r.nm) (2 ^ r.nm - 1) = r.cst (2 ^ r.nm - 1) := by unfold Reg.cstTo; rw [if_pos (by omega)]
  rw [hcst] at kc
  have h62 := fun W (g : W1.grows W) => tree_c W db mb r _ m (HF.out.1.mono g).deskR Hr.out Hn.out HF.out.2
  have h63 := fun W (g : W1.grows W) => all_c W db mb r _ _ (HF.out.1.mono g).deskR Hr.out
  obtain ⟨hd1, hd2, hg01⟩ := HF.out.1.ge
  have hgw1 := Hg0.out.trans hg01
  have b1 : W1.heap[w.heap.size + 1]? = some (.cells #[.int .i64 0, .slice none 0 0] 28) := hgw1.heap_of (World.heap_at _ _ _ (by simp))
  have hsz0 := Hg0.out.size
  simp only [World.size_alloc] at hsz0
  have hneD : db ≠ w.heap.size + 1 := by omega
  have hW1s : w.heap.size + 2 ≤ W1.heap.size := by have := hg01.size; omega
  have HGA := Lib.hid fun (L : List Nd) (root : Int) (h : r.Good (2 ^ r.nm - 1) 0 L root) => (show (Tr.ofL root L).treeE r = 0 ∧ (Tr.ofL root L).treeA r = r.cst (2 ^ r.nm - 1) from ⟨h.treeE Hr.out, h.treeA Hr.out⟩)
  have HGW := Lib.hid (World.grows.trans (show w.grows _ by (repeat (first | exact World.grows.refl _ | assumption | refine World.grows.alloc ?_ _ | refine World.grows.plus ?_ _ _ | refine World.grows.drew ?_))) hgw1)
  obtain ⟨N, hN⟩ : ∃ N, 2 ^ r.nm - 1 = N := ⟨_, rfl⟩
  rw [hN] at kc h63
  have HN := Lib.hid hN
  have hNI : (N : Int) < 1024 := by omega
  obtain ⟨c, hc⟩ : ∃ c, r.cst N = c := ⟨_, rfl⟩
  rw [hc] at kc
  have HC := Lib.hid hc
  clear hF hg0 hcst hN hc hpos hN10 hgw1 hg01 hd1 hd2 hsz0 h61
  refine wp_cutN _ fun NN hNN => ?_
  go_region_held_law (fun w' => w'.cell? ⟨db, 2 + N, none⟩ = some (.int .i64 c))
    (first | assumption | (simp [go_sem, *]; done))
    (first
      | (go_at_call 62; refine (h62 _ (by (repeat (first | exact World.grows.refl _ | assumption | refine World.grows.alloc ?_ _ | refine World.grows.plus ?_ _ _ | refine World.grows.drew ?_)))).mono ?_; rintro e W2 ⟨root, nv, L, us, rfl, hna, hgood, hg2⟩; obtain ⟨na, nc, rfl, -, -⟩ := row_form hna.1; have Hna := Lib.hid hna; clear hna; have g2 : W1.grows W2 := World.grows.trans (by (repeat (first | exact World.grows.refl _ | assumption | refine World.grows.alloc ?_ _ | refine World.grows.plus ?_ _ _ | refine World.grows.drew ?_))) hg2; have k2 := g2.cell_of kc; have x2 := g2.heap_of b1; have x20 : W2.cell? ⟨w.heap.size + 1, 0, none⟩ = some (.int .i64 0) := cell_of_heap x2 rfl; have x21 : W2.cell? ⟨w.heap.size + 1, 1, none⟩ = some (.slice none 0 0) := cell_of_heap x2 rfl; have x2f := fun i => frozen_of_heap x2 i; have Hgood := Lib.hid hgood; clear hg2 hgood)
      | (go_at_call 63; refine (h63 _ (by (repeat (first | exact World.grows.refl _ | assumption | refine World.grows.alloc ?_ _ | refine World.grows.plus ?_ _ _ | refine World.grows.drew ?_)))).mono ?_; rintro e W3 ⟨rfl, hg3⟩; have g3 : W2.grows W3 := World.grows.trans (by (repeat (first | exact World.grows.refl _ | assumption | refine World.grows.alloc ?_ _ | refine World.grows.plus ?_ _ _ | refine World.grows.drew ?_))) hg3; have k3 := g3.cell_of k2; have x3 := g3.heap_of x2; have x30 : W3.cell? ⟨w.heap.size + 1, 0, none⟩ = some (.int .i64 0) := cell_of_heap x3 rfl; have x31 : W3.cell? ⟨w.heap.size + 1, 1, none⟩ = some (.slice none 0 0) := cell_of_heap x3 rfl; have x3f := fun i => frozen_of_heap x3 i; clear hg3))
  show NN _ _
  refine hNN.out _ _ ?_
  have a3 := (Hna.out.grow g3).set x3 0 (.int .i64 root)
  have b3 := store_of_heap x3 0 (.int .i64 root)
  have a4 := a3.set b3 1 (.slice na L.length nc)
  have b4 := store_of_heap b3 1 (.slice na L.length nc)
  have g4 : w.grows _ := ((HGW.out.trans (g2.trans g3)).setCell (p := ⟨w.heap.size + 1, 0, none⟩) (by simp) (.int .i64 root)).setCell (p := ⟨w.heap.size + 1, 1, none⟩) (by simp) (.slice na L.length nc)
  obtain ⟨F, hF⟩ : ∃ F, F = ((W3.setCell { block := w.heap.size + 1, off := 0 } (Value.int IntKind.i64 root)).setCell { block := w.heap.size + 1, off := 1 } (Value.slice na L.length nc)) := ⟨_, rfl⟩
  rw [← hF] at a4 b4 g4 ⊢
  have r0 : F.cell? ⟨w.heap.size + 1, 0, none⟩ = some (.int .i64 root) := cell_of_heap b4 rfl
  have r1 : F.cell? ⟨w.heap.size + 1, 1, none⟩ = some (.slice na L.length nc) := cell_of_heap b4 rfl
  obtain ⟨q1, q2⟩ := HGA.out L root Hgood.out
  have HQ : Hid ((Tr.ofL root L).treeE r = 0 ∧ (Tr.ofL root L).treeA r = r.cst (2 ^ r.nm - 1)) := Lib.hid ⟨q1, q2⟩
  have Ha4 := Lib.hid (a4.at' root)
  clear a3 b3 a4 b4 x2 x20 x21 x2f x3 x30 x31 x3f q1 q2 hNN k2 k3 kc
  go_wp2
  refine bodyPost_ret (v := .tuple #[.agg #[.int .i64 root, .slice na L.length nc], .int .i64 c, .int .i64 0]) (by simp [results, Try.results25, go_sem, r0, r1]) rfl ?_
  exact ⟨_, _, by rw [HN.out, HC.out], Ha4.out.treeAt, HQ.out.1, HQ.out.2, g4⟩
end Go.Proofs.Ytdminglglapnlaa

/-
  What is proved: Bounds of the program (26).
-/
namespace Go.Proofs.Ytdminglglapnlaa
open Go.RowKit
attribute [local irreducible] Go.wpCalm deskA rowI rowA

theorem el97 : Try.prog.knows 97 (.agg #[.slice none 0 0, .int .i64 0]) 2 32 := Program.knows_of (by kernel_rfl)
/-- a table of sets, in rows of the call's own -/
def TS (B : Nat) (W : World) (r : Reg) (SL : List Nat) (l : Value) (us : Nat → Value) : Prop :=
  W.ownsRow B 97 2 l SL.length (tableL SL.length 2 (ecell us (fun i => r.cst (SL.getD i 0)))) ∧ ∀ i, i < SL.length → W.ownsRow B 3 1 (us i) (bitsL r.nm (SL.getD i 0)).length (ilist (bitsL r.nm (SL.getD i 0)))
theorem TS.grow {B : Nat} {W W' : World} {r : Reg} {SL : List Nat} {l : Value} {us : Nat → Value} (h : TS B W r SL l us) (g : W.grows W') : TS B W' r SL l us := ⟨h.1.grow g, fun i hi => (h.2 i hi).grow g⟩
theorem TS.tableAt {B : Nat} {W : World} {r : Reg} {SL : List Nat} {l : Value} {us : Nat → Value} (h : TS B W r SL l us) : TableAt W l (r.tab SL) :=
  ⟨us, h.1.sliceAt fun i j hi hj => tableL_get _ hi hj, fun i hi => (h.2 i hi).listAt rfl⟩
theorem TS.push {B : Nat} {W W' : World} {r : Reg} {SL : List Nat} {l l' lv : Value} {us : Nat → Value} {s : Nat} (h : TS B W r SL l us) (hv : W.ownsRow B 3 1 lv (bitsL r.nm s).length (ilist (bitsL r.nm s)))
    (ho : W'.ownsRow B 97 2 l' (SL.length + 1) (tableL SL.length 2 (ecell us (fun i => r.cst (SL.getD i 0))) ++ tableL 1 2 (ecell (fun _ => lv) (fun _ => r.cst s)))) (g : W.grownBy W' l.ownBlock) :
    TS B W' r (SL ++ [s]) l' (fun i => if i < SL.length then us i else lv) := by
  have hl : (SL ++ [s]).length = SL.length + 1 := by simp
  have e1 : ∀ i, i < SL.length → (SL ++ [s]).getD i 0 = SL.getD i 0 := fun i hi => by
    rw [List.getD_eq_getElem?_getD, List.getD_eq_getElem?_getD, List.getElem?_append_left hi]
  have e2 : (SL ++ [s]).getD SL.length 0 = s := by simp
  refine ⟨?_, fun i hi => ?_⟩
  · rw [hl, tableL_snoc]
    have t1 : tableL SL.length 2 (ecell (fun i => if i < SL.length then us i else lv) (fun i => r.cst ((SL ++ [s]).getD i 0))) = tableL SL.length 2 (ecell us (fun i => r.cst (SL.getD i 0))) :=
      tableL_congr (fun i j hi hj => by unfold ecell; dsimp only; rw [if_pos hi, e1 i hi]) (by omega)
    have t2 : (List.range 2).map (ecell (fun i => if i < SL.length then us i else lv) (fun i => r.cst ((SL ++ [s]).getD i 0)) SL.length) = tableL 1 2 (ecell (fun _ => lv) (fun _ => r.cst s)) := by
      show [ecell _ _ SL.length 0, ecell _ _ SL.length 1] = [ecell _ _ 0 0, ecell _ _ 0 1]
      simp [ecell, e2]
    rw [t1, t2]
    exact ho
  · rw [hl] at hi
    dsimp only
    by_cases h1 : i < SL.length
    · rw [if_pos h1, e1 i h1]
      exact (h.2 i h1).other h.1 (by decide) g
    · have : i = SL.length := by omega
      subst this
      rw [if_neg (by omega), e2]
      exact hv.other h.1 (by decide) g
theorem ent_slice (w : World) (u : Value) (x : Int) (t b : Nat) (hb : b = w.heap.size) : SliceAt (w.alloc (.cells #[u, .int .i64 x] t)) (.slice (some ⟨b, 0, none⟩) 1 1) 1 2 (ecell (fun _ => u) (fun _ => x)) := by
  subst hb
  refine ⟨_, _, rfl, by omega, by unfold maxLen; omega, fun i j hi hj => ⟨_, _, rfl, ?_⟩⟩
  have hi0 : i = 0 := by omega
  subst hi0
  have hj0 : j = 0 ∨ j = 1 := by omega
  rcases hj0 with rfl | rfl <;> simp [go_sem, ecell]
theorem ent_cells (u : Value) (x : Int) (hu : u.oneCell' = true) : ∀ y ∈ tableL 1 2 (ecell (fun _ => u) (fun _ => x)), y.oneCell' = true := by
  intro y hy
  have : tableL 1 2 (ecell (fun _ => u) (fun _ => x)) = [u, .int .i64 x] := rfl
  rw [this] at hy
  simp at hy
  rcases hy with rfl | rfl
  · exact hu
  · rfl
set_option maxHeartbeats 2000000 in
theorem ptab_bad (w : World) (v : Value) (r : Reg) (hv : RegAt w v r) (h : r.solvE ≠ 0) :
    Calls Try.prog 26 #[v] w fun e w' => e = .returned (.tuple #[.slice none 0 0, .int .i64 r.solvE]) ∧ w.grows w' := by
  have h61 := fun W (g : w.grows W) => solved_bad W v r (hv.mono g) h
  obtain ⟨mv, cv, row, rfl, -⟩ := hv
  obtain ⟨E, hE⟩ : ∃ E, r.solvE = E := ⟨_, rfl⟩
  rw [hE] at h61 h
  have HE := Lib.hid hE
  clear hE
  have hb : (E != 0) = true := by simpa using h
  go_enter Try.func26, Try.ntmps26
  go_wp2_with (go_at_call 61; refine (h61 _ (by (repeat (first | exact World.grows.refl _ | assumption | refine World.grows.alloc ?_ _ | refine World.grows.plus ?_ _ _ | refine World.grows.drew ?_)))).mono ?_; rintro e w' ⟨rfl, hg⟩; obtain ⟨n2, x2, rfl⟩ := World.plus_of hg)
  (refine bodyPost_ret (v := .tuple #[.slice none 0 0, .int .i64 E]) (by simp [results, Try.results26, go_sem]) rfl ?_)
  exact ⟨by rw [HE.out], by (repeat (first | exact World.grows.refl _ | assumption | refine World.grows.alloc ?_ _ | refine World.grows.plus ?_ _ _ | refine World.grows.drew ?_))⟩
set_option maxRecDepth 100000 in
set_option maxHeartbeats 8000000 in
theorem ptab_c (w : World) (v : Value) (r : Reg) (hv : RegAt w v r) (h : r.solvE = 0) :
    Calls Try.prog 26 #[v] w fun e w' => ∃ lv, e = .returned (.tuple #[lv, .int .i64 0]) ∧ TableAt w' lv (r.tab r.sets) ∧ w.grows w' := by
  have h61 := fun W (g : w.grows W) => solved_c W v r (hv.mono g) h
  obtain ⟨hc, hn⟩ := Reg.solvE_zero.1 h
  have Hr := Lib.hid (Reg.ok_of hc)
  have Hn := Lib.hid hn
  obtain ⟨mv, cv, row, rfl, -⟩ := hv
  have hN10 : 2 ^ r.nm ≤ 2 ^ 10 := Nat.pow_le_pow_right (by omega) Hr.out.m10
  have hpos : 0 < 2 ^ r.nm := Nat.two_pow_pos _
  have HS : Hid (r.sets = filtL r.setB (2 ^ r.nm - 1) ++ [2 ^ r.nm - 1]) := Lib.hid rfl
  clear h hc hn
  go_enter Try.func26, Try.ntmps26
  go_wp2_with (go_at_call 61; refine (h61 _ (by (repeat (first | exact World.grows.refl _ | assumption | refine World.grows.alloc ?_ _ | refine World.grows.plus ?_ _ _ | refine World.grows.drew ?_)))).mono ?_; rintro e W1 ⟨w0, db, mb, m, rfl, hg0, hF⟩; have HF := Lib.hid hF; have Hgw := Lib.hid (hg0.trans hF.1.ge.2.2); have h63 := fun W (g : W1.grows W) => all_c W db mb r _ m (hF.1.mono g).deskR Hr.out; clear hg0 hF h61)
  have h64 := fun W s (hs : s < 2 ^ r.nm) => list64o W s r.nm hs (by have := Hr.out.m10; omega)
  obtain ⟨N, hNN⟩ : ∃ N, 2 ^ r.nm = N := ⟨_, rfl⟩
  have HNN := Lib.hid hNN
  rw [hNN] at h63 h64 hN10 hpos HS
  have hk := fun s (hs : s < N) => HF.out.1.cost (s := s) (by omega)
  have hcT := Lib.hid fun s (hs : s < N) => show r.cstTo (2 ^ r.nm) s = r.cst s by unfold Reg.cstTo; rw [if_pos (by rw [HNN.out]; exact hs)]
  have Hk : Hid (∀ s, s < N → W1.cell? ⟨db, 2 + s, none⟩ = some (.int .i64 (r.cst s))) := Lib.hid fun s hs => by rw [← hcT.out s hs]; exact hk s hs
  clear hk hcT
  go_wp2_with (go_at_call 63; refine (h63 _ (by (repeat (first | exact World.grows.refl _ | assumption | refine World.grows.alloc ?_ _ | refine World.grows.plus ?_ _ _ | refine World.grows.drew ?_)))).mono ?_; rintro e W2 ⟨rfl, hg2⟩)
  have hg2' : W1.grows W2 := World.grows.trans (by (repeat (first | exact World.grows.refl _ | assumption | refine World.grows.alloc ?_ _ | refine World.grows.plus ?_ _ _ | refine World.grows.drew ?_))) hg2
  have Hg2 := Lib.hid hg2'
  have hWs : W1.heap.size ≤ W2.heap.size := hg2'.size
  clear hg2 hg2'
  go_loopw [6, 19] (fun l i wr => ∃ (k lc : Nat) (la : Option Addr) (us : Nat → Value), k ≤ N - 1 ∧ i = .int .i64 k ∧ l = .slice la (filtL r.setB k).length lc ∧ Hid (TS W1.heap.size wr r (filtL r.setB k) l us) ∧ Hid (W1.grows wr)) (fun _ i _ => N - 1 - (intOf i).toNat)
  case atStart => exact ⟨0, 0, none, fun _ => undef, by omega, rfl, rfl, Lib.hid ⟨World.ownsRow_nil _ _ _ _, fun i hi => absurd hi (Nat.not_lt_zero _)⟩, Hg2⟩
  case round =>
    obtain ⟨k, lc, la, us, hk, rfl, rfl, Hl, Hg⟩ := hrel
    have hll := filtL_length_le r.setB k
    have hWg := Hg.out.size
    by_cases hlt : k < N - 1
    · have hkN : k < N := by omega
      have hsu := Lib.hid (filtL_succ r.setB k)
      have hce := Hg.out.cell_of (Hk.out k hkN)
      have hsB : r.setB k = (decide (0 < k) && decide (0 < r.cst k)) := rfl
      by_cases hs : 0 < k ∧ 0 < r.cst k
      · obtain ⟨h1, h2⟩ := hs
        have hnx : Hid (filtL r.setB (k + 1) = filtL r.setB k ++ [k]) := Lib.hid (by rw [hsu.out, hsB]; simp [h1, h2])
        have h1' : (0 : Int) < (k : Int) := by omega
        clear hsu hsB
        have h6 := fun W => h64 W k hkN
        have hkI : (k : Int) < 1024 := by omega
        clear h64 h63
        go_wp2
        (refine wp_region_chain 11 [2, 9, 10] (by kernel_rfl) (by kernel_rfl) (by decide) ?_; simp only [without, only, withNo, List.take_succ_cons, List.take_zero, List.drop_succ_cons, List.drop_zero, List.take_nil, List.drop_nil, Nat.reduceAdd, Nat.reduceSub, List.filter, List.contains_cons, List.contains_nil, Nat.reduceBEq, Bool.or_false, Bool.false_or, Bool.true_or, Bool.or_true, Bool.or_self, Bool.not_true, Bool.not_false, List.map_cons, List.map_nil]; (repeat (refine wpCalm_step (fun K hK => ?_); go_simp; first | (refine hK _ ?_; clear hK K) | (apply Exists.intro; refine ⟨fun n' x' => ?_, hK _ ?_⟩; (fail); clear hK K))); refine wpCalm_nil ?_)
        clear hce
        (refine wpChain_step (fun K hK nc xc => ?_); go_simp)
        refine (h6 _).mono ?_
        rintro e W3 ⟨lv, rfl, hL, hg3⟩
        refine ⟨_, rfl, hg3, hK _ _ ?_⟩
        clear hK K
        have HL := Lib.hid hL
        have Hg3 : Hid (wr.grows W3) := Lib.hid (World.grows.trans (by (repeat (first | exact World.grows.refl _ | assumption | refine World.grows.alloc ?_ _ | refine World.grows.plus ?_ _ _ | refine World.grows.drew ?_))) hg3)
        obtain ⟨va, vc, rfl, -, -⟩ := row_form hL
        clear hL hg3
        (refine wpChain_step (fun K hK nc xc => ?_); go_simp)
        refine ⟨World.grows.refl _, hK _ _ ?_⟩
        clear hK K
        (refine wpChain_step (fun K hK nc xc => ?_); go_simp)
        refine ⟨by (repeat (first | exact World.grows.refl _ | assumption | refine World.grows.alloc ?_ _ | refine World.grows.plus ?_ _ _ | refine World.grows.drew ?_)), hK _ _ ?_⟩
        clear hK K
        (refine wpChain_nil (fun nc xc => ?_))
        rename_i n1 x1 n2 x2
        have e43 : SliceAt (World.plus (World.alloc ((W3.plus n1 x1).plus n2 x2) _) nc xc) _ 1 2 _ := SliceAt.mono (ent_slice ((W3.plus n1 x1).plus n2 x2) (.slice va (bitsL r.nm k).length vc) (r.cst k) 97 (W3.heap.size + n1 + n2) (by simp [go_sem])) (World.grows_plus _ _ _)
        generalize hW4 : World.plus (World.alloc _ _) _ _ = W4 at e43 ⊢
        have hg4 : wr.grows W4 := by rw [← hW4]; exact Hg3.out.trans (by (repeat (first | exact World.grows.refl _ | assumption | refine World.grows.alloc ?_ _ | refine World.grows.plus ?_ _ _ | refine World.grows.drew ?_)))
        have Hg34 : Hid (W3.grows W4) := Lib.hid (by rw [← hW4]; (repeat (first | exact World.grows.refl _ | assumption | refine World.grows.alloc ?_ _ | refine World.grows.plus ?_ _ _ | refine World.grows.drew ?_)))
        have Hg4 := Lib.hid hg4
        have Hs4 := Lib.hid hg4.size
        clear hW4 hg4
        have hs4 := Hs4.out
        go_wp2_with (at_builtin; go_loud (refine wpList_append_r _ rfl _ _ _ (by rfl) W1.heap.size 97 (.agg #[.slice none 0 0, .int .i64 0]) 2 32 Try.underlying42 el97 (by rfl) (by omega) _ (filtL r.setB k).length _ (by rfl) ((Hl.out.grow Hg4.out).1) _ (by rfl) 1 _ (SliceAt.src (by omega) e43) (ent_cells _ _ rfl) (by unfold maxLen; omega) (by omega) (by omega) ?_; intro v' w3 hown hgb))
        have hlen : (filtL r.setB (k + 1)).length = (filtL r.setB k).length + 1 := by rw [hnx.out, List.length_append, List.length_singleton]
        obtain ⟨va', vc', rfl, -, -⟩ := row_form hown
        have hg3 : W1.grows w3 := hgb.grows (Hl.out.grow Hg4.out).1 (Hg.out.trans Hg4.out) (Nat.le_refl _)
        have hT := TS.push (Hl.out.grow Hg4.out) ((HL.out.grow Hg34.out).down (by simp; omega)) hown hgb
        rw [← hnx.out] at hT
        go_roundw
        case rel => exact ⟨k + 1, vc', va', _, by omega, by go_num, by rw [hlen], Lib.hid hT, Lib.hid hg3⟩
        case measure => simp [intOf]; omega
      · have hnx : Hid (filtL r.setB (k + 1) = filtL r.setB k) := Lib.hid (by
          rw [hsu.out, hsB]
          have : ¬ ((decide (0 < k) && decide (0 < r.cst k)) = true) := by simpa using hs
          rw [if_neg this])
        have hkI : (k : Int) < 1024 := by omega
        clear hsu hsB h64 h63
        by_cases h1 : 0 < k
        · have h2 : decide (0 < r.cst k) = false := by
            have : ¬ 0 < r.cst k := fun h2 => hs ⟨h1, h2⟩
            simpa using this
          have h1' : (0 : Int) < (k : Int) := by omega
          go_wp2
          go_roundw
          case rel => exact ⟨k + 1, lc, la, us, by omega, by go_num, by rw [hnx.out], Lib.hid (by rw [hnx.out]; exact Hl.out.grow (by (repeat (first | exact World.grows.refl _ | assumption | refine World.grows.alloc ?_ _ | refine World.grows.plus ?_ _ _ | refine World.grows.drew ?_)))), Lib.hid (Hg.out.trans (by (repeat (first | exact World.grows.refl _ | assumption | refine World.grows.alloc ?_ _ | refine World.grows.plus ?_ _ _ | refine World.grows.drew ?_))))⟩
          case measure => simp [intOf]; omega
        · have h2 : decide ((0 : Int) < (k : Int)) = false := by simp; omega
          go_wp2
          go_roundw
          case rel => exact ⟨k + 1, lc, la, us, by omega, by go_num, by rw [hnx.out], Lib.hid (by rw [hnx.out]; exact Hl.out.grow (by (repeat (first | exact World.grows.refl _ | assumption | refine World.grows.alloc ?_ _ | refine World.grows.plus ?_ _ _ | refine World.grows.drew ?_)))), Lib.hid (Hg.out.trans (by (repeat (first | exact World.grows.refl _ | assumption | refine World.grows.alloc ?_ _ | refine World.grows.plus ?_ _ _ | refine World.grows.drew ?_))))⟩
          case measure => simp [intOf]; omega
    · have hke : k = N - 1 := by omega
      subst hke
      have hkN : N - 1 < N := by omega
      have hce := Hg.out.cell_of (Hk.out (N - 1) hkN)
      have h6 := fun W => h64 W (N - 1) hkN
      have h3' := fun W (g : wr.grows W) => h63 W (Hg.out.trans g)
      clear h64 h63
      go_wp2_with (go_at_call 63; refine (h3' _ (by (repeat (first | exact World.grows.refl _ | assumption | refine World.grows.alloc ?_ _ | refine World.grows.plus ?_ _ _ | refine World.grows.drew ?_)))).mono ?_; rintro e W5 ⟨rfl, hg5⟩)
      have c5 := hg5.cell_of hce
      have Hg5 := Lib.hid hg5
      have Hs5 := Lib.hid hg5.size
      have hkI : ((N - 1 : Nat) : Int) < 1024 := by omega
      clear hce hg5 h3' hkN
      (refine wp_region_chain 11 [2, 9, 10] (by kernel_rfl) (by kernel_rfl) (by decide) ?_; simp only [without, only, withNo, List.take_succ_cons, List.take_zero, List.drop_succ_cons, List.drop_zero, List.take_nil, List.drop_nil, Nat.reduceAdd, Nat.reduceSub, List.filter, List.contains_cons, List.contains_nil, Nat.reduceBEq, Bool.or_false, Bool.false_or, Bool.true_or, Bool.or_true, Bool.or_self, Bool.not_true, Bool.not_false, List.map_cons, List.map_nil]; (repeat (refine wpCalm_step (fun K hK => ?_); go_simp; first | (refine hK _ ?_; clear hK K) | (apply Exists.intro; refine ⟨fun n' x' => ?_, hK _ ?_⟩; (fail); clear hK K))); refine wpCalm_nil ?_)
      clear c5
      (refine wpChain_step (fun K hK nc xc => ?_); go_simp)
      refine (h6 _).mono ?_
      rintro e W3 ⟨lv, rfl, hL, hg3⟩
      refine ⟨_, rfl, hg3, hK _ _ ?_⟩
      clear hK K
      have HL := Lib.hid hL
      have Hg3 : Hid (W5.grows W3) := Lib.hid (World.grows.trans (by (repeat (first | exact World.grows.refl _ | assumption | refine World.grows.alloc ?_ _ | refine World.grows.plus ?_ _ _ | refine World.grows.drew ?_))) hg3)
      obtain ⟨va, vc, rfl, -, -⟩ := row_form hL
      clear hL hg3
      (refine wpChain_step (fun K hK nc xc => ?_); go_simp)
      refine ⟨World.grows.refl _, hK _ _ ?_⟩
      clear hK K
      (refine wpChain_step (fun K hK nc xc => ?_); go_simp)
      refine ⟨by (repeat (first | exact World.grows.refl _ | assumption | refine World.grows.alloc ?_ _ | refine World.grows.plus ?_ _ _ | refine World.grows.drew ?_)), hK _ _ ?_⟩
      clear hK K
      (refine wpChain_nil (fun nc xc => ?_))
      rename_i n1 x1 n2 x2
      have e43 : SliceAt (World.plus (World.alloc ((W3.plus n1 x1).plus n2 x2) _) nc xc) _ 1 2 _ := SliceAt.mono (ent_slice ((W3.plus n1 x1).plus n2 x2) (.slice va (bitsL r.nm (N - 1)).length vc) (r.cst (N - 1)) 97 (W3.heap.size + n1 + n2) (by simp [go_sem])) (World.grows_plus _ _ _)
      generalize hW4 : World.plus (World.alloc _ _) _ _ = W4 at e43 ⊢
      have hg4 : wr.grows W4 := by rw [← hW4]; exact Hg5.out.trans (Hg3.out.trans (by (repeat (first | exact World.grows.refl _ | assumption | refine World.grows.alloc ?_ _ | refine World.grows.plus ?_ _ _ | refine World.grows.drew ?_))))
      have Hg34 : Hid (W3.grows W4) := Lib.hid (by rw [← hW4]; (repeat (first | exact World.grows.refl _ | assumption | refine World.grows.alloc ?_ _ | refine World.grows.plus ?_ _ _ | refine World.grows.drew ?_)))
      have Hg4 := Lib.hid hg4
      have Hs4 := Lib.hid hg4.size
      clear hW4 hg4
      have hs4 := Hs4.out
      have hs5 := Hs5.out
      go_wp2_with (at_builtin; go_loud (refine wpList_append_r _ rfl _ _ _ (by rfl) W1.heap.size 97 (.agg #[.slice none 0 0, .int .i64 0]) 2 32 Try.underlying42 el97 (by rfl) (by omega) _ (filtL r.setB (N - 1)).length _ (by rfl) ((Hl.out.grow Hg4.out).1) _ (by rfl) 1 _ (SliceAt.src (by omega) e43) (ent_cells _ _ rfl) (by unfold maxLen; omega) (by omega) (by omega) ?_; intro v' w3 hown hgb))
      have hg3 : W1.grows w3 := hgb.grows (Hl.out.grow Hg4.out).1 (Hg.out.trans Hg4.out) (Nat.le_refl _)
      have hT := TS.push (Hl.out.grow Hg4.out) ((HL.out.grow Hg34.out).down (by simp; omega)) hown hgb
      rw [← HS.out] at hT
      (refine bodyPost_ret (v := .tuple #[v', .int .i64 0]) (by simp [results, Try.results26, go_sem]) rfl ?_)
      exact ⟨_, rfl, hT.tableAt, World.grows.trans (World.grows.trans (by (repeat (first | exact World.grows.refl _ | assumption | refine World.grows.alloc ?_ _ | refine World.grows.plus ?_ _ _ | refine World.grows.drew ?_))) Hgw.out) hg3⟩
end Go.Proofs.Ytdminglglapnlaa

/-
  What is proved: CheckFixed of the program (30).
-/
namespace Go.Proofs.Ytdminglglapnlaa
open Go.RowKit
attribute [local irreducible] Go.wpCalm deskA rowI

theorem RegOk.desk {w w' : World} {mv cv : Value} {r : Reg} {db mb : Nat} {f : Nat → Int} {m : VM} (h : RegOk w (.agg #[mv, cv]) r) (g : w.grows w') (hD : DeskAt w' db mb mv cv f m) : DeskR w' db mb r f m := by
  obtain ⟨kb, ko, mc, cb, co, cc, rb, ro, rc, he, h1, h2, h3, h4, h5⟩ := h
  simp only [Value.agg.injEq, Array.mk.injEq, List.cons.injEq, and_true] at he
  obtain ⟨rfl, rfl⟩ := he
  exact ⟨kb, ko, mc, cb, co, cc, rb, ro, rc, hD, h1, h2, h3, h4, h5.mono g⟩
theorem Rise.bits8 {f : Nat → Int} {n top : Nat} (h : Rise f n top) (ht : top ≤ 8) : bitsL 8 (setN f n) = (List.range n).map fun i => (f i).toNat := by
  rw [bitsL_of_le h.set_lt ht, h.bits]

set_option maxHeartbeats 2000000 in
theorem pfixed_c (w : World) (v : Value) (r : Reg) (hv : RegAt w v r) (lv : Value) (n : Nat) (f : Nat → Int) (hl : IntsAt w lv n f) :
    Calls Try.prog 30 #[v, lv] w fun e w' => e = .returned (.tuple #[.int .i64 (r.fixA n f), .int .i64 (r.fixE n f)]) ∧ w.grows w' := by
  have Hv := Lib.hid hv
  obtain ⟨mv, cv, row, rfl, hmv, ⟨ca, cc0, rfl, -⟩, -⟩ := hv
  have h21 := fun W h => check_c W (.agg #[mv, .slice ca r.nc cc0]) r h
  have Hl := Lib.hid hl
  clear hl hmv
  go_enter Try.func30, Try.ntmps30
  by_cases hc : r.check ≠ 0
  · have HE : Hid (r.fixE n f = r.check) := Lib.hid (by unfold Reg.fixE; rw [if_neg hc])
    have HA : Hid (r.fixA n f = 0) := Lib.hid (by unfold Reg.fixA; rw [if_neg (by rw [HE.out]; exact hc)])
    have hcb : (r.check == 0) = false := beq_eq_false_iff_ne.2 hc
    go_wp2_with (go_at_call 21; refine (h21 _ (Hv.out.mono (by (repeat (first | exact World.grows.refl _ | assumption | refine World.grows.alloc ?_ _ | refine World.grows.plus ?_ _ _ | refine World.grows.drew ?_))))).mono ?_; rintro e w' ⟨rfl, hg⟩; obtain ⟨n2, x2, rfl⟩ := World.plus_of hg)
    (refine bodyPost_ret (v := .tuple #[.int .i64 0, .int .i64 r.check]) (by simp [results, Try.results30, go_sem]) rfl ?_)
    exact ⟨by rw [HE.out, HA.out], by (repeat (first | exact World.grows.refl _ | assumption | refine World.grows.alloc ?_ _ | refine World.grows.plus ?_ _ _ | refine World.grows.drew ?_))⟩
  replace hc : r.check = 0 := Classical.not_not.1 hc
  have Hok := Lib.hid (Hv.out.ok (Reg.ok_of hc))
  have Hr := Lib.hid (Reg.ok_of hc)
  have hc8 := Hr.out.c8
  rw [hc] at h21
  have h66 := fun W h => rising_c W lv n f r.nc (by omega) h
  have hA : r.fixE n f = (if (List.range n).any (riseB f r.nc) = true then 3 else if r.tellB ((List.range n).map fun i => (f i).toNat) = true then 0 else 24) := by unfold Reg.fixE; rw [if_pos hc]
  clear hc
  cases hri : (List.range n).any (riseB f r.nc) with
  | true =>
    rw [hri] at hA h66
    have HE : Hid (r.fixE n f = 3) := Lib.hid hA
    have HA : Hid (r.fixA n f = 0) := Lib.hid (by unfold Reg.fixA; rw [hA]; rfl)
    clear hA hri
    go_wp2_with (first
      | (go_at_call 21; refine (h21 _ (Hv.out.mono (by (repeat (first | exact World.grows.refl _ | assumption | refine World.grows.alloc ?_ _ | refine World.grows.plus ?_ _ _ | refine World.grows.drew ?_))))).mono ?_; rintro e w' ⟨rfl, hg⟩; obtain ⟨n2, x2, rfl⟩ := World.plus_of hg)
      | (go_at_call 66; refine (h66 _ (Hl.out.mono (by (repeat (first | exact World.grows.refl _ | assumption | refine World.grows.alloc ?_ _ | refine World.grows.plus ?_ _ _ | refine World.grows.drew ?_))))).mono ?_; rintro e w' ⟨rfl, hg⟩; obtain ⟨n3, x3, rfl⟩ := World.plus_of hg))
    (refine bodyPost_ret (v := .tuple #[.int .i64 0, .int .i64 3]) (by simp [results, Try.results30, go_sem]) rfl ?_)
    exact ⟨by rw [HE.out, HA.out], by (repeat (first | exact World.grows.refl _ | assumption | refine World.grows.alloc ?_ _ | refine World.grows.plus ?_ _ _ | refine World.grows.drew ?_))⟩
  | false =>
    rw [hri] at hA h66
    have Hri := Lib.hid ((rise_iff f n r.nc).1 hri)
    have hP : Hid (∀ x, x = 0 → r.fixE n f = x → r.fixA n f = r.price ((List.range n).map fun i => (f i).toNat)) := Lib.hid fun x h1 h2 => by unfold Reg.fixA; rw [if_pos (h2.trans h1)]
    have hP0 : Hid (∀ x, x ≠ 0 → r.fixE n f = x → r.fixA n f = 0) := Lib.hid fun x h1 h2 => by unfold Reg.fixA; rw [if_neg (by rw [h2]; exact h1)]
    have hb8 := Hri.out.bits8 hc8
    rw [← hb8] at hA hP
    have hslt := Hri.out.set_lt
    have h69 := fun W h => setOf69 W lv n f r.nc h Hri.out (by omega)
    obtain ⟨S, hS⟩ : ∃ S, setN f n = S := ⟨_, rfl⟩
    rw [hS] at hA hP hslt h69
    have h78 := fun W db mb h => tells_c W db mb r (fun _ => 0) VM.empty h Hr.out S hslt
    have h79 := fun W db mb h => price_c W db mb r (fun _ => 0) VM.empty h Hr.out S hslt
    clear hb8 hS hri
    cases ht : r.tellB (bitsL 8 S) with
    | false =>
      rw [ht] at hA h78
      have HE : Hid (r.fixE n f = 24) := Lib.hid hA
      have HA : Hid (r.fixA n f = 0) := Lib.hid (hP0.out 24 (by decide) hA)
      clear hA ht hP
      go_wp2_with (first
        | (go_at_call 21; refine (h21 _ (Hv.out.mono (by (repeat (first | exact World.grows.refl _ | assumption | refine World.grows.alloc ?_ _ | refine World.grows.plus ?_ _ _ | refine World.grows.drew ?_))))).mono ?_; rintro e w' ⟨rfl, hg⟩; obtain ⟨n2, x2, rfl⟩ := World.plus_of hg)
        | (go_at_call 66; refine (h66 _ (Hl.out.mono (by (repeat (first | exact World.grows.refl _ | assumption | refine World.grows.alloc ?_ _ | refine World.grows.plus ?_ _ _ | refine World.grows.drew ?_))))).mono ?_; rintro e w' ⟨rfl, hg⟩; obtain ⟨n3, x3, rfl⟩ := World.plus_of hg)
        | (go_at_call 68; refine (newDesk_c _ _ _).mono ?_; rintro e W5 ⟨db, mb, rfl, hD, -, -, hg⟩; have hgW : w.grows W5 := World.grows.trans (by (repeat (first | exact World.grows.refl _ | assumption | refine World.grows.alloc ?_ _ | refine World.grows.plus ?_ _ _ | refine World.grows.drew ?_))) hg; have HD := Lib.hid (Hok.out.desk hgW hD); have HgW := Lib.hid hgW; clear hD hg hgW)
        | (go_at_call 69; refine (h69 _ (Hl.out.mono (HgW.out.trans (by (repeat (first | exact World.grows.refl _ | assumption | refine World.grows.alloc ?_ _ | refine World.grows.plus ?_ _ _ | refine World.grows.drew ?_)))))).mono ?_; rintro e w' ⟨rfl, hg⟩; obtain ⟨n6, x6, rfl⟩ := World.plus_of hg)
        | (go_at_call 78; refine (h78 _ _ _ (HD.out.mono (by (repeat (first | exact World.grows.refl _ | assumption | refine World.grows.alloc ?_ _ | refine World.grows.plus ?_ _ _ | refine World.grows.drew ?_))))).mono ?_; rintro e w' ⟨rfl, hg⟩; obtain ⟨n7, x7, rfl⟩ := World.plus_of hg))
      (refine bodyPost_ret (v := .tuple #[.int .i64 0, .int .i64 24]) (by simp [results, Try.results30, go_sem]) rfl ?_)
      exact ⟨by rw [HE.out, HA.out], HgW.out.trans (by (repeat (first | exact World.grows.refl _ | assumption | refine World.grows.alloc ?_ _ | refine World.grows.plus ?_ _ _ | refine World.grows.drew ?_)))⟩
    | true =>
      rw [ht] at hA h78
      have HE : Hid (r.fixE n f = 0) := Lib.hid hA
      have HA : Hid (r.fixA n f = r.price (bitsL 8 S)) := Lib.hid (hP.out 0 rfl hA)
      clear hA ht hP
      go_wp2_with (first
        | (go_at_call 21; refine (h21 _ (Hv.out.mono (by (repeat (first | exact World.grows.refl _ | assumption | refine World.grows.alloc ?_ _ | refine World.grows.plus ?_ _ _ | refine World.grows.drew ?_))))).mono ?_; rintro e w' ⟨rfl, hg⟩; obtain ⟨n2, x2, rfl⟩ := World.plus_of hg)
        | (go_at_call 66; refine (h66 _ (Hl.out.mono (by (repeat (first | exact World.grows.refl _ | assumption | refine World.grows.alloc ?_ _ | refine World.grows.plus ?_ _ _ | refine World.grows.drew ?_))))).mono ?_; rintro e w' ⟨rfl, hg⟩; obtain ⟨n3, x3, rfl⟩ := World.plus_of hg)
        | (go_at_call 68; refine (newDesk_c _ _ _).mono ?_; rintro e W5 ⟨db, mb, rfl, hD, -, -, hg⟩; have hgW : w.grows W5 := World.grows.trans (by (repeat (first | exact World.grows.refl _ | assumption | refine World.grows.alloc ?_ _ | refine World.grows.plus ?_ _ _ | refine World.grows.drew ?_))) hg; have HD := Lib.hid (Hok.out.desk hgW hD); have HgW := Lib.hid hgW; clear hD hg hgW)
        | (go_at_call 69; refine (h69 _ (Hl.out.mono (HgW.out.trans (by (repeat (first | exact World.grows.refl _ | assumption | refine World.grows.alloc ?_ _ | refine World.grows.plus ?_ _ _ | refine World.grows.drew ?_)))))).mono ?_; rintro e w' ⟨rfl, hg⟩; obtain ⟨n6, x6, rfl⟩ := World.plus_of hg)
        | (go_at_call 78; refine (h78 _ _ _ (HD.out.mono (by (repeat (first | exact World.grows.refl _ | assumption | refine World.grows.alloc ?_ _ | refine World.grows.plus ?_ _ _ | refine World.grows.drew ?_))))).mono ?_; rintro e w' ⟨rfl, hg⟩; obtain ⟨n7, x7, rfl⟩ := World.plus_of hg)
        | (go_at_call 79; refine (h79 _ _ _ (HD.out.mono (by (repeat (first | exact World.grows.refl _ | assumption | refine World.grows.alloc ?_ _ | refine World.grows.plus ?_ _ _ | refine World.grows.drew ?_))))).mono ?_; rintro e w' ⟨rfl, hg⟩; obtain ⟨n8, x8, rfl⟩ := World.plus_of hg))
      (refine bodyPost_ret (v := .tuple #[.int .i64 (r.price (bitsL 8 S)), .int .i64 0]) (by simp [results, Try.results30, go_sem]) rfl ?_)
      exact ⟨by rw [HE.out, HA.out], HgW.out.trans (by (repeat (first | exact World.grows.refl _ | assumption | refine World.grows.alloc ?_ _ | refine World.grows.plus ?_ _ _ | refine World.grows.drew ?_)))⟩
end Go.Proofs.Ytdminglglapnlaa

/-
  What is proved: the guards of the statements of layer 10 (12 great, 13 tall, 23 wide, 24 long, 37 fine), equal lists (36), a number in a list (41).
-/
namespace Go.Proofs.Ytdminglglapnlaa
open Go.RowKit
attribute [local irreducible] Go.wpCalm

set_option maxHeartbeats 1000000 in
theorem ints_c (w : World) (av bv : Value) (n m : Nat) (f g : Nat → Int) (ha : IntsAt w av n f) (hb : IntsAt w bv m g) :
    Calls Try.prog 36 #[av, bv] w fun e w' => e = .returned (.bool (decide (n = m) && eqL f g n)) ∧ w.grows w' := by
  obtain ⟨aa, ac, rfl, a1, a2, ha⟩ := ha
  obtain ⟨ba, bc, rfl, b1, b2, hb⟩ := hb
  unfold maxLen at a2 b2
  go_enter Try.func36, Try.ntmps36
  by_cases hn : n = m
  · subst hn
    go_wp2
    go_loopw [5] (fun i wr => ∃ k : Nat, k ≤ n ∧ i = .int .i64 k ∧ Hid (∀ j, j < k → f j = g j) ∧ w.grows wr) (fun i _ => n - (intOf i).toNat)
    case atStart => exact ⟨0, by omega, rfl, Lib.hid fun j hj => by omega, by (repeat (first | exact World.grows.refl _ | assumption | refine World.grows.alloc ?_ _ | refine World.grows.plus ?_ _ _ | refine World.grows.drew ?_))⟩
    case round =>
      obtain ⟨k, hk, rfl, hl, hg⟩ := hrel
      obtain ⟨n1, x1, rfl⟩ := World.plus_of hg
      by_cases hlt : k < n
      · obtain ⟨b, o, rfl, h0⟩ := ha k 0 hlt (by omega)
        obtain ⟨b', o', rfl, h1⟩ := hb k 0 hlt (by omega)
        simp only [Nat.mul_one, Nat.add_zero] at h0 h1
        by_cases he : f k = g k
        · have hnx := Lib.hid (upto_succ hl.out he)
          rw [he] at h0
          clear he
          go_wp2
          (refine wp_region_calm (by kernel_rfl) (by kernel_rfl) ?_; (repeat (refine wpCalm_step (fun K hK => ?_); go_simp; first | (refine hK _ ?_; clear hK K) | (apply Exists.intro; refine ⟨fun n' x' => ?_, hK _ ?_⟩; (fail); clear hK K))); refine wpCalm_nil ?_; intro nq xq)
          go_wp2
          go_roundw
          case rel => exact ⟨k + 1, by omega, by go_num, hnx, by (repeat (first | exact World.grows.refl _ | assumption | refine World.grows.alloc ?_ _ | refine World.grows.plus ?_ _ _ | refine World.grows.drew ?_))⟩
          case measure => simp [intOf]; omega
        · have hx := Lib.hid (eqL_no hlt he)
          have heb : (f k == g k) = false := beq_eq_false_iff_ne.2 he
          go_wp2
          (refine wp_region_calm (by kernel_rfl) (by kernel_rfl) ?_; (repeat (refine wpCalm_step (fun K hK => ?_); go_simp; first | (refine hK _ ?_; clear hK K) | (apply Exists.intro; refine ⟨fun n' x' => ?_, hK _ ?_⟩; (fail); clear hK K))); refine wpCalm_nil ?_; intro nq xq)
          go_wp2
          (refine bodyPost_ret (v := .bool false) (by simp [results, Try.results36, go_sem]) rfl ?_)
          exact ⟨by simp [hx.out], by (repeat (first | exact World.grows.refl _ | assumption | refine World.grows.alloc ?_ _ | refine World.grows.plus ?_ _ _ | refine World.grows.drew ?_))⟩
      · have hke : k = n := by omega
        subst hke
        have hx := Lib.hid (eqL_yes hl.out)
        go_wp2
        (refine bodyPost_ret (v := .bool true) (by simp [results, Try.results36, go_sem]) rfl ?_)
        exact ⟨by simp [hx.out], by (repeat (first | exact World.grows.refl _ | assumption | refine World.grows.alloc ?_ _ | refine World.grows.plus ?_ _ _ | refine World.grows.drew ?_))⟩
  · have hn' : ¬ (n : Int) = (m : Int) := by omega
    have hnb : ((n : Int) == (m : Int)) = false := beq_eq_false_iff_ne.2 hn'
    go_wp2
    (refine bodyPost_ret (v := .bool false) (by simp [results, Try.results36, go_sem]) rfl ?_)
    exact ⟨by simp [hn], by (repeat (first | exact World.grows.refl _ | assumption | refine World.grows.alloc ?_ _ | refine World.grows.plus ?_ _ _ | refine World.grows.drew ?_))⟩

set_option maxHeartbeats 1000000 in
theorem in_c (w : World) (av : Value) (n : Nat) (f : Nat → Int) (ha : IntsAt w av n f) (x : Int) :
    Calls Try.prog 41 #[av, .int .i64 x] w fun e w' => e = .returned (.bool ((List.range n).any fun i => decide (f i = x))) ∧ w.grows w' := by
  obtain ⟨aa, ac, rfl, a1, a2, ha⟩ := ha
  unfold maxLen at a2
  go_enter Try.func41, Try.ntmps41
  go_wp2
  go_loopw [5] (fun i wr => ∃ k : Nat, k ≤ n ∧ i = .int .i64 k ∧ Hid (∀ j, j < k → decide (f j = x) = false) ∧ w.grows wr) (fun i _ => n - (intOf i).toNat)
  case atStart => exact ⟨0, by omega, rfl, Lib.hid fun j hj => by omega, by (repeat (first | exact World.grows.refl _ | assumption | refine World.grows.alloc ?_ _ | refine World.grows.plus ?_ _ _ | refine World.grows.drew ?_))⟩
  case round =>
    obtain ⟨k, hk, rfl, hl, hg⟩ := hrel
    obtain ⟨n1, x1, rfl⟩ := World.plus_of hg
    by_cases hlt : k < n
    · obtain ⟨b, o, rfl, h0⟩ := ha k 0 hlt (by omega)
      simp only [Nat.mul_one, Nat.add_zero] at h0
      by_cases he : f k = x
      · have hx := Lib.hid (any_true_of (q := fun i => decide (f i = x)) hlt (by simp [he]))
        rw [he] at h0
        clear he
        go_wp2
        (refine bodyPost_ret (v := .bool true) (by simp [results, Try.results41, go_sem]) rfl ?_)
        exact ⟨by rw [hx.out], by (repeat (first | exact World.grows.refl _ | assumption | refine World.grows.alloc ?_ _ | refine World.grows.plus ?_ _ _ | refine World.grows.drew ?_))⟩
      · have hnx := Lib.hid (upto_succ hl.out (decide_eq_false he))
        have heb : (f k == x) = false := beq_eq_false_iff_ne.2 he
        go_wp2
        go_roundw
        case rel => exact ⟨k + 1, by omega, by go_num, hnx, by (repeat (first | exact World.grows.refl _ | assumption | refine World.grows.alloc ?_ _ | refine World.grows.plus ?_ _ _ | refine World.grows.drew ?_))⟩
        case measure => simp [intOf]; omega
    · have hke : k = n := by omega
      have hx := Lib.hid (any_false_of (n := k) hl.out)
      subst hke
      go_wp2
      (refine bodyPost_ret (v := .bool false) (by simp [results, Try.results41, go_sem]) rfl ?_)
      exact ⟨by rw [hx.out], by (repeat (first | exact World.grows.refl _ | assumption | refine World.grows.alloc ?_ _ | refine World.grows.plus ?_ _ _ | refine World.grows.drew ?_))⟩

def Reg.greatB (r : Reg) : Bool := decide (15 < r.nm) || decide (12 < r.nc) || (List.range r.nm).any fun m => decide (15 < r.nv m)
set_option maxHeartbeats 1000000 in
theorem great_c (w : World) (v : Value) (r : Reg) (hv : RegAt w v r) :
    Calls Try.prog 12 #[v] w fun e w' => e = .returned (.bool r.greatB) ∧ w.grows w' := by
  obtain ⟨mv, cv, row, rfl, ⟨ma, mc, rfl, hm1, hm2, hm⟩, ⟨ca, cc, rfl, hc1, hc2, -⟩, hrow⟩ := hv
  have hrow' : ∀ m, m < r.nm → ∃ a c, row m = .slice a (r.nv m) c := fun m hmm => by obtain ⟨a, c, e, _⟩ := hrow m hmm; exact ⟨a, c, e⟩
  clear hrow
  unfold maxLen at hm2 hc2
  go_enter Try.func12, Try.ntmps12
  by_cases h1 : 15 < r.nm
  · have hx := Lib.hid (show r.greatB = true by simp [Reg.greatB, h1])
    go_wp2
    (refine bodyPost_ret (v := .bool true) (by simp [results, Try.results12, go_sem]) rfl ?_)
    exact ⟨by rw [hx.out], by (repeat (first | exact World.grows.refl _ | assumption | refine World.grows.alloc ?_ _ | refine World.grows.plus ?_ _ _ | refine World.grows.drew ?_))⟩
  by_cases h2 : 12 < r.nc
  · have hx := Lib.hid (show r.greatB = true by simp [Reg.greatB, h2])
    go_wp2
    (refine bodyPost_ret (v := .bool true) (by simp [results, Try.results12, go_sem]) rfl ?_)
    exact ⟨by rw [hx.out], by (repeat (first | exact World.grows.refl _ | assumption | refine World.grows.alloc ?_ _ | refine World.grows.plus ?_ _ _ | refine World.grows.drew ?_))⟩
  have hg : r.greatB = (List.range r.nm).any fun m => decide (15 < r.nv m) := by simp [Reg.greatB, h1, h2]
  rw [hg]
  clear hg
  go_wp2
  go_loopw [3] (fun i wr => ∃ k : Nat, k ≤ r.nm ∧ i = .int .i64 k ∧ Hid (∀ j, j < k → decide (15 < r.nv j) = false) ∧ (w.alloc (.cells #[.slice ma r.nm mc, .slice ca r.nc cc] 25)).grows wr) (fun i _ => r.nm - (intOf i).toNat)
  case atStart => exact ⟨0, by omega, rfl, Lib.hid fun j hj => by omega, by (repeat (first | exact World.grows.refl _ | assumption | refine World.grows.alloc ?_ _ | refine World.grows.plus ?_ _ _ | refine World.grows.drew ?_))⟩
  case round =>
    obtain ⟨k, hk, rfl, hl, hg⟩ := hrel
    obtain ⟨n1, x1, rfl⟩ := World.plus_of hg
    by_cases hlt : k < r.nm
    · obtain ⟨b, o, rfl, h0⟩ := hm k 1 hlt (by omega)
      obtain ⟨ra, rc, hr⟩ := hrow' k hlt
      simp only [mcell, if_false, Nat.one_ne_zero, hr] at h0
      by_cases he : 15 < r.nv k
      · have hx := Lib.hid (any_true_of (q := fun i => decide (15 < r.nv i)) hlt (by simp [he]))
        go_wp2
        (refine bodyPost_ret (v := .bool true) (by simp [results, Try.results12, go_sem]) rfl ?_)
        exact ⟨by rw [hx.out], by (repeat (first | exact World.grows.refl _ | assumption | refine World.grows.alloc ?_ _ | refine World.grows.plus ?_ _ _ | refine World.grows.drew ?_))⟩
      · have hnx := Lib.hid (upto_succ hl.out (decide_eq_false he))
        go_wp2
        go_roundw
        case rel => exact ⟨k + 1, by omega, by go_num, hnx, by (repeat (first | exact World.grows.refl _ | assumption | refine World.grows.alloc ?_ _ | refine World.grows.plus ?_ _ _ | refine World.grows.drew ?_))⟩
        case measure => simp [intOf]; omega
    · have hke : k = r.nm := by omega
      have hx := Lib.hid (any_false_of (n := k) hl.out)
      rw [hke] at hx
      subst hke
      go_wp2
      (refine bodyPost_ret (v := .bool false) (by simp [results, Try.results12, go_sem]) rfl ?_)
      exact ⟨by rw [hx.out], by (repeat (first | exact World.grows.refl _ | assumption | refine World.grows.alloc ?_ _ | refine World.grows.plus ?_ _ _ | refine World.grows.drew ?_))⟩

theorem Reg.great_not {r : Reg} (h : r.check = 0) : r.greatB = false := by
  have hr := Reg.ok_of h
  have h1 := hr.m10
  have h2 := hr.c8
  unfold Reg.greatB
  rw [any_false_of (q := fun m => decide (15 < r.nv m)) fun m hm => decide_eq_false (by have := hr.nv m hm; omega)]
  simp
  omega
set_option maxHeartbeats 1000000 in
theorem fine_c (w : World) (v : Value) (r : Reg) (hv : RegAt w v r) :
    Calls Try.prog 37 #[v] w fun e w' => e = .returned (.bool (decide (r.check = 0))) ∧ w.grows w' := by
  have Hv := Lib.hid hv
  obtain ⟨mv, cv, row, rfl, -⟩ := hv
  have h12 := fun W h => great_c W (.agg #[mv, cv]) r h
  have h22 := fun W h => rcheck_c W (.agg #[mv, cv]) r h
  go_enter Try.func37, Try.ntmps37
  by_cases hc : r.check = 0
  · rw [Reg.great_not hc] at h12
    rw [hc] at h22
    have Hc := Lib.hid hc
    clear hc
    go_wp2_with (first
      | (go_at_call 12; refine (h12 _ (Hv.out.mono (by (repeat (first | exact World.grows.refl _ | assumption | refine World.grows.alloc ?_ _ | refine World.grows.plus ?_ _ _ | refine World.grows.drew ?_))))).mono ?_; rintro e w' ⟨rfl, hg⟩; obtain ⟨n2, x2, rfl⟩ := World.plus_of hg)
      | (go_at_call 22; refine (h22 _ (Hv.out.mono (by (repeat (first | exact World.grows.refl _ | assumption | refine World.grows.alloc ?_ _ | refine World.grows.plus ?_ _ _ | refine World.grows.drew ?_))))).mono ?_; rintro e w' ⟨rfl, hg⟩; obtain ⟨n3, x3, rfl⟩ := World.plus_of hg))
    (refine bodyPost_ret (v := .bool true) (by simp [results, Try.results37, go_sem]) rfl ?_)
    exact ⟨by rw [decide_eq_true Hc.out], by (repeat (first | exact World.grows.refl _ | assumption | refine World.grows.alloc ?_ _ | refine World.grows.plus ?_ _ _ | refine World.grows.drew ?_))⟩
  · have Hc := Lib.hid hc
    have hcb : (r.check == 0) = false := beq_eq_false_iff_ne.2 hc
    cases hgr : r.greatB with
    | true =>
      rw [hgr] at h12
      clear hgr
      go_wp2_with (go_at_call 12; refine (h12 _ (Hv.out.mono (by (repeat (first | exact World.grows.refl _ | assumption | refine World.grows.alloc ?_ _ | refine World.grows.plus ?_ _ _ | refine World.grows.drew ?_))))).mono ?_; rintro e w' ⟨rfl, hg⟩; obtain ⟨n2, x2, rfl⟩ := World.plus_of hg)
      (refine bodyPost_ret (v := .bool false) (by simp [results, Try.results37, go_sem]) rfl ?_)
      exact ⟨by rw [decide_eq_false Hc.out], by (repeat (first | exact World.grows.refl _ | assumption | refine World.grows.alloc ?_ _ | refine World.grows.plus ?_ _ _ | refine World.grows.drew ?_))⟩
    | false =>
      rw [hgr] at h12
      clear hgr
      go_wp2_with (first
        | (go_at_call 12; refine (h12 _ (Hv.out.mono (by (repeat (first | exact World.grows.refl _ | assumption | refine World.grows.alloc ?_ _ | refine World.grows.plus ?_ _ _ | refine World.grows.drew ?_))))).mono ?_; rintro e w' ⟨rfl, hg⟩; obtain ⟨n2, x2, rfl⟩ := World.plus_of hg)
        | (go_at_call 22; refine (h22 _ (Hv.out.mono (by (repeat (first | exact World.grows.refl _ | assumption | refine World.grows.alloc ?_ _ | refine World.grows.plus ?_ _ _ | refine World.grows.drew ?_))))).mono ?_; rintro e w' ⟨rfl, hg⟩; obtain ⟨n3, x3, rfl⟩ := World.plus_of hg))
      (refine bodyPost_ret (v := .bool false) (by simp [results, Try.results37, go_sem]) rfl ?_)
      exact ⟨by rw [decide_eq_false Hc.out], by (repeat (first | exact World.grows.refl _ | assumption | refine World.grows.alloc ?_ _ | refine World.grows.plus ?_ _ _ | refine World.grows.drew ?_))⟩
end Go.Proofs.Ytdminglglapnlaa

