/-
  What is proved: plain words: what CheckFixed says of a set of features; every set that tells holds what must be there.
-/
import Derived.Test.YtdminglglapnlaaM8
import Derived.Test.YtdminglglapnlaaM2
import Derived.Test.YtdminglglapnlaaM16
import Derived.Test.YtdminglglapnlaaM17
import Derived.Test.YtdminglglapnlaaM9
import Derived.Test.YtdminglglapnlaaM15
set_option linter.all false
namespace Go.Proofs.Ytdminglglapnlaa

theorem map_bits (L : List Nat) : ((List.range L.length).map fun i => (((L.getD i 0 : Nat) : Int)).toNat) = L := by
  apply List.ext_getElem
  · simp
  · intro i h1 h2
    simp at h1
    simp [h1]
theorem Reg.fixE_bits {r : Reg} (hc : r.check = 0) (h8 : r.nc ≤ 8) {s : Nat} (hs : s < 2 ^ r.nc) : r.fixE (bitsL 8 s).length (fun i => (((bitsL 8 s).getD i 0 : Nat) : Int)) = if r.tellB (bitsL 8 s) = true then 0 else 24 := by
  unfold Reg.fixE
  rw [if_pos hc, map_bits]
  have hr : Rise (fun i => (((bitsL 8 s).getD i 0 : Nat) : Int)) (bitsL 8 s).length r.nc := by
    rw [bitsL_of_le hs h8]
    exact bitsL_rise r.nc s
  rw [if_neg (by rw [(rise_iff _ _ _).2 hr]; exact Bool.false_ne_true)]
theorem Reg.fixA_bits {r : Reg} (hc : r.check = 0) (h8 : r.nc ≤ 8) {s : Nat} (hs : s < 2 ^ r.nc) : r.fixA (bitsL 8 s).length (fun i => (((bitsL 8 s).getD i 0 : Nat) : Int)) = if r.tellB (bitsL 8 s) = true then r.price (bitsL 8 s) else 0 := by
  unfold Reg.fixA
  rw [r.fixE_bits hc h8 hs, map_bits]
  cases r.tellB (bitsL 8 s) <;> rfl
theorem Reg.tellB_mono {r : Reg} {l l' : List Nat} (h : ∀ f ∈ l, f ∈ l') (ht : r.tellB l = true) : r.tellB l' = true := by
  rw [r.tellB_iff] at ht ⊢
  intro a b h1 h2
  rcases ht a b h1 h2 with h3 | ⟨f, h3, h4⟩
  · exact .inl h3
  · exact .inr ⟨f, h f h3, h4⟩
theorem Reg.tellB_noTw {r : Reg} (h8 : r.nc ≤ 8) {s : Nat} (hs : s < 2 ^ r.nc) (ht : r.tellB (bitsL 8 s) = true) : r.NoTwins := by
  intro i k h1 h2
  rw [r.tellB_iff] at ht
  cases hw : r.twin i k with
  | false => rfl
  | true =>
    obtain ⟨h3, h4⟩ := (r.twin_iff i k).1 hw
    rcases ht k i h1 h2 with h5 | ⟨f, h5, h6⟩
    · exact absurd h5.symm h3
    · rw [bitsL_of_le hs h8] at h5
      exact absurd (h4 f (mem_bitsL.1 h5).1).symm h6
theorem Reg.must_in {r : Reg} (h8 : r.nc ≤ 8) {s f : Nat} (hs : s < 2 ^ r.nc) (ht : r.tellB (bitsL 8 s) = true) (hf : f ∈ r.mustL) : f ∈ bitsL 8 s := by
  obtain ⟨h1, h2⟩ := List.mem_filter.1 hf
  have h1 : f < r.nc := List.mem_range.1 h1
  apply Classical.byContradiction
  intro hn
  have hnb : s.testBit f = false := by
    cases hb : s.testBit f with
    | false => rfl
    | true => exact absurd (mem_bitsL.2 ⟨by omega, hb⟩) hn
  have hm : r.tellB (bitsL 8 ((2 ^ r.nc - 1) - 2 ^ f)) = true := by
    refine Reg.tellB_mono (fun g hg => ?_) ht
    rw [bitsL_of_le hs h8] at hg
    obtain ⟨h3, h4⟩ := mem_bitsL.1 hg
    refine mem_bitsL.2 ⟨by omega, ?_⟩
    have hgf : g ≠ f := fun e => by rw [e, hnb] at h4; cases h4
    have hp : 2 ^ f < 2 ^ r.nc := Nat.pow_lt_pow_right (by omega) h1
    have e : (2 ^ r.nc - 1) - 2 ^ f = 2 ^ r.nc - (2 ^ f + 1) := by omega
    rw [e, Nat.testBit_two_pow_sub_succ hp, Nat.testBit_two_pow]
    simp [h3, Ne.symm hgf]
  unfold Reg.mustB at h2
  rw [hm] at h2
  cases h2
end Go.Proofs.Ytdminglglapnlaa

/-
  What is proved: MarkCheaper (8) answers true.
-/
namespace Go.Proofs.Ytdminglglapnlaa
open Go.RowKit
attribute [local irreducible] Go.wpCalm

theorem inL_c (w : World) (lv : Value) (L : List Nat) (hl : ListAt w lv L) {x : Nat} (hx : x ∈ L) : Calls Try.prog 41 #[lv, .int .i64 x] w fun e w' => e = .returned (.bool true) ∧ w.grows w' := by
  have h := in_c w lv _ _ hl (x : Int)
  have e : ((List.range L.length).any fun i => decide (((L.getD i 0 : Nat) : Int) = (x : Int))) = true := by
    obtain ⟨i, hi, e⟩ := List.getElem_of_mem hx
    exact List.any_eq_true.2 ⟨i, List.mem_range.2 hi, by simp [hi, e]⟩
  rwa [e] at h
set_option maxRecDepth 100000 in
set_option maxHeartbeats 8000000 in
theorem cheaper_w (w : World) (rv : Value) (r : Reg) (hr : RegAt w rv r) (z : Int) (hz : 0 ≤ z ∧ z ≤ 255) :
    Calls Try.prog 8 #[rv, .int .u8 z] w fun e w' => e = .returned (.bool true) ∧ w.grows w' := by
  obtain ⟨zn, rfl⟩ : ∃ n : Nat, z = (n : Int) := ⟨z.toNat, by omega⟩
  have h37 := fun W (g : w.grows W) => fine_c W rv r (hr.mono g)
  have Hr := Lib.hid hr
  obtain ⟨mv, cv, row, rfl, ⟨ma, mc, rfl, -⟩, ⟨ca, cc, rfl, -, hcc, -⟩, -⟩ := hr
  unfold maxLen at hcc
  go_enter Try.func8, Try.ntmps8
  by_cases hc : r.check = 0
  · rw [decide_eq_true hc] at h37
    have hok := Reg.ok_of hc
    have hc8 := hok.c8
    obtain ⟨N, hNN⟩ : ∃ N, 2 ^ r.nc = N := ⟨_, rfl⟩
    have hN256 : N ≤ 2 ^ 8 := by rw [← hNN]; exact Nat.pow_le_pow_right (by omega) hc8
    have hNpos : 0 < N := by rw [← hNN]; exact Nat.two_pow_pos _
    have Hwz := Lib.hid (shl_one (by omega) hNN)
    have HNN := Lib.hid hNN
    obtain ⟨S, hlt, hrem⟩ : ∃ S : Nat, S < N ∧ ((zn : Int) % (N : Int)) = (S : Int) := ⟨zn % N, Nat.mod_lt _ hNpos, by omega⟩
    have hN256' : N ≤ 256 := hN256
    have HS : Hid (S < 2 ^ r.nc) := Lib.hid (by rw [hNN]; exact hlt)
    have h42 := fun W => list42 W S 8 (Nat.lt_of_lt_of_le HS.out (Nat.pow_le_pow_right (by omega) hc8)) (by omega)
    have HE := Lib.hid (Reg.fixE_bits hc hc8 HS.out)
    have HA := Lib.hid (Reg.fixA_bits hc hc8 HS.out)
    have HC := Lib.hid hc
    clear hc hok hNN hN256
    go_upto_region 1 with fail
    generalize hV : World.alloc _ _ = V
    have gV : w.grows V := by rw [← hV]; (repeat (first | exact World.grows.refl _ | assumption | refine World.grows.alloc ?_ _ | refine World.grows.plus ?_ _ _ | refine World.grows.drew ?_))
    have q10 : V.cell? ⟨w.heap.size, 0, none⟩ = some (.slice ma r.nm mc) := by rw [← hV]; simp [go_sem]
    have q11 : V.cell? ⟨w.heap.size, 1, none⟩ = some (.slice ca r.nc cc) := by rw [← hV]; simp [go_sem]
    have HZ := Lib.hid gV
    clear hV gV
    go_wp2_with (go_at_call 44; fail)
    refine (h37 _ (HZ.out.trans (by (repeat (first | exact World.grows.refl _ | assumption | refine World.grows.alloc ?_ _ | refine World.grows.plus ?_ _ _ | refine World.grows.drew ?_))))).mono ?_
    rintro e U ⟨rfl, g⟩
    replace q10 := World.grows.cell_of (World.grows.trans (by (repeat (first | exact World.grows.refl _ | assumption | refine World.grows.alloc ?_ _ | refine World.grows.plus ?_ _ _ | refine World.grows.drew ?_))) g) q10; replace q11 := World.grows.cell_of (World.grows.trans (by (repeat (first | exact World.grows.refl _ | assumption | refine World.grows.alloc ?_ _ | refine World.grows.plus ?_ _ _ | refine World.grows.drew ?_))) g) q11; replace HZ := Lib.hid (HZ.out.trans (World.grows.trans (by (repeat (first | exact World.grows.refl _ | assumption | refine World.grows.alloc ?_ _ | refine World.grows.plus ?_ _ _ | refine World.grows.drew ?_))) g))
    clear g h37
    by_cases hs : r.solvE = 0
    · go_wp2_with (go_at_call 44; fail)
      refine (best_ok (Hr.out.mono (HZ.out.trans (by (repeat (first | exact World.grows.refl _ | assumption | refine World.grows.alloc ?_ _ | refine World.grows.plus ?_ _ _ | refine World.grows.drew ?_))))) hs).mono ?_
      rintro e U ⟨bx, ba, bn, bc, bt, rfl, -, g⟩
      replace q10 := World.grows.cell_of (World.grows.trans (by (repeat (first | exact World.grows.refl _ | assumption | refine World.grows.alloc ?_ _ | refine World.grows.plus ?_ _ _ | refine World.grows.drew ?_))) g) q10; replace q11 := World.grows.cell_of (World.grows.trans (by (repeat (first | exact World.grows.refl _ | assumption | refine World.grows.alloc ?_ _ | refine World.grows.plus ?_ _ _ | refine World.grows.drew ?_))) g) q11; replace HZ := Lib.hid (HZ.out.trans (World.grows.trans (by (repeat (first | exact World.grows.refl _ | assumption | refine World.grows.alloc ?_ _ | refine World.grows.plus ?_ _ _ | refine World.grows.drew ?_))) g))
      clear g
      have h32 := fun W (g : w.grows W) => pfix_c W _ r (Hr.out.mono g) hs
      have h34 := fun W (g : w.grows W) => pmust_c W _ r (Hr.out.mono g) hs
      obtain ⟨C, hC⟩ : ∃ x, r.cst (2 ^ r.nm - 1) = x := ⟨_, rfl⟩
      obtain ⟨P, hP⟩ : ∃ x, r.price (bitsL 8 r.fix) = x := ⟨_, rfl⟩
      rw [hC]
      rw [hP] at h32
      have HCP := Lib.hid (And.intro hC hP)
      have HS0 := Lib.hid hs
      clear hs hC hP
      go_wp2_with (go_at_call 44; fail)
      refine (h32 _ (HZ.out.trans (by (repeat (first | exact World.grows.refl _ | assumption | refine World.grows.alloc ?_ _ | refine World.grows.plus ?_ _ _ | refine World.grows.drew ?_))))).mono ?_
      rintro e U ⟨lf, rfl, hF, g⟩
      have q10 := World.grows.cell_of (World.grows.trans (World.grows.alloc (World.grows.refl _) _) g) q10
      have q11 := World.grows.cell_of (World.grows.trans (World.grows.alloc (World.grows.refl _) _) g) q11
      replace HZ := Lib.hid (HZ.out.trans (World.grows.trans (by (repeat (first | exact World.grows.refl _ | assumption | refine World.grows.alloc ?_ _ | refine World.grows.plus ?_ _ _ | refine World.grows.drew ?_))) g))
      have HF := Lib.hid hF
      obtain ⟨fa, fc, rfl⟩ := hF.shape
      have HU1 : Hid (U.grows U) := Lib.hid (World.grows.refl _)
      clear g h32 hF
      go_wp2_with (go_at_call 44; fail)
      refine (h34 _ (HZ.out.trans (by (repeat (first | exact World.grows.refl _ | assumption | refine World.grows.alloc ?_ _ | refine World.grows.plus ?_ _ _ | refine World.grows.drew ?_))))).mono ?_
      rintro e U ⟨lm, rfl, hM, g⟩
      replace q10 := World.grows.cell_of (World.grows.trans (by (repeat (first | exact World.grows.refl _ | assumption | refine World.grows.alloc ?_ _ | refine World.grows.plus ?_ _ _ | refine World.grows.drew ?_))) g) q10; replace q11 := World.grows.cell_of (World.grows.trans (by (repeat (first | exact World.grows.refl _ | assumption | refine World.grows.alloc ?_ _ | refine World.grows.plus ?_ _ _ | refine World.grows.drew ?_))) g) q11; replace HZ := Lib.hid (HZ.out.trans (World.grows.trans (by (repeat (first | exact World.grows.refl _ | assumption | refine World.grows.alloc ?_ _ | refine World.grows.plus ?_ _ _ | refine World.grows.drew ?_))) g))
      replace HU1 := Lib.hid (HU1.out.trans (World.grows.trans (by (repeat (first | exact World.grows.refl _ | assumption | refine World.grows.alloc ?_ _ | refine World.grows.plus ?_ _ _ | refine World.grows.drew ?_))) g))
      have HM := Lib.hid hM
      obtain ⟨ma', mc', rfl⟩ := hM.shape
      have HU2 : Hid (U.grows U) := Lib.hid (World.grows.refl _)
      clear g h34 hM
      have hwz := Hwz.out
      go_wp2_with (go_at_call 44; fail)
      refine (h42 _).mono ?_
      rintro e U ⟨ls, rfl, hL, g⟩
      replace q10 := World.grows.cell_of (World.grows.trans (by (repeat (first | exact World.grows.refl _ | assumption | refine World.grows.alloc ?_ _ | refine World.grows.plus ?_ _ _ | refine World.grows.drew ?_))) g) q10; replace q11 := World.grows.cell_of (World.grows.trans (by (repeat (first | exact World.grows.refl _ | assumption | refine World.grows.alloc ?_ _ | refine World.grows.plus ?_ _ _ | refine World.grows.drew ?_))) g) q11; replace HZ := Lib.hid (HZ.out.trans (World.grows.trans (by (repeat (first | exact World.grows.refl _ | assumption | refine World.grows.alloc ?_ _ | refine World.grows.plus ?_ _ _ | refine World.grows.drew ?_))) g))
      replace HU1 := Lib.hid (HU1.out.trans (World.grows.trans (by (repeat (first | exact World.grows.refl _ | assumption | refine World.grows.alloc ?_ _ | refine World.grows.plus ?_ _ _ | refine World.grows.drew ?_))) g))
      replace HU2 := Lib.hid (HU2.out.trans (World.grows.trans (by (repeat (first | exact World.grows.refl _ | assumption | refine World.grows.alloc ?_ _ | refine World.grows.plus ?_ _ _ | refine World.grows.drew ?_))) g))
      have HL := Lib.hid hL
      obtain ⟨sa, sc, rfl⟩ := hL.shape
      have HU3 : Hid (U.grows U) := Lib.hid (World.grows.refl _)
      clear g h42 hL hwz hrem hlt hNpos hz
      have hF1 := Reg.fix_spec hc8 (Reg.solvE_zero.1 HS0.out).2
      have hE2 := Reg.fixE_bits HC.out hc8 hF1.1
      have hA2 := Reg.fixA_bits HC.out hc8 hF1.1
      rw [if_pos hF1.2.1] at hE2 hA2
      rw [HCP.out.2] at hA2
      have h30f := fun W (g : w.grows W) (ll : Value) (hl : ListAt W ll (bitsL 8 r.fix)) => pfixed_c W _ r (Hr.out.mono g) ll _ _ hl
      have h31f := fun W (g : w.grows W) (ll : Value) (hl : ListAt W ll (bitsL 8 r.fix)) => rfixed_c W _ r (Hr.out.mono g) ll _ _ hl
      rw [hE2, hA2] at h30f h31f
      have h30s := fun W (g : w.grows W) (ll : Value) (hl : ListAt W ll (bitsL 8 S)) => pfixed_c W _ r (Hr.out.mono g) ll _ _ hl
      rw [HE.out, HA.out] at h30s
      have hcp : C ≤ P := by
        rw [← HCP.out.1, ← HCP.out.2]
        have hok := Reg.ok_of HC.out
        have := Nat.two_pow_pos r.nm
        refine r.cst_le_price (fun f hf => by have := hok.cost f hf; omega) hok.val _ (fun f hf => ?_) _ (by omega) (r.tellB_tells _ _ hF1.2.1)
        rw [bitsL_of_le hF1.1 hc8] at hf
        exact (mem_bitsL.1 hf).1
      have hcp' : ¬ P < C := by omega
      have Hbf := Lib.hid (hF1.2.2 S HS.out)
      have HF1 := Lib.hid hF1
      clear hF1 hE2 hA2 hcp
      cases ht : r.tellB (bitsL 8 S) with
      | false =>
        rw [ht] at h30s
        simp only [Bool.false_eq_true, if_false] at h30s
        clear ht
        go_wp2_with (go_at_call 44; fail)
        refine (h30s _ (HZ.out.trans (by (repeat (first | exact World.grows.refl _ | assumption | refine World.grows.alloc ?_ _ | refine World.grows.plus ?_ _ _ | refine World.grows.drew ?_)))) _ (HL.out.mono (HU3.out.trans (by (repeat (first | exact World.grows.refl _ | assumption | refine World.grows.alloc ?_ _ | refine World.grows.plus ?_ _ _ | refine World.grows.drew ?_)))))).mono ?_
        rintro e U ⟨rfl, g⟩
        replace q10 := World.grows.cell_of (World.grows.trans (by (repeat (first | exact World.grows.refl _ | assumption | refine World.grows.alloc ?_ _ | refine World.grows.plus ?_ _ _ | refine World.grows.drew ?_))) g) q10; replace q11 := World.grows.cell_of (World.grows.trans (by (repeat (first | exact World.grows.refl _ | assumption | refine World.grows.alloc ?_ _ | refine World.grows.plus ?_ _ _ | refine World.grows.drew ?_))) g) q11; replace HZ := Lib.hid (HZ.out.trans (World.grows.trans (by (repeat (first | exact World.grows.refl _ | assumption | refine World.grows.alloc ?_ _ | refine World.grows.plus ?_ _ _ | refine World.grows.drew ?_))) g))
        replace HU1 := Lib.hid (HU1.out.trans (World.grows.trans (by (repeat (first | exact World.grows.refl _ | assumption | refine World.grows.alloc ?_ _ | refine World.grows.plus ?_ _ _ | refine World.grows.drew ?_))) g))
        replace HU2 := Lib.hid (HU2.out.trans (World.grows.trans (by (repeat (first | exact World.grows.refl _ | assumption | refine World.grows.alloc ?_ _ | refine World.grows.plus ?_ _ _ | refine World.grows.drew ?_))) g))
        replace HU3 := Lib.hid (HU3.out.trans (World.grows.trans (by (repeat (first | exact World.grows.refl _ | assumption | refine World.grows.alloc ?_ _ | refine World.grows.plus ?_ _ _ | refine World.grows.drew ?_))) g))
        clear g h30s
        go_wp2_with (go_at_call 44; fail)
        refine (h30f _ (HZ.out.trans (by (repeat (first | exact World.grows.refl _ | assumption | refine World.grows.alloc ?_ _ | refine World.grows.plus ?_ _ _ | refine World.grows.drew ?_)))) _ (HF.out.mono (HU1.out.trans (by (repeat (first | exact World.grows.refl _ | assumption | refine World.grows.alloc ?_ _ | refine World.grows.plus ?_ _ _ | refine World.grows.drew ?_)))))).mono ?_
        rintro e U ⟨rfl, g⟩
        replace q10 := World.grows.cell_of (World.grows.trans (by (repeat (first | exact World.grows.refl _ | assumption | refine World.grows.alloc ?_ _ | refine World.grows.plus ?_ _ _ | refine World.grows.drew ?_))) g) q10; replace q11 := World.grows.cell_of (World.grows.trans (by (repeat (first | exact World.grows.refl _ | assumption | refine World.grows.alloc ?_ _ | refine World.grows.plus ?_ _ _ | refine World.grows.drew ?_))) g) q11; replace HZ := Lib.hid (HZ.out.trans (World.grows.trans (by (repeat (first | exact World.grows.refl _ | assumption | refine World.grows.alloc ?_ _ | refine World.grows.plus ?_ _ _ | refine World.grows.drew ?_))) g))
        replace HU1 := Lib.hid (HU1.out.trans (World.grows.trans (by (repeat (first | exact World.grows.refl _ | assumption | refine World.grows.alloc ?_ _ | refine World.grows.plus ?_ _ _ | refine World.grows.drew ?_))) g))
        replace HU2 := Lib.hid (HU2.out.trans (World.grows.trans (by (repeat (first | exact World.grows.refl _ | assumption | refine World.grows.alloc ?_ _ | refine World.grows.plus ?_ _ _ | refine World.grows.drew ?_))) g))
        replace HU3 := Lib.hid (HU3.out.trans (World.grows.trans (by (repeat (first | exact World.grows.refl _ | assumption | refine World.grows.alloc ?_ _ | refine World.grows.plus ?_ _ _ | refine World.grows.drew ?_))) g))
        clear g
        go_wp2_with (go_at_call 44; fail)
        refine (h31f _ (HZ.out.trans (by (repeat (first | exact World.grows.refl _ | assumption | refine World.grows.alloc ?_ _ | refine World.grows.plus ?_ _ _ | refine World.grows.drew ?_)))) _ (HF.out.mono (HU1.out.trans (by (repeat (first | exact World.grows.refl _ | assumption | refine World.grows.alloc ?_ _ | refine World.grows.plus ?_ _ _ | refine World.grows.drew ?_)))))).mono ?_
        rintro e U ⟨rfl, g⟩
        replace q10 := World.grows.cell_of (World.grows.trans (by (repeat (first | exact World.grows.refl _ | assumption | refine World.grows.alloc ?_ _ | refine World.grows.plus ?_ _ _ | refine World.grows.drew ?_))) g) q10; replace q11 := World.grows.cell_of (World.grows.trans (by (repeat (first | exact World.grows.refl _ | assumption | refine World.grows.alloc ?_ _ | refine World.grows.plus ?_ _ _ | refine World.grows.drew ?_))) g) q11; replace HZ := Lib.hid (HZ.out.trans (World.grows.trans (by (repeat (first | exact World.grows.refl _ | assumption | refine World.grows.alloc ?_ _ | refine World.grows.plus ?_ _ _ | refine World.grows.drew ?_))) g))
        replace HU1 := Lib.hid (HU1.out.trans (World.grows.trans (by (repeat (first | exact World.grows.refl _ | assumption | refine World.grows.alloc ?_ _ | refine World.grows.plus ?_ _ _ | refine World.grows.drew ?_))) g))
        replace HU2 := Lib.hid (HU2.out.trans (World.grows.trans (by (repeat (first | exact World.grows.refl _ | assumption | refine World.grows.alloc ?_ _ | refine World.grows.plus ?_ _ _ | refine World.grows.drew ?_))) g))
        replace HU3 := Lib.hid (HU3.out.trans (World.grows.trans (by (repeat (first | exact World.grows.refl _ | assumption | refine World.grows.alloc ?_ _ | refine World.grows.plus ?_ _ _ | refine World.grows.drew ?_))) g))
        clear g q10 q11
        clear h30f h31f
        have hlm : r.mustL.length ≤ 8 := by
          have := filtL_length_le r.mustB r.nc
          have e : r.mustL = filtL r.mustB r.nc := rfl
          rw [e]; omega
        go_wp2
        go_loopw [20] (fun i wr => ∃ k : Nat, k ≤ r.mustL.length ∧ i = .int .i64 k ∧ Hid (U.grows wr)) (fun i _ => r.mustL.length - (intOf i).toNat)
        case atStart => exact ⟨0, by omega, rfl, Lib.hid (World.grows.refl _)⟩
        case round =>
          obtain ⟨k, hk, rfl, HG⟩ := hrel; have HMk := Lib.hid (HM.out.mono (HU2.out.trans HG.out)); obtain ⟨aa, cc2, ee, m1, m2, hcell⟩ := HMk.out; cases ee; unfold maxLen at m2
          by_cases hlt : k < r.mustL.length
          · obtain ⟨mb, mo, rfl, c0⟩ := hcell k 0 hlt (by omega)
            simp only [Nat.mul_one, Nat.add_zero] at c0
            have hmem : r.mustL.getD k 0 ∈ r.mustL := by rw [List.getD_eq_getElem?_getD, List.getElem?_eq_getElem hlt]; exact List.getElem_mem hlt
            have hin := Reg.must_in hc8 HF1.out.1 HF1.out.2.1 hmem
            obtain ⟨x, hx⟩ : ∃ x, r.mustL.getD k 0 = x := ⟨_, rfl⟩
            rw [hx] at c0 hin
            clear hcell hmem hx
            go_wp2_with (go_at_call 41; refine (inL_c _ _ _ (HF.out.mono (HU1.out.trans (HG.out.trans (by (repeat (first | exact World.grows.refl _ | assumption | refine World.grows.alloc ?_ _ | refine World.grows.plus ?_ _ _ | refine World.grows.drew ?_)))))) hin).mono ?_; rintro e U2 ⟨rfl, g⟩)
            go_roundw
            case rel => exact ⟨k + 1, by omega, by go_num, Lib.hid (HG.out.trans (World.grows.trans (by (repeat (first | exact World.grows.refl _ | assumption | refine World.grows.alloc ?_ _ | refine World.grows.plus ?_ _ _ | refine World.grows.drew ?_))) g))⟩
            case measure => simp [intOf]; omega
          · have hke : k = r.mustL.length := by omega
            subst hke
            clear hcell
            go_wp2_with (go_at_call 14; refine (works_c _).mono ?_; rintro e U2 ⟨rfl, g⟩)
            (refine bodyPost_ret (v := .bool true) (by simp [results, Try.results8, go_sem]) rfl ?_)
            exact ⟨rfl, HZ.out.trans (HG.out.trans (World.grows.trans (by (repeat (first | exact World.grows.refl _ | assumption | refine World.grows.alloc ?_ _ | refine World.grows.plus ?_ _ _ | refine World.grows.drew ?_))) g))⟩
      | true =>
        have hlt2 := Hbf.out ht
        rw [ht] at h30s
        simp only [if_true] at h30s
        have HT := Lib.hid ht
        clear ht
        obtain ⟨hp1, hp2⟩ := Reg.befB_false hlt2
        rw [HCP.out.2] at hp1 hp2
        clear hlt2
        have h43 := fun W (a b : Value) (ha : ListAt W a (bitsL 8 S)) (hb : ListAt W b (bitsL 8 r.fix)) => first43 W a b _ _ ha hb
        obtain ⟨PS, hPS⟩ : ∃ x, r.price (bitsL 8 S) = x := ⟨_, rfl⟩
        rw [hPS] at h30s hp1 hp2
        have hp3 : ¬ PS < P := by omega
        have hp4 : ¬ PS < C := by omega
        clear hPS
        have hlm : r.mustL.length ≤ 8 := by
          have := filtL_length_le r.mustB r.nc
          have e : r.mustL = filtL r.mustB r.nc := rfl
          rw [e]; omega
        go_wp2_with (go_at_call 44; fail)
        refine (h30s _ (HZ.out.trans (by (repeat (first | exact World.grows.refl _ | assumption | refine World.grows.alloc ?_ _ | refine World.grows.plus ?_ _ _ | refine World.grows.drew ?_)))) _ (HL.out.mono (HU3.out.trans (by (repeat (first | exact World.grows.refl _ | assumption | refine World.grows.alloc ?_ _ | refine World.grows.plus ?_ _ _ | refine World.grows.drew ?_)))))).mono ?_
        rintro e U ⟨rfl, g⟩
        replace q10 := World.grows.cell_of (World.grows.trans (by (repeat (first | exact World.grows.refl _ | assumption | refine World.grows.alloc ?_ _ | refine World.grows.plus ?_ _ _ | refine World.grows.drew ?_))) g) q10; replace q11 := World.grows.cell_of (World.grows.trans (by (repeat (first | exact World.grows.refl _ | assumption | refine World.grows.alloc ?_ _ | refine World.grows.plus ?_ _ _ | refine World.grows.drew ?_))) g) q11; replace HZ := Lib.hid (HZ.out.trans (World.grows.trans (by (repeat (first | exact World.grows.refl _ | assumption | refine World.grows.alloc ?_ _ | refine World.grows.plus ?_ _ _ | refine World.grows.drew ?_))) g))
        replace HU1 := Lib.hid (HU1.out.trans (World.grows.trans (by (repeat (first | exact World.grows.refl _ | assumption | refine World.grows.alloc ?_ _ | refine World.grows.plus ?_ _ _ | refine World.grows.drew ?_))) g)); replace HU2 := Lib.hid (HU2.out.trans (World.grows.trans (by (repeat (first | exact World.grows.refl _ | assumption | refine World.grows.alloc ?_ _ | refine World.grows.plus ?_ _ _ | refine World.grows.drew ?_))) g)); replace HU3 := Lib.hid (HU3.out.trans (World.grows.trans (by (repeat (first | exact World.grows.refl _ | assumption | refine World.grows.alloc ?_ _ | refine World.grows.plus ?_ _ _ | refine World.grows.drew ?_))) g))
        clear g h30s
        go_wp2_with (go_at_call 44; fail)
        refine (h30f _ (HZ.out.trans (by (repeat (first | exact World.grows.refl _ | assumption | refine World.grows.alloc ?_ _ | refine World.grows.plus ?_ _ _ | refine World.grows.drew ?_)))) _ (HF.out.mono (HU1.out.trans (by (repeat (first | exact World.grows.refl _ | assumption | refine World.grows.alloc ?_ _ | refine World.grows.plus ?_ _ _ | refine World.grows.drew ?_)))))).mono ?_
        rintro e U ⟨rfl, g⟩
        replace q10 := World.grows.cell_of (World.grows.trans (by (repeat (first | exact World.grows.refl _ | assumption | refine World.grows.alloc ?_ _ | refine World.grows.plus ?_ _ _ | refine World.grows.drew ?_))) g) q10; replace q11 := World.grows.cell_of (World.grows.trans (by (repeat (first | exact World.grows.refl _ | assumption | refine World.grows.alloc ?_ _ | refine World.grows.plus ?_ _ _ | refine World.grows.drew ?_))) g) q11; replace HZ := Lib.hid (HZ.out.trans (World.grows.trans (by (repeat (first | exact World.grows.refl _ | assumption | refine World.grows.alloc ?_ _ | refine World.grows.plus ?_ _ _ | refine World.grows.drew ?_))) g))
        replace HU1 := Lib.hid (HU1.out.trans (World.grows.trans (by (repeat (first | exact World.grows.refl _ | assumption | refine World.grows.alloc ?_ _ | refine World.grows.plus ?_ _ _ | refine World.grows.drew ?_))) g)); replace HU2 := Lib.hid (HU2.out.trans (World.grows.trans (by (repeat (first | exact World.grows.refl _ | assumption | refine World.grows.alloc ?_ _ | refine World.grows.plus ?_ _ _ | refine World.grows.drew ?_))) g)); replace HU3 := Lib.hid (HU3.out.trans (World.grows.trans (by (repeat (first | exact World.grows.refl _ | assumption | refine World.grows.alloc ?_ _ | refine World.grows.plus ?_ _ _ | refine World.grows.drew ?_))) g))
        clear g
        go_wp2_with (go_at_call 44; fail)
        refine (h31f _ (HZ.out.trans (by (repeat (first | exact World.grows.refl _ | assumption | refine World.grows.alloc ?_ _ | refine World.grows.plus ?_ _ _ | refine World.grows.drew ?_)))) _ (HF.out.mono (HU1.out.trans (by (repeat (first | exact World.grows.refl _ | assumption | refine World.grows.alloc ?_ _ | refine World.grows.plus ?_ _ _ | refine World.grows.drew ?_)))))).mono ?_
        rintro e U ⟨rfl, g⟩
        replace q10 := World.grows.cell_of (World.grows.trans (by (repeat (first | exact World.grows.refl _ | assumption | refine World.grows.alloc ?_ _ | refine World.grows.plus ?_ _ _ | refine World.grows.drew ?_))) g) q10; replace q11 := World.grows.cell_of (World.grows.trans (by (repeat (first | exact World.grows.refl _ | assumption | refine World.grows.alloc ?_ _ | refine World.grows.plus ?_ _ _ | refine World.grows.drew ?_))) g) q11; replace HZ := Lib.hid (HZ.out.trans (World.grows.trans (by (repeat (first | exact World.grows.refl _ | assumption | refine World.grows.alloc ?_ _ | refine World.grows.plus ?_ _ _ | refine World.grows.drew ?_))) g))
        replace HU1 := Lib.hid (HU1.out.trans (World.grows.trans (by (repeat (first | exact World.grows.refl _ | assumption | refine World.grows.alloc ?_ _ | refine World.grows.plus ?_ _ _ | refine World.grows.drew ?_))) g)); replace HU2 := Lib.hid (HU2.out.trans (World.grows.trans (by (repeat (first | exact World.grows.refl _ | assumption | refine World.grows.alloc ?_ _ | refine World.grows.plus ?_ _ _ | refine World.grows.drew ?_))) g)); replace HU3 := Lib.hid (HU3.out.trans (World.grows.trans (by (repeat (first | exact World.grows.refl _ | assumption | refine World.grows.alloc ?_ _ | refine World.grows.plus ?_ _ _ | refine World.grows.drew ?_))) g))
        clear g q10 q11 h30f h31f hp1
        by_cases hpe : PS = P
        · subst hpe
          rw [hp2 rfl] at h43
          clear hp2
          go_wp2_with (go_at_call 44; fail)
          refine (h43 _ _ _ (HL.out.mono (HU3.out.trans (by (repeat (first | exact World.grows.refl _ | assumption | refine World.grows.alloc ?_ _ | refine World.grows.plus ?_ _ _ | refine World.grows.drew ?_))))) (HF.out.mono (HU1.out.trans (by (repeat (first | exact World.grows.refl _ | assumption | refine World.grows.alloc ?_ _ | refine World.grows.plus ?_ _ _ | refine World.grows.drew ?_)))))).mono ?_
          rintro e U ⟨rfl, g⟩
          replace HZ := Lib.hid (HZ.out.trans (World.grows.trans (by (repeat (first | exact World.grows.refl _ | assumption | refine World.grows.alloc ?_ _ | refine World.grows.plus ?_ _ _ | refine World.grows.drew ?_))) g))
          replace HU1 := Lib.hid (HU1.out.trans (World.grows.trans (by (repeat (first | exact World.grows.refl _ | assumption | refine World.grows.alloc ?_ _ | refine World.grows.plus ?_ _ _ | refine World.grows.drew ?_))) g)); replace HU2 := Lib.hid (HU2.out.trans (World.grows.trans (by (repeat (first | exact World.grows.refl _ | assumption | refine World.grows.alloc ?_ _ | refine World.grows.plus ?_ _ _ | refine World.grows.drew ?_))) g)); replace HU3 := Lib.hid (HU3.out.trans (World.grows.trans (by (repeat (first | exact World.grows.refl _ | assumption | refine World.grows.alloc ?_ _ | refine World.grows.plus ?_ _ _ | refine World.grows.drew ?_))) g))
          clear g h43
          go_wp2
          go_loopw [20] (fun i wr => ∃ k : Nat, k ≤ r.mustL.length ∧ i = .int .i64 k ∧ Hid (U.grows wr)) (fun i _ => r.mustL.length - (intOf i).toNat)
          case atStart => exact ⟨0, by omega, rfl, Lib.hid (World.grows.refl _)⟩
          case round =>
            obtain ⟨k, hk, rfl, HG⟩ := hrel; have HMk := Lib.hid (HM.out.mono (HU2.out.trans HG.out)); obtain ⟨aa, cc2, ee, m1, m2, hcell⟩ := HMk.out; cases ee; unfold maxLen at m2
            by_cases hlt : k < r.mustL.length
            · obtain ⟨mb, mo, rfl, c0⟩ := hcell k 0 hlt (by omega)
              simp only [Nat.mul_one, Nat.add_zero] at c0
              have hmem : r.mustL.getD k 0 ∈ r.mustL := by rw [List.getD_eq_getElem?_getD, List.getElem?_eq_getElem hlt]; exact List.getElem_mem hlt
              have hin := Reg.must_in hc8 HF1.out.1 HF1.out.2.1 hmem
              have hin2 := Reg.must_in hc8 HS.out HT.out hmem
              obtain ⟨x, hx⟩ : ∃ x, r.mustL.getD k 0 = x := ⟨_, rfl⟩
              rw [hx] at c0 hin hin2
              clear hcell hmem hx
              go_wp2_with (go_at_call 44; fail)
              refine (inL_c _ _ _ (HF.out.mono (HU1.out.trans (HG.out.trans (by (repeat (first | exact World.grows.refl _ | assumption | refine World.grows.alloc ?_ _ | refine World.grows.plus ?_ _ _ | refine World.grows.drew ?_)))))) hin).mono ?_
              rintro e U2 ⟨rfl, g⟩
              replace c0 := World.grows.cell_of (World.grows.trans (by (repeat (first | exact World.grows.refl _ | assumption | refine World.grows.alloc ?_ _ | refine World.grows.plus ?_ _ _ | refine World.grows.drew ?_))) g) c0
              replace HG := Lib.hid (HG.out.trans (World.grows.trans (by (repeat (first | exact World.grows.refl _ | assumption | refine World.grows.alloc ?_ _ | refine World.grows.plus ?_ _ _ | refine World.grows.drew ?_))) g))
              clear g
              go_wp2_with (go_at_call 44; fail)
              refine (inL_c _ _ _ (HL.out.mono (HU3.out.trans (HG.out.trans (by (repeat (first | exact World.grows.refl _ | assumption | refine World.grows.alloc ?_ _ | refine World.grows.plus ?_ _ _ | refine World.grows.drew ?_)))))) hin2).mono ?_
              rintro e U2 ⟨rfl, g⟩
              go_wp2
              go_roundw
              case rel => exact ⟨k + 1, by omega, by go_num, Lib.hid (HG.out.trans (World.grows.trans (by (repeat (first | exact World.grows.refl _ | assumption | refine World.grows.alloc ?_ _ | refine World.grows.plus ?_ _ _ | refine World.grows.drew ?_))) g))⟩
              case measure => simp [intOf]; omega
            · have hke : k = r.mustL.length := by omega
              subst hke
              clear hcell
              go_wp2_with (go_at_call 14; refine (works_c _).mono ?_; rintro e U2 ⟨rfl, g⟩)
              (refine bodyPost_ret (v := .bool true) (by simp [results, Try.results8, go_sem]) rfl ?_)
              exact ⟨rfl, HZ.out.trans (HG.out.trans (World.grows.trans (by (repeat (first | exact World.grows.refl _ | assumption | refine World.grows.alloc ?_ _ | refine World.grows.plus ?_ _ _ | refine World.grows.drew ?_))) g))⟩
        · have hpb : (PS == P) = false := by simpa using hpe
          clear hp2 h43
          go_wp2
          go_loopw [20] (fun i wr => ∃ k : Nat, k ≤ r.mustL.length ∧ i = .int .i64 k ∧ Hid (U.grows wr)) (fun i _ => r.mustL.length - (intOf i).toNat)
          case atStart => exact ⟨0, by omega, rfl, Lib.hid (World.grows.refl _)⟩
          case round =>
            obtain ⟨k, hk, rfl, HG⟩ := hrel; have HMk := Lib.hid (HM.out.mono (HU2.out.trans HG.out)); obtain ⟨aa, cc2, ee, m1, m2, hcell⟩ := HMk.out; cases ee; unfold maxLen at m2
            by_cases hlt : k < r.mustL.length
            · obtain ⟨mb, mo, rfl, c0⟩ := hcell k 0 hlt (by omega)
              simp only [Nat.mul_one, Nat.add_zero] at c0
              have hmem : r.mustL.getD k 0 ∈ r.mustL := by rw [List.getD_eq_getElem?_getD, List.getElem?_eq_getElem hlt]; exact List.getElem_mem hlt
              have hin := Reg.must_in hc8 HF1.out.1 HF1.out.2.1 hmem
              have hin2 := Reg.must_in hc8 HS.out HT.out hmem
              obtain ⟨x, hx⟩ : ∃ x, r.mustL.getD k 0 = x := ⟨_, rfl⟩
              rw [hx] at c0 hin hin2
              clear hcell hmem hx
              go_wp2_with (go_at_call 44; fail)
              refine (inL_c _ _ _ (HF.out.mono (HU1.out.trans (HG.out.trans (by (repeat (first | exact World.grows.refl _ | assumption | refine World.grows.alloc ?_ _ | refine World.grows.plus ?_ _ _ | refine World.grows.drew ?_)))))) hin).mono ?_
              rintro e U2 ⟨rfl, g⟩
              replace c0 := World.grows.cell_of (World.grows.trans (by (repeat (first | exact World.grows.refl _ | assumption | refine World.grows.alloc ?_ _ | refine World.grows.plus ?_ _ _ | refine World.grows.drew ?_))) g) c0
              replace HG := Lib.hid (HG.out.trans (World.grows.trans (by (repeat (first | exact World.grows.refl _ | assumption | refine World.grows.alloc ?_ _ | refine World.grows.plus ?_ _ _ | refine World.grows.drew ?_))) g))
              clear g
              go_wp2_with (go_at_call 44; fail)
              refine (inL_c _ _ _ (HL.out.mono (HU3.out.trans (HG.out.trans (by (repeat (first | exact World.grows.refl _ | assumption | refine World.grows.alloc ?_ _ | refine World.grows.plus ?_ _ _ | refine World.grows.drew ?_)))))) hin2).mono ?_
              rintro e U2 ⟨rfl, g⟩
              go_wp2
              go_roundw
              case rel => exact ⟨k + 1, by omega, by go_num, Lib.hid (HG.out.trans (World.grows.trans (by (repeat (first | exact World.grows.refl _ | assumption | refine World.grows.alloc ?_ _ | refine World.grows.plus ?_ _ _ | refine World.grows.drew ?_))) g))⟩
              case measure => simp [intOf]; omega
            · have hke : k = r.mustL.length := by omega
              subst hke
              clear hcell
              go_wp2_with (go_at_call 14; refine (works_c _).mono ?_; rintro e U2 ⟨rfl, g⟩)
              (refine bodyPost_ret (v := .bool true) (by simp [results, Try.results8, go_sem]) rfl ?_)
              exact ⟨rfl, HZ.out.trans (HG.out.trans (World.grows.trans (by (repeat (first | exact World.grows.refl _ | assumption | refine World.grows.alloc ?_ _ | refine World.grows.plus ?_ _ _ | refine World.grows.drew ?_))) g))⟩
    · have hnt : ¬ r.NoTwins := fun h => hs (Reg.solvE_zero.2 ⟨HC.out, h⟩)
      have h24 := Reg.solvE_tw HC.out hnt
      have htS : r.tellB (bitsL 8 S) = false := by
        cases h : r.tellB (bitsL 8 S) with
        | false => rfl
        | true => exact absurd (Reg.tellB_noTw hc8 HS.out h) hnt
      have h25 := fun W (g : w.grows W) => best_bad W _ r (Hr.out.mono g) hs
      have h32 := fun W (g : w.grows W) => pfix_bad W _ r (Hr.out.mono g) hs
      have h34 := fun W (g : w.grows W) => pmust_bad W _ r (Hr.out.mono g) hs
      have h30s := fun W (g : w.grows W) (ll : Value) (hl : ListAt W ll (bitsL 8 S)) => pfixed_c W _ r (Hr.out.mono g) ll _ _ hl
      rw [HE.out, HA.out, htS] at h30s
      simp only [Bool.false_eq_true, if_false] at h30s
      rw [h24] at h25 h32 h34
      clear hnt h24 htS hs
      go_wp2_with (go_at_call 44; fail)
      refine (h25 _ (HZ.out.trans (by (repeat (first | exact World.grows.refl _ | assumption | refine World.grows.alloc ?_ _ | refine World.grows.plus ?_ _ _ | refine World.grows.drew ?_))))).mono ?_
      rintro e U ⟨rfl, g⟩
      replace q10 := World.grows.cell_of (World.grows.trans (by (repeat (first | exact World.grows.refl _ | assumption | refine World.grows.alloc ?_ _ | refine World.grows.plus ?_ _ _ | refine World.grows.drew ?_))) g) q10; replace q11 := World.grows.cell_of (World.grows.trans (by (repeat (first | exact World.grows.refl _ | assumption | refine World.grows.alloc ?_ _ | refine World.grows.plus ?_ _ _ | refine World.grows.drew ?_))) g) q11; replace HZ := Lib.hid (HZ.out.trans (World.grows.trans (by (repeat (first | exact World.grows.refl _ | assumption | refine World.grows.alloc ?_ _ | refine World.grows.plus ?_ _ _ | refine World.grows.drew ?_))) g))
      clear g h25
      go_wp2_with (go_at_call 44; fail)
      refine (h32 _ (HZ.out.trans (by (repeat (first | exact World.grows.refl _ | assumption | refine World.grows.alloc ?_ _ | refine World.grows.plus ?_ _ _ | refine World.grows.drew ?_))))).mono ?_
      rintro e U ⟨rfl, g⟩
      have q10 := World.grows.cell_of (World.grows.trans (World.grows.alloc (World.grows.refl _) _) g) q10
      have q11 := World.grows.cell_of (World.grows.trans (World.grows.alloc (World.grows.refl _) _) g) q11
      replace HZ := Lib.hid (HZ.out.trans (World.grows.trans (by (repeat (first | exact World.grows.refl _ | assumption | refine World.grows.alloc ?_ _ | refine World.grows.plus ?_ _ _ | refine World.grows.drew ?_))) g))
      clear g h32
      go_wp2_with (go_at_call 44; fail)
      refine (h34 _ (HZ.out.trans (by (repeat (first | exact World.grows.refl _ | assumption | refine World.grows.alloc ?_ _ | refine World.grows.plus ?_ _ _ | refine World.grows.drew ?_))))).mono ?_
      rintro e U ⟨rfl, g⟩
      replace q10 := World.grows.cell_of (World.grows.trans (by (repeat (first | exact World.grows.refl _ | assumption | refine World.grows.alloc ?_ _ | refine World.grows.plus ?_ _ _ | refine World.grows.drew ?_))) g) q10; replace q11 := World.grows.cell_of (World.grows.trans (by (repeat (first | exact World.grows.refl _ | assumption | refine World.grows.alloc ?_ _ | refine World.grows.plus ?_ _ _ | refine World.grows.drew ?_))) g) q11; replace HZ := Lib.hid (HZ.out.trans (World.grows.trans (by (repeat (first | exact World.grows.refl _ | assumption | refine World.grows.alloc ?_ _ | refine World.grows.plus ?_ _ _ | refine World.grows.drew ?_))) g))
      clear g h34
      have hwz := Hwz.out
      go_wp2_with (go_at_call 44; fail)
      refine (h42 _).mono ?_
      rintro e U ⟨ls, rfl, hL, g⟩
      replace q10 := World.grows.cell_of (World.grows.trans (by (repeat (first | exact World.grows.refl _ | assumption | refine World.grows.alloc ?_ _ | refine World.grows.plus ?_ _ _ | refine World.grows.drew ?_))) g) q10; replace q11 := World.grows.cell_of (World.grows.trans (by (repeat (first | exact World.grows.refl _ | assumption | refine World.grows.alloc ?_ _ | refine World.grows.plus ?_ _ _ | refine World.grows.drew ?_))) g) q11; replace HZ := Lib.hid (HZ.out.trans (World.grows.trans (by (repeat (first | exact World.grows.refl _ | assumption | refine World.grows.alloc ?_ _ | refine World.grows.plus ?_ _ _ | refine World.grows.drew ?_))) g))
      have HL := Lib.hid hL
      obtain ⟨sa, sc, rfl⟩ := hL.shape
      have HU3 : Hid (U.grows U) := Lib.hid (World.grows.refl _)
      clear g h42 hL hwz hrem hlt hNpos hz
      go_wp2_with (go_at_call 44; fail)
      refine (h30s _ (HZ.out.trans (by (repeat (first | exact World.grows.refl _ | assumption | refine World.grows.alloc ?_ _ | refine World.grows.plus ?_ _ _ | refine World.grows.drew ?_)))) _ (HL.out.mono (HU3.out.trans (by (repeat (first | exact World.grows.refl _ | assumption | refine World.grows.alloc ?_ _ | refine World.grows.plus ?_ _ _ | refine World.grows.drew ?_)))))).mono ?_
      rintro e U ⟨rfl, g⟩
      replace q10 := World.grows.cell_of (World.grows.trans (by (repeat (first | exact World.grows.refl _ | assumption | refine World.grows.alloc ?_ _ | refine World.grows.plus ?_ _ _ | refine World.grows.drew ?_))) g) q10; replace q11 := World.grows.cell_of (World.grows.trans (by (repeat (first | exact World.grows.refl _ | assumption | refine World.grows.alloc ?_ _ | refine World.grows.plus ?_ _ _ | refine World.grows.drew ?_))) g) q11; replace HZ := Lib.hid (HZ.out.trans (World.grows.trans (by (repeat (first | exact World.grows.refl _ | assumption | refine World.grows.alloc ?_ _ | refine World.grows.plus ?_ _ _ | refine World.grows.drew ?_))) g))
      clear g h30s
      go_wp2_with (go_at_call 14; refine (works_c _).mono ?_; rintro e U2 ⟨rfl, g⟩)
      (refine bodyPost_ret (v := .bool true) (by simp [results, Try.results8, go_sem]) rfl ?_)
      exact ⟨rfl, HZ.out.trans (World.grows.trans (by (repeat (first | exact World.grows.refl _ | assumption | refine World.grows.alloc ?_ _ | refine World.grows.plus ?_ _ _ | refine World.grows.drew ?_))) g)⟩
  · rw [decide_eq_false hc] at h37
    go_wp2_with (first | (go_at_call 37; refine (h37 _ (by (repeat (first | exact World.grows.refl _ | assumption | refine World.grows.alloc ?_ _ | refine World.grows.plus ?_ _ _ | refine World.grows.drew ?_)))).mono ?_; rintro e w' ⟨rfl, hg⟩; obtain ⟨n2, x2, rfl⟩ := World.plus_of hg) | (go_at_call 14; refine (works_c _).mono ?_; rintro e w' ⟨rfl, hg⟩; obtain ⟨n2, x2, rfl⟩ := World.plus_of hg))
    (refine bodyPost_ret (v := .bool true) (by simp [results, Try.results8, go_sem]) rfl ?_)
    exact ⟨rfl, by (repeat (first | exact World.grows.refl _ | assumption | refine World.grows.alloc ?_ _ | refine World.grows.plus ?_ _ _ | refine World.grows.drew ?_))⟩
end Go.Proofs.Ytdminglglapnlaa

/-
  What is proved: the statement MarkCheaper, at every input.
-/
namespace Go.Proofs.Ytdminglglapnlaa
open Go.ChangeShapes Go.WideShapes Go.ChangeAt Go.RowKit

set_option maxRecDepth 100000 in
theorem markCheaper_lifted (os : Os) (started : os.Started) (H : Type) (enc : TypeId × Value → H) :
    ReturnsInHanded {} Try.checked os 8 .any (Rows.markCheaperSpec.pre6 enc Try.prog Try.f8 Rows.markCheaperRow.domain false) (Rows.markCheaperSpec.post enc Try.prog Try.f8 false true false false) := by
  refine law_lifted (C := Try.checked) (tb := 4) started own_c laid_c (by kernel_rfl) Try.func8 (of_decide_eq_true (by kernel_rfl))
    (ChangeSpec.witness6 (enc := enc) (C := Try.checked) false ⟨#[], #[.agg #[.slice none 0 0, .slice none 0 0], .int .u8 0], []⟩ 8 (by kernel_rfl) (by kernel_rfl) (by kernel_rfl) (by kernel_rfl))
    rfl Try.underlying4 rfl (fun ds hl => ?_) (fun W base args ds ps hval hA => ?_)
  · match ds, hl with
    | [d1, d2], _ => exact ⟨rfl, rfl, rfl⟩
  · have hA' : DataW.TrodAll enc Try.prog W 0 (fun _ => true) true Try.f8.params.toList args.toList ds ps := hA
    have hval' : ∀ (j : Nat) t v, Try.f8.params[j]? = some t → args[j]? = some v → Value.okWide Try.prog W .any base t v := hval
    rw [Try.params8] at hA' hval'
    obtain ⟨v1, v2, d1, d2, p1, p2, rfl, rfl, rfl, h1, h2⟩ := trodAll_two hA'
    obtain ⟨r1, hr1⟩ := reg_of (hval' 0 25 v1 rfl rfl) h1
    obtain ⟨z2, rfl, -, -, hw2⟩ := open_int Try.underlying5 (hval' 1 5 v2 rfl rfl) h2; have hz2 := lit_u8 hw2
    exact cheaper_w W v1 r1 hr1 z2 hz2

theorem markCheaper_holds : Rows.MarkCheaperSaid :=
  OpenClaim.holds_of_wide 8 Try.f8 rfl rfl rfl rfl rfl rfl rfl ⟨rfl, rfl, rfl, rfl, rfl⟩ rfl rfl rfl rfl rfl (by kernel_rfl) Try.func8 (by kernel_rfl)
    (of_decide_eq_true (by kernel_rfl)) (by unfold Func.isWrapper; first | (rw [if_pos (by decide +kernel)]; kernel_rfl) | (rw [if_neg (by decide +kernel)]; exact ⟨rfl, rfl⟩))
    (fun os started H enc _ => markCheaper_lifted os started H enc)
end Go.Proofs.Ytdminglglapnlaa

