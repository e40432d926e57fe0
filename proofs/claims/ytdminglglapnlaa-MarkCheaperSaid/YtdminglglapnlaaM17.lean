/-
  What is proved: Fixed and Must of the program, both cases in one.
-/
import Derived.Test.YtdminglglapnlaaM13
import Derived.Test.YtdminglglapnlaaM15
import Derived.Test.YtdminglglapnlaaM9
set_option linter.all false
namespace Go.Proofs.Ytdminglglapnlaa
open Go.RowKit

theorem ListAt.shape {w : World} {v : Value} {L : List Nat} (h : ListAt w v L) : ∃ a c, v = .slice a L.length c := by
  obtain ⟨a, c, e, -⟩ := h
  exact ⟨a, c, e⟩
theorem pfix_all (w : World) (v : Value) (r : Reg) (hv : RegAt w v r) :
    Calls Try.prog 32 #[v] w fun e w' => ∃ lv, e = .returned (.tuple #[lv, .int .i64 r.fixC, .int .i64 r.solvE]) ∧ ListAt w' lv r.fixL ∧ w.grows w' := by
  by_cases h : r.solvE = 0
  · have hc : r.fixC = r.price (bitsL 8 r.fix) := by unfold Reg.fixC; rw [if_pos h]
    have hl : r.fixL = bitsL 8 r.fix := by unfold Reg.fixL; rw [if_pos h]
    rw [hc, hl, h]
    exact pfix_c w v r hv h
  · have hc : r.fixC = 0 := by unfold Reg.fixC; rw [if_neg h]
    have hl : r.fixL = [] := by unfold Reg.fixL; rw [if_neg h]
    rw [hc, hl]
    exact (pfix_bad w v r hv h).mono (by
      rintro e w' ⟨rfl, hg⟩
      exact ⟨_, rfl, ListAt.nil _, hg⟩)
theorem pmust_all (w : World) (v : Value) (r : Reg) (hv : RegAt w v r) :
    Calls Try.prog 34 #[v] w fun e w' => ∃ lv, e = .returned (.tuple #[lv, .int .i64 r.solvE]) ∧ ListAt w' lv r.mustR ∧ w.grows w' := by
  by_cases h : r.solvE = 0
  · have hl : r.mustR = r.mustL := by unfold Reg.mustR; rw [if_pos h]
    rw [hl, h]
    exact pmust_c w v r hv h
  · have hl : r.mustR = [] := by unfold Reg.mustR; rw [if_neg h]
    rw [hl]
    exact (pmust_bad w v r hv h).mono (by
      rintro e w' ⟨rfl, hg⟩
      exact ⟨_, rfl, ListAt.nil _, hg⟩)
end Go.Proofs.Ytdminglglapnlaa

/-
  What is proved: MarkFixed (5) answers true.
-/
namespace Go.Proofs.Ytdminglglapnlaa
open Go.RowKit
attribute [local irreducible] Go.wpCalm

theorem eqL_refl (f : Nat → Int) (n : Nat) : eqL f f n = true := by
  induction n with
  | zero => rfl
  | succ n ih => simp [eqL, ih]
theorem sameL_c (w : World) (av bv : Value) (L : List Nat) (ha : ListAt w av L) (hb : ListAt w bv L) : Calls Try.prog 36 #[av, bv] w fun e w' => e = .returned (.bool true) ∧ w.grows w' := by
  have h := ints_c w av bv _ _ _ _ ha hb
  rw [eqL_refl, decide_eq_true rfl] at h
  exact h
set_option maxRecDepth 100000 in
set_option maxHeartbeats 8000000 in
theorem fixed_w (w : World) (rv : Value) (r : Reg) (hr : RegAt w rv r) (lv : Value) (n : Nat) (f : Nat → Int) (hl : IntsAt w lv n f) :
    Calls Try.prog 5 #[rv, lv] w fun e w' => e = .returned (.bool true) ∧ w.grows w' := by
  have h12 := fun W (g : w.grows W) => great_c W rv r (hr.mono g)
  have Hr := Lib.hid hr
  have Hl := Lib.hid hl
  obtain ⟨mv, cv, row, rfl, ⟨ma, mc, rfl, -⟩, ⟨ca, cc, rfl, -⟩, -⟩ := hr
  obtain ⟨la, lc, rfl, -⟩ := hl
  go_enter Try.func5, Try.ntmps5
  cases hg : r.greatB with
  | true =>
    rw [hg] at h12
    go_wp2_with (first | (go_at_call 12; refine (h12 _ (by (repeat (first | exact World.grows.refl _ | assumption | refine World.grows.alloc ?_ _ | refine World.grows.plus ?_ _ _ | refine World.grows.drew ?_)))).mono ?_; rintro e w' ⟨rfl, hg⟩; obtain ⟨n2, x2, rfl⟩ := World.plus_of hg) | (go_at_call 14; refine (works_c _).mono ?_; rintro e w' ⟨rfl, hg⟩; obtain ⟨n2, x2, rfl⟩ := World.plus_of hg)); (refine bodyPost_ret (v := .bool true) (by simp [results, Try.results5, go_sem]) rfl ?_); exact ⟨rfl, by (repeat (first | exact World.grows.refl _ | assumption | refine World.grows.alloc ?_ _ | refine World.grows.plus ?_ _ _ | refine World.grows.drew ?_))⟩
  | false =>
    rw [hg] at h12
    by_cases hn : 15 < n
    · have hnI : (15 : Int) < (n : Int) := by omega
      go_wp2_with (first | (go_at_call 12; refine (h12 _ (by (repeat (first | exact World.grows.refl _ | assumption | refine World.grows.alloc ?_ _ | refine World.grows.plus ?_ _ _ | refine World.grows.drew ?_)))).mono ?_; rintro e w' ⟨rfl, hg⟩; obtain ⟨n2, x2, rfl⟩ := World.plus_of hg) | (go_at_call 14; refine (works_c _).mono ?_; rintro e w' ⟨rfl, hg⟩; obtain ⟨n2, x2, rfl⟩ := World.plus_of hg)); (refine bodyPost_ret (v := .bool true) (by simp [results, Try.results5, go_sem]) rfl ?_); exact ⟨rfl, by (repeat (first | exact World.grows.refl _ | assumption | refine World.grows.alloc ?_ _ | refine World.grows.plus ?_ _ _ | refine World.grows.drew ?_))⟩
    · have hnI : ¬ (15 : Int) < (n : Int) := by omega
      clear hn hg
      go_upto_region 1 with fail
      generalize hV : World.alloc _ _ = V
      have gV : w.grows V := by rw [← hV]; (repeat (first | exact World.grows.refl _ | assumption | refine World.grows.alloc ?_ _ | refine World.grows.plus ?_ _ _ | refine World.grows.drew ?_))
      have q10 : V.cell? ⟨w.heap.size, 0, none⟩ = some (.slice ma r.nm mc) := by rw [← hV]; simp [go_sem]
      have q11 : V.cell? ⟨w.heap.size, 1, none⟩ = some (.slice ca r.nc cc) := by rw [← hV]; simp [go_sem]
      have HZ := Lib.hid gV
      clear hV gV
      go_wp2_with (go_at_call 44; fail)
      refine (h12 _ (HZ.out.trans (by (repeat (first | exact World.grows.refl _ | assumption | refine World.grows.alloc ?_ _ | refine World.grows.plus ?_ _ _ | refine World.grows.drew ?_))))).mono ?_
      rintro e U ⟨rfl, g⟩
      replace q10 := World.grows.cell_of (World.grows.trans (by (repeat (first | exact World.grows.refl _ | assumption | refine World.grows.alloc ?_ _ | refine World.grows.plus ?_ _ _ | refine World.grows.drew ?_))) g) q10; replace q11 := World.grows.cell_of (World.grows.trans (by (repeat (first | exact World.grows.refl _ | assumption | refine World.grows.alloc ?_ _ | refine World.grows.plus ?_ _ _ | refine World.grows.drew ?_))) g) q11; replace HZ := Lib.hid (HZ.out.trans (World.grows.trans (by (repeat (first | exact World.grows.refl _ | assumption | refine World.grows.alloc ?_ _ | refine World.grows.plus ?_ _ _ | refine World.grows.drew ?_))) g))
      clear h12 g
      obtain ⟨fa, hfa⟩ : ∃ x, r.fixA n f = x := ⟨_, rfl⟩
      obtain ⟨fe, hfe⟩ : ∃ x, r.fixE n f = x := ⟨_, rfl⟩
      have h30 := fun W (g : w.grows W) => pfixed_c W _ r (Hr.out.mono g) _ n f (Hl.out.mono g)
      have h31 := fun W (g : w.grows W) => rfixed_c W _ r (Hr.out.mono g) _ n f (Hl.out.mono g)
      rw [hfa, hfe] at h30 h31
      clear hfa hfe
      go_wp2_with (go_at_call 44; fail)
      refine (h30 _ (HZ.out.trans (by (repeat (first | exact World.grows.refl _ | assumption | refine World.grows.alloc ?_ _ | refine World.grows.plus ?_ _ _ | refine World.grows.drew ?_))))).mono ?_
      rintro e U ⟨rfl, g⟩
      replace q10 := World.grows.cell_of (World.grows.trans (by (repeat (first | exact World.grows.refl _ | assumption | refine World.grows.alloc ?_ _ | refine World.grows.plus ?_ _ _ | refine World.grows.drew ?_))) g) q10; replace q11 := World.grows.cell_of (World.grows.trans (by (repeat (first | exact World.grows.refl _ | assumption | refine World.grows.alloc ?_ _ | refine World.grows.plus ?_ _ _ | refine World.grows.drew ?_))) g) q11; replace HZ := Lib.hid (HZ.out.trans (World.grows.trans (by (repeat (first | exact World.grows.refl _ | assumption | refine World.grows.alloc ?_ _ | refine World.grows.plus ?_ _ _ | refine World.grows.drew ?_))) g))
      clear g
      go_wp2_with (go_at_call 44; fail)
      refine (h31 _ (HZ.out.trans (by (repeat (first | exact World.grows.refl _ | assumption | refine World.grows.alloc ?_ _ | refine World.grows.plus ?_ _ _ | refine World.grows.drew ?_))))).mono ?_
      rintro e U ⟨rfl, g⟩
      replace q10 := World.grows.cell_of (World.grows.trans (by (repeat (first | exact World.grows.refl _ | assumption | refine World.grows.alloc ?_ _ | refine World.grows.plus ?_ _ _ | refine World.grows.drew ?_))) g) q10; replace q11 := World.grows.cell_of (World.grows.trans (by (repeat (first | exact World.grows.refl _ | assumption | refine World.grows.alloc ?_ _ | refine World.grows.plus ?_ _ _ | refine World.grows.drew ?_))) g) q11; replace HZ := Lib.hid (HZ.out.trans (World.grows.trans (by (repeat (first | exact World.grows.refl _ | assumption | refine World.grows.alloc ?_ _ | refine World.grows.plus ?_ _ _ | refine World.grows.drew ?_))) g))
      clear g h30 h31
      obtain ⟨xc, hxc⟩ : ∃ x, r.fixC = x := ⟨_, rfl⟩
      obtain ⟨xe, hxe⟩ : ∃ x, r.solvE = x := ⟨_, rfl⟩
      have h32 := fun W (g : w.grows W) => pfix_all W _ r (Hr.out.mono g)
      have h33 := fun W (g : w.grows W) => rfix_c W _ r (Hr.out.mono g)
      have h34 := fun W (g : w.grows W) => pmust_all W _ r (Hr.out.mono g)
      have h35 := fun W (g : w.grows W) => rmust_c W _ r (Hr.out.mono g)
      rw [hxc, hxe] at h32 h33
      rw [hxe] at h34 h35
      clear hxc hxe
      go_wp2_with (go_at_call 44; fail)
      refine (h32 _ (HZ.out.trans (by (repeat (first | exact World.grows.refl _ | assumption | refine World.grows.alloc ?_ _ | refine World.grows.plus ?_ _ _ | refine World.grows.drew ?_))))).mono ?_
      rintro e U ⟨l1, rfl, hL1, g⟩
      replace q10 := World.grows.cell_of (World.grows.trans (by (repeat (first | exact World.grows.refl _ | assumption | refine World.grows.alloc ?_ _ | refine World.grows.plus ?_ _ _ | refine World.grows.drew ?_))) g) q10; replace q11 := World.grows.cell_of (World.grows.trans (by (repeat (first | exact World.grows.refl _ | assumption | refine World.grows.alloc ?_ _ | refine World.grows.plus ?_ _ _ | refine World.grows.drew ?_))) g) q11; replace HZ := Lib.hid (HZ.out.trans (World.grows.trans (by (repeat (first | exact World.grows.refl _ | assumption | refine World.grows.alloc ?_ _ | refine World.grows.plus ?_ _ _ | refine World.grows.drew ?_))) g))
      clear g h32
      have HL1 := Lib.hid hL1
      have HU1 : Hid (U.grows U) := Lib.hid (World.grows.refl _)
      obtain ⟨a1, c1, rfl⟩ := hL1.shape
      clear hL1
      go_wp2_with (go_at_call 44; fail)
      refine (h33 _ (HZ.out.trans (by (repeat (first | exact World.grows.refl _ | assumption | refine World.grows.alloc ?_ _ | refine World.grows.plus ?_ _ _ | refine World.grows.drew ?_))))).mono ?_
      rintro e U ⟨l2, rfl, hL2, g⟩
      replace q10 := World.grows.cell_of (World.grows.trans (by (repeat (first | exact World.grows.refl _ | assumption | refine World.grows.alloc ?_ _ | refine World.grows.plus ?_ _ _ | refine World.grows.drew ?_))) g) q10; replace q11 := World.grows.cell_of (World.grows.trans (by (repeat (first | exact World.grows.refl _ | assumption | refine World.grows.alloc ?_ _ | refine World.grows.plus ?_ _ _ | refine World.grows.drew ?_))) g) q11; replace HZ := Lib.hid (HZ.out.trans (World.grows.trans (by (repeat (first | exact World.grows.refl _ | assumption | refine World.grows.alloc ?_ _ | refine World.grows.plus ?_ _ _ | refine World.grows.drew ?_))) g))
      replace HU1 := Lib.hid (HU1.out.trans (World.grows.trans (by (repeat (first | exact World.grows.refl _ | assumption | refine World.grows.alloc ?_ _ | refine World.grows.plus ?_ _ _ | refine World.grows.drew ?_))) g))
      clear g h33
      have HL2 := Lib.hid hL2
      have HU2 : Hid (U.grows U) := Lib.hid (World.grows.refl _)
      obtain ⟨a2, c2, rfl⟩ := hL2.shape
      clear hL2
      go_wp2_with (go_at_call 44; fail)
      refine (h34 _ (HZ.out.trans (by (repeat (first | exact World.grows.refl _ | assumption | refine World.grows.alloc ?_ _ | refine World.grows.plus ?_ _ _ | refine World.grows.drew ?_))))).mono ?_
      rintro e U ⟨l3, rfl, hL3, g⟩
      replace q10 := World.grows.cell_of (World.grows.trans (by (repeat (first | exact World.grows.refl _ | assumption | refine World.grows.alloc ?_ _ | refine World.grows.plus ?_ _ _ | refine World.grows.drew ?_))) g) q10; replace q11 := World.grows.cell_of (World.grows.trans (by (repeat (first | exact World.grows.refl _ | assumption | refine World.grows.alloc ?_ _ | refine World.grows.plus ?_ _ _ | refine World.grows.drew ?_))) g) q11; replace HZ := Lib.hid (HZ.out.trans (World.grows.trans (by (repeat (first | exact World.grows.refl _ | assumption | refine World.grows.alloc ?_ _ | refine World.grows.plus ?_ _ _ | refine World.grows.drew ?_))) g))
      replace HU1 := Lib.hid (HU1.out.trans (World.grows.trans (by (repeat (first | exact World.grows.refl _ | assumption | refine World.grows.alloc ?_ _ | refine World.grows.plus ?_ _ _ | refine World.grows.drew ?_))) g))
      replace HU2 := Lib.hid (HU2.out.trans (World.grows.trans (by (repeat (first | exact World.grows.refl _ | assumption | refine World.grows.alloc ?_ _ | refine World.grows.plus ?_ _ _ | refine World.grows.drew ?_))) g))
      clear g h34
      have HL3 := Lib.hid hL3
      have HU3 : Hid (U.grows U) := Lib.hid (World.grows.refl _)
      obtain ⟨a3, c3, rfl⟩ := hL3.shape
      clear hL3
      go_wp2_with (go_at_call 44; fail)
      refine (h35 _ (HZ.out.trans (by (repeat (first | exact World.grows.refl _ | assumption | refine World.grows.alloc ?_ _ | refine World.grows.plus ?_ _ _ | refine World.grows.drew ?_))))).mono ?_
      rintro e U ⟨l4, rfl, hL4, g⟩
      replace q10 := World.grows.cell_of (World.grows.trans (by (repeat (first | exact World.grows.refl _ | assumption | refine World.grows.alloc ?_ _ | refine World.grows.plus ?_ _ _ | refine World.grows.drew ?_))) g) q10; replace q11 := World.grows.cell_of (World.grows.trans (by (repeat (first | exact World.grows.refl _ | assumption | refine World.grows.alloc ?_ _ | refine World.grows.plus ?_ _ _ | refine World.grows.drew ?_))) g) q11; replace HZ := Lib.hid (HZ.out.trans (World.grows.trans (by (repeat (first | exact World.grows.refl _ | assumption | refine World.grows.alloc ?_ _ | refine World.grows.plus ?_ _ _ | refine World.grows.drew ?_))) g))
      replace HU1 := Lib.hid (HU1.out.trans (World.grows.trans (by (repeat (first | exact World.grows.refl _ | assumption | refine World.grows.alloc ?_ _ | refine World.grows.plus ?_ _ _ | refine World.grows.drew ?_))) g))
      replace HU2 := Lib.hid (HU2.out.trans (World.grows.trans (by (repeat (first | exact World.grows.refl _ | assumption | refine World.grows.alloc ?_ _ | refine World.grows.plus ?_ _ _ | refine World.grows.drew ?_))) g))
      replace HU3 := Lib.hid (HU3.out.trans (World.grows.trans (by (repeat (first | exact World.grows.refl _ | assumption | refine World.grows.alloc ?_ _ | refine World.grows.plus ?_ _ _ | refine World.grows.drew ?_))) g))
      clear g h35
      have HL4 := Lib.hid hL4
      have HU4 : Hid (U.grows U) := Lib.hid (World.grows.refl _)
      obtain ⟨a4, c4, rfl⟩ := hL4.shape
      clear hL4 q10 q11
      go_wp2_with (go_at_call 44; fail)
      refine (sameL_c _ _ _ _ (HL1.out.mono (HU1.out.trans (by (repeat (first | exact World.grows.refl _ | assumption | refine World.grows.alloc ?_ _ | refine World.grows.plus ?_ _ _ | refine World.grows.drew ?_))))) (HL2.out.mono (HU2.out.trans (by (repeat (first | exact World.grows.refl _ | assumption | refine World.grows.alloc ?_ _ | refine World.grows.plus ?_ _ _ | refine World.grows.drew ?_)))))).mono ?_
      rintro e U ⟨rfl, g⟩
      replace HU3 := Lib.hid (HU3.out.trans (World.grows.trans (by (repeat (first | exact World.grows.refl _ | assumption | refine World.grows.alloc ?_ _ | refine World.grows.plus ?_ _ _ | refine World.grows.drew ?_))) g))
      replace HU4 := Lib.hid (HU4.out.trans (World.grows.trans (by (repeat (first | exact World.grows.refl _ | assumption | refine World.grows.alloc ?_ _ | refine World.grows.plus ?_ _ _ | refine World.grows.drew ?_))) g))
      replace HZ := Lib.hid (HZ.out.trans (World.grows.trans (by (repeat (first | exact World.grows.refl _ | assumption | refine World.grows.alloc ?_ _ | refine World.grows.plus ?_ _ _ | refine World.grows.drew ?_))) g))
      clear g
      go_wp2_with (go_at_call 44; fail)
      refine (sameL_c _ _ _ _ (HL3.out.mono (HU3.out.trans (by (repeat (first | exact World.grows.refl _ | assumption | refine World.grows.alloc ?_ _ | refine World.grows.plus ?_ _ _ | refine World.grows.drew ?_))))) (HL4.out.mono (HU4.out.trans (by (repeat (first | exact World.grows.refl _ | assumption | refine World.grows.alloc ?_ _ | refine World.grows.plus ?_ _ _ | refine World.grows.drew ?_)))))).mono ?_
      rintro e U ⟨rfl, g⟩
      replace HZ := Lib.hid (HZ.out.trans (World.grows.trans (by (repeat (first | exact World.grows.refl _ | assumption | refine World.grows.alloc ?_ _ | refine World.grows.plus ?_ _ _ | refine World.grows.drew ?_))) g))
      clear g
      go_wp2_with (go_at_call 44; fail)
      refine (works_c _).mono ?_
      rintro e U ⟨rfl, g⟩
      replace HZ := Lib.hid (HZ.out.trans (World.grows.trans (by (repeat (first | exact World.grows.refl _ | assumption | refine World.grows.alloc ?_ _ | refine World.grows.plus ?_ _ _ | refine World.grows.drew ?_))) g))
      go_wp2
      (refine bodyPost_ret (v := .bool true) (by simp [results, Try.results5, go_sem]) rfl ?_)
      exact ⟨rfl, HZ.out.trans (by (repeat (first | exact World.grows.refl _ | assumption | refine World.grows.alloc ?_ _ | refine World.grows.plus ?_ _ _ | refine World.grows.drew ?_)))⟩
end Go.Proofs.Ytdminglglapnlaa

/-
  What is proved: the statement MarkFixed, at every input.
-/
namespace Go.Proofs.Ytdminglglapnlaa
open Go.ChangeShapes Go.WideShapes Go.ChangeAt Go.RowKit

set_option maxRecDepth 100000 in
theorem markFixed_lifted (os : Os) (started : os.Started) (H : Type) (enc : TypeId × Value → H) :
    ReturnsInHanded {} Try.checked os 5 .any (Rows.markFixedSpec.pre6 enc Try.prog Try.f5 Rows.markFixedRow.domain false) (Rows.markFixedSpec.post enc Try.prog Try.f5 false true false false) := by
  refine law_lifted (C := Try.checked) (tb := 4) started own_c laid_c (by kernel_rfl) Try.func5 (of_decide_eq_true (by kernel_rfl))
    (ChangeSpec.witness6 (enc := enc) (C := Try.checked) false ⟨#[], #[.agg #[.slice none 0 0, .slice none 0 0], .slice none 0 0], []⟩ 8 (by kernel_rfl) (by kernel_rfl) (by kernel_rfl) (by kernel_rfl))
    rfl Try.underlying4 rfl (fun ds hl => ?_) (fun W base args ds ps hval hA => ?_)
  · match ds, hl with
    | [d1, d2], _ => exact ⟨rfl, rfl, rfl⟩
  · have hA' : DataW.TrodAll enc Try.prog W 0 (fun _ => true) true Try.f5.params.toList args.toList ds ps := hA
    have hval' : ∀ (j : Nat) t v, Try.f5.params[j]? = some t → args[j]? = some v → Value.okWide Try.prog W .any base t v := hval
    rw [Try.params5] at hA' hval'
    obtain ⟨v1, v2, d1, d2, p1, p2, rfl, rfl, rfl, h1, h2⟩ := trodAll_two hA'
    obtain ⟨r1, hr1⟩ := reg_of (hval' 0 25 v1 rfl rfl) h1
    obtain ⟨m2, f2, hf2, hb2⟩ := ints_of (hval' 1 29 v2 rfl rfl) h2
    exact fixed_w W v1 r1 hr1 v2 m2 f2 hf2

theorem markFixed_holds : Rows.MarkFixedSaid :=
  OpenClaim.holds_of_wide 5 Try.f5 rfl rfl rfl rfl rfl rfl rfl ⟨rfl, rfl, rfl, rfl, rfl⟩ rfl rfl rfl rfl rfl (by kernel_rfl) Try.func5 (by kernel_rfl)
    (of_decide_eq_true (by kernel_rfl)) (by unfold Func.isWrapper; first | (rw [if_pos (by decide +kernel)]; kernel_rfl) | (rw [if_neg (by decide +kernel)]; exact ⟨rfl, rfl⟩))
    (fun os started H enc _ => markFixed_lifted os started H enc)
end Go.Proofs.Ytdminglglapnlaa

