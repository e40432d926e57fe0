/-
  What is proved: PassMusts returns true (the walk).
-/
import Derived.Test.YtjpccfpmhmddjaaM4
import Derived.Test.YtjpccfpmhmddjaaM13
import Derived.Test.YtjpccfpmhmddjaaM9
import Derived.Test.YtjpccfpmhmddjaaM14
set_option linter.all false
namespace Go.Proofs.Ytjpccfpmhmddjaa
open Go.RowKit
attribute [local irreducible] Go.wpCalm

def TwoAt (W : World) (b : Nat) (x y : Int) : Prop := W.cell? ⟨b, 0, none⟩ = some (.int .i64 x) ∧ W.cell? ⟨b, 1, none⟩ = some (.int .i64 y)
theorem TwoAt.mono {W W' : World} {b : Nat} {x y : Int} (h : TwoAt W b x y) (g : W.grows W') : TwoAt W' b x y := ⟨World.grows.cell_of g h.1, World.grows.cell_of g h.2⟩
theorem same_range {E lo hi lo2 hi2 a b : Int} (h0 : E ≠ 0 → lo = 0 ∧ hi = 0) (h1 : E = 0 → lo = a ∧ hi = b) (k0 : E ≠ 0 → lo2 = 0 ∧ hi2 = 0) (k1 : E = 0 → lo2 = a ∧ hi2 = b) : lo = lo2 ∧ hi = hi2 := by
  by_cases h : E = 0
  · have := h1 h; have := k1 h; omega
  · have := h0 h; have := k0 h; omega

set_option maxRecDepth 100000 in
set_option maxHeartbeats 4000000 in
theorem musts_w (w : World) (v : Value) (J : Job) (hv : RawAt w v J) (l ra ka rb kb : Int) :
    Calls Try.prog 6 #[v, .int .i64 l, .agg #[.int .i64 ra, .int .i64 ka], .agg #[.int .i64 rb, .int .i64 kb]] w fun e w' => e = .returned (.bool true) ∧ w.grows w' := by
  obtain ⟨rv, row, rfl, hs, hr⟩ := hv
  have HX := Lib.hid ((BoxAt.start (w := w) (rv := rv) (J := J) ⟨rv, row, rfl, hs, hr⟩).mono (((World.grows.refl _).alloc (.cells #[.int .i64 ra, .int .i64 ka] 47)).alloc (.cells #[.int .i64 rb, .int .i64 kb] 47)))
  have HN : Hid (TwoAt (((w.alloc (.cells #[.int .i64 J.start, rv] 24)).alloc (.cells #[.int .i64 ra, .int .i64 ka] 47)).alloc (.cells #[.int .i64 rb, .int .i64 kb] 47)) (w.heap.size + 1) ra ka) := Lib.hid ⟨by simp [go_sem], by simp [go_sem]⟩
  have HP : Hid (TwoAt (((w.alloc (.cells #[.int .i64 J.start, rv] 24)).alloc (.cells #[.int .i64 ra, .int .i64 ka] 47)).alloc (.cells #[.int .i64 rb, .int .i64 kb] 47)) (w.heap.size + 1 + 1) rb kb) := Lib.hid ⟨by simp [go_sem], by simp [go_sem]⟩
  clear hs hr
  have c0 := HX.out.2.2.1; have c1 := HX.out.2.2.2
  have o0 := HN.out.1; have o1 := HN.out.2
  have p0 := HP.out.1; have p1 := HP.out.2
  have h14 := fun W h => great_c W (.agg #[.int .i64 J.start, rv]) J h
  go_enter Try.func6, Try.ntmps6
  by_cases hb : J.big = true
  · rw [hb] at h14
    clear hb
    go_wp2_with (first
      | (go_at_call 14; refine (h14 _ (HX.out.1.mono (by (repeat (first | exact World.grows.refl _ | assumption | refine World.grows.alloc ?_ _ | refine World.grows.plus ?_ _ _ | refine World.grows.drew ?_))))).mono ?_; rintro e W2 ⟨rfl, hg⟩; replace HX := Lib.hid (HX.out.mono (World.grows.trans (by (repeat (first | exact World.grows.refl _ | assumption | refine World.grows.alloc ?_ _ | refine World.grows.plus ?_ _ _ | refine World.grows.drew ?_))) hg)); replace c0 := HX.out.2.2.1; replace c1 := HX.out.2.2.2; replace HN := Lib.hid (HN.out.mono (World.grows.trans (by (repeat (first | exact World.grows.refl _ | assumption | refine World.grows.alloc ?_ _ | refine World.grows.plus ?_ _ _ | refine World.grows.drew ?_))) hg)); replace o0 := HN.out.1; replace o1 := HN.out.2; replace HP := Lib.hid (HP.out.mono (World.grows.trans (by (repeat (first | exact World.grows.refl _ | assumption | refine World.grows.alloc ?_ _ | refine World.grows.plus ?_ _ _ | refine World.grows.drew ?_))) hg)); replace p0 := HP.out.1; replace p1 := HP.out.2; clear hg)
      | (go_at_call 15; refine (works_c _).mono ?_; rintro e W2 ⟨rfl, hg⟩; replace HX := Lib.hid (HX.out.mono (World.grows.trans (by (repeat (first | exact World.grows.refl _ | assumption | refine World.grows.alloc ?_ _ | refine World.grows.plus ?_ _ _ | refine World.grows.drew ?_))) hg)); clear hg))
    go_ret
    exact ⟨rfl, HX.out.2.1.trans (by (repeat (first | exact World.grows.refl _ | assumption | refine World.grows.alloc ?_ _ | refine World.grows.plus ?_ _ _ | refine World.grows.drew ?_)))⟩
  have hb' : J.big = false := by simpa using hb
  have h24 := fun W h => wide_c W (.agg #[.int .i64 J.start, rv]) J h hb'
  rw [hb'] at h14
  clear hb hb'
  by_cases hw : (decide (J.check = 0) && decide (200 < prodTo J.len J.n)) = true
  · rw [hw] at h24
    clear hw
    go_wp2_with (first
      | (go_at_call 14; refine (h14 _ (HX.out.1.mono (by (repeat (first | exact World.grows.refl _ | assumption | refine World.grows.alloc ?_ _ | refine World.grows.plus ?_ _ _ | refine World.grows.drew ?_))))).mono ?_; rintro e W2 ⟨rfl, hg⟩; replace HX := Lib.hid (HX.out.mono (World.grows.trans (by (repeat (first | exact World.grows.refl _ | assumption | refine World.grows.alloc ?_ _ | refine World.grows.plus ?_ _ _ | refine World.grows.drew ?_))) hg)); replace c0 := HX.out.2.2.1; replace c1 := HX.out.2.2.2; replace HN := Lib.hid (HN.out.mono (World.grows.trans (by (repeat (first | exact World.grows.refl _ | assumption | refine World.grows.alloc ?_ _ | refine World.grows.plus ?_ _ _ | refine World.grows.drew ?_))) hg)); replace o0 := HN.out.1; replace o1 := HN.out.2; replace HP := Lib.hid (HP.out.mono (World.grows.trans (by (repeat (first | exact World.grows.refl _ | assumption | refine World.grows.alloc ?_ _ | refine World.grows.plus ?_ _ _ | refine World.grows.drew ?_))) hg)); replace p0 := HP.out.1; replace p1 := HP.out.2; clear hg)
      | (go_at_call 24; refine (h24 _ (HX.out.1.mono (by (repeat (first | exact World.grows.refl _ | assumption | refine World.grows.alloc ?_ _ | refine World.grows.plus ?_ _ _ | refine World.grows.drew ?_))))).mono ?_; rintro e W2 ⟨rfl, hg⟩; replace HX := Lib.hid (HX.out.mono (World.grows.trans (by (repeat (first | exact World.grows.refl _ | assumption | refine World.grows.alloc ?_ _ | refine World.grows.plus ?_ _ _ | refine World.grows.drew ?_))) hg)); replace c0 := HX.out.2.2.1; replace c1 := HX.out.2.2.2; replace HN := Lib.hid (HN.out.mono (World.grows.trans (by (repeat (first | exact World.grows.refl _ | assumption | refine World.grows.alloc ?_ _ | refine World.grows.plus ?_ _ _ | refine World.grows.drew ?_))) hg)); replace o0 := HN.out.1; replace o1 := HN.out.2; replace HP := Lib.hid (HP.out.mono (World.grows.trans (by (repeat (first | exact World.grows.refl _ | assumption | refine World.grows.alloc ?_ _ | refine World.grows.plus ?_ _ _ | refine World.grows.drew ?_))) hg)); replace p0 := HP.out.1; replace p1 := HP.out.2; clear hg)
      | (go_at_call 15; refine (works_c _).mono ?_; rintro e W2 ⟨rfl, hg⟩; replace HX := Lib.hid (HX.out.mono (World.grows.trans (by (repeat (first | exact World.grows.refl _ | assumption | refine World.grows.alloc ?_ _ | refine World.grows.plus ?_ _ _ | refine World.grows.drew ?_))) hg)); clear hg))
    go_ret
    exact ⟨rfl, HX.out.2.1.trans (by (repeat (first | exact World.grows.refl _ | assumption | refine World.grows.alloc ?_ _ | refine World.grows.plus ?_ _ _ | refine World.grows.drew ?_)))⟩
  have hw' : (decide (J.check = 0) && decide (200 < prodTo J.len J.n)) = false := by simpa using hw
  rw [hw'] at h24
  clear hw hw'
  go_wp2_with (first
    | (go_at_call 14; refine (h14 _ (HX.out.1.mono (by (repeat (first | exact World.grows.refl _ | assumption | refine World.grows.alloc ?_ _ | refine World.grows.plus ?_ _ _ | refine World.grows.drew ?_))))).mono ?_; rintro e W2 ⟨rfl, hg⟩; replace HX := Lib.hid (HX.out.mono (World.grows.trans (by (repeat (first | exact World.grows.refl _ | assumption | refine World.grows.alloc ?_ _ | refine World.grows.plus ?_ _ _ | refine World.grows.drew ?_))) hg)); replace c0 := HX.out.2.2.1; replace c1 := HX.out.2.2.2; replace HN := Lib.hid (HN.out.mono (World.grows.trans (by (repeat (first | exact World.grows.refl _ | assumption | refine World.grows.alloc ?_ _ | refine World.grows.plus ?_ _ _ | refine World.grows.drew ?_))) hg)); replace o0 := HN.out.1; replace o1 := HN.out.2; replace HP := Lib.hid (HP.out.mono (World.grows.trans (by (repeat (first | exact World.grows.refl _ | assumption | refine World.grows.alloc ?_ _ | refine World.grows.plus ?_ _ _ | refine World.grows.drew ?_))) hg)); replace p0 := HP.out.1; replace p1 := HP.out.2; clear hg)
    | (go_at_call 24; refine (h24 _ (HX.out.1.mono (by (repeat (first | exact World.grows.refl _ | assumption | refine World.grows.alloc ?_ _ | refine World.grows.plus ?_ _ _ | refine World.grows.drew ?_))))).mono ?_; rintro e W2 ⟨rfl, hg⟩; replace HX := Lib.hid (HX.out.mono (World.grows.trans (by (repeat (first | exact World.grows.refl _ | assumption | refine World.grows.alloc ?_ _ | refine World.grows.plus ?_ _ _ | refine World.grows.drew ?_))) hg)); replace c0 := HX.out.2.2.1; replace c1 := HX.out.2.2.2; replace HN := Lib.hid (HN.out.mono (World.grows.trans (by (repeat (first | exact World.grows.refl _ | assumption | refine World.grows.alloc ?_ _ | refine World.grows.plus ?_ _ _ | refine World.grows.drew ?_))) hg)); replace o0 := HN.out.1; replace o1 := HN.out.2; replace HP := Lib.hid (HP.out.mono (World.grows.trans (by (repeat (first | exact World.grows.refl _ | assumption | refine World.grows.alloc ?_ _ | refine World.grows.plus ?_ _ _ | refine World.grows.drew ?_))) hg)); replace p0 := HP.out.1; replace p1 := HP.out.2; clear hg)
    | (go_at_call 34; refine (must_c _ _ J (HX.out.1.mono (by (repeat (first | exact World.grows.refl _ | assumption | refine World.grows.alloc ?_ _ | refine World.grows.plus ?_ _ _ | refine World.grows.drew ?_)))) l ra ka rb kb).mono ?_; rintro e W2 ⟨rfl, hg⟩; replace HX := Lib.hid (HX.out.mono (World.grows.trans (by (repeat (first | exact World.grows.refl _ | assumption | refine World.grows.alloc ?_ _ | refine World.grows.plus ?_ _ _ | refine World.grows.drew ?_))) hg)); replace c0 := HX.out.2.2.1; replace c1 := HX.out.2.2.2; replace HN := Lib.hid (HN.out.mono (World.grows.trans (by (repeat (first | exact World.grows.refl _ | assumption | refine World.grows.alloc ?_ _ | refine World.grows.plus ?_ _ _ | refine World.grows.drew ?_))) hg)); replace o0 := HN.out.1; replace o1 := HN.out.2; replace HP := Lib.hid (HP.out.mono (World.grows.trans (by (repeat (first | exact World.grows.refl _ | assumption | refine World.grows.alloc ?_ _ | refine World.grows.plus ?_ _ _ | refine World.grows.drew ?_))) hg)); replace p0 := HP.out.1; replace p1 := HP.out.2; clear hg)
    | (go_at_call 35; refine (rmust_c _ _ J (HX.out.1.mono (by (repeat (first | exact World.grows.refl _ | assumption | refine World.grows.alloc ?_ _ | refine World.grows.plus ?_ _ _ | refine World.grows.drew ?_)))) l ra ka rb kb).mono ?_; rintro e W2 ⟨rfl, hg⟩; replace HX := Lib.hid (HX.out.mono (World.grows.trans (by (repeat (first | exact World.grows.refl _ | assumption | refine World.grows.alloc ?_ _ | refine World.grows.plus ?_ _ _ | refine World.grows.drew ?_))) hg)); replace c0 := HX.out.2.2.1; replace c1 := HX.out.2.2.2; replace HN := Lib.hid (HN.out.mono (World.grows.trans (by (repeat (first | exact World.grows.refl _ | assumption | refine World.grows.alloc ?_ _ | refine World.grows.plus ?_ _ _ | refine World.grows.drew ?_))) hg)); replace o0 := HN.out.1; replace o1 := HN.out.2; replace HP := Lib.hid (HP.out.mono (World.grows.trans (by (repeat (first | exact World.grows.refl _ | assumption | refine World.grows.alloc ?_ _ | refine World.grows.plus ?_ _ _ | refine World.grows.drew ?_))) hg)); replace p0 := HP.out.1; replace p1 := HP.out.2; clear hg)
    | (go_at_call 36; refine (bef_c _ _ J (HX.out.1.mono (by (repeat (first | exact World.grows.refl _ | assumption | refine World.grows.alloc ?_ _ | refine World.grows.plus ?_ _ _ | refine World.grows.drew ?_)))) l ra ka).mono ?_; rintro e W2 ⟨lo, hi, rfl, hg, hb0, hb1⟩; have HB0 := Lib.hid hb0; have HB1 := Lib.hid hb1; clear hb0 hb1; replace HX := Lib.hid (HX.out.mono (World.grows.trans (by (repeat (first | exact World.grows.refl _ | assumption | refine World.grows.alloc ?_ _ | refine World.grows.plus ?_ _ _ | refine World.grows.drew ?_))) hg)); replace c0 := HX.out.2.2.1; replace c1 := HX.out.2.2.2; replace HN := Lib.hid (HN.out.mono (World.grows.trans (by (repeat (first | exact World.grows.refl _ | assumption | refine World.grows.alloc ?_ _ | refine World.grows.plus ?_ _ _ | refine World.grows.drew ?_))) hg)); replace o0 := HN.out.1; replace o1 := HN.out.2; replace HP := Lib.hid (HP.out.mono (World.grows.trans (by (repeat (first | exact World.grows.refl _ | assumption | refine World.grows.alloc ?_ _ | refine World.grows.plus ?_ _ _ | refine World.grows.drew ?_))) hg)); replace p0 := HP.out.1; replace p1 := HP.out.2; clear hg))
  obtain ⟨W1, rfl⟩ : ∃ W1, W1 = W2 := ⟨_, rfl⟩
  refine (rbef_c _ _ J (HX.out.1.mono (by (repeat (first | exact World.grows.refl _ | assumption | refine World.grows.alloc ?_ _ | refine World.grows.plus ?_ _ _ | refine World.grows.drew ?_)))) l ra ka).mono ?_
  rintro e W3 ⟨lo2, hi2, rfl, hg, hb0, hb1⟩
  have hsame := same_range HB0.out HB1.out hb0 hb1
  obtain ⟨e1, e2⟩ := hsame
  subst e1; subst e2
  have y0 := hg.cell_of (a := ⟨W1.heap.size, 0, none⟩) (v := .int .i64 lo) (by simp [go_sem])
  have y1 := hg.cell_of (a := ⟨W1.heap.size, 1, none⟩) (v := .int .i64 hi) (by simp [go_sem])
  replace HX := Lib.hid (HX.out.mono (World.grows.trans (by (repeat (first | exact World.grows.refl _ | assumption | refine World.grows.alloc ?_ _ | refine World.grows.plus ?_ _ _ | refine World.grows.drew ?_))) hg))
  clear hg hb0 hb1 HB0 HB1 c0 c1 o0 o1 p0 p1 HN HP
  go_wp2_with (go_at_call 15; refine (works_c _).mono ?_; rintro e W2 ⟨rfl, hg⟩; replace HX := Lib.hid (HX.out.mono (World.grows.trans (by (repeat (first | exact World.grows.refl _ | assumption | refine World.grows.alloc ?_ _ | refine World.grows.plus ?_ _ _ | refine World.grows.drew ?_))) hg)); clear hg)
  go_ret
  exact ⟨rfl, HX.out.2.1.trans (by (repeat (first | exact World.grows.refl _ | assumption | refine World.grows.alloc ?_ _ | refine World.grows.plus ?_ _ _ | refine World.grows.drew ?_)))⟩
end Go.Proofs.Ytjpccfpmhmddjaa

/-
  What is proved: the statement PassMusts, at every input.
-/
namespace Go.Proofs.Ytjpccfpmhmddjaa
open Go.ChangeShapes Go.WideShapes Go.ChangeAt Go.RowKit

set_option maxRecDepth 100000 in
theorem passMusts_lifted (os : Os) (started : os.Started) (H : Type) (enc : TypeId × Value → H) :
    ReturnsInHanded {} Try.checked os 6 .any (Rows.passMustsSpec.pre6 enc Try.prog Try.f6 Rows.passMustsRow.domain false) (Rows.passMustsSpec.post enc Try.prog Try.f6 false true false false) := by
  refine law_lifted (C := Try.checked) (tb := 4) started own_c laid_c (by kernel_rfl) Try.func6 (of_decide_eq_true (by kernel_rfl))
    (ChangeSpec.witness6 (enc := enc) (C := Try.checked) false ⟨#[], #[.agg #[.int .i64 0, .slice none 0 0], .int .i64 0, .agg #[.int .i64 0, .int .i64 0], .agg #[.int .i64 0, .int .i64 0]], []⟩ 8 (by kernel_rfl) (by kernel_rfl) (by kernel_rfl) (by kernel_rfl))
    rfl Try.underlying4 rfl (fun ds hl => ?_) (fun W base args ds ps hval hA => ?_)
  · match ds, hl with
    | [d1, d2, d3, d4], _ => exact ⟨rfl, rfl, rfl⟩
  · have hA' : DataW.TrodAll enc Try.prog W 0 (fun _ => true) true Try.f6.params.toList args.toList ds ps := hA
    have hval' : ∀ (j : Nat) t v, Try.f6.params[j]? = some t → args[j]? = some v → Value.okWide Try.prog W .any base t v := hval
    rw [Try.params6] at hA' hval'
    obtain ⟨v1, v2, v3, v4, d1, d2, d3, d4, p1, p2, p3, p4, rfl, rfl, rfl, h1, h2, h3, h4⟩ := trodAll_four hA'
    obtain ⟨J1, hJ1, hF1⟩ := job_of (hval' 0 24 v1 rfl rfl) h1
    obtain ⟨z2, rfl, -, -, hw2⟩ := open_int Try.underlying2 (hval' 1 2 v2 rfl rfl) h2; have hz2 := lit_i64 hw2
    obtain ⟨r3, k3, rfl, -, -⟩ := name_of (hval' 2 47 v3 rfl rfl) h3
    obtain ⟨r4, k4, rfl, -, -⟩ := name_of (hval' 3 47 v4 rfl rfl) h4
    exact musts_w W v1 J1 hJ1 z2 r3 k3 r4 k4

theorem passMusts_holds : Rows.PassMustsSaid :=
  OpenClaim.holds_of_wide 6 Try.f6 rfl rfl rfl rfl rfl rfl rfl ⟨rfl, rfl, rfl, rfl, rfl⟩ rfl rfl rfl rfl rfl (by kernel_rfl) Try.func6 (by kernel_rfl)
    (of_decide_eq_true (by kernel_rfl)) (by unfold Func.isWrapper; first | (rw [if_pos (by decide +kernel)]; kernel_rfl) | (rw [if_neg (by decide +kernel)]; exact ⟨rfl, rfl⟩))
    (fun os started H enc _ => passMusts_lifted os started H enc)
end Go.Proofs.Ytjpccfpmhmddjaa

