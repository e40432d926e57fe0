/-
  What is proved: PassProved returns true (the walk).
-/
import Derived.Test.YtjpccfpmhmddjaaM4
import Derived.Test.YtjpccfpmhmddjaaM16
import Derived.Test.YtjpccfpmhmddjaaM15
import Derived.Test.YtjpccfpmhmddjaaM17
import Derived.Test.YtjpccfpmhmddjaaM9
set_option linter.all false
namespace Go.Proofs.Ytjpccfpmhmddjaa
open Go.RowKit
attribute [local irreducible] Go.wpCalm

/-- on the way to a place that is not in S one leaves S -/
theorem Job.leaveS (J : Job) {l : Int} (S : (Nat → Nat) → Bool) (h0 : S (fun _ => 0) = true) : ∀ (d : Nat) (q : Nat → Nat), J.In q → J.deg q = d → 0 < J.waysN l q → S q = false →
    ∃ p r, J.In p ∧ r < J.n ∧ p r < J.len r ∧ J.hot p r ≤ l ∧ S p = true ∧ S (Job.to p r) = false
  | 0, q, hq, hd, _, h => by rw [Job.deg_zero hq hd, h0] at h; cases h
  | d + 1, q, hq, hd, h1, h2 => by
    rw [J.waysN_eq _ (by omega)] at h1
    obtain ⟨r, hr, h3⟩ := (sumN_gt J.n).1 h1
    by_cases hc : 0 < q r ∧ J.hot (dn q r) r ≤ l
    · rw [if_pos hc] at h3
      have hto : Job.to (dn q r) r = q := to_dn hc.1
      cases h4 : S (dn q r) with
      | true =>
        refine ⟨dn q r, r, Job.in_dn r hq, hr, ?_, hc.2, h4, by rw [hto]; exact h2⟩
        have := hq.le r hr
        simp [dn, upd]; omega
      | false => exact J.leaveS S h0 d (dn q r) (Job.in_dn r hq) (by have := J.deg_dn hr hc.1; omega) h3 h4
    · rw [if_neg hc] at h3; omega
/-- no bound is greater than how hot a best order becomes -/
theorem Job.Best.bound_le {J : Job} {hot : Int} (hb : J.Best hot) {m : Nat} {ln : Nat → Nat} {f : Nat → Nat → Int} (he : J.barErr m ln f = 0) : J.barAns m ln f ≤ hot := by
  have h2 : J.bar m ln f (fun _ => 0) = true ∧ J.bar m ln f J.last = false := by
    unfold Job.barErr at he
    split at he
    · rename_i h; exact absurd he h
    · split at he
      · cases he
      · split at he
        · cases he
        · split at he
          · cases he
          · rename_i h
            simp only [not_or, Bool.not_eq_false, Bool.not_eq_true] at h
            exact h
  unfold Job.barAns
  rw [if_pos he]
  obtain ⟨p, r, hp, hr, hd, hh, h3, h4⟩ := J.leaveS (J.bar m ln f) h2.1 _ J.last J.in_last rfl hb.1 h2.2
  have hdg := J.dig_num hp
  have := J.bdT_step (J.bar m ln f) (k := r) (J.num_lt hp) hr ⟨by rw [hdg]; exact hd, by rw [hdg]; exact h3, by rw [hdg]; exact h4⟩
  rw [hdg] at this
  omega
/-- an order that is right answers no less than the best one -/
theorem Job.Best.ord_le {J : Job} (hc : J.check = 0) {hot : Int} (hb : J.Best hot) {m : Nat} {f : Nat → Int} (he : J.followErr m f = 0) : hot ≤ J.ordAns m f := by
  have hJ := (Job.Ok_iff J).2 hc
  rw [Job.ordAns_ok he]
  rw [Job.follow_ok hc] at he
  have h := (Job.ordErr_zero he).2
  exact hb.le_max hJ h (h.m_bd hJ).1
theorem Job.OrdOk.follow {J : Job} (hc : J.check = 0) {m : Nat} {g : Nat → Nat} (h : J.OrdOk m g) : J.followErr m (fun i => (g i : Nat)) = 0 := by
  rw [Job.follow_ok hc]
  exact Job.ordErr_ok (fun i hi => by have := h.lt i hi; omega) h.all

set_option maxRecDepth 100000 in
set_option maxHeartbeats 8000000 in
theorem proved_w (w : World) (v : Value) (J : Job) (hv : RawAt w v J) (bv : Value) (mb : Nat) (fb : Nat → Int) (hb : NumsAt .u8 w bv mb fb) (hfb0 : ∀ i, i < mb → 0 ≤ fb i ∧ fb i ≤ 255) (gv : Value) (mg : Nat) (fg : Nat → Int) (hgv : IntsAt w gv mg fg) (lv : Value) (ml : Nat) (ll : Nat → Nat) (fl : Nat → Nat → Int) (hlv : RowsOf w lv ml ll fl) :
    Calls Try.prog 7 #[v, bv, gv, lv] w fun e w' => e = .returned (.bool true) ∧ w.grows w' := by
  obtain ⟨rv, row, rfl, hs, hr⟩ := hv
  have HX := Lib.hid (BoxAt.start (w := w) (rv := rv) (J := J) ⟨rv, row, rfl, hs, hr⟩)
  have hg0 : w.grows (w.alloc (.cells #[.int .i64 J.start, rv] 24)) := by (repeat (first | exact World.grows.refl _ | assumption | refine World.grows.alloc ?_ _ | refine World.grows.plus ?_ _ _ | refine World.grows.drew ?_))
  have HB := Lib.hid (hb.mono hg0)
  have HG := Lib.hid (hgv.mono hg0)
  have HL := Lib.hid (hlv.mono hg0)
  have hfb := Lib.hid hfb0
  obtain ⟨ba, bcap, rfl, hb1, hb2, -⟩ := hb
  obtain ⟨ga, gcap, rfl, hg1, hg2, -⟩ := hgv
  obtain ⟨lrow, ⟨la, lcap, rfl, hl1, hl2, -⟩, -⟩ := hlv
  unfold maxLen at hb2 hg2 hl2
  clear hs hr hfb0 hg0
  have c0 := HX.out.2.2.1; have c1 := HX.out.2.2.2
  have h38 := fun W h => fine_c W (.agg #[.int .i64 J.start, rv]) J h
  go_enter Try.func7, Try.ntmps7
  by_cases hc : J.check = 0
  · rw [decide_eq_true hc] at h38
    have Hc := Lib.hid hc
    have HJ := Lib.hid ((Job.Ok_iff J).2 hc)
    clear hc
    by_cases hmb : 40 < mb
    · go_wp2_with (first
        | (go_at_call 38; refine (h38 _ (HX.out.1.mono (by (repeat (first | exact World.grows.refl _ | assumption | refine World.grows.alloc ?_ _ | refine World.grows.plus ?_ _ _ | refine World.grows.drew ?_))))).mono ?_; rintro e W2 ⟨rfl, hg⟩; replace HB := Lib.hid (HB.out.mono (World.grows.trans (by (repeat (first | exact World.grows.refl _ | assumption | refine World.grows.alloc ?_ _ | refine World.grows.plus ?_ _ _ | refine World.grows.drew ?_))) hg)); replace HG := Lib.hid (HG.out.mono (World.grows.trans (by (repeat (first | exact World.grows.refl _ | assumption | refine World.grows.alloc ?_ _ | refine World.grows.plus ?_ _ _ | refine World.grows.drew ?_))) hg)); replace HL := Lib.hid (HL.out.mono (World.grows.trans (by (repeat (first | exact World.grows.refl _ | assumption | refine World.grows.alloc ?_ _ | refine World.grows.plus ?_ _ _ | refine World.grows.drew ?_))) hg)); replace HX := Lib.hid (HX.out.mono (World.grows.trans (by (repeat (first | exact World.grows.refl _ | assumption | refine World.grows.alloc ?_ _ | refine World.grows.plus ?_ _ _ | refine World.grows.drew ?_))) hg)); replace c0 := HX.out.2.2.1; replace c1 := HX.out.2.2.2; clear hg)
        | (go_at_call 15; refine (works_c _).mono ?_; rintro e W2 ⟨rfl, hg⟩; replace HX := Lib.hid (HX.out.mono (World.grows.trans (by (repeat (first | exact World.grows.refl _ | assumption | refine World.grows.alloc ?_ _ | refine World.grows.plus ?_ _ _ | refine World.grows.drew ?_))) hg)); clear hg))
      go_ret
      exact ⟨rfl, HX.out.2.1.trans (by (repeat (first | exact World.grows.refl _ | assumption | refine World.grows.alloc ?_ _ | refine World.grows.plus ?_ _ _ | refine World.grows.drew ?_)))⟩
    by_cases hmg : 40 < mg
    · go_wp2_with (first
        | (go_at_call 38; refine (h38 _ (HX.out.1.mono (by (repeat (first | exact World.grows.refl _ | assumption | refine World.grows.alloc ?_ _ | refine World.grows.plus ?_ _ _ | refine World.grows.drew ?_))))).mono ?_; rintro e W2 ⟨rfl, hg⟩; replace HB := Lib.hid (HB.out.mono (World.grows.trans (by (repeat (first | exact World.grows.refl _ | assumption | refine World.grows.alloc ?_ _ | refine World.grows.plus ?_ _ _ | refine World.grows.drew ?_))) hg)); replace HG := Lib.hid (HG.out.mono (World.grows.trans (by (repeat (first | exact World.grows.refl _ | assumption | refine World.grows.alloc ?_ _ | refine World.grows.plus ?_ _ _ | refine World.grows.drew ?_))) hg)); replace HL := Lib.hid (HL.out.mono (World.grows.trans (by (repeat (first | exact World.grows.refl _ | assumption | refine World.grows.alloc ?_ _ | refine World.grows.plus ?_ _ _ | refine World.grows.drew ?_))) hg)); replace HX := Lib.hid (HX.out.mono (World.grows.trans (by (repeat (first | exact World.grows.refl _ | assumption | refine World.grows.alloc ?_ _ | refine World.grows.plus ?_ _ _ | refine World.grows.drew ?_))) hg)); replace c0 := HX.out.2.2.1; replace c1 := HX.out.2.2.2; clear hg)
        | (go_at_call 15; refine (works_c _).mono ?_; rintro e W2 ⟨rfl, hg⟩; replace HX := Lib.hid (HX.out.mono (World.grows.trans (by (repeat (first | exact World.grows.refl _ | assumption | refine World.grows.alloc ?_ _ | refine World.grows.plus ?_ _ _ | refine World.grows.drew ?_))) hg)); clear hg))
      go_ret
      exact ⟨rfl, HX.out.2.1.trans (by (repeat (first | exact World.grows.refl _ | assumption | refine World.grows.alloc ?_ _ | refine World.grows.plus ?_ _ _ | refine World.grows.drew ?_)))⟩
    by_cases hml : 250 < ml
    · go_wp2_with (first
        | (go_at_call 38; refine (h38 _ (HX.out.1.mono (by (repeat (first | exact World.grows.refl _ | assumption | refine World.grows.alloc ?_ _ | refine World.grows.plus ?_ _ _ | refine World.grows.drew ?_))))).mono ?_; rintro e W2 ⟨rfl, hg⟩; replace HB := Lib.hid (HB.out.mono (World.grows.trans (by (repeat (first | exact World.grows.refl _ | assumption | refine World.grows.alloc ?_ _ | refine World.grows.plus ?_ _ _ | refine World.grows.drew ?_))) hg)); replace HG := Lib.hid (HG.out.mono (World.grows.trans (by (repeat (first | exact World.grows.refl _ | assumption | refine World.grows.alloc ?_ _ | refine World.grows.plus ?_ _ _ | refine World.grows.drew ?_))) hg)); replace HL := Lib.hid (HL.out.mono (World.grows.trans (by (repeat (first | exact World.grows.refl _ | assumption | refine World.grows.alloc ?_ _ | refine World.grows.plus ?_ _ _ | refine World.grows.drew ?_))) hg)); replace HX := Lib.hid (HX.out.mono (World.grows.trans (by (repeat (first | exact World.grows.refl _ | assumption | refine World.grows.alloc ?_ _ | refine World.grows.plus ?_ _ _ | refine World.grows.drew ?_))) hg)); replace c0 := HX.out.2.2.1; replace c1 := HX.out.2.2.2; clear hg)
        | (go_at_call 15; refine (works_c _).mono ?_; rintro e W2 ⟨rfl, hg⟩; replace HX := Lib.hid (HX.out.mono (World.grows.trans (by (repeat (first | exact World.grows.refl _ | assumption | refine World.grows.alloc ?_ _ | refine World.grows.plus ?_ _ _ | refine World.grows.drew ?_))) hg)); clear hg))
      go_ret
      exact ⟨rfl, HX.out.2.1.trans (by (repeat (first | exact World.grows.refl _ | assumption | refine World.grows.alloc ?_ _ | refine World.grows.plus ?_ _ _ | refine World.grows.drew ?_)))⟩
    go_wp2_with (first
      | (go_at_call 38; refine (h38 _ (HX.out.1.mono (by (repeat (first | exact World.grows.refl _ | assumption | refine World.grows.alloc ?_ _ | refine World.grows.plus ?_ _ _ | refine World.grows.drew ?_))))).mono ?_; rintro e W2 ⟨rfl, hg⟩; replace HB := Lib.hid (HB.out.mono (World.grows.trans (by (repeat (first | exact World.grows.refl _ | assumption | refine World.grows.alloc ?_ _ | refine World.grows.plus ?_ _ _ | refine World.grows.drew ?_))) hg)); replace HG := Lib.hid (HG.out.mono (World.grows.trans (by (repeat (first | exact World.grows.refl _ | assumption | refine World.grows.alloc ?_ _ | refine World.grows.plus ?_ _ _ | refine World.grows.drew ?_))) hg)); replace HL := Lib.hid (HL.out.mono (World.grows.trans (by (repeat (first | exact World.grows.refl _ | assumption | refine World.grows.alloc ?_ _ | refine World.grows.plus ?_ _ _ | refine World.grows.drew ?_))) hg)); replace HX := Lib.hid (HX.out.mono (World.grows.trans (by (repeat (first | exact World.grows.refl _ | assumption | refine World.grows.alloc ?_ _ | refine World.grows.plus ?_ _ _ | refine World.grows.drew ?_))) hg)); replace c0 := HX.out.2.2.1; replace c1 := HX.out.2.2.2; clear hg)
      | (go_at_call 44; fail))
    refine (long_c' _ _ _ _ _ (HL.out.mono (by (repeat (first | exact World.grows.refl _ | assumption | refine World.grows.alloc ?_ _ | refine World.grows.plus ?_ _ _ | refine World.grows.drew ?_))))).mono ?_
    rintro e W2 ⟨⟨bl, rfl⟩, hg⟩
    replace HB := Lib.hid (HB.out.mono (World.grows.trans (by (repeat (first | exact World.grows.refl _ | assumption | refine World.grows.alloc ?_ _ | refine World.grows.plus ?_ _ _ | refine World.grows.drew ?_))) hg)); replace HG := Lib.hid (HG.out.mono (World.grows.trans (by (repeat (first | exact World.grows.refl _ | assumption | refine World.grows.alloc ?_ _ | refine World.grows.plus ?_ _ _ | refine World.grows.drew ?_))) hg)); replace HL := Lib.hid (HL.out.mono (World.grows.trans (by (repeat (first | exact World.grows.refl _ | assumption | refine World.grows.alloc ?_ _ | refine World.grows.plus ?_ _ _ | refine World.grows.drew ?_))) hg)); replace HX := Lib.hid (HX.out.mono (World.grows.trans (by (repeat (first | exact World.grows.refl _ | assumption | refine World.grows.alloc ?_ _ | refine World.grows.plus ?_ _ _ | refine World.grows.drew ?_))) hg)); replace c0 := HX.out.2.2.1; replace c1 := HX.out.2.2.2; clear hg
    cases bl with
    | true =>
      go_wp2_with (go_at_call 15; refine (works_c _).mono ?_; rintro e W2 ⟨rfl, hg⟩; replace HX := Lib.hid (HX.out.mono (World.grows.trans (by (repeat (first | exact World.grows.refl _ | assumption | refine World.grows.alloc ?_ _ | refine World.grows.plus ?_ _ _ | refine World.grows.drew ?_))) hg)); clear hg)
      go_ret
      exact ⟨rfl, HX.out.2.1.trans (by (repeat (first | exact World.grows.refl _ | assumption | refine World.grows.alloc ?_ _ | refine World.grows.plus ?_ _ _ | refine World.grows.drew ?_)))⟩
    | false =>
      go_wp2_with (first
        | (go_at_call 25; refine (best_c _ _ J (HX.out.1.mono (by (repeat (first | exact World.grows.refl _ | assumption | refine World.grows.alloc ?_ _ | refine World.grows.plus ?_ _ _ | refine World.grows.drew ?_))))).mono ?_; rintro e W2 ⟨sv, hot, rfl, hg, -, hbb⟩; rw [Hc.out]; have hB := Lib.hid (hbb Hc.out).1; obtain ⟨o, ho1, ho2⟩ := (hbb Hc.out).2; have HO := Lib.hid ho2; have HS := Lib.hid ho1; clear hbb ho1 ho2; replace HB := Lib.hid (HB.out.mono (World.grows.trans (by (repeat (first | exact World.grows.refl _ | assumption | refine World.grows.alloc ?_ _ | refine World.grows.plus ?_ _ _ | refine World.grows.drew ?_))) hg)); replace HG := Lib.hid (HG.out.mono (World.grows.trans (by (repeat (first | exact World.grows.refl _ | assumption | refine World.grows.alloc ?_ _ | refine World.grows.plus ?_ _ _ | refine World.grows.drew ?_))) hg)); replace HL := Lib.hid (HL.out.mono (World.grows.trans (by (repeat (first | exact World.grows.refl _ | assumption | refine World.grows.alloc ?_ _ | refine World.grows.plus ?_ _ _ | refine World.grows.drew ?_))) hg)); replace HX := Lib.hid (HX.out.mono (World.grows.trans (by (repeat (first | exact World.grows.refl _ | assumption | refine World.grows.alloc ?_ _ | refine World.grows.plus ?_ _ _ | refine World.grows.drew ?_))) hg)); replace c0 := HX.out.2.2.1; replace c1 := HX.out.2.2.2; clear hg)
        | (go_at_call 32; refine (barrier_c _ _ J (HX.out.1.mono (by (repeat (first | exact World.grows.refl _ | assumption | refine World.grows.alloc ?_ _ | refine World.grows.plus ?_ _ _ | refine World.grows.drew ?_))))).mono ?_; rintro e W2 ⟨xv, rfl, hg, -, hbb⟩; rw [Hc.out]; obtain ⟨hot2, hB0, hT0⟩ := hbb Hc.out; obtain rfl := hB0.unique hB.out; have HT : Hid (RowsOf W2 xv (J.okL (hot2 - 1) J.size).length (fun _ => J.n) (J.barF hot2)) := Lib.hid hT0; clear hbb hB0 hT0; replace HB := Lib.hid (HB.out.mono (World.grows.trans (by (repeat (first | exact World.grows.refl _ | assumption | refine World.grows.alloc ?_ _ | refine World.grows.plus ?_ _ _ | refine World.grows.drew ?_))) hg)); replace HG := Lib.hid (HG.out.mono (World.grows.trans (by (repeat (first | exact World.grows.refl _ | assumption | refine World.grows.alloc ?_ _ | refine World.grows.plus ?_ _ _ | refine World.grows.drew ?_))) hg)); replace HL := Lib.hid (HL.out.mono (World.grows.trans (by (repeat (first | exact World.grows.refl _ | assumption | refine World.grows.alloc ?_ _ | refine World.grows.plus ?_ _ _ | refine World.grows.drew ?_))) hg)); replace HO := Lib.hid (HO.out.mono (World.grows.trans (by (repeat (first | exact World.grows.refl _ | assumption | refine World.grows.alloc ?_ _ | refine World.grows.plus ?_ _ _ | refine World.grows.drew ?_))) hg)); replace HX := Lib.hid (HX.out.mono (World.grows.trans (by (repeat (first | exact World.grows.refl _ | assumption | refine World.grows.alloc ?_ _ | refine World.grows.plus ?_ _ _ | refine World.grows.drew ?_))) hg)); replace c0 := HX.out.2.2.1; replace c1 := HX.out.2.2.2; clear hg)
        | (go_at_call 18; refine (checkOrd_c _ _ J (HX.out.1.mono (by (repeat (first | exact World.grows.refl _ | assumption | refine World.grows.alloc ?_ _ | refine World.grows.plus ?_ _ _ | refine World.grows.drew ?_)))) _ _ _ (HO.out.mono (by (repeat (first | exact World.grows.refl _ | assumption | refine World.grows.alloc ?_ _ | refine World.grows.plus ?_ _ _ | refine World.grows.drew ?_))))).mono ?_; rintro e W2 ⟨rfl, hg⟩; rw [(HS.out.answers Hc.out hB.out).1, (HS.out.answers Hc.out hB.out).2]; replace HB := Lib.hid (HB.out.mono (World.grows.trans (by (repeat (first | exact World.grows.refl _ | assumption | refine World.grows.alloc ?_ _ | refine World.grows.plus ?_ _ _ | refine World.grows.drew ?_))) hg)); replace HG := Lib.hid (HG.out.mono (World.grows.trans (by (repeat (first | exact World.grows.refl _ | assumption | refine World.grows.alloc ?_ _ | refine World.grows.plus ?_ _ _ | refine World.grows.drew ?_))) hg)); replace HL := Lib.hid (HL.out.mono (World.grows.trans (by (repeat (first | exact World.grows.refl _ | assumption | refine World.grows.alloc ?_ _ | refine World.grows.plus ?_ _ _ | refine World.grows.drew ?_))) hg)); replace HO := Lib.hid (HO.out.mono (World.grows.trans (by (repeat (first | exact World.grows.refl _ | assumption | refine World.grows.alloc ?_ _ | refine World.grows.plus ?_ _ _ | refine World.grows.drew ?_))) hg)); replace HT := Lib.hid (HT.out.mono (World.grows.trans (by (repeat (first | exact World.grows.refl _ | assumption | refine World.grows.alloc ?_ _ | refine World.grows.plus ?_ _ _ | refine World.grows.drew ?_))) hg)); replace HX := Lib.hid (HX.out.mono (World.grows.trans (by (repeat (first | exact World.grows.refl _ | assumption | refine World.grows.alloc ?_ _ | refine World.grows.plus ?_ _ _ | refine World.grows.drew ?_))) hg)); replace c0 := HX.out.2.2.1; replace c1 := HX.out.2.2.2; clear hg)
        | (go_at_call 19; refine (rcheckOrd_c _ _ J (HX.out.1.mono (by (repeat (first | exact World.grows.refl _ | assumption | refine World.grows.alloc ?_ _ | refine World.grows.plus ?_ _ _ | refine World.grows.drew ?_)))) _ _ _ (HO.out.mono (by (repeat (first | exact World.grows.refl _ | assumption | refine World.grows.alloc ?_ _ | refine World.grows.plus ?_ _ _ | refine World.grows.drew ?_))))).mono ?_; rintro e W2 ⟨rfl, hg⟩; rw [(HS.out.answers Hc.out hB.out).1, (HS.out.answers Hc.out hB.out).2]; clear HO; replace HB := Lib.hid (HB.out.mono (World.grows.trans (by (repeat (first | exact World.grows.refl _ | assumption | refine World.grows.alloc ?_ _ | refine World.grows.plus ?_ _ _ | refine World.grows.drew ?_))) hg)); replace HG := Lib.hid (HG.out.mono (World.grows.trans (by (repeat (first | exact World.grows.refl _ | assumption | refine World.grows.alloc ?_ _ | refine World.grows.plus ?_ _ _ | refine World.grows.drew ?_))) hg)); replace HL := Lib.hid (HL.out.mono (World.grows.trans (by (repeat (first | exact World.grows.refl _ | assumption | refine World.grows.alloc ?_ _ | refine World.grows.plus ?_ _ _ | refine World.grows.drew ?_))) hg)); replace HT := Lib.hid (HT.out.mono (World.grows.trans (by (repeat (first | exact World.grows.refl _ | assumption | refine World.grows.alloc ?_ _ | refine World.grows.plus ?_ _ _ | refine World.grows.drew ?_))) hg)); replace HX := Lib.hid (HX.out.mono (World.grows.trans (by (repeat (first | exact World.grows.refl _ | assumption | refine World.grows.alloc ?_ _ | refine World.grows.plus ?_ _ _ | refine World.grows.drew ?_))) hg)); replace c0 := HX.out.2.2.1; replace c1 := HX.out.2.2.2; clear hg)
        | (go_at_call 44; fail))
      refine (chkBar_c _ _ J (HX.out.1.mono (by (repeat (first | exact World.grows.refl _ | assumption | refine World.grows.alloc ?_ _ | refine World.grows.plus ?_ _ _ | refine World.grows.drew ?_)))) _ _ _ _ (HT.out.mono (by (repeat (first | exact World.grows.refl _ | assumption | refine World.grows.alloc ?_ _ | refine World.grows.plus ?_ _ _ | refine World.grows.drew ?_))))).mono ?_
      rintro e W2 ⟨rfl, hg⟩
      rw [(hB.out.barrier Hc.out).1, (hB.out.barrier Hc.out).2]
      replace HT := Lib.hid (HT.out.mono (World.grows.trans (by (repeat (first | exact World.grows.refl _ | assumption | refine World.grows.alloc ?_ _ | refine World.grows.plus ?_ _ _ | refine World.grows.drew ?_))) hg))
      replace HB := Lib.hid (HB.out.mono (World.grows.trans (by (repeat (first | exact World.grows.refl _ | assumption | refine World.grows.alloc ?_ _ | refine World.grows.plus ?_ _ _ | refine World.grows.drew ?_))) hg)); replace HG := Lib.hid (HG.out.mono (World.grows.trans (by (repeat (first | exact World.grows.refl _ | assumption | refine World.grows.alloc ?_ _ | refine World.grows.plus ?_ _ _ | refine World.grows.drew ?_))) hg)); replace HL := Lib.hid (HL.out.mono (World.grows.trans (by (repeat (first | exact World.grows.refl _ | assumption | refine World.grows.alloc ?_ _ | refine World.grows.plus ?_ _ _ | refine World.grows.drew ?_))) hg)); replace HX := Lib.hid (HX.out.mono (World.grows.trans (by (repeat (first | exact World.grows.refl _ | assumption | refine World.grows.alloc ?_ _ | refine World.grows.plus ?_ _ _ | refine World.grows.drew ?_))) hg)); replace c0 := HX.out.2.2.1; replace c1 := HX.out.2.2.2; clear hg
      go_wp2_with (first
        | (go_at_call 31; refine (rchkBar_c _ _ J (HX.out.1.mono (by (repeat (first | exact World.grows.refl _ | assumption | refine World.grows.alloc ?_ _ | refine World.grows.plus ?_ _ _ | refine World.grows.drew ?_)))) _ _ _ _ (HT.out.mono (by (repeat (first | exact World.grows.refl _ | assumption | refine World.grows.alloc ?_ _ | refine World.grows.plus ?_ _ _ | refine World.grows.drew ?_))))).mono ?_; rintro e W2 ⟨rfl, hg⟩; rw [(hB.out.barrier Hc.out).1, (hB.out.barrier Hc.out).2]; clear HT; replace HB := Lib.hid (HB.out.mono (World.grows.trans (by (repeat (first | exact World.grows.refl _ | assumption | refine World.grows.alloc ?_ _ | refine World.grows.plus ?_ _ _ | refine World.grows.drew ?_))) hg)); replace HG := Lib.hid (HG.out.mono (World.grows.trans (by (repeat (first | exact World.grows.refl _ | assumption | refine World.grows.alloc ?_ _ | refine World.grows.plus ?_ _ _ | refine World.grows.drew ?_))) hg)); replace HL := Lib.hid (HL.out.mono (World.grows.trans (by (repeat (first | exact World.grows.refl _ | assumption | refine World.grows.alloc ?_ _ | refine World.grows.plus ?_ _ _ | refine World.grows.drew ?_))) hg)); replace HX := Lib.hid (HX.out.mono (World.grows.trans (by (repeat (first | exact World.grows.refl _ | assumption | refine World.grows.alloc ?_ _ | refine World.grows.plus ?_ _ _ | refine World.grows.drew ?_))) hg)); replace c0 := HX.out.2.2.1; replace c1 := HX.out.2.2.2; clear hg)
        | (go_at_call 44; fail))
      have hbe := Lib.hid (fun h => hB.out.bound_le (m := ml) (ln := ll) (f := fl) h)
      obtain ⟨E, hE⟩ : ∃ E, J.barErr ml ll fl = E := ⟨_, rfl⟩
      obtain ⟨A, hA⟩ : ∃ A, J.barAns ml ll fl = A := ⟨_, rfl⟩
      rw [hE, hA] at hbe
      have h30 := Lib.hid (fun W (hW : RawAt W (.agg #[.int .i64 J.start, rv]) J) lv (hl : RowsOf W lv ml ll fl) => chkBar_c W (.agg #[.int .i64 J.start, rv]) J hW lv ml ll fl hl)
      simp only [hE, hA] at h30
      clear hE hA
      refine (h30.out _ (HX.out.1.mono (by (repeat (first | exact World.grows.refl _ | assumption | refine World.grows.alloc ?_ _ | refine World.grows.plus ?_ _ _ | refine World.grows.drew ?_)))) _ (HL.out.mono (by (repeat (first | exact World.grows.refl _ | assumption | refine World.grows.alloc ?_ _ | refine World.grows.plus ?_ _ _ | refine World.grows.drew ?_))))).mono ?_
      rintro e W2 ⟨rfl, hg⟩
      replace HB := Lib.hid (HB.out.mono (World.grows.trans (by (repeat (first | exact World.grows.refl _ | assumption | refine World.grows.alloc ?_ _ | refine World.grows.plus ?_ _ _ | refine World.grows.drew ?_))) hg)); replace HG := Lib.hid (HG.out.mono (World.grows.trans (by (repeat (first | exact World.grows.refl _ | assumption | refine World.grows.alloc ?_ _ | refine World.grows.plus ?_ _ _ | refine World.grows.drew ?_))) hg)); replace HL := Lib.hid (HL.out.mono (World.grows.trans (by (repeat (first | exact World.grows.refl _ | assumption | refine World.grows.alloc ?_ _ | refine World.grows.plus ?_ _ _ | refine World.grows.drew ?_))) hg)); replace HX := Lib.hid (HX.out.mono (World.grows.trans (by (repeat (first | exact World.grows.refl _ | assumption | refine World.grows.alloc ?_ _ | refine World.grows.plus ?_ _ _ | refine World.grows.drew ?_))) hg)); replace c0 := HX.out.2.2.1; replace c1 := HX.out.2.2.2; clear hg
      clear h30
      go_wp2_with (first
        | (go_at_call 39; refine (order_c _ _ J (HX.out.1.mono (by (repeat (first | exact World.grows.refl _ | assumption | refine World.grows.alloc ?_ _ | refine World.grows.plus ?_ _ _ | refine World.grows.drew ?_)))) HJ.out _ mb fb (HB.out.mono (by (repeat (first | exact World.grows.refl _ | assumption | refine World.grows.alloc ?_ _ | refine World.grows.plus ?_ _ _ | refine World.grows.drew ?_)))) hfb.out).mono ?_; rintro e W2 ⟨ov, mo, go, rfl, hg, ho, hok⟩; have HQ := Lib.hid ho; have HQo := Lib.hid hok; obtain ⟨oa, ocap, rfl, ho1, ho2, -⟩ := ho; unfold maxLen at ho2; clear hok; replace HG := Lib.hid (HG.out.mono (World.grows.trans (by (repeat (first | exact World.grows.refl _ | assumption | refine World.grows.alloc ?_ _ | refine World.grows.plus ?_ _ _ | refine World.grows.drew ?_))) hg)); replace HX := Lib.hid (HX.out.mono (World.grows.trans (by (repeat (first | exact World.grows.refl _ | assumption | refine World.grows.alloc ?_ _ | refine World.grows.plus ?_ _ _ | refine World.grows.drew ?_))) hg)); replace c0 := HX.out.2.2.1; replace c1 := HX.out.2.2.2; clear hg)
        | (go_at_call 44; fail))
      obtain ⟨W1, rfl⟩ : ∃ W1, W1 = W2 := ⟨_, rfl⟩
      have hgW : W1.grows (W1.alloc (.cells #[.slice oa mo ocap, .slice ga mg gcap] 25)) := by (repeat (first | exact World.grows.refl _ | assumption | refine World.grows.alloc ?_ _ | refine World.grows.plus ?_ _ _ | refine World.grows.drew ?_))
      have x0 : (W1.alloc (.cells #[.slice oa mo ocap, .slice ga mg gcap] 25)).cell? ⟨W1.heap.size, 0, none⟩ = some (.slice oa mo ocap) := by simp [go_sem]
      have x1 : (W1.alloc (.cells #[.slice oa mo ocap, .slice ga mg gcap] 25)).cell? ⟨W1.heap.size, 1, none⟩ = some (.slice ga mg gcap) := by simp [go_sem]
      replace HX := Lib.hid (HX.out.mono hgW)
      replace HQ := Lib.hid (HQ.out.mono hgW)
      replace HG := Lib.hid (HG.out.mono hgW)
      clear hgW c0 c1 HB HL
      generalize (W1.alloc (.cells #[.slice oa mo ocap, .slice ga mg gcap] 25)) = W3 at HX HQ HG x0 x1 ⊢
      have X0 := Lib.hid x0
      have X1 := Lib.hid x1
      clear x0 x1
      have hf0 := HQo.out.follow Hc.out
      have hm0 := Lib.hid (hB.out.ord_le Hc.out hf0)
      have h180 := Lib.hid (fun W (hW : RawAt W (.agg #[.int .i64 J.start, rv]) J) ov (hl : IntsAt W ov mo (fun i => (go i : Nat))) => checkOrd_c W (.agg #[.int .i64 J.start, rv]) J hW ov mo _ hl)
      rw [hf0] at h180
      obtain ⟨M0, hM0⟩ : ∃ M0, J.ordAns mo (fun i => (go i : Nat)) = M0 := ⟨_, rfl⟩
      rw [hM0] at hm0 h180
      have hm1 := Lib.hid (fun h => hB.out.ord_le Hc.out (m := mg) (f := fg) h)
      have h181 := Lib.hid (fun W (hW : RawAt W (.agg #[.int .i64 J.start, rv]) J) ov (hl : IntsAt W ov mg fg) => checkOrd_c W (.agg #[.int .i64 J.start, rv]) J hW ov mg fg hl)
      obtain ⟨F, hF⟩ : ∃ F, J.followErr mg fg = F := ⟨_, rfl⟩
      obtain ⟨M1, hM1⟩ : ∃ M1, J.ordAns mg fg = M1 := ⟨_, rfl⟩
      simp only [hF, hM1] at hm1 h181
      clear hf0 hM0 hF hM1
      go_loopw [25] (fun i wr => ∃ k : Nat, k ≤ 2 ∧ i = .int .i64 k ∧ Hid (W3.grows wr)) (fun i _ => 2 - (intOf i).toNat)
      case atStart => exact ⟨0, by omega, rfl, Lib.hid (World.grows.refl _)⟩
      case round =>
        obtain ⟨k, hk, rfl, hg⟩ := hrel
        have HXr := Lib.hid (HX.out.mono hg.out)
        have c0 := HXr.out.2.2.1
        have c1 := HXr.out.2.2.2
        rcases (by omega : k = 0 ∨ k = 1 ∨ k = 2) with rfl | rfl | rfl
        · have y0 := hg.out.cell_of X0.out
          have hge := hm0.out
          by_cases hE : E = 0
          · have hAh := hbe.out hE
            have n1 : ¬ M0 < hot2 := by omega
            have n2 : ¬ M0 < A := by omega
            subst hE
            clear hAh hge
            go_wp2
            (refine wp_region_calm (by kernel_rfl) (by kernel_rfl) ?_; (repeat (refine wpCalm_step (fun K hK => ?_); go_simp; first | (refine hK _ ?_; clear hK K) | (apply Exists.intro; refine ⟨fun n' x' => ?_, hK _ ?_⟩; (exact h180.out _ (HXr.out.1.mono (by (repeat (first | exact World.grows.refl _ | assumption | refine World.grows.alloc ?_ _ | refine World.grows.plus ?_ _ _ | refine World.grows.drew ?_)))) _ (HQ.out.mono (hg.out.trans (by (repeat (first | exact World.grows.refl _ | assumption | refine World.grows.alloc ?_ _ | refine World.grows.plus ?_ _ _ | refine World.grows.drew ?_)))))); clear hK K))); refine wpCalm_nil ?_; intro nq xq)
            go_wp2
            go_roundw
            case rel => exact ⟨1, by omega, rfl, Lib.hid (hg.out.trans (by (repeat (first | exact World.grows.refl _ | assumption | refine World.grows.alloc ?_ _ | refine World.grows.plus ?_ _ _ | refine World.grows.drew ?_))))⟩
            case measure => simp [intOf] <;> omega
          · have n1 : ¬ M0 < hot2 := by omega
            clear hge
            go_wp2
            (refine wp_region_calm (by kernel_rfl) (by kernel_rfl) ?_; (repeat (refine wpCalm_step (fun K hK => ?_); go_simp; first | (refine hK _ ?_; clear hK K) | (apply Exists.intro; refine ⟨fun n' x' => ?_, hK _ ?_⟩; (exact h180.out _ (HXr.out.1.mono (by (repeat (first | exact World.grows.refl _ | assumption | refine World.grows.alloc ?_ _ | refine World.grows.plus ?_ _ _ | refine World.grows.drew ?_)))) _ (HQ.out.mono (hg.out.trans (by (repeat (first | exact World.grows.refl _ | assumption | refine World.grows.alloc ?_ _ | refine World.grows.plus ?_ _ _ | refine World.grows.drew ?_)))))); clear hK K))); refine wpCalm_nil ?_; intro nq xq)
            go_wp2
            go_roundw
            case rel => exact ⟨1, by omega, rfl, Lib.hid (hg.out.trans (by (repeat (first | exact World.grows.refl _ | assumption | refine World.grows.alloc ?_ _ | refine World.grows.plus ?_ _ _ | refine World.grows.drew ?_))))⟩
            case measure => simp [intOf] <;> omega
        · have y1 := hg.out.cell_of X1.out
          by_cases hF : F = 0
          · have hge := hm1.out hF
            subst hF
            by_cases hE : E = 0
            · have hAh := hbe.out hE
              have n1 : ¬ M1 < hot2 := by omega
              have n2 : ¬ M1 < A := by omega
              subst hE
              clear hAh hge
              go_wp2
              (refine wp_region_calm (by kernel_rfl) (by kernel_rfl) ?_; (repeat (refine wpCalm_step (fun K hK => ?_); go_simp; first | (refine hK _ ?_; clear hK K) | (apply Exists.intro; refine ⟨fun n' x' => ?_, hK _ ?_⟩; (exact h181.out _ (HXr.out.1.mono (by (repeat (first | exact World.grows.refl _ | assumption | refine World.grows.alloc ?_ _ | refine World.grows.plus ?_ _ _ | refine World.grows.drew ?_)))) _ (HG.out.mono (hg.out.trans (by (repeat (first | exact World.grows.refl _ | assumption | refine World.grows.alloc ?_ _ | refine World.grows.plus ?_ _ _ | refine World.grows.drew ?_)))))); clear hK K))); refine wpCalm_nil ?_; intro nq xq)
              go_wp2
              go_roundw
              case rel => exact ⟨2, by omega, rfl, Lib.hid (hg.out.trans (by (repeat (first | exact World.grows.refl _ | assumption | refine World.grows.alloc ?_ _ | refine World.grows.plus ?_ _ _ | refine World.grows.drew ?_))))⟩
              case measure => simp [intOf] <;> omega
            · have n1 : ¬ M1 < hot2 := by omega
              clear hge
              go_wp2
              (refine wp_region_calm (by kernel_rfl) (by kernel_rfl) ?_; (repeat (refine wpCalm_step (fun K hK => ?_); go_simp; first | (refine hK _ ?_; clear hK K) | (apply Exists.intro; refine ⟨fun n' x' => ?_, hK _ ?_⟩; (exact h181.out _ (HXr.out.1.mono (by (repeat (first | exact World.grows.refl _ | assumption | refine World.grows.alloc ?_ _ | refine World.grows.plus ?_ _ _ | refine World.grows.drew ?_)))) _ (HG.out.mono (hg.out.trans (by (repeat (first | exact World.grows.refl _ | assumption | refine World.grows.alloc ?_ _ | refine World.grows.plus ?_ _ _ | refine World.grows.drew ?_)))))); clear hK K))); refine wpCalm_nil ?_; intro nq xq)
              go_wp2
              go_roundw
              case rel => exact ⟨2, by omega, rfl, Lib.hid (hg.out.trans (by (repeat (first | exact World.grows.refl _ | assumption | refine World.grows.alloc ?_ _ | refine World.grows.plus ?_ _ _ | refine World.grows.drew ?_))))⟩
              case measure => simp [intOf] <;> omega
          · go_wp2
            (refine wp_region_calm (by kernel_rfl) (by kernel_rfl) ?_; (repeat (refine wpCalm_step (fun K hK => ?_); go_simp; first | (refine hK _ ?_; clear hK K) | (apply Exists.intro; refine ⟨fun n' x' => ?_, hK _ ?_⟩; (exact h181.out _ (HXr.out.1.mono (by (repeat (first | exact World.grows.refl _ | assumption | refine World.grows.alloc ?_ _ | refine World.grows.plus ?_ _ _ | refine World.grows.drew ?_)))) _ (HG.out.mono (hg.out.trans (by (repeat (first | exact World.grows.refl _ | assumption | refine World.grows.alloc ?_ _ | refine World.grows.plus ?_ _ _ | refine World.grows.drew ?_)))))); clear hK K))); refine wpCalm_nil ?_; intro nq xq)
            go_wp2
            go_roundw
            case rel => exact ⟨2, by omega, rfl, Lib.hid (hg.out.trans (by (repeat (first | exact World.grows.refl _ | assumption | refine World.grows.alloc ?_ _ | refine World.grows.plus ?_ _ _ | refine World.grows.drew ?_))))⟩
            case measure => simp [intOf] <;> omega
        · by_cases hE : E = 0
          · have n1 := hbe.out hE
            subst hE
            go_wp2_with (go_at_call 15; refine (works_c _).mono ?_; rintro e W2 ⟨rfl, hgz⟩; obtain ⟨nz, xz, rfl⟩ := World.plus_of hgz)
            go_ret
            exact ⟨rfl, HXr.out.2.1.trans (by (repeat (first | exact World.grows.refl _ | assumption | refine World.grows.alloc ?_ _ | refine World.grows.plus ?_ _ _ | refine World.grows.drew ?_)))⟩
          · go_wp2_with (go_at_call 15; refine (works_c _).mono ?_; rintro e W2 ⟨rfl, hgz⟩; obtain ⟨nz, xz, rfl⟩ := World.plus_of hgz)
            go_ret
            exact ⟨rfl, HXr.out.2.1.trans (by (repeat (first | exact World.grows.refl _ | assumption | refine World.grows.alloc ?_ _ | refine World.grows.plus ?_ _ _ | refine World.grows.drew ?_)))⟩
  · rw [decide_eq_false hc] at h38
    go_wp2_with (first
      | (go_at_call 38; refine (h38 _ (HX.out.1.mono (by (repeat (first | exact World.grows.refl _ | assumption | refine World.grows.alloc ?_ _ | refine World.grows.plus ?_ _ _ | refine World.grows.drew ?_))))).mono ?_; rintro e W2 ⟨rfl, hg⟩; replace HB := Lib.hid (HB.out.mono (World.grows.trans (by (repeat (first | exact World.grows.refl _ | assumption | refine World.grows.alloc ?_ _ | refine World.grows.plus ?_ _ _ | refine World.grows.drew ?_))) hg)); replace HG := Lib.hid (HG.out.mono (World.grows.trans (by (repeat (first | exact World.grows.refl _ | assumption | refine World.grows.alloc ?_ _ | refine World.grows.plus ?_ _ _ | refine World.grows.drew ?_))) hg)); replace HL := Lib.hid (HL.out.mono (World.grows.trans (by (repeat (first | exact World.grows.refl _ | assumption | refine World.grows.alloc ?_ _ | refine World.grows.plus ?_ _ _ | refine World.grows.drew ?_))) hg)); replace HX := Lib.hid (HX.out.mono (World.grows.trans (by (repeat (first | exact World.grows.refl _ | assumption | refine World.grows.alloc ?_ _ | refine World.grows.plus ?_ _ _ | refine World.grows.drew ?_))) hg)); replace c0 := HX.out.2.2.1; replace c1 := HX.out.2.2.2; clear hg)
      | (go_at_call 15; refine (works_c _).mono ?_; rintro e W2 ⟨rfl, hg⟩; replace HX := Lib.hid (HX.out.mono (World.grows.trans (by (repeat (first | exact World.grows.refl _ | assumption | refine World.grows.alloc ?_ _ | refine World.grows.plus ?_ _ _ | refine World.grows.drew ?_))) hg)); clear hg))
    go_ret
    exact ⟨rfl, HX.out.2.1.trans (by (repeat (first | exact World.grows.refl _ | assumption | refine World.grows.alloc ?_ _ | refine World.grows.plus ?_ _ _ | refine World.grows.drew ?_)))⟩
end Go.Proofs.Ytjpccfpmhmddjaa

