/-
  What is proved: great (15), fine (41), all (70).
-/
import Derived.Test.YtaanbdjmibjcbaaM7
import Derived.Test.YtaanbdjmibjcbaaM11
import Derived.Test.YtaanbdjmibjcbaaM8
import Derived.Test.YtaanbdjmibjcbaaM10
import Derived.Test.YtaanbdjmibjcbaaM2
set_option linter.all false
namespace Go.Proofs.Ytaanbdjmibjcbaa
open Go.RowKit
attribute [local irreducible] Go.wpCalm rowI

/-- too many parts for a statement -/
def Town.great (t : Town) : Bool := decide (25 < t.ns) || decide (20 < t.nv)
theorem Town.great_ok {t : Town} (h : t.check = 0) : t.great = false := by
  have hok := t.ok_iff.1 h
  have := hok.s20
  have := hok.v16
  unfold Town.great
  have a : ¬ 25 < t.ns := by omega
  have b : ¬ 20 < t.nv := by omega
  simp [a, b]
set_option maxHeartbeats 1000000 in
theorem great_c (w : World) (tv : Value) (t : Town) (ht : TownAt w tv t) : Calls Try.prog 15 #[tv] w fun e w' => e = .returned (.bool t.great) ∧ w.grows w' := by
  obtain ⟨sv, vv, rfl, ⟨sa, sc, rfl, s1, s2, -⟩, ⟨va, vc, rfl, v1, v2, -⟩⟩ := ht
  unfold maxLen at s2 v2
  go_enter Try.func15, Try.ntmps15
  by_cases h1 : 25 < t.ns
  · have h1' : (25 : Int) < t.ns := by omega
    go_wp2
    (refine bodyPost_ret (v := .bool true) (by simp [results, Try.results15, go_sem]) rfl ?_)
    exact ⟨by unfold Town.great; simp [h1], by (repeat (first | exact World.grows.refl _ | assumption | refine World.grows.alloc ?_ _ | refine World.grows.plus ?_ _ _ | refine World.grows.drew ?_))⟩
  · have h1' : ¬ (25 : Int) < t.ns := by omega
    by_cases h2 : 20 < t.nv
    · have h2' : (20 : Int) < t.nv := by omega
      go_wp2
      (refine bodyPost_ret (v := .bool true) (by simp [results, Try.results15, go_sem]) rfl ?_)
      exact ⟨by unfold Town.great; simp [h2], by (repeat (first | exact World.grows.refl _ | assumption | refine World.grows.alloc ?_ _ | refine World.grows.plus ?_ _ _ | refine World.grows.drew ?_))⟩
    · have h2' : ¬ (20 : Int) < t.nv := by omega
      go_wp2
      (refine bodyPost_ret (v := .bool false) (by simp [results, Try.results15, go_sem]) rfl ?_)
      exact ⟨by unfold Town.great; simp; omega, by (repeat (first | exact World.grows.refl _ | assumption | refine World.grows.alloc ?_ _ | refine World.grows.plus ?_ _ _ | refine World.grows.drew ?_))⟩
set_option maxHeartbeats 1000000 in
theorem fine_c (w : World) (tv : Value) (t : Town) (ht : TownAt w tv t) : Calls Try.prog 41 #[tv] w fun e w' => e = .returned (.bool (decide (t.check = 0))) ∧ w.grows w' := by
  have Ht := Lib.hid ht
  obtain ⟨sv, vv, rfl, ⟨sa, sc, rfl, -⟩, ⟨va, vc, rfl, -⟩⟩ := ht
  have h15 := fun W (g : w.grows W) => great_c W _ t (Ht.out.mono g)
  have h20 := fun W (g : w.grows W) => rcheck_c W _ t (Ht.out.mono g)
  have HG := Lib.hid (Town.great_ok (t := t))
  obtain ⟨C, hC⟩ : ∃ C : Nat, t.check = C := ⟨_, rfl⟩
  simp only [hC] at h20
  rw [hC] at HG ⊢
  clear hC
  cases hg : t.great with
  | true =>
    rw [hg] at h15 HG
    have hc : ¬ C = 0 := fun h => by have := HG.out h; cases this
    have HC := Lib.hid hc
    clear hg hc
    go_enter Try.func41, Try.ntmps41
    go_wp2_with (go_at_call 99; fail)
    refine (h15 _ (by (repeat (first | exact World.grows.refl _ | assumption | refine World.grows.alloc ?_ _ | refine World.grows.plus ?_ _ _ | refine World.grows.drew ?_)))).mono ?_
    rintro e w' ⟨rfl, g⟩
    obtain ⟨n2, x2, rfl⟩ := World.plus_of g
    clear h15 h20
    go_wp2
    (refine bodyPost_ret (v := .bool false) (by simp [results, Try.results41, go_sem]) rfl ?_)
    exact ⟨by rw [decide_eq_false HC.out], by (repeat (first | exact World.grows.refl _ | assumption | refine World.grows.alloc ?_ _ | refine World.grows.plus ?_ _ _ | refine World.grows.drew ?_))⟩
  | false =>
    rw [hg] at h15
    clear hg HG
    go_enter Try.func41, Try.ntmps41
    go_wp2_with (go_at_call 99; fail)
    refine (h15 _ (by (repeat (first | exact World.grows.refl _ | assumption | refine World.grows.alloc ?_ _ | refine World.grows.plus ?_ _ _ | refine World.grows.drew ?_)))).mono ?_
    rintro e w' ⟨rfl, g⟩
    obtain ⟨n2, x2, rfl⟩ := World.plus_of g
    clear h15
    go_wp2_with (go_at_call 99; fail)
    refine (h20 _ (by (repeat (first | exact World.grows.refl _ | assumption | refine World.grows.alloc ?_ _ | refine World.grows.plus ?_ _ _ | refine World.grows.drew ?_)))).mono ?_
    rintro e w' ⟨rfl, g⟩
    obtain ⟨n3, x3, rfl⟩ := World.plus_of g
    clear h20
    by_cases h : C = 0
    · subst h
      go_wp2
      (refine bodyPost_ret (v := .bool true) (by simp [results, Try.results41, go_sem]) rfl ?_)
      exact ⟨rfl, by (repeat (first | exact World.grows.refl _ | assumption | refine World.grows.alloc ?_ _ | refine World.grows.plus ?_ _ _ | refine World.grows.drew ?_))⟩
    · have h' : ¬ (C : Int) = 0 := by omega
      have HC := Lib.hid h
      clear h
      go_wp2
      (refine bodyPost_ret (v := .bool ((C : Int) == 0)) (by simp [results, Try.results41, go_sem]) rfl ?_)
      exact ⟨by
        have e : ((C : Int) == 0) = decide (C = 0) := by
          rw [decide_eq_false HC.out]
          simpa using HC.out
        rw [e], by (repeat (first | exact World.grows.refl _ | assumption | refine World.grows.alloc ?_ _ | refine World.grows.plus ?_ _ _ | refine World.grows.drew ?_))⟩
set_option maxHeartbeats 1000000 in
theorem all_c (w : World) (y : Nat) (t : Town) (slow : Bool) (hy : YardOf w y t slow) (hn : t.nv ≤ 16) : Calls Try.prog 70 #[.pointer (some ⟨y, 0, none⟩)] w fun e w' => e = .returned (.int .i64 ((2 ^ t.nv - 1 : Nat) : Int)) ∧ w.grows w' := by
  obtain ⟨sv, va, vc, h1, h2, h3, -⟩ := hy
  unfold maxLen at h3
  have c2 := h1.c2
  obtain ⟨N, hN⟩ : ∃ N, 2 ^ t.nv = N := ⟨_, rfl⟩
  have hN16 := pow_le16 hn
  have hN0 : 0 < N := by rw [← hN]; exact Nat.two_pow_pos _
  rw [hN] at hN16
  have hwz := shl_one hn hN
  obtain ⟨M, hM⟩ : ∃ M : Nat, N - 1 = M := ⟨_, rfl⟩
  have w1 : wrap64 ((N : Int) - 1) = M := by rw [wrap64_own' _ (by omega)]; omega
  rw [hN, hM]
  have hng : ¬ (t.nv : Int) < 0 := by omega
  clear h1 hN hN16 hN0 hM
  go_enter Try.func70, Try.ntmps70
  go_wp2
  go_ret
  exact ⟨rfl, by (repeat (first | exact World.grows.refl _ | assumption | refine World.grows.alloc ?_ _ | refine World.grows.plus ?_ _ _ | refine World.grows.drew ?_))⟩
end Go.Proofs.Ytaanbdjmibjcbaa

/-
  What is proved: the program's check of a plan (28).
-/
namespace Go.Proofs.Ytaanbdjmibjcbaa
open Go.RowKit
attribute [local irreducible] Go.wpCalm rowI
/-- the error of a plan of a town -/
def planX (t : Town) (slow : Bool) (P : List (List Int)) : Nat := if t.check ≠ 0 then t.check else planE (aft t slow) t.nv (anyLate t slow) P
def planN (t : Town) (slow : Bool) (P : List (List Int)) : Nat := if planX t slow P = 0 then P.length else 0
theorem rowC_get {A : Nat → Nat → Bool} : ∀ {c : List Int}, rowC A c = true ↔ ∀ j, j + 1 < c.length → A (c.getD j 0).toNat (c.getD (j + 1) 0).toNat = true
  | [] => by simp [rowC]
  | [_] => by simp [rowC]
  | a :: b :: r => by
    have ih := rowC_get (A := A) (c := b :: r)
    simp only [rowC, Bool.and_eq_true]
    rw [ih]
    constructor
    · rintro ⟨h1, h2⟩ j hj
      cases j with
      | zero => simpa using h1
      | succ j =>
        have := h2 j (by simp only [List.length_cons] at hj ⊢; omega)
        simpa using this
    · intro h
      refine ⟨by simpa using h 0 (by simp), fun j hj => ?_⟩
      have := h (j + 1) (by simp only [List.length_cons] at hj ⊢; omega)
      simpa using this
theorem ret_plan {a b c d : Nat} (h : a = c) (h2 : b = d) : (Ending.returned (.tuple #[.int .i64 (a : Int), .int .i64 (b : Int)])) = .returned (.tuple #[.int .i64 (c : Int), .int .i64 (d : Int)]) := by rw [h, h2]
theorem mem_getD {P : List (List Int)} {i j : Nat} (hi : i < P.length) (hj : j < (P.getD i []).length) : (P.getD i []).getD j 0 ∈ P.flatten := by
  rw [List.mem_flatten]
  refine ⟨P.getD i [], ?_, ?_⟩
  · rw [List.getD_eq_getElem?_getD, List.getElem?_eq_getElem hi]; exact List.getElem_mem hi
  · generalize P.getD i [] = c at hj
    rw [List.getD_eq_getElem?_getD, List.getElem?_eq_getElem hj]; exact List.getElem_mem hj
set_option maxRecDepth 100000 in
set_option maxHeartbeats 4000000 in
theorem checkPlan_c (w : World) (tv pv : Value) (t : Town) (slow : Bool) (ht : TownAt w tv t) (P : List (List Int)) (hp : PlanAt w pv P) (hF : P.flatten.length ≤ 1000000) (hm : P.length ≤ 1000000) : Calls Try.prog 28 #[tv, pv, .bool slow] w fun e w' => e = .returned (.tuple #[.int .i64 (planN t slow P : Nat), .int .i64 (planX t slow P : Nat)]) ∧ w.grows w' := by
  have Ht := Lib.hid ht
  obtain ⟨sv, vv, rfl, ⟨sa, sc, rfl, -⟩, ⟨va, vc, rfl, -⟩⟩ := ht
  have HP := Lib.hid hp
  obtain ⟨_, ⟨pa, pc, rfl, p1, p2, -⟩, -⟩ := hp
  unfold maxLen at p2
  have HF := Lib.hid hF
  by_cases hc : t.check = 0
  case neg =>
    have HR : Hid (planX t slow P = t.check) := Lib.hid (by unfold planX; rw [if_pos hc])
    obtain ⟨C, hC⟩ : ∃ C : Nat, t.check = C := ⟨_, rfl⟩
    have h48 := fun W (g : w.grows W) => open_bad W _ t slow (Ht.out.mono g) hc
    rw [hC] at hc HR
    simp only [hC] at h48
    have hc0 : ¬ (C : Int) = 0 := by omega
    go_enter Try.func28, Try.ntmps28
    go_wp2_with (go_at_call 99; fail)
    refine (h48 _ (by (repeat (first | exact World.grows.refl _ | assumption | refine World.grows.alloc ?_ _ | refine World.grows.plus ?_ _ _ | refine World.grows.drew ?_)))).mono ?_
    rintro e w' ⟨rfl, hg⟩
    have gW : w.grows w' := World.grows.trans (by (repeat (first | exact World.grows.refl _ | assumption | refine World.grows.alloc ?_ _ | refine World.grows.plus ?_ _ _ | refine World.grows.drew ?_))) hg
    clear h48 hC hg hF
    go_wp2
    (refine bodyPost_ret (v := .tuple #[.int .i64 0, .int .i64 (C : Int)]) (by simp [results, Try.results28, go_sem]) rfl ?_)
    exact ⟨ret_plan (a := 0) (by unfold planN; rw [HR.out, if_neg hc]) HR.out.symm, gW.trans (by (repeat (first | exact World.grows.refl _ | assumption | refine World.grows.alloc ?_ _ | refine World.grows.plus ?_ _ _ | refine World.grows.drew ?_)))⟩
  have hE : Hid (planX t slow P = planE (aft t slow) t.nv (anyLate t slow) P) := Lib.hid (by unfold planX; rw [if_neg (by omega)])
  have Hok := Lib.hid (t.ok_iff.1 hc)
  have h48 := fun W (g : w.grows W) => open_ok W _ t slow (Ht.out.mono g) Hok.out
  clear hc hF
  go_enter Try.func28, Try.ntmps28
  go_wp2_with (go_at_call 99; fail)
  refine (h48 _ (by (repeat (first | exact World.grows.refl _ | assumption | refine World.grows.alloc ?_ _ | refine World.grows.plus ?_ _ _ | refine World.grows.drew ?_)))).mono ?_
  rintro e W ⟨y, rfl, g, hlt, hY⟩
  have gW : w.grows W := World.grows.trans (by (repeat (first | exact World.grows.refl _ | assumption | refine World.grows.alloc ?_ _ | refine World.grows.plus ?_ _ _ | refine World.grows.drew ?_))) g
  have HY := Lib.hid hY
  replace HP := Lib.hid (HP.out.mono gW)
  have ct : W.cell? ⟨w.heap.size, 2, none⟩ = some (.slice va t.nv vc) := g.cell_of (by simp [go_sem])
  have HCT := Lib.hid ct
  clear hY g hlt h48 ct
  obtain ⟨m, hmm⟩ : ∃ m, P.length = m := ⟨_, rfl⟩
  have HM := Lib.hid hmm
  rw [hmm] at HP p1 hm ⊢
  clear hmm
  obtain ⟨row, hs, hrow⟩ := HP.out
  have h67 := fun (V : World) (hV : W.grows V) (bx : Nat) (hbx : V.cell? ⟨bx, 0, none⟩ = some (.pointer (some ⟨y, 0, none⟩))) => has67 V (.slice pa m pc) P.length (fun i _ => row i) 68 #[.pointer (some ⟨bx, 0, none⟩)] (fun i => badC t.nv (P.getD i [])) (by rw [HM.out] at hs ⊢; exact hs.mono hV) (fun args w => by simp [go_sem]) (fun i hi U hU => c68 U y bx t slow (HY.out.mono (hV.trans hU)) (hU.cell_of hbx) (row i) (P.getD i []) (IntsAt.mono (hrow i hi) (hV.trans hU)))
  simp only [any_getDL] at h67
  have HRow := Lib.hid hrow
  have HS := Lib.hid hs
  clear hs hrow HP
  cases hq : P.any (badC t.nv) with
  | true =>
    have HR : Hid (planX t slow P = 3) := Lib.hid (by rw [hE.out]; unfold planE; rw [if_pos hq])
    simp only [hq] at h67
    clear hq
    go_wp2_with (go_at_call 67; refine (h67 _ (by (repeat (first | exact World.grows.refl _ | assumption | refine World.grows.alloc ?_ _ | refine World.grows.plus ?_ _ _ | refine World.grows.drew ?_))) _ (by simp [go_sem])).mono ?_; rintro e W2 ⟨rfl, g2⟩)
    (refine bodyPost_ret (v := .tuple #[.int .i64 0, .int .i64 3]) (by simp [results, Try.results28, go_sem]) rfl ?_)
    exact ⟨ret_plan (a := 0) (b := 3) (by unfold planN; rw [HR.out]; rfl) HR.out.symm, gW.trans (World.grows.trans (by (repeat (first | exact World.grows.refl _ | assumption | refine World.grows.alloc ?_ _ | refine World.grows.plus ?_ _ _ | refine World.grows.drew ?_))) g2)⟩
  | false =>
    have hV : ∀ x ∈ P.flatten, isV t.nv x = true := fun x hx => by
      obtain ⟨c, hc, hxc⟩ := List.mem_flatten.1 hx
      have h1 := (List.any_eq_false.1 hq) c hc
      unfold badC at h1
      cases hv : isV t.nv x
      · exact absurd (by rw [Bool.or_eq_true]; exact .inr (List.any_eq_true.2 ⟨x, hxc, by rw [hv]; rfl⟩)) h1
      · rfl
    have hNe : ∀ i, i < P.length → 0 < (P.getD i []).length := fun i hi => by
      have hc : P.getD i [] ∈ P := by rw [List.getD_eq_getElem?_getD, List.getElem?_eq_getElem hi]; exact List.getElem_mem hi
      have h1 := (List.any_eq_false.1 hq) _ hc
      generalize P.getD i [] = c at h1
      cases c with
      | nil => exact absurd rfl h1
      | cons a r => simp
    have HV := Lib.hid hV
    have HNe := Lib.hid hNe
    have hE2 : Hid (planX t slow P = if onceP t.nv P then (if anyLate t slow then 12 else if P.all (rowC (aft t slow)) then 0 else 16) else 15) := Lib.hid (by rw [hE.out]; unfold planE; rw [hq]; rfl)
    simp only [hq] at h67
    clear hq hV hNe hE
    go_upto_region 4 with fail
    obtain ⟨bx, hbx⟩ : ∃ bx, W.heap.size = bx := ⟨_, rfl⟩
    obtain ⟨V0, hV0⟩ : ∃ V0, V0 = W.alloc (.cells #[.pointer (some ⟨y, 0, none⟩)] 75) := ⟨_, rfl⟩
    have gV : W.grows V0 := by rw [hV0]; (repeat (first | exact World.grows.refl _ | assumption | refine World.grows.alloc ?_ _ | refine World.grows.plus ?_ _ _ | refine World.grows.drew ?_))
    have cb : V0.cell? ⟨bx, 0, none⟩ = some (.pointer (some ⟨y, 0, none⟩)) := by rw [hV0, ← hbx]; simp [go_sem]
    rw [← hV0]
    simp only [hbx]
    clear hV0 hbx
    replace h67 := h67 V0 gV bx cb
    go_wp2_with (go_at_call 99; fail)
    refine h67.mono ?_
    rintro e W2 ⟨rfl, g2⟩
    replace gV := gV.trans g2
    replace cb := g2.cell_of cb
    clear g2 h67
    have h69 := fun (V : World) (hV : W2.grows V) => concat_c V (.slice pa m pc) P ⟨row, by have h := HS.out.mono (gV.trans hV); rw [HM.out] at h ⊢; exact h, fun i hi => IntsAt.mono (HRow.out i hi) (gV.trans hV)⟩ HF.out
    go_wp2_with (go_at_call 99; fail)
    refine (h69 _ (World.grows.refl _)).mono ?_
    rintro e W3 ⟨v, rfl, g3, hown⟩
    clear h69
    replace gV := gV.trans g3
    replace cb := g3.cell_of cb
    have hflat := hown.rowAt rfl
    obtain ⟨fa, fc, rfl, f1, f2⟩ := row_form hown
    unfold maxLen at f2
    have hv16 : ∀ i, i < P.flatten.length → ∃ a : Nat, P.flatten.getD i 0 = (a : Int) ∧ a < t.nv := fun i hi => by
      have h := HV.out (P.flatten.getD i 0) (by rw [List.getD_eq_getElem?_getD, List.getElem?_eq_getElem hi]; exact List.getElem_mem hi)
      simp only [Bool.and_eq_true, isV, decide_eq_true_eq] at h
      exact ⟨(P.flatten.getD i 0).toNat, by omega, by omega⟩
    have h16 := Hok.out.v16
    have h62 := fun V (g : W3.grows V) => bits_c V _ P.flatten.length (fun i => P.flatten.getD i 0) (fun i => (P.flatten.getD i 0).toNat) (IntsAt.mono hflat g) (fun i hi => by obtain ⟨a, ha, hb⟩ := hv16 i hi; rw [ha, Int.toNat_natCast]) (fun i hi => by obtain ⟨a, ha, hb⟩ := hv16 i hi; show (P.flatten.getD i 0).toNat < 16; rw [ha, Int.toNat_natCast]; omega)
    have h70 := fun V (g : W3.grows V) => all_c V y t slow (HY.out.mono (gV.trans g)) h16
    have HOn : Hid (onceP t.nv P = true ↔ P.flatten.length = t.nv ∧ orB (fun i => (P.flatten.getD i 0).toNat) P.flatten.length = 2 ^ t.nv - 1) := Lib.hid (by rw [once_iff HV.out, orB_all HV.out])
    obtain ⟨O, hO⟩ : ∃ O, orB (fun i => (P.flatten.getD i 0).toNat) P.flatten.length = O := ⟨_, rfl⟩
    rw [hO] at HOn
    simp only [hO] at h62
    obtain ⟨N, hN⟩ : ∃ N, 2 ^ t.nv - 1 = N := ⟨_, rfl⟩
    rw [hN] at HOn
    simp only [hN] at h70
    obtain ⟨T, hT⟩ : ∃ T, P.flatten.length = T := ⟨_, rfl⟩
    rw [hT] at HOn f1 h62 ⊢
    have hT6 := HF.out
    rw [hT] at hT6
    have HT := Lib.hid hT
    clear hO hN hT hflat hown hv16 g3
    replace h62 := fun n x => h62 (W3.plus n x) (by (repeat (first | exact World.grows.refl _ | assumption | refine World.grows.alloc ?_ _ | refine World.grows.plus ?_ _ _ | refine World.grows.drew ?_)))
    replace h70 := fun n x => h70 (W3.plus n x) (by (repeat (first | exact World.grows.refl _ | assumption | refine World.grows.alloc ?_ _ | refine World.grows.plus ?_ _ _ | refine World.grows.drew ?_)))
    have ct := gV.cell_of HCT.out
    by_cases hTn : T = t.nv
    case neg =>
      have hTI : ¬ (T : Int) = t.nv := by omega
      have HR : Hid (planX t slow P = 15) := Lib.hid (by
        rw [hE2.out, if_neg]
        exact fun h => hTn (HOn.out.1 h).1)
      clear h62 h70
      go_upto_region 7 with fail
      (refine wp_region_calm (by kernel_rfl) (by kernel_rfl) ?_; (repeat (refine wpCalm_step (fun K hK => ?_); go_simp; first | (refine hK _ ?_; clear hK K) | (apply Exists.intro; refine ⟨fun n' x' => ?_, hK _ ?_⟩; (fail); clear hK K))); refine wpCalm_nil ?_; intro nq xq)
      go_wp2
      (refine bodyPost_ret (v := .tuple #[.int .i64 0, .int .i64 15]) (by simp [results, Try.results28, go_sem]) rfl ?_)
      exact ⟨ret_plan (a := 0) (b := 15) (by unfold planN; rw [HR.out]; rfl) HR.out.symm, gW.trans (gV.trans (by (repeat (first | exact World.grows.refl _ | assumption | refine World.grows.alloc ?_ _ | refine World.grows.plus ?_ _ _ | refine World.grows.drew ?_))))⟩
    subst hTn
    by_cases hON : O = N
    case neg =>
      have hOI : ¬ (O : Int) = N := by omega
      have HR : Hid (planX t slow P = 15) := Lib.hid (by
        rw [hE2.out, if_neg]
        exact fun h => hON (HOn.out.1 h).2)
      go_upto_region 7 with fail
      (refine wp_region_calm (by kernel_rfl) (by kernel_rfl) ?_; (repeat (refine wpCalm_step (fun K hK => ?_); go_simp; first | (refine hK _ ?_; clear hK K) | (apply Exists.intro; refine ⟨fun n' x' => ?_, hK _ ?_⟩; (first | with_reducible exact h62 _ _ | with_reducible exact h70 _ _); clear hK K))); refine wpCalm_nil ?_; intro nq xq)
      clear h62 h70
      go_wp2
      (refine bodyPost_ret (v := .tuple #[.int .i64 0, .int .i64 15]) (by simp [results, Try.results28, go_sem]) rfl ?_)
      exact ⟨ret_plan (a := 0) (b := 15) (by unfold planN; rw [HR.out]; rfl) HR.out.symm, gW.trans (gV.trans (by (repeat (first | exact World.grows.refl _ | assumption | refine World.grows.alloc ?_ _ | refine World.grows.plus ?_ _ _ | refine World.grows.drew ?_))))⟩
    subst hON
    have hE3 : Hid (planX t slow P = if anyLate t slow then 12 else if P.all (rowC (aft t slow)) then 0 else 16) := Lib.hid (by rw [hE2.out, if_pos (HOn.out.2 ⟨rfl, rfl⟩)])
    go_upto_region 7 with fail
    (refine wp_region_calm (by kernel_rfl) (by kernel_rfl) ?_; (repeat (refine wpCalm_step (fun K hK => ?_); go_simp; first | (refine hK _ ?_; clear hK K) | (apply Exists.intro; refine ⟨fun n' x' => ?_, hK _ ?_⟩; (first | with_reducible exact h62 _ _ | with_reducible exact h70 _ _); clear hK K))); refine wpCalm_nil ?_; intro nq xq)
    clear h62 h70 ct
    have g4 : W3.grows (W3.plus nq xq) := by (repeat (first | exact World.grows.refl _ | assumption | refine World.grows.alloc ?_ _ | refine World.grows.plus ?_ _ _ | refine World.grows.drew ?_))
    replace gV := gV.trans g4
    replace cb := g4.cell_of cb
    generalize W3.plus nq xq = W4 at gV cb ⊢
    go_wp2_with (go_at_call 99; fail)
    refine (late_c _ y t slow (HY.out.mono gV) Hok.out).mono ?_
    rintro e W5 ⟨v, rfl, g5, hL⟩
    replace gV := gV.trans g5
    replace cb := g5.cell_of cb
    obtain ⟨la, lc, rfl, -⟩ := hL
    have HA := Lib.hid (anyLate_iff t slow)
    obtain ⟨L, hL⟩ : ∃ L, (filtL (lateV t slow) t.nv).length = L := ⟨_, rfl⟩
    rw [hL] at HA ⊢
    clear g5 hL g4 HOn hE2
    by_cases hL0 : 0 < L
    · have hLI : (0 : Int) < L := by omega
      have HR : Hid (planX t slow P = 12) := Lib.hid (by rw [hE3.out, if_pos (HA.out.2 hL0)])
      clear hL0
      go_wp2
      (refine bodyPost_ret (v := .tuple #[.int .i64 0, .int .i64 12]) (by simp [results, Try.results28, go_sem]) rfl ?_)
      exact ⟨ret_plan (a := 0) (b := 12) (by unfold planN; rw [HR.out]; rfl) HR.out.symm, gW.trans (gV.trans (by (repeat (first | exact World.grows.refl _ | assumption | refine World.grows.alloc ?_ _ | refine World.grows.plus ?_ _ _ | refine World.grows.drew ?_))))⟩
    have hLI : ¬ (0 : Int) < L := by omega
    have hE4 : Hid (planX t slow P = if P.all (rowC (aft t slow)) then 0 else 16) := Lib.hid (by rw [hE3.out, if_neg (fun h => hL0 (HA.out.1 h))])
    have HGV := Lib.hid gV
    have HGW := Lib.hid gW
    have HCB := Lib.hid cb
    have hLd : decide (0 < L) = false := decide_eq_false hL0
    clear hL0 HA hE3 gV gW cb
    go_wp2
    clear hLI hLd
    go_loopw [52] (fun i wr => ∃ k : Nat, k ≤ m ∧ i = .int .i64 k ∧ Hid (W5.grows wr) ∧ Hid (∀ j, j < k → rowC (aft t slow) (P.getD j []) = true)) (fun i _ => m - (intOf i).toNat)
    case atStart => exact ⟨0, by omega, rfl, Lib.hid (World.grows.refl _), Lib.hid fun j hj => by omega⟩
    case round =>
      obtain ⟨k, hk, rfl, hg, hall⟩ := hrel
      by_cases hlt : k < m
      · have hkP : k < P.length := by rw [HM.out]; exact hlt
        obtain ⟨_, _, e, -, -, hcell⟩ := HS.out
        cases e
        obtain ⟨b, o, rfl, c0⟩ := hcell k 0 hkP (by omega)
        simp only [Nat.mul_one, Nat.add_zero] at c0
        replace c0 := hg.out.cell_of (HGV.out.cell_of c0)
        have hrk := IntsAt.mono (HRow.out k hkP) HGV.out
        have hne := HNe.out k hkP
        have HIV : Hid (∀ j, j < (P.getD k []).length → ∃ a : Nat, (P.getD k []).getD j 0 = (a : Int) ∧ a < t.nv) := Lib.hid fun j hj => by
          have h := HV.out _ (mem_getD hkP hj)
          simp only [Bool.and_eq_true, isV, decide_eq_true_eq] at h
          exact ⟨((P.getD k []).getD j 0).toNat, by omega, by omega⟩
        have HRC : Hid (rowC (aft t slow) (P.getD k []) = true ↔ ∀ j, j + 1 < (P.getD k []).length → aft t slow ((P.getD k []).getD j 0).toNat ((P.getD k []).getD (j + 1) 0).toNat = true) := Lib.hid rowC_get
        have HBad : Hid (rowC (aft t slow) (P.getD k []) = false → planX t slow P = 16) := Lib.hid fun h => by
          rw [hE4.out, if_neg]
          intro h2
          have h3 := (List.all_eq_true.1 h2) (P.getD k []) (by rw [List.getD_eq_getElem?_getD, List.getElem?_eq_getElem hkP]; exact List.getElem_mem hkP)
          rw [h] at h3; cases h3
        have HC : Hid (∀ l, P.getD k [] = l → rowC (aft t slow) l = true → rowC (aft t slow) (P.getD k []) = true) := Lib.hid fun l e h => by rw [e]; exact h
        obtain ⟨c, hc⟩ : ∃ c, P.getD k [] = c := ⟨_, rfl⟩
        rw [hc] at hrk hne HIV HRC HBad
        have HCe := Lib.hid hc
        obtain ⟨ra, rcap, hre, r1, r2, hrc⟩ := hrk
        unfold maxLen at r2
        rw [hre] at c0
        have hrc' := hrc 0 0 hne (by omega)
        obtain ⟨rb, ro, rfl, -⟩ := hrc'
        have HX : Hid (∀ j, j < c.length → W5.cell? ⟨rb, ro + j, none⟩ = some (.int .i64 (c.getD j 0))) := Lib.hid fun j hj => by
          obtain ⟨_, _, e, h⟩ := hrc j 0 hj (by omega)
          cases e
          simpa using h
        obtain ⟨M, hM⟩ : ∃ M, c.length = M + 1 := ⟨c.length - 1, by omega⟩
        obtain ⟨L1, hL1⟩ : ∃ L1, c.length = L1 := ⟨_, rfl⟩
        have HLM : Hid (L1 = M + 1) := Lib.hid (by omega)
        rw [hL1] at HIV HRC HX r1 c0 hM
        have h1L : (1 : Int) ≤ (L1 : Int) := by omega
        have hLc : (L1 : Int) ≤ rcap := by omega
        have h1c : (1 : Int) ≤ rcap := by omega
        have hLM : L1 - 1 = M := by omega
        clear hc hrc hre hne HC hL1 hcell hkP hM
        have hcrow := HX.out
        by_cases hrc1 : rcap = 1
        · have hL1 : L1 = 1 := by have := HLM.out; omega
          subst hL1
          have hM0 : M = 0 := by have := HLM.out; omega
          subst hM0
          have HA : Hid (∀ j, j < k + 1 → rowC (aft t slow) (P.getD j []) = true) := Lib.hid (upto_succ hall.out (by rw [HCe.out]; exact HRC.out.2 fun j hj => by omega))
          clear hcrow
          go_upto_region 15 with fail
          refine wp_loop_rounds 1 ?_
          rw [rounds_succ]
          go_wp2
          case roundEnd => exact ⟨⟨k + 1, by omega, by go_num, hg, HA⟩, by simp [intOf]; omega⟩
        · clear hcrow
          go_upto_region 15 with fail
          clear c0
          go_loopw [59] (fun i wr2 => ∃ j : Nat, j ≤ M ∧ i = .int .i64 j ∧ Hid (wr.grows wr2) ∧ Hid (∀ x, x < j → aft t slow (c.getD x 0).toNat (c.getD (x + 1) 0).toNat = true)) (fun i _ => M - (intOf i).toNat)
          case atStart => exact ⟨0, by omega, rfl, Lib.hid (World.grows.refl _), Lib.hid fun x hx => by omega⟩
          case round =>
            obtain ⟨j, hj, rfl, hg2, hin⟩ := hrel
            by_cases hjM : j < M
            · obtain ⟨A, hA, hAn⟩ := HIV.out j (by have := HLM.out; omega)
              obtain ⟨B, hB, hBn⟩ := HIV.out (j + 1) (by have := HLM.out; omega)
              have d0 := HX.out j (by have := HLM.out; omega)
              have d1 := HX.out (j + 1) (by have := HLM.out; omega)
              rw [hA] at d0
              rw [hB, show ro + (j + 1) = ro + 1 + j by omega] at d1
              have HAB := Lib.hid (And.intro hA hB)
              have g5 := hg.out.trans hg2.out
              replace d0 := g5.cell_of d0
              replace d1 := g5.cell_of d1
              have cb := g5.cell_of HCB.out
              obtain ⟨sv2, va2, vc2, hy, -, -⟩ := (HY.out.mono (HGV.out.trans g5)).at
              have ca := hy.aft (show A < 16 by omega)
              obtain ⟨X, hX⟩ : ∃ X, bitsN (aft t slow A) t.nv = X := ⟨_, rfl⟩
              have hXl : X < 65536 := by rw [← hX]; exact bitsN_lt h16
              have hXb : X.testBit B = aft t slow A B := by rw [← hX, bitsN_bit, decide_eq_true hBn]; rfl
              rw [show aftF t slow t.nv A = (X : Int) by unfold aftF; rw [if_pos hAn, hX]] at ca
              obtain ⟨N, hN⟩ : ∃ N, 2 ^ B = N := ⟨_, rfl⟩
              have HN := Lib.hid hN
              have hB16 : B < 16 := by omega
              have hA16 : (A : Int) < 16 := by omega
              have hjI : (j : Int) < M := by omega
              have hjL : (j : Int) < L1 := by have := HLM.out; omega
              have hr : ∀ r, aft t slow A B = r → Hid (aft t slow (c.getD j 0).toNat (c.getD (j + 1) 0).toNat = r) := fun r h => Lib.hid (by rw [HAB.out.1, HAB.out.2, Int.toNat_natCast, Int.toNat_natCast]; exact h)
              cases hr0 : aft t slow A B with
              | true =>
                obtain ⟨hand, hN0⟩ := bits_on hXl (by omega) hN (by rw [hXb, hr0])
                have HA : Hid (∀ x, x < j + 1 → aft t slow (c.getD x 0).toNat (c.getD (x + 1) 0).toNat = true) := Lib.hid (upto_succ hin.out (hr true hr0).out)
                clear hX hXl hXb hN hr hr0 hy hA hB g5
                go_upto_region 17 with fail
                (refine wp_region_chain 14 [10, 11, 12, 13] (by kernel_rfl) (by kernel_rfl) (by decide) ?_; simp only [without, only, withNo, List.take_succ_cons, List.take_zero, List.drop_succ_cons, List.drop_zero, List.take_nil, List.drop_nil, Nat.reduceAdd, Nat.reduceSub, List.filter, List.contains_cons, List.contains_nil, Nat.reduceBEq, Bool.or_false, Bool.false_or, Bool.true_or, Bool.or_true, Bool.or_self, Bool.not_true, Bool.not_false, List.map_cons, List.map_nil]; (repeat (refine wpCalm_step (fun K hK => ?_); go_simp; first | (refine hK _ ?_; clear hK K) | (apply Exists.intro; refine ⟨fun n' x' => ?_, hK _ ?_⟩; (fail); clear hK K))); refine wpCalm_nil ?_)
                ((refine wpChain_step (fun K hK nc xc => ?_); go_simp); refine ⟨by (repeat (first | exact World.grows.refl _ | assumption | refine World.grows.alloc ?_ _ | refine World.grows.plus ?_ _ _ | refine World.grows.drew ?_)), hK _ _ ?_⟩; clear hK K; (refine wpChain_step (fun K hK nc xc => ?_); go_simp); refine (bit_c _ _ B (by omega) (SliceAt.mono (one_slice _ _ _ _ (by simp)) (World.grows_plus _ _ _)) HN.out).mono ?_; rintro e W9 ⟨rfl, g⟩; refine ⟨_, rfl, g, hK _ _ ?_⟩; clear hK K; have g3 : (wr).grows W9 := World.grows.trans (by (repeat (first | exact World.grows.refl _ | assumption | refine World.grows.alloc ?_ _ | refine World.grows.plus ?_ _ _ | refine World.grows.drew ?_))) g; clear g)
                ((refine wpChain_step (fun K hK nc xc => ?_); go_simp); refine ⟨World.grows.refl _, hK _ _ ?_⟩; clear hK K)
                ((refine wpChain_step (fun K hK nc xc => ?_); go_simp); refine ⟨World.grows.refl _, hK _ _ ?_⟩; clear hK K)
                (refine wpChain_nil (fun nc xc => ?_))
                go_wp2
                case roundEnd => exact ⟨⟨j + 1, by omega, by go_num, Lib.hid (hg2.out.trans (g3.trans (by (repeat (first | exact World.grows.refl _ | assumption | refine World.grows.alloc ?_ _ | refine World.grows.plus ?_ _ _ | refine World.grows.drew ?_))))), HA⟩, by simp [intOf]; omega⟩
              | false =>
                have hand := bits_off hXl (by omega) hN (by rw [hXb, hr0])
                have HR : Hid (planX t slow P = 16) := Lib.hid (HBad.out (by
                  cases hrc : rowC (aft t slow) c
                  · rfl
                  · have h := HRC.out.1 hrc j (by have := HLM.out; omega)
                    rw [(hr false hr0).out] at h; cases h))
                clear hX hXl hXb hN hr hr0 hy hA hB
                go_upto_region 17 with fail
                (refine wp_region_chain 14 [10, 11, 12, 13] (by kernel_rfl) (by kernel_rfl) (by decide) ?_; simp only [without, only, withNo, List.take_succ_cons, List.take_zero, List.drop_succ_cons, List.drop_zero, List.take_nil, List.drop_nil, Nat.reduceAdd, Nat.reduceSub, List.filter, List.contains_cons, List.contains_nil, Nat.reduceBEq, Bool.or_false, Bool.false_or, Bool.true_or, Bool.or_true, Bool.or_self, Bool.not_true, Bool.not_false, List.map_cons, List.map_nil]; (repeat (refine wpCalm_step (fun K hK => ?_); go_simp; first | (refine hK _ ?_; clear hK K) | (apply Exists.intro; refine ⟨fun n' x' => ?_, hK _ ?_⟩; (fail); clear hK K))); refine wpCalm_nil ?_)
                ((refine wpChain_step (fun K hK nc xc => ?_); go_simp); refine ⟨by (repeat (first | exact World.grows.refl _ | assumption | refine World.grows.alloc ?_ _ | refine World.grows.plus ?_ _ _ | refine World.grows.drew ?_)), hK _ _ ?_⟩; clear hK K; (refine wpChain_step (fun K hK nc xc => ?_); go_simp); refine (bit_c _ _ B (by omega) (SliceAt.mono (one_slice _ _ _ _ (by simp)) (World.grows_plus _ _ _)) HN.out).mono ?_; rintro e W9 ⟨rfl, g⟩; refine ⟨_, rfl, g, hK _ _ ?_⟩; clear hK K; have g3 : (wr).grows W9 := World.grows.trans (by (repeat (first | exact World.grows.refl _ | assumption | refine World.grows.alloc ?_ _ | refine World.grows.plus ?_ _ _ | refine World.grows.drew ?_))) g; clear g)
                ((refine wpChain_step (fun K hK nc xc => ?_); go_simp); refine ⟨World.grows.refl _, hK _ _ ?_⟩; clear hK K)
                ((refine wpChain_step (fun K hK nc xc => ?_); go_simp); refine ⟨World.grows.refl _, hK _ _ ?_⟩; clear hK K)
                (refine wpChain_nil (fun nc xc => ?_))
                go_wp2
                (refine bodyPost_ret (v := .tuple #[.int .i64 0, .int .i64 16]) (by simp [results, Try.results28, go_sem]) rfl ?_)
                exact ⟨ret_plan (a := 0) (b := 16) (by unfold planN; rw [HR.out]; rfl) HR.out.symm, HGW.out.trans (HGV.out.trans (g5.trans (g3.trans (by (repeat (first | exact World.grows.refl _ | assumption | refine World.grows.alloc ?_ _ | refine World.grows.plus ?_ _ _ | refine World.grows.drew ?_))))))⟩
            · have hje : j = M := by omega
              subst hje
              have HA : Hid (∀ x, x < k + 1 → rowC (aft t slow) (P.getD x []) = true) := Lib.hid (upto_succ hall.out (by rw [HCe.out]; exact HRC.out.2 fun x hx => hin.out x (by have := HLM.out; omega)))
              go_wp2
              case roundEnd => exact ⟨⟨k + 1, by omega, by go_num, Lib.hid (hg.out.trans hg2.out), HA⟩, by simp [intOf]; omega⟩
      · have hke : k = m := by omega
        subst hke
        have HR : Hid (planX t slow P = 0) := Lib.hid (by
          rw [hE4.out, if_pos]
          rw [List.all_eq_true]
          intro c hc
          obtain ⟨i, hi, rfl⟩ := List.mem_iff_getElem.1 hc
          have := hall.out i (by rw [← HM.out]; exact hi)
          rw [List.getD_eq_getElem?_getD, List.getElem?_eq_getElem hi] at this
          exact this)
        go_wp2
        (refine bodyPost_ret (v := .tuple #[.int .i64 (k : Nat), .int .i64 0]) (by simp [results, Try.results28, go_sem]) rfl ?_)
        exact ⟨ret_plan (b := 0) (by unfold planN; rw [HR.out, if_pos rfl, HM.out]) HR.out.symm, HGW.out.trans (HGV.out.trans (hg.out.trans (by (repeat (first | exact World.grows.refl _ | assumption | refine World.grows.alloc ?_ _ | refine World.grows.plus ?_ _ _ | refine World.grows.drew ?_)))))⟩
end Go.Proofs.Ytaanbdjmibjcbaa

/-
  What is proved: how many visits can come right after others, in the definition (96, 77).
-/
namespace Go.Proofs.Ytaanbdjmibjcbaa
open Go.RowKit
attribute [local irreducible] Go.wpCalm rowI

/-- the list says which can come after which -/
def CanA (w : World) (v : Value) (A : Nat → Nat → Bool) (n : Nat) : Prop := ∃ (cb cc : Nat) (f : Nat → Int), v = .slice (some ⟨cb, 0, none⟩) 256 cc ∧ 256 ≤ cc ∧ cc ≤ maxLen ∧ (∀ x, x < 256 → w.cell? ⟨cb, x, none⟩ = some (.int .i64 (f x))) ∧ ∀ i k, i < n → k < n → f (16 * i + k) = if A i k then 1 else 0
theorem CanA.mono {w w' : World} {v : Value} {A : Nat → Nat → Bool} {n : Nat} (h : CanA w v A n) (g : w.grows w') : CanA w' v A n := by
  obtain ⟨cb, cc, f, h1, h2, h3, h4, h5⟩ := h
  exact ⟨cb, cc, f, h1, h2, h3, fun x hx => g.cell_of (h4 x hx), h5⟩
/-- what a call of joined does -/
def JoinedC (cb cc bb n : Nat) (f : Nat → Int) (A : Nat → Nat → Bool) (d : Nat) : Prop := ∀ (W : World) (g : Nat → Int) (v x : Nat), n - v ≤ d → v ≤ n → x < 2 ^ n → (∀ y, y < 256 → W.cell? ⟨cb, y, none⟩ = some (.int .i64 (f y))) → W.heap[bb]? = some (.cells (rowI ((n + 1) * 2 ^ n) g) 3) → Tab A n g →
  Calls Try.prog 96 #[.slice (some ⟨cb, 0, none⟩) 256 cc, .int .i64 (n : Nat), .int .i64 (v : Nat), .int .i64 (x : Nat), .slice (some ⟨bb, 0, none⟩) ((n + 1) * 2 ^ n : Nat) ((n + 1) * 2 ^ n : Nat)] W fun e W' => ∃ g', e = .returned (.int .i64 ((jT A n v x : Nat) : Int)) ∧ Tab A n g' ∧ (W.putObj bb (.cells (rowI ((n + 1) * 2 ^ n) g') 3)).grows W'
theorem shr_cast (s k : Nat) : ((s : Int) / 2 ^ k) = ((s / 2 ^ k : Nat) : Int) := by simp
theorem testBit_div (s k : Nat) : s / 2 ^ k % 2 = if s.testBit k = true then 1 else 0 := by
  rw [Nat.testBit_eq_decide_div_mod_eq]
  have := Nat.mod_two_eq_zero_or_one (s / 2 ^ k)
  rcases this with h | h <;> simp [h]
theorem and1 (x : Nat) (h : x < 2 ^ 62) : bits .and .i64 (x : Int) 1 = ((x % 2 : Nat) : Int) := by
  have h1 := bits_mask .i64 62 (by decide) wraps_i64 1 (by decide) (x : Int) (by omega) (by exact_mod_cast h)
  simpa using h1
theorem bit_and1 (s k : Nat) (hs : s < 2 ^ 62) : bits .and .i64 ((s : Int) / 2 ^ k) 1 = if s.testBit k = true then 1 else 0 := by
  rw [shr_cast, and1 _ (Nat.lt_of_le_of_lt (Nat.div_le_self _ _) hs), testBit_div]
  split <;> rfl
theorem bit_on {s k : Nat} (hs : s < 2 ^ 62) (h : s.testBit k = true) : bits .and .i64 ((s : Int) / 2 ^ k) 1 = 1 := by rw [bit_and1 s k hs, if_pos h]
theorem bit_off {s k : Nat} (hs : s < 2 ^ 62) (h : s.testBit k = false) : bits .and .i64 ((s : Int) / 2 ^ k) 1 = 0 := by rw [bit_and1 s k hs, if_neg (by rw [h]; decide)]
theorem tab_lt {n v x : Nat} (hv : v ≤ n) (hx : x < 2 ^ n) : v * 2 ^ n + x < (n + 1) * 2 ^ n := by
  have : v * 2 ^ n + 2 ^ n = (v + 1) * 2 ^ n := by rw [Nat.add_mul]; omega
  have h2 : (v + 1) * 2 ^ n ≤ (n + 1) * 2 ^ n := Nat.mul_le_mul_right _ (by omega)
  omega
theorem shl_cast (v n : Nat) : (v : Int) * 2 ^ n = ((v * 2 ^ n : Nat) : Int) := by simp
set_option maxRecDepth 100000 in
set_option maxHeartbeats 4000000 in
theorem joined_step (cb cc bb n : Nat) (f : Nat → Int) (A : Nat → Nat → Bool) (hn : n ≤ 16) (hcb : cb ≠ bb) (hc1 : 256 ≤ cc) (hc2 : cc ≤ maxLen) (hf : ∀ i k, i < n → k < n → f (16 * i + k) = if A i k then 1 else 0) (d : Nat) (ih : JoinedC cb cc bb n f A d) : JoinedC cb cc bb n f A (d + 1) := by
  intro W g v x hd hv hx hC hB hT
  have HT := Lib.hid hT
  have HB := Lib.hid hB
  have HC := Lib.hid hC
  have Hih := Lib.hid ih
  have Hf := Lib.hid hf
  unfold maxLen at hc2
  obtain ⟨P, hP⟩ : ∃ P, 2 ^ n = P := ⟨_, rfl⟩
  have hP16 := pow_le16 hn
  rw [hP] at hP16
  obtain ⟨S, hS⟩ : ∃ S, (n + 1) * P = S := ⟨_, rfl⟩
  have hSl : S ≤ 1114112 := by rw [← hS]; exact Nat.mul_le_mul (show n + 1 ≤ 17 by omega) hP16
  by_cases hvn : v = n
  · subst hvn
    have HR := Lib.hid (jT_end A v x)
    clear hT hC hf ih hB
    rw [hP, hS] at HB ⊢
    go_enter Try.func96, Try.ntmps96
    go_wp2
    (refine bodyPost_ret (v := .int .i64 0) (by simp [results, Try.results96, go_sem]) rfl ?_)
    exact ⟨g, by rw [HR.out]; rfl, HT.out, by rw [World.putObj_self HB.out]; exact World.grows.refl _⟩
  · have hvl : v < n := by omega
    have hlt := tab_lt (n := n) hv hx
    have hvI : ¬ (v : Int) = (n : Int) := by omega
    obtain ⟨V, hV⟩ : ∃ V, v * P = V := ⟨_, rfl⟩
    obtain ⟨T, hTe⟩ : ∃ T, V + x = T := ⟨_, rfl⟩
    rw [hP] at hlt hx
    rw [hV, hTe, hS] at hlt
    have hTab := HT.out v x hvl (by rw [hP]; exact hx)
    rw [hP, hV, hTe] at hTab
    have hwz : Hid (wrap64 ((v : Int) * 2 ^ n) = (V : Int)) := Lib.hid (by
      rw [shl_cast, hP, hV]
      exact wrap64_own' _ (by omega))
    rw [hP, hS] at HB
    have cT := rowI_cell HB.out hlt
    have hTI : (T : Int) < (S : Int) := by omega
    have hw2 : Hid (wrap64 ((V : Int) + x) = T) := Lib.hid (by rw [wrap64_own' _ (by omega)]; omega)
    have hnn : ¬ (n : Int) < 0 := by omega
    clear hT hC hf ih hB
    rw [hP, hS]
    by_cases hg : 0 ≤ g T
    · have hgv : g T = (jT A n v x : Nat) := by omega
      have Hgv := Lib.hid hgv
      obtain ⟨G, hG⟩ : ∃ G, g T = G := ⟨_, rfl⟩
      rw [hG] at cT hg Hgv
      clear hTab hgv hG hP hS hV hTe
      replace hwz := hwz.out
      replace hw2 := hw2.out
      go_enter Try.func96, Try.ntmps96
      go_wp2
      (refine bodyPost_ret (v := .int .i64 G) (by simp [results, Try.results96, go_sem]) rfl ?_)
      exact ⟨by rw [Hgv.out], g, HT.out, by rw [World.putObj_self HB.out]; exact World.grows.refl _⟩
    · have hbl := World.lt_of_block HB.out
      have hgT : ¬ 0 ≤ g T := hg
      obtain ⟨G, hG⟩ : ∃ G, g T = G := ⟨_, rfl⟩
      rw [hG] at cT hgT
      have HCp : Hid (∀ (g' : Nat → Int) (U : World), (W.putObj bb (.cells (rowI S g') 3)).grows U → ∀ y, y < 256 → U.cell? ⟨cb, y, none⟩ = some (.int .i64 (f y))) := Lib.hid fun g' U gU y hy => gU.cell_of (by
        have := HC.out y hy
        unfold World.cell? at this ⊢
        rw [World.putObj_heap_other hcb]
        exact this)
      have HS := Lib.hid (And.intro hP (And.intro hS (And.intro hV hTe)))
      have hj := Hih.out W g (v + 1) x (by omega) (by omega) (by rw [hP]; exact hx) HC.out (by rw [hP, hS]; exact HB.out) HT.out
      rw [hP, hS] at hj
      clear hTab hG hP hS hV hTe hg
      replace hwz := hwz.out
      replace hw2 := hw2.out
      go_enter Try.func96, Try.ntmps96
      go_wp2_with (go_at_call 99; fail)
      clear hwz hw2
      refine hj.mono ?_
      rintro e W1 ⟨g1, rfl, hT1, hG1⟩
      have HT1 := Lib.hid hT1
      have HG1 := Lib.hid hG1
      clear hj hT1 hG1 HT cT
      rw [← jF_zero]
      go_wp2
      go_loopw [12, 13] (fun b i wr => ∃ (k : Nat) (g' : Nat → Int), k ≤ n ∧ i = .int .i64 k ∧ b = .int .i64 ((jF A n v x k : Nat) : Int) ∧ Hid (Tab A n g') ∧ Hid ((W.putObj bb (.cells (rowI S g') 3)).grows wr)) (fun _ i _ => n - (intOf i).toNat)
      case atStart => exact ⟨0, g1, by omega, rfl, rfl, HT1, HG1⟩
      case round =>
        clear HT1 HG1
        obtain ⟨k, g', hk, rfl, rfl, hT, hG⟩ := hrel
        by_cases hlt2 : k < n
        · have hkI : (k : Int) < n := by omega
          have hX := HCp.out g' wr hG.out (16 * v + k) (by omega)
          rw [Hf.out v k hvl hlt2] at hX
          have hXI : 16 * (v : Int) + k < 256 := by omega
          have hXcc : 16 * (v : Int) + k < (cc : Int) := by omega
          have hjs := jF_succ A n v x k
          cases hA : A v k with
          | false =>
            rw [hA] at hjs hX
            simp only [Bool.false_and, Bool.false_eq_true, if_false] at hjs hX
            have HJ := Lib.hid hjs
            clear hA hjs
            go_wp2
            case roundEnd => exact ⟨⟨k + 1, g', by omega, by go_num, by rw [HJ.out], hT, hG⟩, by simp [intOf]; omega⟩
          | true =>
            rw [hA] at hjs hX
            simp only [Bool.true_and, if_true, Bool.not_eq_true'] at hjs hX
            cases hb : x.testBit k with
            | true =>
              rw [hb] at hjs
              simp only [Bool.true_eq_false, if_false] at hjs
              have HJ := Lib.hid hjs
              have hband := bit_on (s := x) (k := k) (by omega) hb
              have hk0 : ¬ (k : Int) < 0 := by omega
              clear hA hjs hb
              go_wp2
              case roundEnd => exact ⟨⟨k + 1, g', by omega, by go_num, by rw [HJ.out], hT, hG⟩, by simp [intOf]; omega⟩
            | false =>
              rw [hb] at hjs
              simp only [if_true] at hjs
              have HJ := Lib.hid hjs
              have hxk := add_pow_lt hb hlt2 (by rw [HS.out.1]; exact hx)
              have hband := bit_off (s := x) (k := k) (by omega) hb
              have hk0 : ¬ (k : Int) < 0 := by omega
              have hj2 := Hih.out wr g' (v + 1) (x + 2 ^ k) (by omega) (by omega) hxk (HCp.out g' wr hG.out) (by rw [HS.out.1, HS.out.2.1]; exact hG.out.heap_of (World.putObj_heap_same hbl)) hT.out
              obtain ⟨N, hN⟩ : ∃ N, 2 ^ k = N := ⟨_, rfl⟩
              rw [HS.out.1, HS.out.2.1, hN] at hj2
              rw [hN, HS.out.1] at hxk
              rw [hN] at HJ
              have hjle := jT_le A n (v + 1) (x + N)
              have hjfl := jF_le A n v x hvl k hk
              have hwz := Lib.hid (shl_one (show k ≤ 16 by omega) hN)
              obtain ⟨R, hR⟩ : ∃ R, jT A n (v + 1) (x + N) = R := ⟨_, rfl⟩
              obtain ⟨B, hB⟩ : ∃ B, jF A n v x k = B := ⟨_, rfl⟩
              rw [hR] at hj2 HJ hjle
              rw [hB] at HJ hjfl
              rw [hB]
              clear hA hjs hb hN hR hB
              go_upto_region 11 with fail
              clear hband
              have w9 : Hid (wrap64 ((x : Int) + N) = (x + N : Nat)) := Lib.hid (by rw [wrap64_own' _ (by omega)]; omega)
              go_wp2_with (go_at_call 99; fail)
              rw [hwz.out, w9.out]
              refine hj2.mono ?_
              rintro e W2 ⟨g2, rfl, hT2, hG2⟩
              have HT2 := Lib.hid hT2
              have HG2 : Hid ((W.putObj bb (.cells (rowI S g2) 3)).grows W2) := Lib.hid (by
                have := hG.out.putObj (.cells (rowI S g2) 3) (b := bb) (by simpa using hbl)
                rw [World.putObj_putObj] at this
                exact this.trans hG2)
              clear hj2 hT2 hG2 hT hG
              go_wp2
              case roundEnd => exact ⟨⟨k + 1, g2, by omega, by go_num, by rw [HJ.out]; congr 1; split <;> omega, HT2, HG2⟩, by simp [intOf]; omega⟩
        · have hke : k = n := by omega
          subst hke
          have HE := Lib.hid (jF_all (A := A) (x := x) hvl)
          obtain ⟨B, hB⟩ : ∃ B, jF A k v x k = B := ⟨_, rfl⟩
          rw [hB] at HE
          rw [hB]
          have hb := hG.out.heap_of (World.putObj_heap_same (o := .cells (rowI S g') 3) hbl)
          have cT := rowI_cell hb hlt
          have fT := rowI_frozen hb T
          have HF : Hid ((W.putObj bb (.cells (rowI S (updI g' T B)) 3)).grows (wr.setCell ⟨bb, T, none⟩ (.int .i64 (B : Int)))) := Lib.hid (by
            rw [setCell_put hb, rowI_set S g' T B hlt]
            have := hG.out.putObj (.cells (rowI S (updI g' T B)) 3) (b := bb) (by simpa using hbl)
            rwa [World.putObj_putObj] at this)
          have HTT : Hid (Tab A k (updI g' T B)) := Lib.hid (by
            have := hT.out.set hvl (x := x) (by rw [HS.out.1]; exact hx)
            rw [HS.out.1, HS.out.2.2.1, HS.out.2.2.2, ← HE.out] at this
            exact this)
          clear hb hB
          go_wp2
          (refine bodyPost_ret (v := .int .i64 (B : Int)) (by simp [results, Try.results96, go_sem]) rfl ?_)
          exact ⟨_, by rw [HE.out], HTT.out, HF.out⟩
set_option maxRecDepth 100000 in
set_option maxHeartbeats 1000000 in
theorem joined_zero (cb cc bb n : Nat) (f : Nat → Int) (A : Nat → Nat → Bool) : JoinedC cb cc bb n f A 0 := by
  intro W g v x hd hv hx hC hB hT
  have HT := Lib.hid hT
  have HB := Lib.hid hB
  have hvn : v = n := by omega
  subst hvn
  have HR := Lib.hid (jT_end A v x)
  obtain ⟨P, hP⟩ : ∃ P, 2 ^ v = P := ⟨_, rfl⟩
  obtain ⟨S, hS⟩ : ∃ S, (v + 1) * P = S := ⟨_, rfl⟩
  clear hT hC hB
  rw [hP, hS] at HB ⊢
  go_enter Try.func96, Try.ntmps96
  go_wp2
  (refine bodyPost_ret (v := .int .i64 0) (by simp [results, Try.results96, go_sem]) rfl ?_)
  exact ⟨g, by rw [HR.out]; rfl, HT.out, by rw [World.putObj_self HB.out]; exact World.grows.refl _⟩
theorem joined_c (cb cc bb n : Nat) (f : Nat → Int) (A : Nat → Nat → Bool) (hn : n ≤ 16) (hcb : cb ≠ bb) (hc1 : 256 ≤ cc) (hc2 : cc ≤ maxLen) (hf : ∀ i k, i < n → k < n → f (16 * i + k) = if A i k then 1 else 0) : ∀ d, JoinedC cb cc bb n f A d
  | 0 => joined_zero cb cc bb n f A
  | d + 1 => joined_step cb cc bb n f A hn hcb hc1 hc2 hf d (joined_c cb cc bb n f A hn hcb hc1 hc2 hf d)
/-- the list of all -1 -/
def neg1 (k x : Nat) : Int := if x < k then -1 else 0
set_option maxRecDepth 100000 in
set_option maxHeartbeats 4000000 in
theorem fewest_c (w : World) (cv : Value) (A : Nat → Nat → Bool) (n : Nat) (hC : CanA w cv A n) (hn : n ≤ 16) : Calls Try.prog 77 #[cv, .int .i64 (n : Nat)] w fun e w' => e = .returned (.int .i64 ((n - mm A n : Nat) : Int)) ∧ w.grows w' := by
  obtain ⟨cb, cc, f, rfl, hc1, hc2, hcl, hf⟩ := hC
  have hcb : cb < w.heap.size := World.block_lt_of_cell (by rw [hcl 0 (by omega)]; rfl)
  have Hcl := Lib.hid hcl
  have Hf := Lib.hid hf
  have hmm := mm_le A n
  obtain ⟨P, hP⟩ : ∃ P, 2 ^ n = P := ⟨_, rfl⟩
  have hP16 := pow_le16 hn
  rw [hP] at hP16
  obtain ⟨S, hS⟩ : ∃ S, (n + 1) * P = S := ⟨_, rfl⟩
  have hSl : S ≤ 1114112 := by rw [← hS]; exact Nat.mul_le_mul (show n + 1 ≤ 17 by omega) hP16
  have HS := Lib.hid (And.intro hP hS)
  have hwz : Hid (wrap64 (((n : Int) + 1) * 2 ^ n) = (S : Int)) := Lib.hid (by
    rw [show ((n : Int) + 1) = ((n + 1 : Nat) : Int) by omega, shl_cast, hP, hS]
    exact wrap64_own' _ (by omega))
  have hmk : Hid (∀ W : World, (Instr.makeSlice 35 (.int .i64 (S : Int)) (.int .i64 (S : Int))).run Try.prog W = .ok (.slice (some ⟨W.heap.size, 0, none⟩) S S) (W.alloc (.cells (rowI S fun _ => 0) 3))) := Lib.hid fun W => run_make_rowI W 35 3 8 Try.underlying35 el3 S (by omega) (by omega)
  have hnn : ¬ (n : Int) < 0 := by omega
  unfold maxLen at hc2
  clear hcl hf hP hS
  go_enter Try.func77, Try.ntmps77
  go_upto_region 1 with fail
  iterate 13 go_step
  rw [hwz.out]
  have hmk2 := hmk.out
  go_wp2
  clear hmk2 hmk hwz
  obtain ⟨bb, hbb⟩ : ∃ bb, w.heap.size = bb := ⟨_, rfl⟩
  have b0 : (w.alloc (.cells (rowI S fun _ => 0) 3)).heap[bb]? = some (.cells (rowI S (neg1 0)) 3) := by
    rw [World.heap_at _ _ _ hbb.symm]
    rw [show rowI S (fun _ => 0) = rowI S (neg1 0) from rowI_congr fun i _ => by unfold neg1; rw [if_neg (by omega)]]
  have G0 : Hid (w.grows (w.alloc (.cells (rowI S fun _ => 0) 3))) := Lib.hid (by (repeat (first | exact World.grows.refl _ | assumption | refine World.grows.alloc ?_ _ | refine World.grows.plus ?_ _ _ | refine World.grows.drew ?_)))
  have B0 := Lib.hid b0
  rw [hbb]
  generalize w.alloc (.cells (rowI S fun _ => 0) 3) = W0 at G0 B0 ⊢
  clear b0
  go_loopw [6] (fun i wr => ∃ k : Nat, k ≤ S ∧ i = .int .i64 k ∧ Hid (w.grows wr) ∧ Hid (wr.heap[bb]? = some (.cells (rowI S (neg1 k)) 3))) (fun i _ => S - (intOf i).toNat)
  case atStart => exact ⟨0, by omega, rfl, G0, B0⟩
  case round =>
    clear G0 B0
    obtain ⟨k, hk, rfl, hg, hb⟩ := hrel
    by_cases hlt : k < S
    · have hkI : (k : Int) < S := by omega
      have ck := rowI_cell hb.out hlt
      have fk := rowI_frozen hb.out k
      have g2 := Lib.hid (hg.out.setCell (p := ⟨bb, k, none⟩) (by dsimp only; omega) (.int .i64 (-1)))
      have b2 : Hid ((wr.setCell ⟨bb, k, none⟩ (.int .i64 (-1))).heap[bb]? = some (.cells (rowI S (neg1 (k + 1))) 3)) := Lib.hid (by
        rw [rowI_store hb.out hlt (-1)]
        rw [show rowI S (updI (neg1 k) k (-1)) = rowI S (neg1 (k + 1)) from rowI_congr fun i _ => by
          unfold updI neg1
          by_cases e : i = k
          · rw [if_pos e, if_pos (by omega)]
          · rw [if_neg e]
            by_cases e2 : i < k
            · rw [if_pos e2, if_pos (by omega)]
            · rw [if_neg e2, if_neg (by omega)]])
      clear hb hg
      go_wp2
      case roundEnd => exact ⟨⟨k + 1, by omega, by go_num, g2, b2⟩, by simp [intOf]; omega⟩
    · have hke : k = S := by omega
      subst hke
      have hT : Tab A n (neg1 k) := fun v x hv hx => .inl (by
        have := tab_lt (n := n) (show v ≤ n by omega) hx
        rw [HS.out.1, HS.out.2] at this
        rw [HS.out.1]
        unfold neg1
        rw [if_pos this])
      have hj := joined_c cb cc bb n f A hn (by omega) hc1 (by unfold maxLen; omega) Hf.out n wr (neg1 k) 0 0 (by omega) (by omega) (Nat.two_pow_pos n) (fun y hy => hg.out.cell_of (Hcl.out y hy)) (by rw [HS.out.1, HS.out.2]; exact hb.out) hT
      rw [HS.out.1, HS.out.2, jT_mm] at hj
      have hbw := World.lt_of_block hb.out
      obtain ⟨M, hM⟩ : ∃ M, mm A n = M := ⟨_, rfl⟩
      rw [hM] at hj hmm
      have HM := Lib.hid hM
      clear hT hb hM
      go_wp2_with (go_at_call 99; fail)
      refine hj.mono ?_
      rintro e W2 ⟨g2, rfl, -, g3⟩
      have gw := Lib.hid ((World.putObj_grows hg.out (.cells (rowI k g2) 3) (by omega)).trans g3)
      obtain ⟨D, hD⟩ : ∃ D, n - M = D := ⟨_, rfl⟩
      have hDI : (n : Int) - M = D := by omega
      have HD := Lib.hid hD
      have HDI := Lib.hid hDI
      clear hD
      clear hj g3
      go_wp2
      refine bodyPost_ret (v := .int .i64 (D : Int)) (by simp [results, Try.results77, go_sem, HDI.out]) rfl ?_
      exact ⟨by rw [HM.out, HD.out], gw.out⟩
end Go.Proofs.Ytaanbdjmibjcbaa

/-
  What is proved: which visits can come after which, in the definition (64).
-/
namespace Go.Proofs.Ytaanbdjmibjcbaa
open Go.RowKit
attribute [local irreducible] Go.wpCalm rowI

@[local go_sem ↓] theorem make256 (w : World) : (Instr.makeSlice 35 (.int .i64 256) (.int .i64 256)).run Try.prog w = .ok (.slice (some ⟨w.heap.size, 0, none⟩) 256 256) (w.alloc (.cells (rowI 256 fun _ => 0) 3)) :=
  run_make_rowI w 35 3 8 Try.underlying35 el3 256 (by omega) (by omega)
/-- the list before the place (i, j) -/
def aftS (t : Town) (slow : Bool) (i j x : Nat) : Int := if (x / 16 < i ∨ (x / 16 = i ∧ x % 16 < j)) ∧ x / 16 < t.nv ∧ x % 16 < t.nv ∧ aft t slow (x / 16) (x % 16) = true then 1 else 0
/-- the whole list -/
def aftI (t : Town) (slow : Bool) (x : Nat) : Int := if x / 16 < t.nv ∧ x % 16 < t.nv ∧ aft t slow (x / 16) (x % 16) = true then 1 else 0
theorem ite_iff {c d : Prop} [Decidable c] [Decidable d] (h : c ↔ d) (a b : Int) : (if c then a else b) = if d then a else b := by
  by_cases e : c
  · rw [if_pos e, if_pos (h.1 e)]
  · rw [if_neg e, if_neg (fun x => e (h.2 x))]
theorem aftS_zero (t : Town) (slow : Bool) : rowI 256 (fun _ => 0) = rowI 256 (aftS t slow 0 0) := rowI_congr fun x _ => by
  unfold aftS
  rw [if_neg (fun h => by have := h.1; omega)]
theorem aftS_next (t : Town) (slow : Bool) (i : Nat) : rowI 256 (aftS t slow i t.nv) = rowI 256 (aftS t slow (i + 1) 0) := rowI_congr fun x _ => by
  unfold aftS
  exact ite_iff (and_congr_left fun h => by have h1 := h.1; have h2 := h.2.1; omega) _ _
theorem aftS_end (t : Town) (slow : Bool) : rowI 256 (aftS t slow t.nv 0) = rowI 256 (aftI t slow) := rowI_congr fun x _ => by
  unfold aftS aftI
  exact ite_iff ⟨fun h => h.2, fun h => ⟨.inl h.1, h⟩⟩ _ _
theorem aftS_on (t : Town) (slow : Bool) {i j X : Nat} (hX : X = 16 * i + j) (hi : i < t.nv) (hj : j < t.nv) (h : t.nv ≤ 16) (ha : aft t slow i j = true) : rowI 256 (updI (aftS t slow i j) X 1) = rowI 256 (aftS t slow i (j + 1)) := rowI_congr fun x _ => by
  unfold updI aftS
  by_cases e : x = X
  · have e1 : x / 16 = i := by omega
    have e2 : x % 16 = j := by omega
    rw [if_pos e, e1, e2, if_pos ⟨by omega, hi, hj, ha⟩]
  · rw [if_neg e]
    exact ite_iff (and_congr_left fun h => by have h1 := h.1; have h2 := h.2.1; omega) _ _
theorem aftS_off (t : Town) (slow : Bool) {i j : Nat} (ha : aft t slow i j = false) : rowI 256 (aftS t slow i j) = rowI 256 (aftS t slow i (j + 1)) := rowI_congr fun x _ => by
  unfold aftS
  refine ite_iff (and_congr_left fun h => ?_) _ _
  have h3 : ¬ (x / 16 = i ∧ x % 16 = j) := fun ⟨e1, e2⟩ => by
    have := h.2.2
    rw [e1, e2, ha] at this
    cases this
  omega
set_option maxRecDepth 100000 in
set_option maxHeartbeats 4000000 in
theorem afters_c (w : World) (tv : Value) (t : Town) (slow : Bool) (ht : TownAt w tv t) (hok : t.Ok) : Calls Try.prog 64 #[tv, .bool slow] w fun e w' => ∃ p, e = .returned (.slice (some ⟨p, 0, none⟩) 256 256) ∧ w.grows w' ∧ w.heap.size ≤ p ∧ w'.heap[p]? = some (.cells (rowI 256 (aftI t slow)) 3) := by
  have Ht := Lib.hid ht
  obtain ⟨sv, vv, rfl, hs, hv⟩ := ht
  obtain ⟨sa, sc, rfl, s1, s2, -⟩ := hs
  obtain ⟨va, vc, rfl, v1, v2, hv⟩ := hv
  have Hv := Lib.hid hv
  have Hok := Lib.hid hok
  have h16 := hok.v16
  unfold maxLen at v2 s2
  have h51 := fun W (g : w.grows W) => rways_c W _ t slow (Ht.out.mono g) Hok.out
  clear hv hok
  go_enter Try.func64, Try.ntmps64
  go_wp2_with (go_at_call 99; fail)
  refine (h51 _ (by (repeat (first | exact World.grows.refl _ | assumption | refine World.grows.alloc ?_ _ | refine World.grows.plus ?_ _ _ | refine World.grows.drew ?_)))).mono ?_
  rintro e W ⟨p, rfl, g, hlt, hp⟩
  have gW : w.grows W := World.grows.trans (show w.grows (w.alloc (.cells #[.int .i64 t.pl, .slice sa t.ns sc, .slice va t.nv vc] 25)) by (repeat (first | exact World.grows.refl _ | assumption | refine World.grows.alloc ?_ _ | refine World.grows.plus ?_ _ _ | refine World.grows.drew ?_))) g
  have hB : W.heap[w.heap.size]? = some (.cells #[.int .i64 t.pl, .slice sa t.ns sc, .slice va t.nv vc] 25) := World.grows.heap_of g (World.heap_at _ _ _ rfl)
  clear h51 g hlt
  go_wp2
  obtain ⟨W0, hW0⟩ : ∃ W0, W0 = W.alloc (.cells (rowI 256 fun _ => 0) 3) := ⟨_, rfl⟩
  obtain ⟨q, hq⟩ : ∃ q, W.heap.size = q := ⟨_, rfl⟩
  have hqp := World.lt_of_block hp
  have hqb := World.lt_of_block hB
  have HP : Hid (W0.heap[p]? = some (.cells (rowI 64 fun x => dist t slow (x / 8) (x % 8)) 2)) := Lib.hid (by rw [hW0]; exact World.grows.heap_of (by (repeat (first | exact World.grows.refl _ | assumption | refine World.grows.alloc ?_ _ | refine World.grows.plus ?_ _ _ | refine World.grows.drew ?_))) hp)
  have HB : Hid (W0.heap[w.heap.size]? = some (.cells #[.int .i64 t.pl, .slice sa t.ns sc, .slice va t.nv vc] 25)) := Lib.hid (by rw [hW0]; exact World.grows.heap_of (by (repeat (first | exact World.grows.refl _ | assumption | refine World.grows.alloc ?_ _ | refine World.grows.plus ?_ _ _ | refine World.grows.drew ?_))) hB)
  have HQ : Hid (W0.heap[q]? = some (.cells (rowI 256 (aftS t slow 0 0)) 3)) := Lib.hid (by rw [hW0, ← aftS_zero]; exact World.heap_at _ _ _ hq.symm)
  have HG : Hid (w.grows W0) := Lib.hid (by rw [hW0]; exact gW.trans (by (repeat (first | exact World.grows.refl _ | assumption | refine World.grows.alloc ?_ _ | refine World.grows.plus ?_ _ _ | refine World.grows.drew ?_))))
  rw [← hW0]
  simp only [hq]
  have hgs := gW.size
  have hwq : w.heap.size ≤ q := by omega
  have hpq : p ≠ q := by omega
  have hbq : w.heap.size ≠ q := by omega
  clear hp hB hW0 gW hq hqp hqb hgs
  go_loopw [7] (fun i wr => ∃ k : Nat, k ≤ t.nv ∧ i = .int .i64 k ∧ Hid (w.grows wr) ∧ Hid (wr.heap[w.heap.size]? = some (.cells #[.int .i64 t.pl, .slice sa t.ns sc, .slice va t.nv vc] 25)) ∧ Hid (wr.heap[p]? = some (.cells (rowI 64 fun x => dist t slow (x / 8) (x % 8)) 2)) ∧ Hid (wr.heap[q]? = some (.cells (rowI 256 (aftS t slow k 0)) 3))) (fun i _ => t.nv - (intOf i).toNat)
  case atStart => exact ⟨0, by omega, rfl, HG, HB, HP, HQ⟩
  case round =>
    clear HG HB HP HQ
    obtain ⟨i, hi, rfl, HG, HB, HP, HQ⟩ := hrel
    have q2 : wr.cell? ⟨w.heap.size, 2, none⟩ = some (.slice va t.nv vc) := cell_of_heap HB.out rfl
    by_cases hil : i < t.nv
    · have hiI : (i : Int) < t.nv := by omega
      obtain ⟨Wi, rfl⟩ : ∃ Wi, Wi = wr := ⟨_, rfl⟩
      go_wp2
      clear q2
      go_loopw [8] (fun i' wr => ∃ k : Nat, k ≤ t.nv ∧ i' = .int .i64 k ∧ Hid (w.grows wr) ∧ Hid (wr.heap[w.heap.size]? = some (.cells #[.int .i64 t.pl, .slice sa t.ns sc, .slice va t.nv vc] 25)) ∧ Hid (wr.heap[p]? = some (.cells (rowI 64 fun x => dist t slow (x / 8) (x % 8)) 2)) ∧ Hid (wr.heap[q]? = some (.cells (rowI 256 (aftS t slow i k)) 3))) (fun i _ => t.nv - (intOf i).toNat)
      case atStart => exact ⟨0, by omega, rfl, HG, HB, HP, HQ⟩
      case round =>
        clear HG HB HP HQ
        obtain ⟨k, hk, rfl, HG, HB, HP, HQ⟩ := hrel
        have q2 : wr.cell? ⟨w.heap.size, 2, none⟩ = some (.slice va t.nv vc) := cell_of_heap HB.out rfl
        by_cases hkl : k < t.nv
        · have hkI : (k : Int) < t.nv := by omega
          obtain ⟨b, o, rfl, a0⟩ := Hv.out i 0 hil (by omega)
          obtain ⟨_, _, e1, a1⟩ := Hv.out i 1 hil (by omega); cases e1
          obtain ⟨_, _, e1, a2⟩ := Hv.out i 2 hil (by omega); cases e1
          obtain ⟨_, _, e1, b0⟩ := Hv.out k 0 hkl (by omega); cases e1
          obtain ⟨_, _, e1, b1⟩ := Hv.out k 1 hkl (by omega); cases e1
          obtain ⟨_, _, e1, b2⟩ := Hv.out k 2 hkl (by omega); cases e1
          have hvi := Hok.out.vp i hil
          have hvk := Hok.out.vp k hkl
          have hti := Hok.out.vt i hil
          have h8 := Hok.out.p8
          obtain ⟨A, hA⟩ : ∃ A : Nat, t.vp i = A := ⟨(t.vp i).toNat, by omega⟩
          obtain ⟨B, hB⟩ : ∃ B : Nat, t.vp k = B := ⟨(t.vp k).toNat, by omega⟩
          replace a0 : wr.cell? ⟨b, o + i * 3, none⟩ = some (.int .i64 A) := by rw [← hA]; exact HG.out.cell_of a0
          replace a1 : wr.cell? ⟨b, o + i * 3 + 1, none⟩ = some (.int .i64 (t.vf i)) := HG.out.cell_of a1
          replace a2 : wr.cell? ⟨b, o + i * 3 + 2, none⟩ = some (.int .i64 (t.vb i)) := HG.out.cell_of a2
          replace b0 : wr.cell? ⟨b, o + k * 3, none⟩ = some (.int .i64 B) := by rw [← hB]; exact HG.out.cell_of b0
          replace b1 : wr.cell? ⟨b, o + k * 3 + 1, none⟩ = some (.int .i64 (t.vf k)) := HG.out.cell_of b1
          replace b2 : wr.cell? ⟨b, o + k * 3 + 2, none⟩ = some (.int .i64 (t.vb k)) := HG.out.cell_of b2
          have hA8 : A < 8 := by omega
          have hB8 : B < 8 := by omega
          go_upto_region 9 with fail
          refine region_cutA (α := Nat × Nat) (fun W p => wr.grows W ∧ wr.heap.size ≤ p.1 ∧ wr.heap.size ≤ p.2 ∧ W.heap[p.1]? = some (.cells #[.int .i64 A, .int .i64 (t.vf i), .int .i64 (t.vb i)] 71) ∧ W.heap[p.2]? = some (.cells #[.int .i64 B, .int .i64 (t.vf k), .int .i64 (t.vb k)] 71))
            (fun a p => ⟨(((((((((((a.tmps.setIfInBounds 9 (.pointer (some ⟨p.1, 0, none⟩))).setIfInBounds 10 (.pointer (some ⟨p.2, 0, none⟩))).setIfInBounds 29 (.pointer (some ⟨w.heap.size, 2, none⟩))).setIfInBounds 30 (.slice (some ⟨b, o, none⟩) t.nv vc)).setIfInBounds 31 (.int .i64 i)).setIfInBounds 32 (.pointer (some ⟨b, o + i * 3, none⟩))).setIfInBounds 33 (.agg #[.int .i64 A, .int .i64 (t.vf i), .int .i64 (t.vb i)])).setIfInBounds 34 (.pointer (some ⟨w.heap.size, 2, none⟩))).setIfInBounds 35 (.slice (some ⟨b, o, none⟩) t.nv vc)).setIfInBounds 36 (.int .i64 k)).setIfInBounds 37 (.pointer (some ⟨b, o + k * 3, none⟩))).setIfInBounds 38 (.agg #[.int .i64 B, .int .i64 (t.vf k), .int .i64 (t.vb k)]), a.defers⟩) ?_ ?_
          · intro N hN
            simp only [List.setIfInBounds_toArray, List.set_cons_succ, List.set_cons_zero] at hN
            clear hA hB hvi hvk hti h8
            go_region
            · exact hN _ (wr.heap.size, wr.heap.size + 1) ⟨by (repeat (first | exact World.grows.refl _ | assumption | refine World.grows.alloc ?_ _ | refine World.grows.plus ?_ _ _ | refine World.grows.drew ?_)), Nat.le_refl _, by simp, (two_made _ _ _).1, (two_made _ _ _).2⟩
            · exact hN _ (wr.heap.size + 1, wr.heap.size) ⟨by (repeat (first | exact World.grows.refl _ | assumption | refine World.grows.alloc ?_ _ | refine World.grows.plus ?_ _ _ | refine World.grows.drew ?_)), by simp, Nat.le_refl _, (two_made _ _ _).2, (two_made _ _ _).1⟩
          · rintro W3 ⟨p1, p2⟩ ⟨g3, h2, h3, h4, h5⟩
            simp only [List.setIfInBounds_toArray, List.set_cons_succ, List.set_cons_zero]
            simp only at h2 h3 h4 h5
            have x0 : W3.cell? ⟨p1, 0, none⟩ = some (.int .i64 A) := cell_of_heap h4 rfl
            have x2 : W3.cell? ⟨p1, 2, none⟩ = some (.int .i64 (t.vb i)) := cell_of_heap h4 rfl
            have y0 : W3.cell? ⟨p2, 0, none⟩ = some (.int .i64 B) := cell_of_heap h5 rfl
            have y1 : W3.cell? ⟨p2, 1, none⟩ = some (.int .i64 (t.vf k)) := cell_of_heap h5 rfl
            replace HG := Lib.hid (HG.out.trans g3)
            replace HB := Lib.hid (g3.heap_of HB.out)
            replace HP := Lib.hid (g3.heap_of HP.out)
            replace HQ := Lib.hid (g3.heap_of HQ.out)
            clear a0 a1 a2 b0 b1 b2 q2 g3 h2 h3 h4 h5
            by_cases hik : i = k
            · subst hik
              have HF : Hid (rowI 256 (aftS t slow i i) = rowI 256 (aftS t slow i (i + 1))) := Lib.hid (aftS_off t slow (by unfold aft; simp))
              clear hA hB
              go_upto_region 10 with fail
              (refine wp_region_calm (by kernel_rfl) (by kernel_rfl) ?_; (repeat (refine wpCalm_step (fun K hK => ?_); go_simp; first | (refine hK _ ?_; clear hK K) | (apply Exists.intro; refine ⟨fun n' x' => ?_, hK _ ?_⟩; (fail); clear hK K))); refine wpCalm_nil ?_; intro nq xq)
              go_wp2
              case roundEnd => exact ⟨⟨i + 1, by omega, by go_num, Lib.hid (HG.out.trans (by (repeat (first | exact World.grows.refl _ | assumption | refine World.grows.alloc ?_ _ | refine World.grows.plus ?_ _ _ | refine World.grows.drew ?_)))), Lib.hid (World.grows.heap_of (World.grows_plus _ _ _) HB.out), Lib.hid (World.grows.heap_of (World.grows_plus _ _ _) HP.out), Lib.hid (by rw [← HF.out]; exact World.grows.heap_of (World.grows_plus _ _ _) HQ.out)⟩, by simp [intOf]; omega⟩
            · have hikI : ¬ (i : Int) = (k : Int) := by omega
              obtain ⟨D, hD⟩ : ∃ D, dist t slow A B = D := ⟨_, rfl⟩
              have hDb := fw_bd (t := t) (slow := slow) (fun k hk => fw_props (slow := slow) Hok.out k hk) (Nat.le_refl 8) A B
              rw [show fw t slow 8 A B = D from hD] at hDb
              have hvb : t.vb i ≤ 10000 ∧ 0 ≤ t.vb i := by have := hti; omega
              have hal : aft t slow i k = decide (t.vb i + D ≤ t.vf k) := by
                unfold aft
                rw [hA, hB, Int.toNat_natCast, Int.toNat_natCast, hD]
                simp [hik]
              obtain ⟨A8, hA8e⟩ : ∃ x : Nat, 8 * A = x := ⟨_, rfl⟩
              obtain ⟨Y, hYe⟩ : ∃ x : Nat, A8 + B = x := ⟨_, rfl⟩
              have w1 : IntKind.i64.wrap (8 * (A : Int)) = A8 := wrapI (by omega) (by omega)
              have w2 : IntKind.i64.wrap ((A8 : Int) + B) = Y := wrapI (by omega) (by omega)
              have w3 : IntKind.i64.wrap (t.vb i + D) = t.vb i + D := wrapI rfl (by omega)
              have hYI : (Y : Int) < 64 := by omega
              have cY := rowI_cell HP.out (i := Y) (by omega)
              rw [show Y / 8 = A by omega, show Y % 8 = B by omega, hD] at cY
              by_cases hle : t.vb i + D ≤ t.vf k
              · obtain ⟨I16, hI⟩ : ∃ x : Nat, 16 * i = x := ⟨_, rfl⟩
                obtain ⟨X, hX⟩ : ∃ x : Nat, I16 + k = x := ⟨_, rfl⟩
                have hX256 : X < 256 := by clear w1 w2 w3 hDb hle hti hvb cY; omega
                have hXe : X = 16 * i + k := by clear w1 w2 w3 hDb hle hti hvb cY; omega
                have HF : Hid (rowI 256 (updI (aftS t slow i k) X 1) = rowI 256 (aftS t slow i (k + 1))) := Lib.hid (aftS_on t slow hXe hil hkl h16 (by rw [hal, decide_eq_true hle]))
                have hXI : 16 * (i : Int) + k < 256 := by clear w1 w2 w3 hDb hle hti hvb cY; omega
                clear hA hB hD hDb hal hvb hti hvi hvk h8 hA8e hYe hI hX
                subst hXe
                go_upto_region 10 with fail
                (refine wp_region_calm (by kernel_rfl) (by kernel_rfl) ?_; (repeat (refine wpCalm_step (fun K hK => ?_); go_simp; first | (refine hK _ ?_; clear hK K) | (apply Exists.intro; refine ⟨fun n' x' => ?_, hK _ ?_⟩; (fail); clear hK K))); refine wpCalm_nil ?_; intro nq xq)
                have gp := World.grows_plus W3 nq xq
                generalize World.plus W3 nq xq = W4 at gp ⊢
                have g4 := HG.out.trans gp
                have b4 := gp.heap_of HB.out
                have p4 := gp.heap_of HP.out
                have q4 := gp.heap_of HQ.out
                have cX := rowI_cell q4 hX256
                have fX := rowI_frozen q4 (16 * i + k)
                have g5 := Lib.hid (g4.setCell (p := ⟨q, 16 * i + k, none⟩) (by dsimp only; omega) (.int .i64 1))
                have b5 := Lib.hid (rowI_other (i := 16 * i + k) (v := .int .i64 1) b4 (show q ≠ w.heap.size by omega))
                have p5 := Lib.hid (rowI_other (i := 16 * i + k) (v := .int .i64 1) p4 (show q ≠ p by omega))
                have q5 : Hid ((W4.setCell ⟨q, 16 * i + k, none⟩ (.int .i64 1)).heap[q]? = some (.cells (rowI 256 (aftS t slow i (k + 1))) 3)) := Lib.hid (by rw [← HF.out]; exact rowI_store q4 hX256 1)
                clear x0 x2 y0 y1 cY g4 b4 p4 q4 gp HF HG HB HP HQ w1 w2 w3
                go_wp2
                case roundEnd => exact ⟨⟨k + 1, by omega, by go_num, g5, b5, p5, q5⟩, by simp [intOf]; omega⟩
              · have HF : Hid (rowI 256 (aftS t slow i k) = rowI 256 (aftS t slow i (k + 1))) := Lib.hid (aftS_off t slow (by rw [hal, decide_eq_false hle]))
                clear hA hB hD hDb hal hvb hti hvi hvk h8 hA8e hYe
                go_upto_region 10 with fail
                (refine wp_region_calm (by kernel_rfl) (by kernel_rfl) ?_; (repeat (refine wpCalm_step (fun K hK => ?_); go_simp; first | (refine hK _ ?_; clear hK K) | (apply Exists.intro; refine ⟨fun n' x' => ?_, hK _ ?_⟩; (fail); clear hK K))); refine wpCalm_nil ?_; intro nq xq)
                clear x0 x2 y0 y1 cY w1 w2 w3
                go_wp2
                case roundEnd => exact ⟨⟨k + 1, by omega, by go_num, Lib.hid (HG.out.trans (by (repeat (first | exact World.grows.refl _ | assumption | refine World.grows.alloc ?_ _ | refine World.grows.plus ?_ _ _ | refine World.grows.drew ?_)))), Lib.hid (World.grows.heap_of (World.grows_plus _ _ _) HB.out), Lib.hid (World.grows.heap_of (World.grows_plus _ _ _) HP.out), Lib.hid (by rw [← HF.out]; exact World.grows.heap_of (World.grows_plus _ _ _) HQ.out)⟩, by simp [intOf]; omega⟩
        · have hke : k = t.nv := by omega
          subst hke
          have HQ2 : Hid (wr.heap[q]? = some (.cells (rowI 256 (aftS t slow (i + 1) 0)) 3)) := Lib.hid (by rw [← aftS_next]; exact HQ.out)
          clear HQ
          go_wp2
          case roundEnd => exact ⟨⟨i + 1, by omega, by go_num, HG, HB, HP, HQ2⟩, by simp [intOf]; omega⟩
    · have hie : i = t.nv := by omega
      subst hie
      have HQ2 : Hid (wr.heap[q]? = some (.cells (rowI 256 (aftI t slow)) 3)) := Lib.hid (by rw [← aftS_end]; exact HQ.out)
      clear HQ
      go_wp2
      (refine bodyPost_ret (v := .slice (some ⟨q, 0, none⟩) 256 256) (by simp [results, Try.results64, go_sem]) rfl ?_)
      exact ⟨q, rfl, HG.out, hwq, HQ2.out⟩
end Go.Proofs.Ytaanbdjmibjcbaa

/-
  What is proved: After, Fewest, NeedsCarts of the definition (22, 32, 31).
-/
namespace Go.Proofs.Ytaanbdjmibjcbaa
open Go.RowKit
attribute [local irreducible] Go.wpCalm rowI

theorem can_aft {w : World} {p : Nat} {t : Town} {slow : Bool} (h : w.heap[p]? = some (.cells (rowI 256 (aftI t slow)) 3)) (hn : t.nv ≤ 16) : CanA w (.slice (some ⟨p, 0, none⟩) 256 256) (aft t slow) t.nv :=
  ⟨p, 256, aftI t slow, rfl, Nat.le_refl _, by unfold maxLen; omega, fun x hx => rowI_cell h hx, fun i k hi hk => by
    unfold aftI
    rw [show (16 * i + k) / 16 = i by omega, show (16 * i + k) % 16 = k by omega]
    cases h : aft t slow i k
    · rw [if_neg (fun h => by cases h.2.2)]; rfl
    · rw [if_pos ⟨hi, hk, rfl⟩]; rfl⟩
set_option maxRecDepth 100000 in
set_option maxHeartbeats 2000000 in
theorem rafter_c (w : World) (tv : Value) (t : Town) (slow : Bool) (ht : TownAt w tv t) (a b : Int) : Calls Try.prog 22 #[tv, .int .i64 a, .int .i64 b, .bool slow] w fun e w' => e = .returned (.tuple #[.bool (aftX t slow a b), .int .i64 (twoE t a b : Int)]) ∧ w.grows w' := by
  have Ht := Lib.hid ht
  have h20 := fun W (g : w.grows W) => rcheck_c W _ t (Ht.out.mono g)
  have h63 := fun W (g : w.grows W) x => rvisit_c W _ t (Ht.out.mono g) x
  obtain ⟨sv, vv, rfl, ⟨sa, sc, rfl, -⟩, ⟨va, vc, rfl, -⟩⟩ := ht
  by_cases hc : t.check = 0
  · have hok := t.ok_iff.1 hc
    have Hc := Lib.hid hc
    have h16 := hok.v16
    have h64 := fun W (g : w.grows W) => afters_c W _ t slow (Ht.out.mono g) hok
    simp only [hc] at h20
    clear hc hok
    go_enter Try.func22, Try.ntmps22
    go_wp2_with (go_at_call 99; fail)
    refine (h20 _ (by (repeat (first | exact World.grows.refl _ | assumption | refine World.grows.alloc ?_ _ | refine World.grows.plus ?_ _ _ | refine World.grows.drew ?_)))).mono ?_
    rintro e W ⟨rfl, g⟩
    obtain ⟨n2, x2, rfl⟩ := World.plus_of g
    clear h20
    go_wp2_with (go_at_call 99; fail)
    refine (h63 _ (by (repeat (first | exact World.grows.refl _ | assumption | refine World.grows.alloc ?_ _ | refine World.grows.plus ?_ _ _ | refine World.grows.drew ?_))) _).mono ?_
    rintro e W ⟨rfl, g⟩
    obtain ⟨n3, x3, rfl⟩ := World.plus_of g
    cases p1 : isV t.nv a with
    | false =>
      have HR := Lib.hid (twoE_arg (t := t) (a := a) (b := b) Hc.out (by rw [p1]; rfl))
      clear p1 h63 h64
      go_wp2
      (refine bodyPost_ret (v := .tuple #[.bool false, .int .i64 2]) (by simp [results, Try.results22, go_sem]) rfl ?_)
      exact ⟨ret_bi (aftX_no (by rw [HR.out]; decide)).symm HR.out.symm, by (repeat (first | exact World.grows.refl _ | assumption | refine World.grows.alloc ?_ _ | refine World.grows.plus ?_ _ _ | refine World.grows.drew ?_))⟩
    | true =>
      go_wp2_with (go_at_call 99; fail)
      refine (h63 _ (by (repeat (first | exact World.grows.refl _ | assumption | refine World.grows.alloc ?_ _ | refine World.grows.plus ?_ _ _ | refine World.grows.drew ?_))) _).mono ?_
      rintro e W ⟨rfl, g⟩
      obtain ⟨n4, x4, rfl⟩ := World.plus_of g
      cases p2 : isV t.nv b with
      | false =>
        have HR := Lib.hid (twoE_arg (t := t) (a := a) (b := b) Hc.out (by rw [p1, p2]; rfl))
        clear p1 p2 h63 h64
        go_wp2
        (refine bodyPost_ret (v := .tuple #[.bool false, .int .i64 2]) (by simp [results, Try.results22, go_sem]) rfl ?_)
        exact ⟨ret_bi (aftX_no (by rw [HR.out]; decide)).symm HR.out.symm, by (repeat (first | exact World.grows.refl _ | assumption | refine World.grows.alloc ?_ _ | refine World.grows.plus ?_ _ _ | refine World.grows.drew ?_))⟩
      | true =>
        have HR := Lib.hid (twoE_ok (t := t) (a := a) (b := b) Hc.out (by rw [p1, p2]; rfl))
        simp only [Bool.and_eq_true, isV, decide_eq_true_eq] at p1 p2
        obtain ⟨A, rfl⟩ : ∃ A : Nat, a = A := ⟨a.toNat, by omega⟩
        obtain ⟨B, rfl⟩ : ∃ B : Nat, b = B := ⟨b.toNat, by omega⟩
        have hAn : A < t.nv := by omega
        have hBn : B < t.nv := by omega
        clear h63 p1 p2
        go_wp2_with (go_at_call 99; fail)
        refine (h64 _ (by (repeat (first | exact World.grows.refl _ | assumption | refine World.grows.alloc ?_ _ | refine World.grows.plus ?_ _ _ | refine World.grows.drew ?_)))).mono ?_
        rintro e W ⟨p, rfl, g, hlt, hp⟩
        have gW : w.grows W := World.grows.trans (by (repeat (first | exact World.grows.refl _ | assumption | refine World.grows.alloc ?_ _ | refine World.grows.plus ?_ _ _ | refine World.grows.drew ?_))) g
        have cX := rowI_cell hp (i := 16 * A + B) (by omega)
        have hXI : 16 * (A : Int) + B < 256 := by omega
        have hv : aftI t slow (16 * A + B) = if aft t slow A B then 1 else 0 := by
          unfold aftI
          rw [show (16 * A + B) / 16 = A by omega, show (16 * A + B) % 16 = B by omega]
          cases aft t slow A B
          · rw [if_neg (fun h => by cases h.2.2)]; rfl
          · rw [if_pos ⟨hAn, hBn, rfl⟩]; rfl
        rw [hv] at cX
        have hz : ∀ r : Bool, aft t slow A B = r → Hid (aftX t slow (A : Int) (B : Int) = r) := fun r h => Lib.hid (by unfold aftX; rw [HR.out, Int.toNat_natCast, Int.toNat_natCast, h]; rfl)
        cases hr : aft t slow A B with
        | true =>
          have HZ := hz true hr
          rw [hr] at cX
          simp only [if_true] at cX
          clear hz hr hv h64 g hp hlt
          go_wp2
          (refine bodyPost_ret (v := .tuple #[.bool true, .int .i64 0]) (by simp [results, Try.results22, go_sem]) rfl ?_)
          exact ⟨ret_bi HZ.out.symm HR.out.symm, gW.trans (by (repeat (first | exact World.grows.refl _ | assumption | refine World.grows.alloc ?_ _ | refine World.grows.plus ?_ _ _ | refine World.grows.drew ?_)))⟩
        | false =>
          have HZ := hz false hr
          rw [hr] at cX
          simp only [Bool.false_eq_true, if_false] at cX
          clear hz hr hv h64 g hp hlt
          go_wp2
          (refine bodyPost_ret (v := .tuple #[.bool false, .int .i64 0]) (by simp [results, Try.results22, go_sem]) rfl ?_)
          exact ⟨ret_bi HZ.out.symm HR.out.symm, gW.trans (by (repeat (first | exact World.grows.refl _ | assumption | refine World.grows.alloc ?_ _ | refine World.grows.plus ?_ _ _ | refine World.grows.drew ?_)))⟩
  · have HR := Lib.hid (twoE_bad (a := a) (b := b) hc)
    have HR2 := Lib.hid (aftX_no (slow := slow) (show twoE t a b ≠ 0 by rw [HR.out]; exact hc))
    obtain ⟨C, hC⟩ : ∃ C : Nat, t.check = C := ⟨_, rfl⟩
    simp only [hC] at h20
    have hc0 : ¬ (C : Int) = 0 := by omega
    have HC := Lib.hid hC
    clear hc hC h63
    go_enter Try.func22, Try.ntmps22
    go_wp2_with (go_at_call 99; fail)
    refine (h20 _ (by (repeat (first | exact World.grows.refl _ | assumption | refine World.grows.alloc ?_ _ | refine World.grows.plus ?_ _ _ | refine World.grows.drew ?_)))).mono ?_
    rintro e W ⟨rfl, g⟩
    obtain ⟨n2, x2, rfl⟩ := World.plus_of g
    go_wp2_with (go_at_call 99; fail)
    refine (h20 _ (by (repeat (first | exact World.grows.refl _ | assumption | refine World.grows.alloc ?_ _ | refine World.grows.plus ?_ _ _ | refine World.grows.drew ?_)))).mono ?_
    rintro e W ⟨rfl, g⟩
    obtain ⟨n3, x3, rfl⟩ := World.plus_of g
    clear h20
    go_wp2
    (refine bodyPost_ret (v := .tuple #[.bool false, .int .i64 (C : Int)]) (by simp [results, Try.results22, go_sem]) rfl ?_)
    exact ⟨by rw [HR.out, HR2.out, HC.out], by (repeat (first | exact World.grows.refl _ | assumption | refine World.grows.alloc ?_ _ | refine World.grows.plus ?_ _ _ | refine World.grows.drew ?_))⟩
set_option maxRecDepth 100000 in
set_option maxHeartbeats 2000000 in
theorem fewestT_c (w : World) (tv : Value) (t : Town) (slow : Bool) (ht : TownAt w tv t) (hok : t.Ok) : Calls Try.prog 32 #[tv, .bool slow] w fun e w' => e = .returned (.int .i64 (few t slow : Int)) ∧ w.grows w' := by
  have Ht := Lib.hid ht
  have h64 := fun W (g : w.grows W) => afters_c W _ t slow (Ht.out.mono g) hok
  have h16 := hok.v16
  obtain ⟨sv, vv, rfl, ⟨sa, sc, rfl, -⟩, ⟨va, vc, rfl, v1, v2, -⟩⟩ := ht
  unfold maxLen at v2
  go_enter Try.func32, Try.ntmps32
  go_wp2
  (refine wp_region_chain 7 [2, 6] (by kernel_rfl) (by kernel_rfl) (by decide) ?_; simp only [without, only, withNo, List.take_succ_cons, List.take_zero, List.drop_succ_cons, List.drop_zero, List.take_nil, List.drop_nil, Nat.reduceAdd, Nat.reduceSub, List.filter, List.contains_cons, List.contains_nil, Nat.reduceBEq, Bool.or_false, Bool.false_or, Bool.true_or, Bool.or_true, Bool.or_self, Bool.not_true, Bool.not_false, List.map_cons, List.map_nil]; (repeat (refine wpCalm_step (fun K hK => ?_); go_simp; first | (refine hK _ ?_; clear hK K) | (apply Exists.intro; refine ⟨fun n' x' => ?_, hK _ ?_⟩; (fail); clear hK K))); refine wpCalm_nil ?_)
  (refine wpChain_step (fun K hK nc xc => ?_); go_simp)
  refine (h64 _ (by (repeat (first | exact World.grows.refl _ | assumption | refine World.grows.alloc ?_ _ | refine World.grows.plus ?_ _ _ | refine World.grows.drew ?_)))).mono ?_
  rintro e W ⟨p, rfl, g, -, hp⟩
  refine ⟨_, rfl, g, hK _ _ ?_⟩
  clear hK K
  have gW : w.grows W := World.grows.trans (by (repeat (first | exact World.grows.refl _ | assumption | refine World.grows.alloc ?_ _ | refine World.grows.plus ?_ _ _ | refine World.grows.drew ?_))) g
  (refine wpChain_step (fun K hK nc xc => ?_); go_simp)
  refine (fewest_c _ _ _ _ ((can_aft hp h16).mono (by (repeat (first | exact World.grows.refl _ | assumption | refine World.grows.alloc ?_ _ | refine World.grows.plus ?_ _ _ | refine World.grows.drew ?_)))) h16).mono ?_
  rintro e W2 ⟨rfl, g2⟩
  refine ⟨_, rfl, g2, hK _ _ ?_⟩
  clear hK K
  have gW2 : w.grows W2 := gW.trans (World.grows.trans (by (repeat (first | exact World.grows.refl _ | assumption | refine World.grows.alloc ?_ _ | refine World.grows.plus ?_ _ _ | refine World.grows.drew ?_))) g2)
  (refine wpChain_nil (fun nc xc => ?_))
  have HF : Hid (few t slow = t.nv - mm (aft t slow) t.nv) := Lib.hid rfl
  obtain ⟨N, hN⟩ : ∃ N, t.nv - mm (aft t slow) t.nv = N := ⟨_, rfl⟩
  rw [hN] at HF ⊢
  clear hN h64 g g2 hp
  go_wp2
  (refine bodyPost_ret (v := .int .i64 (N : Int)) (by simp [results, Try.results32, go_sem]) rfl ?_)
  exact ⟨by rw [HF.out], gW2.trans (by (repeat (first | exact World.grows.refl _ | assumption | refine World.grows.alloc ?_ _ | refine World.grows.plus ?_ _ _ | refine World.grows.drew ?_)))⟩
set_option maxRecDepth 100000 in
set_option maxHeartbeats 2000000 in
theorem needs_c (w : World) (tv : Value) (t : Town) (slow : Bool) (ht : TownAt w tv t) : Calls Try.prog 31 #[tv, .bool slow] w fun e w' => e = .returned (.int .i64 (needE t slow : Int)) ∧ w.grows w' := by
  have Ht := Lib.hid ht
  have h20 := fun W (g : w.grows W) => rcheck_c W _ t (Ht.out.mono g)
  obtain ⟨sv, vv, rfl, ⟨sa, sc, rfl, -⟩, ⟨va, vc, rfl, v1, v2, -⟩⟩ := ht
  by_cases hc : t.check = 0
  · have hok := t.ok_iff.1 hc
    have h66 := fun W (g : w.grows W) => rlate_c W _ t slow (Ht.out.mono g) hok
    have hE : Hid (needE t slow = if anyLate t slow then 12 else 0) := Lib.hid (by unfold needE; rw [if_neg (by omega)])
    have HA := Lib.hid (anyLate_iff t slow)
    obtain ⟨L, hL⟩ : ∃ L, (filtL (lateV t slow) t.nv).length = L := ⟨_, rfl⟩
    rw [hL] at HA
    have HL := Lib.hid hL
    simp only [hc] at h20
    clear hc hok hL
    go_enter Try.func31, Try.ntmps31
    go_wp2_with (go_at_call 99; fail)
    refine (h20 _ (by (repeat (first | exact World.grows.refl _ | assumption | refine World.grows.alloc ?_ _ | refine World.grows.plus ?_ _ _ | refine World.grows.drew ?_)))).mono ?_
    rintro e W ⟨rfl, g⟩
    obtain ⟨n2, x2, rfl⟩ := World.plus_of g
    clear h20
    go_wp2_with (go_at_call 99; fail)
    refine (h66 _ (by (repeat (first | exact World.grows.refl _ | assumption | refine World.grows.alloc ?_ _ | refine World.grows.plus ?_ _ _ | refine World.grows.drew ?_)))).mono ?_
    rintro e W2 ⟨v, rfl, g, hLL⟩
    have gW2 : w.grows W2 := World.grows.trans (by (repeat (first | exact World.grows.refl _ | assumption | refine World.grows.alloc ?_ _ | refine World.grows.plus ?_ _ _ | refine World.grows.drew ?_))) g
    obtain ⟨la, lc, rfl, -⟩ := hLL
    rw [HL.out]
    clear g h66
    by_cases hL0 : 0 < L
    · have hLI : (0 : Int) < L := by omega
      have HR : Hid (needE t slow = 12) := Lib.hid (by rw [hE.out, if_pos (HA.out.2 hL0)])
      clear hL0
      go_wp2
      (refine bodyPost_ret (v := .int .i64 12) (by simp [results, Try.results31, go_sem]) rfl ?_)
      exact ⟨by rw [HR.out]; rfl, gW2.trans (by (repeat (first | exact World.grows.refl _ | assumption | refine World.grows.alloc ?_ _ | refine World.grows.plus ?_ _ _ | refine World.grows.drew ?_)))⟩
    · have hLI : ¬ (0 : Int) < L := by omega
      have HR : Hid (needE t slow = 0) := Lib.hid (by rw [hE.out, if_neg (fun h => hL0 (HA.out.1 h))])
      clear hL0
      go_wp2
      (refine bodyPost_ret (v := .int .i64 0) (by simp [results, Try.results31, go_sem]) rfl ?_)
      exact ⟨by rw [HR.out]; rfl, gW2.trans (by (repeat (first | exact World.grows.refl _ | assumption | refine World.grows.alloc ?_ _ | refine World.grows.plus ?_ _ _ | refine World.grows.drew ?_)))⟩
  · have HR : Hid (needE t slow = t.check) := Lib.hid (by unfold needE; rw [if_pos hc])
    obtain ⟨C, hC⟩ : ∃ C : Nat, t.check = C := ⟨_, rfl⟩
    simp only [hC] at h20
    rw [hC] at HR
    have hc0 : ¬ (C : Int) = 0 := by omega
    clear hc hC
    go_enter Try.func31, Try.ntmps31
    go_wp2_with (go_at_call 99; fail)
    refine (h20 _ (by (repeat (first | exact World.grows.refl _ | assumption | refine World.grows.alloc ?_ _ | refine World.grows.plus ?_ _ _ | refine World.grows.drew ?_)))).mono ?_
    rintro e W ⟨rfl, g⟩
    obtain ⟨n2, x2, rfl⟩ := World.plus_of g
    go_wp2_with (go_at_call 99; fail)
    refine (h20 _ (by (repeat (first | exact World.grows.refl _ | assumption | refine World.grows.alloc ?_ _ | refine World.grows.plus ?_ _ _ | refine World.grows.drew ?_)))).mono ?_
    rintro e W ⟨rfl, g⟩
    obtain ⟨n3, x3, rfl⟩ := World.plus_of g
    clear h20
    go_wp2
    (refine bodyPost_ret (v := .int .i64 (C : Int)) (by simp [results, Try.results31, go_sem]) rfl ?_)
    exact ⟨by rw [HR.out], by (repeat (first | exact World.grows.refl _ | assumption | refine World.grows.alloc ?_ _ | refine World.grows.plus ?_ _ _ | refine World.grows.drew ?_))⟩
end Go.Proofs.Ytaanbdjmibjcbaa

/-
  What is proved: the definition's check of a plan (29).
-/
namespace Go.Proofs.Ytaanbdjmibjcbaa
open Go.RowKit
attribute [local irreducible] Go.wpCalm rowI
@[local go_sem ↓] theorem make16 (w : World) : (Instr.makeSlice 35 (.int .i64 16) (.int .i64 16)).run Try.prog w = .ok (.slice (some ⟨w.heap.size, 0, none⟩) 16 16) (w.alloc (.cells (rowI 16 fun _ => 0) 3)) :=
  run_make_rowI w 35 3 8 Try.underlying35 el3 16 (by omega) (by omega)
/-- the cells of a cart that has visits -/
theorem plan_cell {W : World} {pa : Option Addr} {pc : Nat} {P : List (List Int)} (hp : PlanAt W (.slice pa P.length pc) P) {k : Nat} (hk : k < P.length) (h0 : 0 < (P.getD k []).length) :
    ∃ b o rb ro rc, pa = some ⟨b, o, none⟩ ∧ W.cell? ⟨b, o + k, none⟩ = some (.slice (some ⟨rb, ro, none⟩) (P.getD k []).length rc) ∧ (P.getD k []).length ≤ rc ∧ rc ≤ maxLen ∧ ∀ j, j < (P.getD k []).length → W.cell? ⟨rb, ro + j, none⟩ = some (.int .i64 ((P.getD k []).getD j 0)) := by
  obtain ⟨row, ⟨_, _, e, -, -, hr⟩, hrow⟩ := hp
  cases e
  obtain ⟨b, o, rfl, c0⟩ := hr k 0 hk (by omega)
  simp only [Nat.mul_one, Nat.add_zero] at c0
  obtain ⟨ra, rc, hre, r1, r2, hrc⟩ := hrow k hk
  obtain ⟨rb, ro, rfl, -⟩ := hrc 0 0 h0 (by omega)
  refine ⟨b, o, rb, ro, rc, rfl, by rw [← hre]; exact c0, r1, r2, fun j hj => ?_⟩
  obtain ⟨_, _, e, h⟩ := hrc j 0 hj (by omega)
  cases e
  simpa using h
theorem plan_cell0 {W : World} {pa : Option Addr} {pc : Nat} {P : List (List Int)} (hp : PlanAt W (.slice pa P.length pc) P) {k : Nat} (hk : k < P.length) :
    ∃ b o ra rc, pa = some ⟨b, o, none⟩ ∧ W.cell? ⟨b, o + k, none⟩ = some (.slice ra (P.getD k []).length rc) := by
  obtain ⟨row, ⟨_, _, e, -, -, hr⟩, hrow⟩ := hp
  cases e
  obtain ⟨b, o, rfl, c0⟩ := hr k 0 hk (by omega)
  simp only [Nat.mul_one, Nat.add_zero] at c0
  obtain ⟨ra, rc, hre, r1, r2, hrc⟩ := hrow k hk
  exact ⟨b, o, ra, rc, rfl, by rw [← hre]; exact c0⟩
/-- the visits ahead of one -/
def preL (P : List (List Int)) (k j : Nat) : List Int := (P.take k).flatten ++ (P.getD k []).take j
theorem preL_zero (P : List (List Int)) (k : Nat) : preL P k 0 = (P.take k).flatten := by simp [preL]
theorem preL_succ (P : List (List Int)) (k j : Nat) (h : j < (P.getD k []).length) : preL P k (j + 1) = preL P k j ++ [(P.getD k []).getD j 0] := by
  unfold preL
  generalize P.getD k [] = c at h
  rw [List.take_succ, List.getElem?_eq_getElem h, List.append_assoc, List.getD_eq_getElem?_getD, List.getElem?_eq_getElem h]
  rfl
theorem preL_end (P : List (List Int)) (k : Nat) (h : k < P.length) : preL P k (P.getD k []).length = (P.take (k + 1)).flatten := by
  rw [flatten_take_succ P h]; unfold preL; rw [List.take_length]
theorem preL_le (P : List (List Int)) (k j : Nat) (h : k < P.length) : (preL P k j).length ≤ P.flatten.length := by
  have h1 := flatten_take_le P (k + 1)
  rw [flatten_take_succ P h, List.length_append] at h1
  unfold preL
  rw [List.length_append, List.length_take]
  omega
def cntL (L : List Int) (v : Nat) : Int := ((L.count (v : Int) : Nat) : Int)
theorem cntL_snoc (L : List Int) (x : Nat) (hx : x < 16) : rowI 16 (updI (cntL L) x (cntL L x + 1)) = rowI 16 (cntL (L ++ [(x : Int)])) := rowI_congr fun i hi => by
  unfold updI cntL
  rw [List.count_append]
  by_cases e : i = x
  · subst e; rw [if_pos rfl]; simp
  · have he : ((x : Int) == (i : Int)) = false := beq_eq_false_iff_ne.2 (by omega)
    rw [if_neg e, List.count_cons, he]
    simp
theorem cntL_le (L : List Int) (v : Nat) : 0 ≤ cntL L v ∧ cntL L v ≤ L.length := by
  unfold cntL
  have := List.count_le_length (a := (v : Int)) (l := L)
  omega
set_option maxRecDepth 100000 in
set_option maxHeartbeats 8000000 in
theorem rplan_c (w : World) (tv pv : Value) (t : Town) (slow : Bool) (ht : TownAt w tv t) (P : List (List Int)) (hp : PlanAt w pv P) (hF : P.flatten.length ≤ 1000000) (hm : P.length ≤ 1000000) : Calls Try.prog 29 #[tv, pv, .bool slow] w fun e w' => e = .returned (.tuple #[.int .i64 (planN t slow P : Nat), .int .i64 (planX t slow P : Nat)]) ∧ w.grows w' := by
  have Ht := Lib.hid ht
  have h20 := fun W (g : w.grows W) => rcheck_c W _ t (Ht.out.mono g)
  have h63 := fun W (g : w.grows W) x => rvisit_c W _ t (Ht.out.mono g) x
  have h64 := fun W (g : w.grows W) (hok : t.Ok) => afters_c W _ t slow (Ht.out.mono g) hok
  have h66 := fun W (g : w.grows W) (hok : t.Ok) => rlate_c W _ t slow (Ht.out.mono g) hok
  obtain ⟨sv, vv, rfl, ⟨sa, sc, rfl, -⟩, ⟨va, vc, rfl, -⟩⟩ := ht
  have HP := Lib.hid hp
  obtain ⟨_, ⟨pa, pc, rfl, p1, p2, -⟩, -⟩ := hp
  unfold maxLen at p2
  by_cases hc : t.check = 0
  case neg =>
    have HR : Hid (planX t slow P = t.check) := Lib.hid (by unfold planX; rw [if_pos hc])
    obtain ⟨C, hC⟩ : ∃ C : Nat, t.check = C := ⟨_, rfl⟩
    simp only [hC] at h20
    rw [hC] at hc HR
    have hc0 : ¬ (C : Int) = 0 := by omega
    clear h63 h64 h66 hC
    go_enter Try.func29, Try.ntmps29
    go_wp2_with (go_at_call 99; fail)
    refine (h20 _ (by (repeat (first | exact World.grows.refl _ | assumption | refine World.grows.alloc ?_ _ | refine World.grows.plus ?_ _ _ | refine World.grows.drew ?_)))).mono ?_
    rintro e W ⟨rfl, g⟩
    obtain ⟨n2, x2, rfl⟩ := World.plus_of g
    go_wp2_with (go_at_call 99; fail)
    refine (h20 _ (by (repeat (first | exact World.grows.refl _ | assumption | refine World.grows.alloc ?_ _ | refine World.grows.plus ?_ _ _ | refine World.grows.drew ?_)))).mono ?_
    rintro e W ⟨rfl, g⟩
    obtain ⟨n3, x3, rfl⟩ := World.plus_of g
    clear h20
    go_wp2
    (refine bodyPost_ret (v := .tuple #[.int .i64 0, .int .i64 (C : Int)]) (by simp [results, Try.results29, go_sem]) rfl ?_)
    exact ⟨ret_plan (a := 0) (by unfold planN; rw [HR.out, if_neg hc]) HR.out.symm, by (repeat (first | exact World.grows.refl _ | assumption | refine World.grows.alloc ?_ _ | refine World.grows.plus ?_ _ _ | refine World.grows.drew ?_))⟩
  have hE : Hid (planX t slow P = planE (aft t slow) t.nv (anyLate t slow) P) := Lib.hid (by unfold planX; rw [if_neg (by omega)])
  have Hok := Lib.hid (t.ok_iff.1 hc)
  simp only [hc] at h20
  have h16 := Hok.out.v16
  have HF := Lib.hid hF
  clear hc hF
  go_enter Try.func29, Try.ntmps29
  go_wp2_with (go_at_call 99; fail)
  refine (h20 _ (by (repeat (first | exact World.grows.refl _ | assumption | refine World.grows.alloc ?_ _ | refine World.grows.plus ?_ _ _ | refine World.grows.drew ?_)))).mono ?_
  rintro e W ⟨rfl, g⟩
  have HB : Hid (W.heap[w.heap.size]? = some (.cells #[.int .i64 t.pl, .slice sa t.ns sc, .slice va t.nv vc] 25)) := Lib.hid (World.grows.heap_of g (World.heap_at _ _ _ rfl))
  have HGW : Hid (w.grows W) := Lib.hid (World.grows.trans (by (repeat (first | exact World.grows.refl _ | assumption | refine World.grows.alloc ?_ _ | refine World.grows.plus ?_ _ _ | refine World.grows.drew ?_))) g)
  replace HP := Lib.hid (HP.out.mono HGW.out)
  have H63 := Lib.hid h63
  have H64 := Lib.hid h64
  have H66 := Lib.hid h66
  have HC0 := Lib.hid fun k (hk : k < P.length) => plan_cell0 HP.out hk
  have HC := Lib.hid fun k (hk : k < P.length) h0 => plan_cell HP.out hk h0
  have hbw := World.lt_of_block HB.out
  clear h20 h63 h64 h66 g HP
  obtain ⟨m, hmm⟩ : ∃ m, P.length = m := ⟨_, rfl⟩
  have HM := Lib.hid hmm
  rw [hmm] at HC HC0 p1 hm ⊢
  clear hmm
  go_wp2
  go_loopw [8] (fun i wr => ∃ k : Nat, k ≤ m ∧ i = .int .i64 k ∧ Hid (W.grows wr) ∧ Hid (∀ j, j < k → badC t.nv (P.getD j []) = false)) (fun i _ => m - (intOf i).toNat)
  case atStart => exact ⟨0, by omega, rfl, Lib.hid (World.grows.refl _), Lib.hid fun j hj => by omega⟩
  case round =>
    obtain ⟨k, hk, rfl, hg, hall⟩ := hrel
    by_cases hlt : k < m
    · have hkI : (k : Int) < m := by omega
      have HBad : Hid (badC t.nv (P.getD k []) = true → planX t slow P = 3) := Lib.hid fun h => by
        rw [hE.out]
        unfold planE
        rw [if_pos]
        have hkP : k < P.length := by rw [HM.out]; exact hlt
        exact List.any_eq_true.2 ⟨P.getD k [], by rw [List.getD_eq_getElem?_getD, List.getElem?_eq_getElem hkP]; exact List.getElem_mem hkP, h⟩
      by_cases h0 : (P.getD k []).length = 0
      · obtain ⟨b, o, ra, rc, rfl, c0⟩ := HC0.out k hlt
        rw [h0] at c0
        have c0' := hg.out.cell_of c0
        have HR : Hid (planX t slow P = 3) := Lib.hid (HBad.out (by
          rw [List.eq_nil_of_length_eq_zero h0]; rfl))
        clear c0 h0
        go_wp2
        (refine bodyPost_ret (v := .tuple #[.int .i64 0, .int .i64 3]) (by simp [results, Try.results29, go_sem]) rfl ?_)
        exact ⟨ret_plan (a := 0) (b := 3) (by unfold planN; rw [HR.out]; rfl) HR.out.symm, HGW.out.trans (hg.out.trans (by (repeat (first | exact World.grows.refl _ | assumption | refine World.grows.alloc ?_ _ | refine World.grows.plus ?_ _ _ | refine World.grows.drew ?_))))⟩
      · obtain ⟨b, o, rb, ro, rc, rfl, c0, r1, r2, hcl⟩ := HC.out k hlt (by omega)
        obtain ⟨c, hc⟩ : ∃ c, P.getD k [] = c := ⟨_, rfl⟩
        have HCe := Lib.hid hc
        rw [hc] at c0 r1 hcl h0 HBad
        obtain ⟨L, hL⟩ : ∃ L, c.length = L := ⟨_, rfl⟩
        have HL := Lib.hid hL
        rw [hL] at c0 r1 hcl h0
        have HX := Lib.hid hcl
        have HC1 := Lib.hid c0
        have c0' := hg.out.cell_of c0
        unfold maxLen at r2
        have hLd : ((L : Int) == 0) = false := beq_eq_false_iff_ne.2 (by omega)
        clear hc hL hcl c0
        go_upto_region 9 with fail
        clear c0' hLd
        go_loopw [9] (fun i wr2 => ∃ j : Nat, j ≤ L ∧ i = .int .i64 j ∧ Hid (W.grows wr2) ∧ Hid (∀ x, x < j → isV t.nv (c.getD x 0) = true)) (fun i _ => L - (intOf i).toNat)
        case atStart => exact ⟨0, by omega, rfl, hg, Lib.hid fun x hx => by omega⟩
        case round =>
          clear hg
          obtain ⟨j, hj, rfl, hg, hin⟩ := hrel
          have q0 : wr.cell? ⟨w.heap.size, 0, none⟩ = some (.int .i64 t.pl) := cell_of_heap (World.grows.heap_of hg.out HB.out) rfl
          have q1 : wr.cell? ⟨w.heap.size, 1, none⟩ = some (.slice sa t.ns sc) := cell_of_heap (World.grows.heap_of hg.out HB.out) rfl
          have q2 : wr.cell? ⟨w.heap.size, 2, none⟩ = some (.slice va t.nv vc) := cell_of_heap (World.grows.heap_of hg.out HB.out) rfl
          have c0 := hg.out.cell_of HC1.out
          by_cases hjL : j < L
          · have d0 := hg.out.cell_of (HX.out j hjL)
            have h63 := fun n x => H63.out (wr.plus n x) (HGW.out.trans (hg.out.trans (by (repeat (first | exact World.grows.refl _ | assumption | refine World.grows.alloc ?_ _ | refine World.grows.plus ?_ _ _ | refine World.grows.drew ?_))))) (c.getD j 0)
            have hjI : (j : Int) < L := by omega
            obtain ⟨x, hx⟩ : ∃ x, c.getD j 0 = x := ⟨_, rfl⟩
            rw [hx] at d0
            simp only [hx] at h63
            cases p1 : isV t.nv x with
            | false =>
              have HR : Hid (planX t slow P = 3) := Lib.hid (HBad.out (by
                unfold badC
                rw [Bool.or_eq_true]
                refine .inr ?_
                rw [← any_getD]
                exact any_true_of (i := j) (by rw [HL.out]; exact hjL) (by rw [hx, p1]; rfl)))
              simp only [p1] at h63
              clear p1 hx
              go_upto_region 11 with fail
              (refine wp_region_calm (by kernel_rfl) (by kernel_rfl) ?_; (repeat (refine wpCalm_step (fun K hK => ?_); go_simp; first | (refine hK _ ?_; clear hK K) | (apply Exists.intro; refine ⟨fun n' x' => ?_, hK _ ?_⟩; (exact h63 _ _); clear hK K))); refine wpCalm_nil ?_; intro nq xq)
              clear h63
              go_wp2
              (refine bodyPost_ret (v := .tuple #[.int .i64 0, .int .i64 3]) (by simp [results, Try.results29, go_sem]) rfl ?_)
              exact ⟨ret_plan (a := 0) (b := 3) (by unfold planN; rw [HR.out]; rfl) HR.out.symm, HGW.out.trans (hg.out.trans (by (repeat (first | exact World.grows.refl _ | assumption | refine World.grows.alloc ?_ _ | refine World.grows.plus ?_ _ _ | refine World.grows.drew ?_))))⟩
            | true =>
              have HA : Hid (∀ x, x < j + 1 → isV t.nv (c.getD x 0) = true) := Lib.hid (upto_succ hin.out (by rw [hx]; exact p1))
              simp only [p1] at h63
              clear p1 hx
              go_upto_region 11 with fail
              (refine wp_region_calm (by kernel_rfl) (by kernel_rfl) ?_; (repeat (refine wpCalm_step (fun K hK => ?_); go_simp; first | (refine hK _ ?_; clear hK K) | (apply Exists.intro; refine ⟨fun n' x' => ?_, hK _ ?_⟩; (exact h63 _ _); clear hK K))); refine wpCalm_nil ?_; intro nq xq)
              clear h63
              go_wp2
              exact ⟨⟨j + 1, by omega, by go_num, Lib.hid (hg.out.trans (by (repeat (first | exact World.grows.refl _ | assumption | refine World.grows.alloc ?_ _ | refine World.grows.plus ?_ _ _ | refine World.grows.drew ?_)))), HA⟩, by simp [intOf]; omega⟩
          · have hje : j = L := by omega
            subst hje
            have HA : Hid (∀ x, x < k + 1 → badC t.nv (P.getD x []) = false) := Lib.hid (upto_succ hall.out (by
              rw [HCe.out]
              unfold badC
              rw [Bool.or_eq_false_iff]
              refine ⟨?_, ?_⟩
              · have := HL.out
                cases c with
                | nil => simp at this; omega
                | cons a r => rfl
              · rw [← any_getD]
                refine any_false_of fun i hi => ?_
                rw [hin.out i (by rw [← HL.out]; exact hi)]; rfl))
            go_wp2
            exact ⟨⟨k + 1, by omega, by go_num, hg, HA⟩, by simp [intOf]; omega⟩
    · have hke : k = m := by omega
      subst hke
      have hB2 : ∀ c ∈ P, badC t.nv c = false := fun c hc => by
        obtain ⟨i, hi, rfl⟩ := List.mem_iff_getElem.1 hc
        have := hall.out i (by rw [← HM.out]; exact hi)
        rw [List.getD_eq_getElem?_getD, List.getElem?_eq_getElem hi] at this
        exact this
      have hE2 : Hid (planX t slow P = if onceP t.nv P then (if anyLate t slow then 12 else if P.all (rowC (aft t slow)) then 0 else 16) else 15) := Lib.hid (by
        rw [hE.out]; unfold planE
        rw [if_neg]
        intro h
        obtain ⟨c, hc, h⟩ := List.any_eq_true.1 h
        rw [hB2 c hc] at h; cases h)
      have HV : Hid (∀ i j, i < k → j < (P.getD i []).length → ∃ a : Nat, (P.getD i []).getD j 0 = (a : Int) ∧ a < t.nv) := Lib.hid fun i j hi hj => by
        have h := hall.out i hi
        unfold badC at h
        rw [Bool.or_eq_false_iff] at h
        have h2 := (List.any_eq_false.1 h.2) ((P.getD i []).getD j 0) (by
          generalize P.getD i [] = c at hj
          rw [List.getD_eq_getElem?_getD, List.getElem?_eq_getElem hj]; exact List.getElem_mem hj)
        have h3 : isV t.nv ((P.getD i []).getD j 0) = true := by simpa using h2
        simp only [Bool.and_eq_true, isV, decide_eq_true_eq] at h3
        exact ⟨((P.getD i []).getD j 0).toNat, by omega, by omega⟩
      have HNe : Hid (∀ i, i < k → 0 < (P.getD i []).length) := Lib.hid fun i hi => by
        have h := hall.out i hi
        generalize P.getD i [] = c at h
        cases c with
        | nil => cases h
        | cons a r => simp
      clear hB2 hall hE HC0
      go_upto_region 14 with fail
      obtain ⟨q, hq⟩ : ∃ q, wr.heap.size = q := ⟨_, rfl⟩
      obtain ⟨W1, hW1⟩ : ∃ W1, W1 = wr.alloc (.cells (rowI 16 fun _ => 0) 3) := ⟨_, rfl⟩
      have HQ : Hid (W1.heap[q]? = some (.cells (rowI 16 (cntL (preL P 0 0))) 3)) := Lib.hid (by
        rw [hW1, World.heap_at _ _ _ hq.symm]
        have : preL P 0 0 = [] := by rw [preL_zero]; rfl
        rw [this]; rfl)
      have HG1 : Hid (W.grows W1) := Lib.hid (hg.out.trans (by rw [hW1]; (repeat (first | exact World.grows.refl _ | assumption | refine World.grows.alloc ?_ _ | refine World.grows.plus ?_ _ _ | refine World.grows.drew ?_))))
      have hqW : W.heap.size ≤ q := by rw [← hq]; exact hg.out.size
      rw [← hW1]
      simp only [hq]
      clear hW1 hq hg
      go_wp2
      go_loopw [11] (fun i wr => ∃ j : Nat, j ≤ k ∧ i = .int .i64 j ∧ Hid (W.grows wr) ∧ Hid (wr.heap[q]? = some (.cells (rowI 16 (cntL (preL P j 0))) 3))) (fun i _ => k - (intOf i).toNat)
      case atStart => exact ⟨0, by omega, rfl, HG1, HQ⟩
      case round =>
        clear HG1 HQ
        obtain ⟨j, hj, rfl, hg, hQ⟩ := hrel
        by_cases hjk : j < k
        · have hjP : j < P.length := by rw [HM.out]; exact hjk
          obtain ⟨b, o, rb, ro, rc, rfl, c0, r1, r2, hcl⟩ := HC.out j hjk (HNe.out j hjk)
          have hSt := fun l (h : l < (P.getD j []).length) => preL_succ P j l h
          have hEn := preL_end P j hjP
          have hVj := HV.out j
          obtain ⟨c, hc⟩ : ∃ c, P.getD j [] = c := ⟨_, rfl⟩
          rw [hc] at c0 r1 hcl hEn
          simp only [hc] at hSt hVj
          obtain ⟨L, hL⟩ : ∃ L, c.length = L := ⟨_, rfl⟩
          rw [hL] at c0 r1 hcl hEn
          simp only [hL] at hSt hVj
          have HX := Lib.hid hcl
          have HC1 := Lib.hid c0
          have HSt := Lib.hid hSt
          have HEn := Lib.hid hEn
          have HVj := Lib.hid fun l (h : l < L) => hVj l hjk h
          unfold maxLen at r2
          clear hc hL hcl c0 hSt hEn hVj
          go_wp2
          go_loopw [12] (fun i wr2 => ∃ l : Nat, l ≤ L ∧ i = .int .i64 l ∧ Hid (W.grows wr2) ∧ Hid (wr2.heap[q]? = some (.cells (rowI 16 (cntL (preL P j l))) 3))) (fun i _ => L - (intOf i).toNat)
          case atStart => exact ⟨0, by omega, rfl, hg, hQ⟩
          case round =>
            clear hg hQ
            obtain ⟨l, hl, rfl, hg, hQ⟩ := hrel
            have c0 := hg.out.cell_of HC1.out
            have hjI : (j : Int) < k := by omega
            by_cases hlL : l < L
            · have d0 := hg.out.cell_of (HX.out l hlL)
              obtain ⟨A, hA, hAn⟩ := HVj.out l hlL
              rw [hA] at d0
              have hA16 : A < 16 := by omega
              have hA16I : (A : Int) < 16 := by omega
              have hlI : (l : Int) < L := by omega
              have cX := rowI_cell hQ.out hA16
              have fX := rowI_frozen hQ.out A
              have hCb := cntL_le (preL P j l) A
              have hLe := preL_le P j l hjP
              have hF := HF.out
              obtain ⟨C, hC⟩ : ∃ C, cntL (preL P j l) A = C := ⟨_, rfl⟩
              rw [hC] at cX hCb
              have hC6 : 0 ≤ C ∧ C ≤ 1000000 := by omega
              have hw : IntKind.i64.wrap (C + 1) = C + 1 := wrapI rfl (by omega)
              have HQ2 : Hid ((wr.setCell ⟨q, A, none⟩ (.int .i64 (C + 1))).heap[q]? = some (.cells (rowI 16 (cntL (preL P j (l + 1)))) 3)) := Lib.hid (by
                rw [HSt.out l hlL, hA, ← cntL_snoc _ A hA16, hC]
                exact rowI_store hQ.out hA16 (C + 1))
              have HG2 := Lib.hid (hg.out.setCell (p := ⟨q, A, none⟩) hqW (.int .i64 (C + 1)))
              clear hA hC hCb hLe hF hQ
              go_wp2
              case roundEnd => exact ⟨⟨l + 1, by omega, by go_num, HG2, HQ2⟩, by simp [intOf]; omega⟩
            · have hle : l = L := by omega
              subst hle
              have HQ2 : Hid (wr.heap[q]? = some (.cells (rowI 16 (cntL (preL P (j + 1) 0))) 3)) := Lib.hid (by rw [preL_zero, ← HEn.out]; exact hQ.out)
              go_wp2
              exact ⟨⟨j + 1, by omega, by go_num, hg, HQ2⟩, by simp [intOf]; omega⟩
        · have hje : j = k := by omega
          subst hje
          have HQ2 : Hid (wr.heap[q]? = some (.cells (rowI 16 (cntL P.flatten)) 3)) := Lib.hid (by
            have h := hQ.out
            rw [preL_zero, ← HM.out, List.take_length] at h
            exact h)
          clear hQ
          have HG2 := hg
          clear hg
          go_wp2
          go_loopw [13] (fun i wr2 => ∃ v : Nat, v ≤ t.nv ∧ i = .int .i64 v ∧ Hid (wr.grows wr2) ∧ Hid (∀ x, x < v → P.flatten.count (x : Int) = 1)) (fun i _ => t.nv - (intOf i).toNat)
          case atStart => exact ⟨0, by omega, rfl, Lib.hid (World.grows.refl _), Lib.hid fun x hx => by omega⟩
          case round =>
            obtain ⟨v, hv, rfl, hg, hon⟩ := hrel
            have q2 := cell_of_heap (i := 2) (World.grows.heap_of (HG2.out.trans hg.out) HB.out) rfl
            by_cases hvn : v < t.nv
            · have cX := rowI_cell (hg.out.heap_of HQ2.out) (show v < 16 by omega)
              have hvI : (v : Int) < t.nv := by omega
              have hv16 : (v : Int) < 16 := by omega
              have hC : cntL P.flatten v = ((P.flatten.count (v : Int) : Nat) : Int) := rfl
              obtain ⟨C, hCe⟩ : ∃ C, P.flatten.count (v : Int) = C := ⟨_, rfl⟩
              rw [hC, hCe] at cX
              have HCe := Lib.hid hCe
              clear hC hCe
              by_cases hC1 : C = 1
              · subst hC1
                have HA : Hid (∀ x, x < v + 1 → P.flatten.count (x : Int) = 1) := Lib.hid (upto_succ hon.out HCe.out)
                go_wp2
                exact ⟨⟨v + 1, by omega, by go_num, hg, HA⟩, by simp [intOf]; omega⟩
              · have hC2 : ¬ (C : Int) = 1 := by omega
                have HR : Hid (planX t slow P = 15) := Lib.hid (by
                  rw [hE2.out, if_neg]
                  intro h
                  unfold onceP at h
                  rw [List.all_eq_true] at h
                  have := h v (List.mem_range.2 hvn)
                  rw [HCe.out] at this
                  exact hC1 (by simpa using this))
                go_wp2
                (refine bodyPost_ret (v := .tuple #[.int .i64 0, .int .i64 15]) (by simp [results, Try.results29, go_sem]) rfl ?_)
                exact ⟨ret_plan (a := 0) (b := 15) (by unfold planN; rw [HR.out]; rfl) HR.out.symm, HGW.out.trans (HG2.out.trans (hg.out.trans (by (repeat (first | exact World.grows.refl _ | assumption | refine World.grows.alloc ?_ _ | refine World.grows.plus ?_ _ _ | refine World.grows.drew ?_)))))⟩
            · have hve : v = t.nv := by omega
              have hE3 : Hid (planX t slow P = if anyLate t slow then 12 else if P.all (rowC (aft t slow)) then 0 else 16) := Lib.hid (by
                rw [hE2.out, if_pos]
                unfold onceP
                rw [List.all_eq_true]
                intro x hx
                rw [hon.out x (by rw [hve]; exact List.mem_range.1 hx)]; rfl)
              replace HG2 := Lib.hid (HG2.out.trans hg.out)
              have q0 := cell_of_heap (i := 0) (World.grows.heap_of HG2.out HB.out) rfl
              have q1 := cell_of_heap (i := 1) (World.grows.heap_of HG2.out HB.out) rfl
              subst hve
              clear hE2 hon hg HQ2
              go_wp2_with (go_at_call 99; fail)
              refine (H66.out _ (HGW.out.trans HG2.out) Hok.out).mono ?_
              rintro e W2 ⟨lv, rfl, g2, hL⟩
              obtain ⟨la, lc, rfl, -⟩ := hL
              have HA := Lib.hid (anyLate_iff t slow)
              obtain ⟨L, hL⟩ : ∃ L, (filtL (lateV t slow) t.nv).length = L := ⟨_, rfl⟩
              rw [hL] at HA ⊢
              replace HG2 := Lib.hid (HG2.out.trans g2)
              clear hL g2 q0 q1 q2
              by_cases hL0 : 0 < L
              · have hLI : (0 : Int) < L := by omega
                have HR : Hid (planX t slow P = 12) := Lib.hid (by rw [hE3.out, if_pos (HA.out.2 hL0)])
                go_wp2
                (refine bodyPost_ret (v := .tuple #[.int .i64 0, .int .i64 12]) (by simp [results, Try.results29, go_sem]) rfl ?_)
                exact ⟨ret_plan (a := 0) (b := 12) (by unfold planN; rw [HR.out]; rfl) HR.out.symm, HGW.out.trans (HG2.out.trans (by (repeat (first | exact World.grows.refl _ | assumption | refine World.grows.alloc ?_ _ | refine World.grows.plus ?_ _ _ | refine World.grows.drew ?_))))⟩
              have hLd : decide (0 < L) = false := decide_eq_false hL0
              have hE4 : Hid (planX t slow P = if P.all (rowC (aft t slow)) then 0 else 16) := Lib.hid (by rw [hE3.out, if_neg (fun h => hL0 (HA.out.1 h))])
              have q0 := cell_of_heap (i := 0) (World.grows.heap_of HG2.out HB.out) rfl
              have q1 := cell_of_heap (i := 1) (World.grows.heap_of HG2.out HB.out) rfl
              have q2 := cell_of_heap (i := 2) (World.grows.heap_of HG2.out HB.out) rfl
              clear HA hE3
              go_wp2_with (go_at_call 99; fail)
              refine (H64.out _ (HGW.out.trans HG2.out) Hok.out).mono ?_
              rintro e W3 ⟨p, rfl, g3, -, hp⟩
              have HPp := Lib.hid hp
              have HG3 := Lib.hid (HG2.out.trans g3)
              clear hp g3 q0 q1 q2 HG2
              have hLz : L = 0 := by omega
              subst hLz
              go_wp2
              go_loopw [15] (fun i wr => ∃ k : Nat, k ≤ j ∧ i = .int .i64 k ∧ Hid (W3.grows wr) ∧ Hid (∀ x, x < k → rowC (aft t slow) (P.getD x []) = true)) (fun i _ => j - (intOf i).toNat)
              case atStart => exact ⟨0, by omega, rfl, Lib.hid (World.grows.refl _), Lib.hid fun x hx => by omega⟩
              case round =>
                obtain ⟨k, hk, rfl, hg, hall⟩ := hrel
                by_cases hkj : k < j
                · have hkP : k < P.length := by rw [HM.out]; exact hkj
                  obtain ⟨b, o, rb, ro, rc, rfl, c0, r1, r2, hcl⟩ := HC.out k hkj (HNe.out k hkj)
                  have hVk := HV.out k
                  have hn0 := HNe.out k hkj
                  have HBad : Hid (rowC (aft t slow) (P.getD k []) = false → planX t slow P = 16) := Lib.hid fun h => by
                    rw [hE4.out, if_neg]
                    intro h2
                    have h3 := (List.all_eq_true.1 h2) (P.getD k []) (by rw [List.getD_eq_getElem?_getD, List.getElem?_eq_getElem hkP]; exact List.getElem_mem hkP)
                    rw [h] at h3; cases h3
                  obtain ⟨c, hc⟩ : ∃ c, P.getD k [] = c := ⟨_, rfl⟩
                  have HCe := Lib.hid hc
                  rw [hc] at c0 r1 hcl HBad hn0
                  simp only [hc] at hVk
                  have hRC := rowC_get (A := aft t slow) (c := c)
                  obtain ⟨L, hL⟩ : ∃ L, c.length = L := ⟨_, rfl⟩
                  rw [hL] at c0 r1 hcl hRC hn0
                  simp only [hL] at hVk
                  have HRC := Lib.hid hRC
                  have HX := Lib.hid hcl
                  have HC1 := Lib.hid c0
                  have HVk := Lib.hid fun l (h : l < L) => hVk l hkj h
                  unfold maxLen at r2
                  clear hc hL hcl c0 hVk hRC
                  go_wp2
                  go_loopw [16] (fun i wr => ∃ l : Nat, l + 1 ≤ L ∧ i = .int .i64 (l + 1 : Nat) ∧ Hid (W3.grows wr) ∧ Hid (∀ x, x < l → aft t slow (c.getD x 0).toNat (c.getD (x + 1) 0).toNat = true)) (fun i _ => L - (intOf i).toNat)
                  case atStart => exact ⟨0, by omega, rfl, hg, Lib.hid fun x hx => by omega⟩
                  case round =>
                    clear hg
                    obtain ⟨l, hl, rfl, hg, hin⟩ := hrel
                    have c0 := (HG3.out.trans hg.out).cell_of HC1.out
                    have hkI : (k : Int) < j := by omega
                    obtain ⟨l1, hl1⟩ : ∃ l1, l + 1 = l1 := ⟨_, rfl⟩
                    have Hl1 := Lib.hid hl1
                    by_cases hlL : l1 < L
                    · have d0 := (HG3.out.trans hg.out).cell_of (HX.out l (by omega))
                      have d1 := (HG3.out.trans hg.out).cell_of (HX.out l1 hlL)
                      obtain ⟨A, hA, hAn⟩ := HVk.out l (by omega)
                      obtain ⟨B, hB, hBn⟩ := HVk.out l1 hlL
                      rw [hA] at d0
                      rw [hB] at d1
                      have HAB : Hid (c.getD l 0 = (A : Int) ∧ c.getD (l + 1) 0 = (B : Int)) := Lib.hid ⟨hA, by rw [hl1]; exact hB⟩
                      have cX := rowI_cell (World.grows.heap_of hg.out HPp.out) (i := 16 * A + B) (by omega)
                      rw [show aftI t slow (16 * A + B) = if aft t slow A B then 1 else 0 by
                        unfold aftI
                        rw [show (16 * A + B) / 16 = A by omega, show (16 * A + B) % 16 = B by omega]
                        cases aft t slow A B
                        · rw [if_neg (fun h => by cases h.2.2)]; rfl
                        · rw [if_pos ⟨hAn, hBn, rfl⟩]; rfl] at cX
                      obtain ⟨I, hI⟩ : ∃ I, 16 * A + B = I := ⟨_, rfl⟩
                      rw [hI] at cX
                      have hw1 : IntKind.i64.wrap (16 * (A : Int)) = 16 * (A : Int) := wrapI rfl (by omega)
                      have hw2 : IntKind.i64.wrap (16 * (A : Int) + B) = (I : Nat) := wrapI (by omega) (by omega)
                      have hXI : (I : Int) < 256 := by omega
                      have hls : (l1 : Int) - 1 = (l : Nat) := by omega
                      have hlw : IntKind.i64.wrap (l : Int) = (l : Int) := wrapI rfl (by omega)
                      have hl1I : (l1 : Int) < L := by omega
                      have hlI : (l : Int) < L := by omega
                      rw [hl1]
                      clear hI hA hB hl1
                      cases hr0 : aft t slow A B with
                      | true =>
                        rw [hr0, if_pos rfl] at cX
                        have HA : Hid (∀ x, x < l + 1 → aft t slow (c.getD x 0).toNat (c.getD (x + 1) 0).toNat = true) := Lib.hid (upto_succ hin.out (by rw [HAB.out.1, HAB.out.2, Int.toNat_natCast, Int.toNat_natCast]; exact hr0))
                        clear hr0
                        go_upto_region 35 with fail
                        (refine wp_region_calm (by kernel_rfl) (by kernel_rfl) ?_; (repeat (refine wpCalm_step (fun K hK => ?_); go_simp; first | (refine hK _ ?_; clear hK K) | (apply Exists.intro; refine ⟨fun n' x' => ?_, hK _ ?_⟩; (fail); clear hK K))); refine wpCalm_nil ?_; intro nq xq)
                        go_wp2
                        exact ⟨⟨l + 1, by have := Hl1.out; omega, by have := Hl1.out; go_num, Lib.hid (hg.out.trans (by (repeat (first | exact World.grows.refl _ | assumption | refine World.grows.alloc ?_ _ | refine World.grows.plus ?_ _ _ | refine World.grows.drew ?_)))), HA⟩, by simp [intOf]; omega⟩
                      | false =>
                        rw [hr0, if_neg (by decide)] at cX
                        have HR : Hid (planX t slow P = 16) := Lib.hid (HBad.out (by
                          cases hrc : rowC (aft t slow) c
                          · rfl
                          · have h := HRC.out.1 hrc l (by have := Hl1.out; omega)
                            rw [HAB.out.1, HAB.out.2, Int.toNat_natCast, Int.toNat_natCast, hr0] at h; cases h))
                        clear hr0
                        go_upto_region 35 with fail
                        (refine wp_region_calm (by kernel_rfl) (by kernel_rfl) ?_; (repeat (refine wpCalm_step (fun K hK => ?_); go_simp; first | (refine hK _ ?_; clear hK K) | (apply Exists.intro; refine ⟨fun n' x' => ?_, hK _ ?_⟩; (fail); clear hK K))); refine wpCalm_nil ?_; intro nq xq)
                        go_wp2
                        (refine bodyPost_ret (v := .tuple #[.int .i64 0, .int .i64 16]) (by simp [results, Try.results29, go_sem]) rfl ?_)
                        exact ⟨ret_plan (a := 0) (b := 16) (by unfold planN; rw [HR.out]; rfl) HR.out.symm, HGW.out.trans (HG3.out.trans (hg.out.trans (by (repeat (first | exact World.grows.refl _ | assumption | refine World.grows.alloc ?_ _ | refine World.grows.plus ?_ _ _ | refine World.grows.drew ?_)))))⟩
                    · have HA : Hid (∀ x, x < k + 1 → rowC (aft t slow) (P.getD x []) = true) := Lib.hid (upto_succ hall.out (by rw [HCe.out]; exact HRC.out.2 fun x hx => hin.out x (by omega)))
                      rw [hl1]
                      clear hl1
                      go_wp2
                      exact ⟨⟨k + 1, by omega, by go_num, hg, HA⟩, by simp [intOf]; omega⟩
                · have hke : k = j := by omega
                  subst hke
                  have HR : Hid (planX t slow P = 0) := Lib.hid (by
                    rw [hE4.out, if_pos]
                    rw [List.all_eq_true]
                    intro c hc
                    obtain ⟨i, hi, rfl⟩ := List.mem_iff_getElem.1 hc
                    have := hall.out i (by rw [← HM.out]; exact hi)
                    rw [List.getD_eq_getElem?_getD, List.getElem?_eq_getElem hi] at this
                    exact this)
                  go_wp2
                  (refine bodyPost_ret (v := .tuple #[.int .i64 (k : Nat), .int .i64 0]) (by simp [results, Try.results29, go_sem]) rfl ?_)
                  exact ⟨ret_plan (b := 0) (by unfold planN; rw [HR.out, if_pos rfl, HM.out]) HR.out.symm, HGW.out.trans (HG3.out.trans (hg.out.trans (by (repeat (first | exact World.grows.refl _ | assumption | refine World.grows.alloc ?_ _ | refine World.grows.plus ?_ _ _ | refine World.grows.drew ?_)))))⟩
end Go.Proofs.Ytaanbdjmibjcbaa

