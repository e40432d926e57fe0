/-
  What is proved: MatchWithout (7) answers true.
-/
import Derived.Test.YteingahlmlndkaaM16
import Derived.Test.YteingahlmlndkaaM13
set_option linter.all false
namespace Go.Proofs.Yteingahlmlndkaa
open Go.RowKit
attribute [local irreducible] Go.wpCalm rowV
/-- a thing suits none of the first t things -/
def aloB (s : Stk) (i t : Nat) : Bool := (List.range t).all fun t => !s.suits i t
theorem aloB_succ (s : Stk) (i t : Nat) : aloB s i (t + 1) = (aloB s i t && !s.suits i t) := by
  unfold aloB
  rw [List.range_succ, List.all_append]
  simp
theorem aloB_all {s : Stk} (h16 : s.nt ≤ 16) {i : Nat} (hi : i < s.nt) : aloB s i s.nt = decide (kindN s.adj s.nt i = 0) := by
  rw [Bool.eq_iff_iff, decide_eq_true_eq, kind_zero h16]
  unfold aloB
  rw [List.all_eq_true]
  constructor
  · intro h k
    by_cases hk : k < s.nt
    · rw [Stk.adj_suits hi hk]
      simpa using h k (List.mem_range.2 hk)
    · rw [← Bool.not_eq_true]
      intro h2
      exact hk (Stk.adj_lt h2).2
  · intro h k hk
    have := h k
    rw [Stk.adj_suits hi (List.mem_range.1 hk)] at this
    rw [this]
    rfl
theorem suitX_ok {s : Stk} (hc : s.check = 0) {i k : Nat} (hi : i < s.nt) (hk : k < s.nt) : suitX s (i : Nat) (k : Nat) = s.suits i k := by
  unfold suitX
  rw [two_ok hc hi hk, Int.toNat_natCast, Int.toNat_natCast, Stk.adj_suits hi hk]
  rfl
theorem ints_cell {U : World} {rA : Option Addr} {n rc : Nat} {f : Nat → Int} (h : IntsAt U (.slice rA n rc) n f) {i : Nat} (hi : i < n) : ∃ b o, rA = some ⟨b, o, none⟩ ∧ U.cell? ⟨b, o + i, none⟩ = some (.int .i64 (f i)) := by
  obtain ⟨A, c, he, -, -, hc⟩ := h
  cases he
  obtain ⟨b, o, rfl, e⟩ := hc i 0 hi (by omega)
  exact ⟨b, o, rfl, by simpa only [Nat.mul_one, Nat.add_zero] using e⟩
set_option maxRecDepth 100000 in
set_option maxHeartbeats 16000000 in
theorem without_w (w : World) (tv : Value) (s : Stk) (ht : StkAt w tv s) (z2 : Int) (hz2 : 0 ≤ z2 ∧ z2 ≤ 255) (z3 : Int) (hz3 : 0 ≤ z3 ∧ z3 ≤ 255) (bv : Value) (nb : Nat) (b : Nat → Int) (hb : NumsAt .u8 w bv nb b) (hbb : ∀ i, i < nb → 0 ≤ b i ∧ b i ≤ 255) (v5 : Value) (n5 : Nat) (f5 : Nat → Int) (h5 : IntsAt w v5 n5 f5) : Calls Try.prog 7 #[tv, .int .u8 z2, .int .u8 z3, bv, v5] w fun e w' => e = .returned (.bool true) ∧ w.grows w' := by
  have HT := Lib.hid ht
  have Hb := Lib.hid hb
  have Hbb := Lib.hid hbb
  have H5 := Lib.hid h5
  obtain ⟨Z, rfl⟩ : ∃ Z : Nat, z2 = (Z : Nat) := ⟨z2.toNat, by omega⟩
  have hZ : Z < 256 := by omega
  obtain ⟨Y, rfl⟩ : ∃ Y : Nat, z3 = (Y : Nat) := ⟨z3.toNat, by omega⟩
  have hY : Y < 256 := by omega
  obtain ⟨sv, vv, rfl, ⟨sa, sc, rfl, -⟩, ⟨va, vc, rfl, -⟩⟩ := ht
  obtain ⟨ba, bc, rfl, -⟩ := nums_shape hb
  obtain ⟨a5, c5, rfl, -⟩ := h5
  obtain ⟨P, hP⟩ : ∃ P, s.wide = P := ⟨_, rfl⟩
  obtain ⟨N2, hN2⟩ : ∃ N, s.nm = N := ⟨_, rfl⟩
  rw [hP, hN2] at HT ⊢
  clear hP hN2 hz2 hz3 hb hbb
  go_enter Try.func7, Try.ntmps7
  have HB : Hid ((w.alloc (.cells #[.slice sa s.nt sc, .slice va N2 vc, .int .i64 P] 25)).heap[w.heap.size]? = some (.cells #[.slice sa s.nt sc, .slice va N2 vc, .int .i64 P] 25)) := Lib.hid (World.heap_at _ _ _ rfl)
  have HW : Hid (w.grows (w.alloc (.cells #[.slice sa s.nt sc, .slice va N2 vc, .int .i64 P] 25))) := Lib.hid (by (repeat (first | exact World.grows.refl _ | assumption | refine World.grows.alloc ?_ _ | refine World.grows.plus ?_ _ _ | refine World.grows.drew ?_)))
  have q0 := cell_of_heap (i := 0) HB.out rfl
  have q1 := cell_of_heap (i := 1) HB.out rfl
  have q2 := cell_of_heap (i := 2) HB.out rfl
  go_wp2_with (go_at_call 99; fail)
  refine (fine_c _ _ s (HT.out.mono (HW.out.trans (by (repeat (first | exact World.grows.refl _ | assumption | refine World.grows.alloc ?_ _ | refine World.grows.plus ?_ _ _ | refine World.grows.drew ?_)))))).mono ?_
  rintro e U ⟨rfl, g⟩
  replace HW := Lib.hid (HW.out.trans (World.grows.trans (by (repeat (first | exact World.grows.refl _ | assumption | refine World.grows.alloc ?_ _ | refine World.grows.plus ?_ _ _ | refine World.grows.drew ?_))) g)); replace HB := Lib.hid (g.heap_of (World.grows.heap_of (by (repeat (first | exact World.grows.refl _ | assumption | refine World.grows.alloc ?_ _ | refine World.grows.plus ?_ _ _ | refine World.grows.drew ?_))) HB.out)); replace q0 := cell_of_heap (i := 0) HB.out rfl; replace q1 := cell_of_heap (i := 1) HB.out rfl; replace q2 := cell_of_heap (i := 2) HB.out rfl; clear g
  by_cases hc : s.check = 0
  · rw [decide_eq_true hc]
    have hok := (Stk.ok_iff s).1 hc
    have h16 := hok.n16
    have HOk := Lib.hid hok
    have HC := Lib.hid hc
    clear hc hok
    by_cases hn0 : s.nt = 0
    · have hI : ((s.nt : Int) == 0) = true := by rw [hn0]; rfl
      clear hn0
      go_wp2_with (go_at_call 99; fail); refine (works_c _).mono ?_; rintro e U9 ⟨rfl, g⟩; replace HW := Lib.hid (HW.out.trans (World.grows.trans (by (repeat (first | exact World.grows.refl _ | assumption | refine World.grows.alloc ?_ _ | refine World.grows.plus ?_ _ _ | refine World.grows.drew ?_))) g)); replace HB := Lib.hid (g.heap_of (World.grows.heap_of (by (repeat (first | exact World.grows.refl _ | assumption | refine World.grows.alloc ?_ _ | refine World.grows.plus ?_ _ _ | refine World.grows.drew ?_))) HB.out)); replace q0 := cell_of_heap (i := 0) HB.out rfl; replace q1 := cell_of_heap (i := 1) HB.out rfl; replace q2 := cell_of_heap (i := 2) HB.out rfl; clear g; go_wp2; (refine bodyPost_ret (v := .bool true) (by simp [results, Try.results7, go_sem]) rfl ?_); exact ⟨rfl, HW.out.trans (by (repeat (first | exact World.grows.refl _ | assumption | refine World.grows.alloc ?_ _ | refine World.grows.plus ?_ _ _ | refine World.grows.drew ?_)))⟩
    · have hI : ((s.nt : Int) == 0) = false := by simp; omega
      by_cases hnb : 40 < nb
      · have hI2 : (40 : Int) < nb := by omega
        go_wp2_with (go_at_call 99; fail); refine (works_c _).mono ?_; rintro e U9 ⟨rfl, g⟩; replace HW := Lib.hid (HW.out.trans (World.grows.trans (by (repeat (first | exact World.grows.refl _ | assumption | refine World.grows.alloc ?_ _ | refine World.grows.plus ?_ _ _ | refine World.grows.drew ?_))) g)); replace HB := Lib.hid (g.heap_of (World.grows.heap_of (by (repeat (first | exact World.grows.refl _ | assumption | refine World.grows.alloc ?_ _ | refine World.grows.plus ?_ _ _ | refine World.grows.drew ?_))) HB.out)); replace q0 := cell_of_heap (i := 0) HB.out rfl; replace q1 := cell_of_heap (i := 1) HB.out rfl; replace q2 := cell_of_heap (i := 2) HB.out rfl; clear g; go_wp2; (refine bodyPost_ret (v := .bool true) (by simp [results, Try.results7, go_sem]) rfl ?_); exact ⟨rfl, HW.out.trans (by (repeat (first | exact World.grows.refl _ | assumption | refine World.grows.alloc ?_ _ | refine World.grows.plus ?_ _ _ | refine World.grows.drew ?_)))⟩
      · have hI2 : ¬ (40 : Int) < nb := by omega
        by_cases hn5 : 40 < n5
        · have hI5 : (40 : Int) < n5 := by omega
          go_wp2_with (go_at_call 99; fail); refine (works_c _).mono ?_; rintro e U9 ⟨rfl, g⟩; replace HW := Lib.hid (HW.out.trans (World.grows.trans (by (repeat (first | exact World.grows.refl _ | assumption | refine World.grows.alloc ?_ _ | refine World.grows.plus ?_ _ _ | refine World.grows.drew ?_))) g)); replace HB := Lib.hid (g.heap_of (World.grows.heap_of (by (repeat (first | exact World.grows.refl _ | assumption | refine World.grows.alloc ?_ _ | refine World.grows.plus ?_ _ _ | refine World.grows.drew ?_))) HB.out)); replace q0 := cell_of_heap (i := 0) HB.out rfl; replace q1 := cell_of_heap (i := 1) HB.out rfl; replace q2 := cell_of_heap (i := 2) HB.out rfl; clear g; go_wp2; (refine bodyPost_ret (v := .bool true) (by simp [results, Try.results7, go_sem]) rfl ?_); exact ⟨rfl, HW.out.trans (by (repeat (first | exact World.grows.refl _ | assumption | refine World.grows.alloc ?_ _ | refine World.grows.plus ?_ _ _ | refine World.grows.drew ?_)))⟩
        · have hI5 : ¬ (40 : Int) < n5 := by omega
          have hnI : ¬ (s.nt : Int) = 0 := by omega
          obtain ⟨i, hiE⟩ : ∃ i, Z % s.nt = i := ⟨_, rfl⟩
          have hi : i < s.nt := by rw [← hiE]; exact Nat.mod_lt _ (by omega)
          obtain ⟨j, hjE⟩ : ∃ j, Y % s.nt = j := ⟨_, rfl⟩
          have hj : j < s.nt := by rw [← hjE]; exact Nat.mod_lt _ (by omega)
          have hr1 := rem_at hiE
          have hr2 := rem_at hjE
          have w1 : IntKind.i64.wrap (Z : Int) = Z := wrapI rfl (by omega)
          have w2 : IntKind.i64.wrap (Y : Int) = Y := wrapI rfl (by omega)
          go_upto_region 3 with fail
          (refine wp_region_calm (by kernel_rfl) (by kernel_rfl) ?_; (repeat (refine wpCalm_step (fun K hK => ?_); go_simp; first | (refine hK _ ?_; clear hK K) | (apply Exists.intro; refine ⟨fun n' x' => ?_, hK _ ?_⟩; (fail); clear hK K))); refine wpCalm_nil ?_; intro nq xq)
          have g := World.grows_plus U nq xq
          replace HW := Lib.hid (HW.out.trans g)
          replace HB := Lib.hid (g.heap_of HB.out)
          generalize U.plus nq xq = U1 at HW HB ⊢
          clear g hr1 hr2 w1 w2 hiE hjE
          replace q0 := cell_of_heap (i := 0) HB.out rfl
          replace q1 := cell_of_heap (i := 1) HB.out rfl
          replace q2 := cell_of_heap (i := 2) HB.out rfl
          obtain ⟨NU, hNU⟩ : ∃ x, nu s.adj (belowN s.nt) 16 = x := ⟨_, rfl⟩
          have hNU16 : NU ≤ 16 := by have := nu_le s.adj_symm (below16 h16); omega
          have HNU := Lib.hid hNU
          clear hNU
          go_wp2_with (go_at_call 99; fail)
          refine (v_kinds (HT.out.mono (HW.out.trans (by (repeat (first | exact World.grows.refl _ | assumption | refine World.grows.alloc ?_ _ | refine World.grows.plus ?_ _ _ | refine World.grows.drew ?_))))) HOk.out).mono ?_
          rintro e U2 ⟨a2, c2, rfl, hk2, g⟩
          have HK := Lib.hid hk2
          have hc2 : s.nt ≤ c2 := by
            obtain ⟨A9, c9, e9, h9, -⟩ := hk2
            cases e9
            exact h9
          clear hk2
          replace HW := Lib.hid (HW.out.trans (World.grows.trans (by (repeat (first | exact World.grows.refl _ | assumption | refine World.grows.alloc ?_ _ | refine World.grows.plus ?_ _ _ | refine World.grows.drew ?_))) g)); replace HB := Lib.hid (g.heap_of (World.grows.heap_of (by (repeat (first | exact World.grows.refl _ | assumption | refine World.grows.alloc ?_ _ | refine World.grows.plus ?_ _ _ | refine World.grows.drew ?_))) HB.out)); replace q0 := cell_of_heap (i := 0) HB.out rfl; replace q1 := cell_of_heap (i := 1) HB.out rfl; replace q2 := cell_of_heap (i := 2) HB.out rfl; clear g
          go_wp2_with (go_at_call 99; fail)
          refine (v_best (HT.out.mono (HW.out.trans (by (repeat (first | exact World.grows.refl _ | assumption | refine World.grows.alloc ?_ _ | refine World.grows.plus ?_ _ _ | refine World.grows.drew ?_))))) HOk.out HNU.out).mono ?_
          rintro e U3 ⟨a3, c3, m3, rfl, hm3, hi3, g⟩
          have HM := Lib.hid hm3
          have HI := Lib.hid hi3
          clear hm3 hi3
          replace HK := Lib.hid (IntsAt.mono HK.out (World.grows.trans (by (repeat (first | exact World.grows.refl _ | assumption | refine World.grows.alloc ?_ _ | refine World.grows.plus ?_ _ _ | refine World.grows.drew ?_))) g)); replace HW := Lib.hid (HW.out.trans (World.grows.trans (by (repeat (first | exact World.grows.refl _ | assumption | refine World.grows.alloc ?_ _ | refine World.grows.plus ?_ _ _ | refine World.grows.drew ?_))) g)); replace HB := Lib.hid (g.heap_of (World.grows.heap_of (by (repeat (first | exact World.grows.refl _ | assumption | refine World.grows.alloc ?_ _ | refine World.grows.plus ?_ _ _ | refine World.grows.drew ?_))) HB.out)); replace q0 := cell_of_heap (i := 0) HB.out rfl; replace q1 := cell_of_heap (i := 1) HB.out rfl; replace q2 := cell_of_heap (i := 2) HB.out rfl; clear g
          obtain ⟨X, hX⟩ : ∃ x, pairN s.adj s.nt i j = x := ⟨_, rfl⟩
          have hX2 : X ≤ 2 := by rw [← hX]; exact pair_le i j
          have h33 := fun W hT => pair_c W (.agg #[.slice sa s.nt sc, .slice va N2 vc, .int .i64 P]) s hT (i : Nat) (j : Nat)
          rw [two_ok HC.out hi hj, if_pos rfl] at h33
          simp only [Int.toNat_natCast, hX] at h33
          have HX := Lib.hid hX
          clear hX
          go_wp2_with (go_at_call 99; fail)
          refine (h33 _ (HT.out.mono (HW.out.trans (by (repeat (first | exact World.grows.refl _ | assumption | refine World.grows.alloc ?_ _ | refine World.grows.plus ?_ _ _ | refine World.grows.drew ?_)))))).mono ?_
          rintro e U4 ⟨rfl, g⟩
          replace HI := Lib.hid (IntsAt.mono HI.out (World.grows.trans (by (repeat (first | exact World.grows.refl _ | assumption | refine World.grows.alloc ?_ _ | refine World.grows.plus ?_ _ _ | refine World.grows.drew ?_))) g))
          replace HK := Lib.hid (IntsAt.mono HK.out (World.grows.trans (by (repeat (first | exact World.grows.refl _ | assumption | refine World.grows.alloc ?_ _ | refine World.grows.plus ?_ _ _ | refine World.grows.drew ?_))) g)); replace HW := Lib.hid (HW.out.trans (World.grows.trans (by (repeat (first | exact World.grows.refl _ | assumption | refine World.grows.alloc ?_ _ | refine World.grows.plus ?_ _ _ | refine World.grows.drew ?_))) g)); replace HB := Lib.hid (g.heap_of (World.grows.heap_of (by (repeat (first | exact World.grows.refl _ | assumption | refine World.grows.alloc ?_ _ | refine World.grows.plus ?_ _ _ | refine World.grows.drew ?_))) HB.out)); replace q0 := cell_of_heap (i := 0) HB.out rfl; replace q1 := cell_of_heap (i := 1) HB.out rfl; replace q2 := cell_of_heap (i := 2) HB.out rfl; clear g
          clear h33
          go_wp2_with (go_at_call 99; fail)
          refine (wout_c _ _ s (HT.out.mono (HW.out.trans (by (repeat (first | exact World.grows.refl _ | assumption | refine World.grows.alloc ?_ _ | refine World.grows.plus ?_ _ _ | refine World.grows.drew ?_))))) HOk.out (i : Nat) (-1)).mono ?_
          rintro e U5 ⟨u, rfl, hu, g⟩
          replace HI := Lib.hid (IntsAt.mono HI.out (World.grows.trans (by (repeat (first | exact World.grows.refl _ | assumption | refine World.grows.alloc ?_ _ | refine World.grows.plus ?_ _ _ | refine World.grows.drew ?_))) g))
          replace HK := Lib.hid (IntsAt.mono HK.out (World.grows.trans (by (repeat (first | exact World.grows.refl _ | assumption | refine World.grows.alloc ?_ _ | refine World.grows.plus ?_ _ _ | refine World.grows.drew ?_))) g)); replace HW := Lib.hid (HW.out.trans (World.grows.trans (by (repeat (first | exact World.grows.refl _ | assumption | refine World.grows.alloc ?_ _ | refine World.grows.plus ?_ _ _ | refine World.grows.drew ?_))) g)); replace HB := Lib.hid (g.heap_of (World.grows.heap_of (by (repeat (first | exact World.grows.refl _ | assumption | refine World.grows.alloc ?_ _ | refine World.grows.plus ?_ _ _ | refine World.grows.drew ?_))) HB.out)); replace q0 := cell_of_heap (i := 0) HB.out rfl; replace q1 := cell_of_heap (i := 1) HB.out rfl; replace q2 := cell_of_heap (i := 2) HB.out rfl; clear g
          obtain ⟨M1, hM1⟩ : ∃ x, nu s.adj (less1 (belowN s.nt) i) 16 = x := ⟨_, rfl⟩
          have hnw := nu_wout1 HOk.out i
          rw [hM1] at hnw
          have HM1 := Lib.hid hM1
          have hM16 : M1 ≤ 16 := by rw [← hM1]; have := nu_le s.adj_symm (less1_lt (below16 h16) i); omega
          have HWo := Lib.hid (wout_ok HOk.out (i : Nat) (-1))
          obtain ⟨S2, hS2⟩ : ∃ x, s.sub (woutL s.nt (i : Nat) (-1)) = x := ⟨_, rfl⟩
          rw [hS2] at hu hnw HWo
          have HU := Lib.hid hu
          have HNw := Lib.hid hnw
          obtain ⟨tv2, mv2, rfl, ⟨ta, tc, rfl, -⟩, ⟨ma, mc, rfl, -⟩⟩ := hu
          clear hM1 hnw hS2
          go_wp2_with (go_at_call 99; fail)
          refine (v_best (HU.out.mono (by (repeat (first | exact World.grows.refl _ | assumption | refine World.grows.alloc ?_ _ | refine World.grows.plus ?_ _ _ | refine World.grows.drew ?_)))) HWo.out HNw.out).mono ?_
          rintro e U6 ⟨a6, c6, m6, rfl, -, -, g⟩
          replace HI := Lib.hid (IntsAt.mono HI.out (World.grows.trans (by (repeat (first | exact World.grows.refl _ | assumption | refine World.grows.alloc ?_ _ | refine World.grows.plus ?_ _ _ | refine World.grows.drew ?_))) g))
          replace HK := Lib.hid (IntsAt.mono HK.out (World.grows.trans (by (repeat (first | exact World.grows.refl _ | assumption | refine World.grows.alloc ?_ _ | refine World.grows.plus ?_ _ _ | refine World.grows.drew ?_))) g)); replace HW := Lib.hid (HW.out.trans (World.grows.trans (by (repeat (first | exact World.grows.refl _ | assumption | refine World.grows.alloc ?_ _ | refine World.grows.plus ?_ _ _ | refine World.grows.drew ?_))) g)); replace HB := Lib.hid (g.heap_of (World.grows.heap_of (by (repeat (first | exact World.grows.refl _ | assumption | refine World.grows.alloc ?_ _ | refine World.grows.plus ?_ _ _ | refine World.grows.drew ?_))) HB.out)); replace q0 := cell_of_heap (i := 0) HB.out rfl; replace q1 := cell_of_heap (i := 1) HB.out rfl; replace q2 := cell_of_heap (i := 2) HB.out rfl; clear g
          clear HU HWo HNw
          go_wp2_with (go_at_call 99; fail)
          refine (wout_c _ _ s (HT.out.mono (HW.out.trans (by (repeat (first | exact World.grows.refl _ | assumption | refine World.grows.alloc ?_ _ | refine World.grows.plus ?_ _ _ | refine World.grows.drew ?_))))) HOk.out (i : Nat) (j : Nat)).mono ?_
          rintro e U7 ⟨u, rfl, hu, g⟩
          replace HI := Lib.hid (IntsAt.mono HI.out (World.grows.trans (by (repeat (first | exact World.grows.refl _ | assumption | refine World.grows.alloc ?_ _ | refine World.grows.plus ?_ _ _ | refine World.grows.drew ?_))) g))
          replace HK := Lib.hid (IntsAt.mono HK.out (World.grows.trans (by (repeat (first | exact World.grows.refl _ | assumption | refine World.grows.alloc ?_ _ | refine World.grows.plus ?_ _ _ | refine World.grows.drew ?_))) g)); replace HW := Lib.hid (HW.out.trans (World.grows.trans (by (repeat (first | exact World.grows.refl _ | assumption | refine World.grows.alloc ?_ _ | refine World.grows.plus ?_ _ _ | refine World.grows.drew ?_))) g)); replace HB := Lib.hid (g.heap_of (World.grows.heap_of (by (repeat (first | exact World.grows.refl _ | assumption | refine World.grows.alloc ?_ _ | refine World.grows.plus ?_ _ _ | refine World.grows.drew ?_))) HB.out)); replace q0 := cell_of_heap (i := 0) HB.out rfl; replace q1 := cell_of_heap (i := 1) HB.out rfl; replace q2 := cell_of_heap (i := 2) HB.out rfl; clear g
          obtain ⟨W2, hW2⟩ : ∃ x, nu s.adj (less1 (less1 (belowN s.nt) i) j) 16 = x := ⟨_, rfl⟩
          have hnw := (nu_wout2 HOk.out i j).1
          rw [hW2] at hnw
          have HW2 := Lib.hid hW2
          have hW16 : W2 ≤ 16 := by rw [← hW2]; have := nu_le s.adj_symm (less1_lt (less1_lt (below16 h16) i) j); omega
          have HWo := Lib.hid (wout_ok HOk.out (i : Nat) (j : Nat))
          obtain ⟨S3, hS3⟩ : ∃ x, s.sub (woutL s.nt (i : Nat) (j : Nat)) = x := ⟨_, rfl⟩
          rw [hS3] at hu hnw HWo
          have HU := Lib.hid hu
          have HNw := Lib.hid hnw
          obtain ⟨tv3, mv3, rfl, ⟨ta3, tc3, rfl, -⟩, ⟨ma3, mc3, rfl, -⟩⟩ := hu
          clear hW2 hnw hS3
          go_wp2_with (go_at_call 99; fail)
          refine (v_best (HU.out.mono (by (repeat (first | exact World.grows.refl _ | assumption | refine World.grows.alloc ?_ _ | refine World.grows.plus ?_ _ _ | refine World.grows.drew ?_)))) HWo.out HNw.out).mono ?_
          rintro e U8 ⟨a8, c8, m8, rfl, -, -, g⟩
          replace HI := Lib.hid (IntsAt.mono HI.out (World.grows.trans (by (repeat (first | exact World.grows.refl _ | assumption | refine World.grows.alloc ?_ _ | refine World.grows.plus ?_ _ _ | refine World.grows.drew ?_))) g))
          replace HK := Lib.hid (IntsAt.mono HK.out (World.grows.trans (by (repeat (first | exact World.grows.refl _ | assumption | refine World.grows.alloc ?_ _ | refine World.grows.plus ?_ _ _ | refine World.grows.drew ?_))) g)); replace HW := Lib.hid (HW.out.trans (World.grows.trans (by (repeat (first | exact World.grows.refl _ | assumption | refine World.grows.alloc ?_ _ | refine World.grows.plus ?_ _ _ | refine World.grows.drew ?_))) g)); replace HB := Lib.hid (g.heap_of (World.grows.heap_of (by (repeat (first | exact World.grows.refl _ | assumption | refine World.grows.alloc ?_ _ | refine World.grows.plus ?_ _ _ | refine World.grows.drew ?_))) HB.out)); replace q0 := cell_of_heap (i := 0) HB.out rfl; replace q1 := cell_of_heap (i := 1) HB.out rfl; replace q2 := cell_of_heap (i := 2) HB.out rfl; clear g
          clear HU HWo HNw
          obtain ⟨KI, hKI⟩ : ∃ x, kindN s.adj s.nt i = x := ⟨_, rfl⟩
          obtain ⟨KJ, hKJ⟩ : ∃ x, kindN s.adj s.nt j = x := ⟨_, rfl⟩
          have hKI2 : KI ≤ 2 := by rw [← hKI]; exact kind_le i
          have hKJ2 : KJ ≤ 2 := by rw [← hKJ]; exact kind_le j
          have HKI := Lib.hid hKI
          have HKJ := Lib.hid hKJ
          obtain ⟨kb, ko, rfl, -⟩ := ints_cell HK.out hi
          have HKc : Hid (∀ U, w.grows U → True) := Lib.hid fun _ _ => trivial
          have hiI : (i : Int) < s.nt := by omega
          have hjI : (j : Int) < s.nt := by omega
          have ki : U8.cell? ⟨kb, ko + i, none⟩ = some (.int .i64 (KI : Nat)) := by
            obtain ⟨b9, o9, e9, h9⟩ := ints_cell HK.out hi
            cases e9
            rw [kindsF_at hi, hKI] at h9
            exact h9
          have kj : U8.cell? ⟨kb, ko + j, none⟩ = some (.int .i64 (KJ : Nat)) := by
            obtain ⟨b9, o9, e9, h9⟩ := ints_cell HK.out hj
            cases e9
            rw [kindsF_at hj, hKJ] at h9
            exact h9
          clear hKI hKJ HKc
          have k1 : ¬ (KI : Int) < 0 := by omega
          have k2 : ¬ (2 : Int) < KI := by omega
          have k3 : ¬ (X : Int) < 0 := by omega
          have k4 : ¬ (2 : Int) < X := by omega
          go_upto_region 11 with fail
          have HB0 := HB
          have HW0 := HW
          clear HB HW q0 q1 q2
          have HKi := Lib.hid ki
          have HKj := Lib.hid kj
          clear ki kj
          go_wp2
          go_loopw [26, 27] (fun i26 i27 wr => ∃ t : Nat, t ≤ s.nt ∧ i27 = .int .i64 (t : Nat) ∧ i26 = .bool (aloB s i t) ∧ Hid (w.grows wr) ∧ Hid (wr.heap[w.heap.size]? = some (.cells #[.slice sa s.nt sc, .slice va N2 vc, .int .i64 P] 25)) ∧ Hid (U8.grows wr)) (fun _ i27 _ => s.nt - (intOf i27).toNat)
          case atStart => exact ⟨0, by omega, rfl, rfl, HW0, HB0, Lib.hid (World.grows.refl _)⟩
          case round => as_aux_lemma =>
            clear HB0 HW0
            obtain ⟨t, ht, rfl, rfl, HW, HB, HG⟩ := hrel
            have q0 := cell_of_heap (i := 0) HB.out rfl
            have q1 := cell_of_heap (i := 1) HB.out rfl
            have q2 := cell_of_heap (i := 2) HB.out rfl
            by_cases hlt : t < s.nt
            · have hltI : (t : Int) < s.nt := by omega
              have h15 := fun W hT => suit_c W (.agg #[.slice sa s.nt sc, .slice va N2 vc, .int .i64 P]) s hT (i : Nat) (t : Nat)
              rw [two_ok HC.out hi hlt, suitX_ok HC.out hi hlt] at h15
              have HS := Lib.hid (aloB_succ s i t)
              obtain ⟨al, hal⟩ : ∃ x, aloB s i t = x := ⟨_, rfl⟩
              rw [hal] at HS ⊢
              clear hal
              go_wp2_with (go_at_call 99; fail)
              refine (h15 _ (HT.out.mono (HW.out.trans (by (repeat (first | exact World.grows.refl _ | assumption | refine World.grows.alloc ?_ _ | refine World.grows.plus ?_ _ _ | refine World.grows.drew ?_)))))).mono ?_
              rintro e V1 ⟨rfl, g⟩
              replace HG := Lib.hid (HG.out.trans (World.grows.trans (by (repeat (first | exact World.grows.refl _ | assumption | refine World.grows.alloc ?_ _ | refine World.grows.plus ?_ _ _ | refine World.grows.drew ?_))) g))
              replace HW := Lib.hid (HW.out.trans (World.grows.trans (by (repeat (first | exact World.grows.refl _ | assumption | refine World.grows.alloc ?_ _ | refine World.grows.plus ?_ _ _ | refine World.grows.drew ?_))) g)); replace HB := Lib.hid (g.heap_of (World.grows.heap_of (by (repeat (first | exact World.grows.refl _ | assumption | refine World.grows.alloc ?_ _ | refine World.grows.plus ?_ _ _ | refine World.grows.drew ?_))) HB.out)); replace q0 := cell_of_heap (i := 0) HB.out rfl; replace q1 := cell_of_heap (i := 1) HB.out rfl; replace q2 := cell_of_heap (i := 2) HB.out rfl; clear g
              clear h15
              go_wp2_with (go_at_call 99; fail)
              refine (suits_c _ _ s (HT.out.mono (HW.out.trans (by (repeat (first | exact World.grows.refl _ | assumption | refine World.grows.alloc ?_ _ | refine World.grows.plus ?_ _ _ | refine World.grows.drew ?_))))) HOk.out i t hi hlt).mono ?_
              rintro e V2 ⟨rfl, g⟩
              replace HG := Lib.hid (HG.out.trans (World.grows.trans (by (repeat (first | exact World.grows.refl _ | assumption | refine World.grows.alloc ?_ _ | refine World.grows.plus ?_ _ _ | refine World.grows.drew ?_))) g))
              replace HW := Lib.hid (HW.out.trans (World.grows.trans (by (repeat (first | exact World.grows.refl _ | assumption | refine World.grows.alloc ?_ _ | refine World.grows.plus ?_ _ _ | refine World.grows.drew ?_))) g)); replace HB := Lib.hid (g.heap_of (World.grows.heap_of (by (repeat (first | exact World.grows.refl _ | assumption | refine World.grows.alloc ?_ _ | refine World.grows.plus ?_ _ _ | refine World.grows.drew ?_))) HB.out)); replace q0 := cell_of_heap (i := 0) HB.out rfl; replace q1 := cell_of_heap (i := 1) HB.out rfl; replace q2 := cell_of_heap (i := 2) HB.out rfl; clear g
              cases hs : s.suits i t with
              | true =>
                have HS2 : Hid (aloB s i (t + 1) = false) := Lib.hid (by rw [HS.out, hs]; simp)
                clear HS hs
                cases al with
                | true =>
                  go_wp2
                  case roundEnd => exact ⟨⟨t + 1, by omega, by go_num, by rw [HS2.out], HW, HB, HG⟩, by simp [intOf]; omega⟩
                | false =>
                  go_wp2
                  case roundEnd => exact ⟨⟨t + 1, by omega, by go_num, by rw [HS2.out], HW, HB, HG⟩, by simp [intOf]; omega⟩
              | false =>
                have HS2 : Hid (aloB s i (t + 1) = al) := Lib.hid (by rw [HS.out, hs]; simp)
                clear HS hs
                cases al with
                | true =>
                  go_wp2
                  case roundEnd => exact ⟨⟨t + 1, by omega, by go_num, by rw [HS2.out], HW, HB, HG⟩, by simp [intOf]; omega⟩
                | false =>
                  go_wp2
                  case roundEnd => exact ⟨⟨t + 1, by omega, by go_num, by rw [HS2.out], HW, HB, HG⟩, by simp [intOf]; omega⟩
            · have hltI : ¬ (t : Int) < s.nt := by omega
              have htn : t = s.nt := by omega
              have e1 : aloB s i t = decide (KI = 0) := by rw [htn, aloB_all h16 hi, HKI.out]
              rw [e1]
              clear e1 htn
              have ki := HG.out.cell_of HKi.out
              have kj := HG.out.cell_of HKj.out
              replace HI := Lib.hid (IntsAt.mono HI.out HG.out)
              clear HG HKi HKj HK
              go_upto_region 19 with fail
              have HB5 := HB
              have HW5 := HW
              go_cut [26, 210] from 179 (fun _ z w' => z = .bool false ∧ w' = wr)
              case first => as_aux_lemma =>
                have hkl := kind_less h16 hi
                rw [HKI.out, HNU.out, HM1.out] at hkl
                rcases (show KI = 0 ∨ KI = 1 ∨ KI = 2 by omega) with e1 | e1 | e1
                · have m1 : ((KI : Int) == 2) = false := by simp; omega
                  have m2 : ((KI : Int) == 0) = true := by simp; omega
                  have m3 : ((KI : Int) != 2) = true := by simp; omega
                  rw [if_neg (by omega)] at hkl
                  have m4 : ((M1 : Int) != (NU : Int)) = false := by simp; omega
                  rw [decide_eq_true e1]
                  clear e1 hkl
                  go_wp2
                  go_meet
                  case rel => exact ⟨rfl, rfl⟩
                · have m1 : ((KI : Int) == 2) = false := by simp; omega
                  have m2 : ((KI : Int) == 0) = false := by simp; omega
                  have m3 : ((KI : Int) != 2) = true := by simp; omega
                  rw [if_neg (by omega)] at hkl
                  have m4 : ((M1 : Int) != (NU : Int)) = false := by simp; omega
                  rw [decide_eq_false (show ¬ KI = 0 by omega)]
                  clear e1 hkl
                  go_wp2
                  go_meet
                  case rel => exact ⟨rfl, rfl⟩
                · have m1 : ((KI : Int) == 2) = true := by simp; omega
                  have m2 : ((KI : Int) == 0) = false := by simp; omega
                  have m3 : ((KI : Int) != 2) = false := by simp; omega
                  rw [if_pos e1] at hkl
                  have m4 : ((M1 : Int) != (NU : Int) - 1) = false := by simp; omega
                  rw [decide_eq_false (show ¬ KI = 0 by omega)]
                  clear e1 hkl
                  go_wp2
                  go_meet
                  case rel => exact ⟨rfl, rfl⟩
              case rest => as_aux_lemma =>
                obtain ⟨rfl, rfl⟩ := hcut
                clear HB5 HW5
                go_upto_region 21 with fail
                have HB5 := HB
                have HW5 := HW
                have HI5 := HI
                have HKi := Lib.hid ki
                obtain ⟨V3, rfl⟩ : ∃ V3, V3 = wc := ⟨_, rfl⟩
                go_cut [241] from 211 (fun z w' => z = .bool false ∧ Hid (w.grows w') ∧ Hid (w'.heap[w.heap.size]? = some (.cells #[.slice sa s.nt sc, .slice va N2 vc, .int .i64 P] 25)) ∧ Hid (V3.grows w'))
                case first => as_aux_lemma =>
                  have hpp := pair_pos (s := s) i j
                  rw [HX.out, HNU.out, HW2.out, Stk.adj_suits hi hj] at hpp
                  have hpk : X = 2 → KI = 2 ∧ KJ = 2 := fun h => by
                    have := pair_kinds h16 hi hj (HX.out.trans h)
                    rw [HKI.out, HKJ.out] at this
                    exact this
                  have h41 := fun W hT => suits_c W (.agg #[.slice sa s.nt sc, .slice va N2 vc, .int .i64 P]) s hT HOk.out i j hi hj
                  by_cases e2 : X = 2
                  · obtain ⟨e3, e4⟩ := hpk e2
                    obtain ⟨e5, e6⟩ := hpp.1 (by omega)
                    have m1 : ((X : Int) == 2) = true := by simp; omega
                    have m2 : ((KI : Int) != 2) = false := by simp; omega
                    have m3 : ((KJ : Int) != 2) = false := by simp; omega
                    have m4 : ((X : Int) != 0) = true := by simp; omega
                    have m5 : ((W2 : Int) == (NU : Int) - 1) = true := by simp; omega
                    rw [e5] at h41
                    clear e2 e3 e4 e5 e6 hpp hpk
                    go_wp2_with (go_at_call 99; fail); refine (h41 _ (HT.out.mono (HW.out.trans (by (repeat (first | exact World.grows.refl _ | assumption | refine World.grows.alloc ?_ _ | refine World.grows.plus ?_ _ _ | refine World.grows.drew ?_)))))).mono ?_; rintro e V4 ⟨rfl, g⟩; have g' : V3.grows V4 := World.grows.trans (by (repeat (first | exact World.grows.refl _ | assumption | refine World.grows.alloc ?_ _ | refine World.grows.plus ?_ _ _ | refine World.grows.drew ?_))) g; replace HW := Lib.hid (HW.out.trans (World.grows.trans (by (repeat (first | exact World.grows.refl _ | assumption | refine World.grows.alloc ?_ _ | refine World.grows.plus ?_ _ _ | refine World.grows.drew ?_))) g)); replace HB := Lib.hid (g.heap_of (World.grows.heap_of (by (repeat (first | exact World.grows.refl _ | assumption | refine World.grows.alloc ?_ _ | refine World.grows.plus ?_ _ _ | refine World.grows.drew ?_))) HB.out)); replace q0 := cell_of_heap (i := 0) HB.out rfl; replace q1 := cell_of_heap (i := 1) HB.out rfl; replace q2 := cell_of_heap (i := 2) HB.out rfl; clear g; clear h41; go_wp2; go_meet; (case rel => exact ⟨rfl, HW, HB, Lib.hid g'⟩)
                  · have m1 : ((X : Int) == 2) = false := by simp; omega
                    by_cases e1 : X = 0
                    · have m4 : ((X : Int) != 0) = false := by simp; omega
                      cases hs : s.suits i j with
                      | false =>
                        rw [hs] at h41
                        clear e2 e1 hpp hpk hs
                        go_wp2_with (go_at_call 99; fail); refine (h41 _ (HT.out.mono (HW.out.trans (by (repeat (first | exact World.grows.refl _ | assumption | refine World.grows.alloc ?_ _ | refine World.grows.plus ?_ _ _ | refine World.grows.drew ?_)))))).mono ?_; rintro e V4 ⟨rfl, g⟩; have g' : V3.grows V4 := World.grows.trans (by (repeat (first | exact World.grows.refl _ | assumption | refine World.grows.alloc ?_ _ | refine World.grows.plus ?_ _ _ | refine World.grows.drew ?_))) g; replace HW := Lib.hid (HW.out.trans (World.grows.trans (by (repeat (first | exact World.grows.refl _ | assumption | refine World.grows.alloc ?_ _ | refine World.grows.plus ?_ _ _ | refine World.grows.drew ?_))) g)); replace HB := Lib.hid (g.heap_of (World.grows.heap_of (by (repeat (first | exact World.grows.refl _ | assumption | refine World.grows.alloc ?_ _ | refine World.grows.plus ?_ _ _ | refine World.grows.drew ?_))) HB.out)); replace q0 := cell_of_heap (i := 0) HB.out rfl; replace q1 := cell_of_heap (i := 1) HB.out rfl; replace q2 := cell_of_heap (i := 2) HB.out rfl; clear g; clear h41; go_wp2; go_meet; (case rel => exact ⟨rfl, HW, HB, Lib.hid g'⟩)
                      | true =>
                        have e6 : ¬ W2 + 1 = NU := fun h => hpp.2 ⟨hs, h⟩ e1
                        have m5 : ((W2 : Int) == (NU : Int) - 1) = false := by simp; omega
                        rw [hs] at h41
                        clear e2 e1 hpp hpk hs e6
                        go_wp2_with (go_at_call 99; fail); refine (h41 _ (HT.out.mono (HW.out.trans (by (repeat (first | exact World.grows.refl _ | assumption | refine World.grows.alloc ?_ _ | refine World.grows.plus ?_ _ _ | refine World.grows.drew ?_)))))).mono ?_; rintro e V4 ⟨rfl, g⟩; have g' : V3.grows V4 := World.grows.trans (by (repeat (first | exact World.grows.refl _ | assumption | refine World.grows.alloc ?_ _ | refine World.grows.plus ?_ _ _ | refine World.grows.drew ?_))) g; replace HW := Lib.hid (HW.out.trans (World.grows.trans (by (repeat (first | exact World.grows.refl _ | assumption | refine World.grows.alloc ?_ _ | refine World.grows.plus ?_ _ _ | refine World.grows.drew ?_))) g)); replace HB := Lib.hid (g.heap_of (World.grows.heap_of (by (repeat (first | exact World.grows.refl _ | assumption | refine World.grows.alloc ?_ _ | refine World.grows.plus ?_ _ _ | refine World.grows.drew ?_))) HB.out)); replace q0 := cell_of_heap (i := 0) HB.out rfl; replace q1 := cell_of_heap (i := 1) HB.out rfl; replace q2 := cell_of_heap (i := 2) HB.out rfl; clear g; clear h41; go_wp2; go_meet; (case rel => exact ⟨rfl, HW, HB, Lib.hid g'⟩)
                    · obtain ⟨e5, e6⟩ := hpp.1 e1
                      have m4 : ((X : Int) != 0) = true := by simp; omega
                      have m5 : ((W2 : Int) == (NU : Int) - 1) = true := by simp; omega
                      rw [e5] at h41
                      clear e2 e1 hpp hpk e5 e6
                      go_wp2_with (go_at_call 99; fail); refine (h41 _ (HT.out.mono (HW.out.trans (by (repeat (first | exact World.grows.refl _ | assumption | refine World.grows.alloc ?_ _ | refine World.grows.plus ?_ _ _ | refine World.grows.drew ?_)))))).mono ?_; rintro e V4 ⟨rfl, g⟩; have g' : V3.grows V4 := World.grows.trans (by (repeat (first | exact World.grows.refl _ | assumption | refine World.grows.alloc ?_ _ | refine World.grows.plus ?_ _ _ | refine World.grows.drew ?_))) g; replace HW := Lib.hid (HW.out.trans (World.grows.trans (by (repeat (first | exact World.grows.refl _ | assumption | refine World.grows.alloc ?_ _ | refine World.grows.plus ?_ _ _ | refine World.grows.drew ?_))) g)); replace HB := Lib.hid (g.heap_of (World.grows.heap_of (by (repeat (first | exact World.grows.refl _ | assumption | refine World.grows.alloc ?_ _ | refine World.grows.plus ?_ _ _ | refine World.grows.drew ?_))) HB.out)); replace q0 := cell_of_heap (i := 0) HB.out rfl; replace q1 := cell_of_heap (i := 1) HB.out rfl; replace q2 := cell_of_heap (i := 2) HB.out rfl; clear g; clear h41; go_wp2; go_meet; (case rel => exact ⟨rfl, HW, HB, Lib.hid g'⟩)
                case rest => as_aux_lemma =>
                  clear HB HW HB5 HW5 q0 q1 q2
                  obtain ⟨rfl, HW, HB, HG⟩ := hcut
                  have q0 := cell_of_heap (i := 0) HB.out rfl
                  have q1 := cell_of_heap (i := 1) HB.out rfl
                  have q2 := cell_of_heap (i := 2) HB.out rfl
                  replace ki := HG.out.cell_of HKi.out
                  replace HI := Lib.hid (IntsAt.mono HI.out HG.out)
                  clear HG HKi kj HI5
                  go_wp2_with (go_at_call 99; fail)
                  refine (lpair_c _ _ s (HT.out.mono (HW.out.trans (by (repeat (first | exact World.grows.refl _ | assumption | refine World.grows.alloc ?_ _ | refine World.grows.plus ?_ _ _ | refine World.grows.drew ?_))))) HOk.out _ nb b (NumsAt.mono Hb.out (HW.out.trans (by (repeat (first | exact World.grows.refl _ | assumption | refine World.grows.alloc ?_ _ | refine World.grows.plus ?_ _ _ | refine World.grows.drew ?_))))) Hbb.out (by omega)).mono ?_
                  rintro e V5 ⟨u, M5, rfl, hM5, hi5, g⟩
                  obtain ⟨ua, uc, rfl, -⟩ := id hi5
                  have gg : wc.grows V5 := World.grows.trans (by (repeat (first | exact World.grows.refl _ | assumption | refine World.grows.alloc ?_ _ | refine World.grows.plus ?_ _ _ | refine World.grows.drew ?_))) g
                  replace HI := Lib.hid (IntsAt.mono HI.out gg)
                  replace ki := gg.cell_of ki
                  clear gg
                  replace HW := Lib.hid (HW.out.trans (World.grows.trans (by (repeat (first | exact World.grows.refl _ | assumption | refine World.grows.alloc ?_ _ | refine World.grows.plus ?_ _ _ | refine World.grows.drew ?_))) g)); replace HB := Lib.hid (g.heap_of (World.grows.heap_of (by (repeat (first | exact World.grows.refl _ | assumption | refine World.grows.alloc ?_ _ | refine World.grows.plus ?_ _ _ | refine World.grows.drew ?_))) HB.out)); replace q0 := cell_of_heap (i := 0) HB.out rfl; replace q1 := cell_of_heap (i := 1) HB.out rfl; replace q2 := cell_of_heap (i := 2) HB.out rfl; clear g
                  obtain ⟨lb, hlb⟩ : ∃ x, V5.heap.size = x := ⟨_, rfl⟩
                  have HL := Lib.hid (World.heap_at V5 (.cells #[.slice a3 s.nt c3, .slice ua s.nt uc, .slice a5 n5 c5] 26) lb hlb.symm)
                  go_wp2
                  have gL : V5.grows (V5.alloc (.cells #[.slice a3 s.nt c3, .slice ua s.nt uc, .slice a5 n5 c5] 26)) := by (repeat (first | exact World.grows.refl _ | assumption | refine World.grows.alloc ?_ _ | refine World.grows.plus ?_ _ _ | refine World.grows.drew ?_))
                  have HI6 := Lib.hid (IntsAt.mono HI.out gL)
                  have HU6 := Lib.hid (IntsAt.mono hi5 gL)
                  have HW6 := Lib.hid (HW.out.trans gL)
                  have HB6 := Lib.hid (gL.heap_of HB.out)
                  have HKi := Lib.hid (gL.cell_of ki)
                  have HR : Hid (∀ t, t < 3 → ∃ A n c f, (#[Value.slice a3 s.nt c3, .slice ua s.nt uc, .slice a5 n5 c5] : Array Value)[t]? = some (.slice A n c) ∧ IntsAt (V5.alloc (.cells #[.slice a3 s.nt c3, .slice ua s.nt uc, .slice a5 n5 c5] 26)) (.slice A n c) n f ∧ (t = 0 → Go.Proofs.Yteingahlmlndkaa.pNum s f n = NU ∧ Go.Proofs.Yteingahlmlndkaa.pErr s f n = 0)) := Lib.hid fun t ht => by
                    rcases (show t = 0 ∨ t = 1 ∨ t = 2 by omega) with rfl | rfl | rfl
                    · exact ⟨a3, s.nt, c3, mvI m3, rfl, HI6.out, fun _ => ⟨by rw [HM.out.pNum h16, HNU.out], HM.out.isM.pErr⟩⟩
                    · exact ⟨ua, s.nt, uc, mvI M5, rfl, HU6.out, fun h => by cases h⟩
                    · exact ⟨a5, n5, c5, f5, rfl, IntsAt.mono H5.out HW6.out, fun h => by cases h⟩
                  have HKN : Hid ((KI = 2 → ∀ M, Mx s.adj (belowN s.nt) 16 M → 0 ≤ mvI M i) ∧ (KI = 0 → ∀ M, Mx s.adj (belowN s.nt) 16 M → mvI M i < 0) ∧ (X = 2 → ∀ M, Mx s.adj (belowN s.nt) 16 M → mvI M i = (j : Nat)) ∧ (X = 0 → ∀ M, Mx s.adj (belowN s.nt) 16 M → mvI M i ≠ (j : Nat))) := Lib.hid ⟨fun h M hM => mate_two h16 hi (HKI.out.trans h) hM, fun h M hM => mate_zero h16 (HKI.out.trans h) hM, fun h M hM => pair_mate_two h16 (HX.out.trans h) hM, fun h M hM => pair_mate_zero h16 hi hj (HX.out.trans h) hM⟩
                  clear HI HW HB gL hlb hi5 hM5 ki q0 q1 q2 HI6 HU6 HM HM1 HW2 HKI HKJ HX
                  generalize V5.alloc (.cells #[.slice a3 s.nt c3, .slice ua s.nt uc, .slice a5 n5 c5] 26) = V6 at HL HW6 HB6 HKi HR ⊢
                  go_loopw [31] (fun i31 wr => ∃ t : Nat, t ≤ 3 ∧ i31 = .int .i64 (t : Nat) ∧ Hid (w.grows wr) ∧ Hid (wr.heap[w.heap.size]? = some (.cells #[.slice sa s.nt sc, .slice va N2 vc, .int .i64 P] 25)) ∧ Hid (V6.grows wr)) (fun i31 _ => 3 - (intOf i31).toNat)
                  case atStart => exact ⟨0, by omega, rfl, HW6, HB6, Lib.hid (World.grows.refl _)⟩
                  case round => as_aux_lemma =>
                    clear HB6 HW6
                    obtain ⟨t, ht, rfl, HW, HB, HG⟩ := hrel
                    have q0 := cell_of_heap (i := 0) HB.out rfl
                    have q1 := cell_of_heap (i := 1) HB.out rfl
                    have q2 := cell_of_heap (i := 2) HB.out rfl
                    by_cases hlt : t < 3
                    · have hltI : (t : Int) < 3 := by omega
                      obtain ⟨A, n, c, f, hA, hfI, hf0⟩ := HR.out t hlt
                      have ct := HG.out.cell_of (cell_of_heap HL.out hA)
                      have HF := Lib.hid (IntsAt.mono hfI HG.out)
                      obtain ⟨NP, hNP⟩ : ∃ x, Go.Proofs.Yteingahlmlndkaa.pNum s f n = x := ⟨_, rfl⟩
                      obtain ⟨NE, hNE⟩ : ∃ x, Go.Proofs.Yteingahlmlndkaa.pErr s f n = x := ⟨_, rfl⟩
                      have h20 := fun W hT hI => rpairing_ok W (.agg #[.slice sa s.nt sc, .slice va N2 vc, .int .i64 P]) s hT HOk.out (.slice A n c) n f hI
                      rw [hNP, hNE] at h20 hf0
                      have HMx : Hid (NE = 0 → NP = NU → ∃ M, Mx s.adj (belowN s.nt) 16 M ∧ n = s.nt ∧ f i = mvI M i) := Lib.hid fun h1 h2 => by
                        obtain ⟨M, hM, h3, h4⟩ := list_mx h16 (hNE.trans h1) (by rw [hNP, h2, HNU.out])
                        exact ⟨M, hM, h3, h4 i hi⟩
                      have Hf0 := Lib.hid hf0
                      clear hA hfI hNP hNE hf0
                      go_upto_region 27 with fail
                      (refine wp_region_chainR 6 [5] (by kernel_rfl) (by kernel_rfl) (by decide) ?_; simp only [without, only, withNo, List.take_succ_cons, List.take_zero, List.drop_succ_cons, List.drop_zero, List.take_nil, List.drop_nil, Nat.reduceAdd, Nat.reduceSub, List.filter, List.contains_cons, List.contains_nil, Nat.reduceBEq, Bool.or_false, Bool.false_or, Bool.true_or, Bool.or_true, Bool.or_self, Bool.not_true, Bool.not_false, List.map_cons, List.map_nil]; (repeat (refine wpCalm_step (fun K hK => ?_); go_simp; first | (refine hK _ ?_; clear hK K) | (apply Exists.intro; refine ⟨fun n' x' => ?_, hK _ ?_⟩; (fail); clear hK K))); refine wpCalm_nil ?_)
                      (refine wpChain_step (fun K hK nc xc => ?_); go_simp)
                      refine (h20 _ (HT.out.mono (HW.out.trans (by (repeat (first | exact World.grows.refl _ | assumption | refine World.grows.alloc ?_ _ | refine World.grows.plus ?_ _ _ | refine World.grows.drew ?_))))) (IntsAt.mono HF.out (by (repeat (first | exact World.grows.refl _ | assumption | refine World.grows.alloc ?_ _ | refine World.grows.plus ?_ _ _ | refine World.grows.drew ?_))))).mono ?_
                      rintro e V7 ⟨rfl, g⟩
                      refine ⟨_, rfl, g, hK _ _ ?_⟩
                      clear hK K h20
                      (refine wpChain_nil (fun nc xc => ?_))
                      have gV : wr.grows (V7.plus nc xc) := World.grows.trans (World.grows.trans (by (repeat (first | exact World.grows.refl _ | assumption | refine World.grows.alloc ?_ _ | refine World.grows.plus ?_ _ _ | refine World.grows.drew ?_))) g) (World.grows_plus _ _ _)
                      generalize V7.plus nc xc = V7' at gV ⊢
                      clear g
                      ((try simp only [without, only, withNo, List.take_succ_cons, List.take_zero, List.drop_succ_cons, List.drop_zero, List.take_nil, List.drop_nil, Nat.reduceAdd, Nat.reduceSub, List.filter, List.contains_cons, List.contains_nil, Nat.reduceBEq, Bool.or_false, Bool.false_or, Bool.true_or, Bool.or_true, Bool.or_self, Bool.not_true, Bool.not_false, List.map_cons, List.map_nil]); (repeat (refine wpCalm_step (fun K hK => ?_); go_simp; first | (refine hK _ ?_; clear hK K) | (apply Exists.intro; refine ⟨fun n' x' => ?_, hK _ ?_⟩; (fail); clear hK K))); refine wpCalm_nil ?_; intro nq xq)
                      replace gV := gV.trans (World.grows_plus V7' nq xq)
                      generalize V7'.plus nq xq = V8 at gV ⊢
                      replace HW := Lib.hid (HW.out.trans gV)
                      replace HB := Lib.hid (gV.heap_of HB.out)
                      replace HG := Lib.hid (HG.out.trans gV)
                      replace HF := Lib.hid (IntsAt.mono HF.out gV)
                      replace ct := gV.cell_of ct
                      clear gV q0 q1 q2
                      by_cases hA : NE = 0 ∧ NP = NU
                      · obtain ⟨hA1, hA2⟩ := hA
                        obtain ⟨M, hM, hn, hfi⟩ := HMx.out hA1 hA2
                        subst hA1
                        subst hA2
                        subst hn
                        simp only [show ((0 : Nat) : Int) = (0 : Int) from rfl]
                        obtain ⟨k1', k2', k3', k4'⟩ := HKN.out
                        replace k1' := fun h => k1' h M hM
                        replace k2' := fun h => k2' h M hM
                        replace k3' := fun h => k3' h M hM
                        replace k4' := fun h => k4' h M hM
                        obtain ⟨fb, fo, rfl, cf⟩ := ints_cell HF.out hi
                        have hnc : s.nt ≤ c := by
                          obtain ⟨A9, c9, e9, h9, -⟩ := HF.out
                          cases e9
                          exact h9
                        rw [hfi] at cf
                        obtain ⟨G, hG⟩ : ∃ G, mvI M i = G := ⟨_, rfl⟩
                        rw [hG] at cf k1' k2' k3' k4'
                        have ki := HG.out.cell_of HKi.out
                        clear hfi hM hG HMx Hf0
                        go_upto_region 28 with fail
                        go_cut [271] from 261 to 279 (fun z w' => z = .bool false ∧ w' = V8)
                        case first => as_aux_lemma =>
                          by_cases h0 : t = 0
                          · have m0 : ((t : Int) == 0) = true := by simp; omega
                            clear h0
                            go_wp2
                            go_meet
                            case rel => exact ⟨rfl, rfl⟩
                          · have m0 : ((t : Int) == 0) = false := by simp; omega
                            clear h0
                            go_wp2
                            go_meet
                            case rel => exact ⟨rfl, rfl⟩
                        case rest => as_aux_lemma =>
                          obtain ⟨rfl, rfl⟩ := hcut
                          go_upto_region 32 with fail
                          go_cut [323] from 286 to 323 (fun z w' => z = .bool false ∧ w' = wc)
                          case first => as_aux_lemma =>
                            have hG4 : X = 0 → G ≠ (j : Nat) := k4'
                            rcases (show KI = 0 ∨ KI = 1 ∨ KI = 2 by omega) with e1 | e1 | e1
                            · have m1 : ((KI : Int) == 2) = false := by simp; omega
                              have m2 : ((KI : Int) == 0) = true := by simp; omega
                              have g1 : ¬ 0 ≤ G := by have := k2' e1; omega
                              clear e1
                              (rcases (show X = 0 ∨ X = 1 ∨ X = 2 by omega) with e2 | e2 | e2); (rotate_left 2); (have n1 : ((X : Int) == 2) = true := (by simp; omega); have n2 : ((X : Int) == 0) = false := (by simp; omega); have n3 : (G != ((j : Nat) : Int)) = false := (by rw [k3' e2]; simp)); (rotate_left 1); (have n1 : ((X : Int) == 2) = false := (by simp; omega); have n2 : ((X : Int) == 0) = true := (by simp; omega); have n3 : (G == ((j : Nat) : Int)) = false := beq_eq_false_iff_ne.2 (hG4 e2)); (rotate_left 1); (have n1 : ((X : Int) == 2) = false := (by simp; omega); have n2 : ((X : Int) == 0) = false := (by simp; omega)); all_goals (clear e2 hG4 k1' k2' k3' k4'; go_wp2; go_meet; (case rel => exact ⟨rfl, rfl⟩))
                            · have m1 : ((KI : Int) == 2) = false := by simp; omega
                              have m2 : ((KI : Int) == 0) = false := by simp; omega
                              clear e1
                              (rcases (show X = 0 ∨ X = 1 ∨ X = 2 by omega) with e2 | e2 | e2); (rotate_left 2); (have n1 : ((X : Int) == 2) = true := (by simp; omega); have n2 : ((X : Int) == 0) = false := (by simp; omega); have n3 : (G != ((j : Nat) : Int)) = false := (by rw [k3' e2]; simp)); (rotate_left 1); (have n1 : ((X : Int) == 2) = false := (by simp; omega); have n2 : ((X : Int) == 0) = true := (by simp; omega); have n3 : (G == ((j : Nat) : Int)) = false := beq_eq_false_iff_ne.2 (hG4 e2)); (rotate_left 1); (have n1 : ((X : Int) == 2) = false := (by simp; omega); have n2 : ((X : Int) == 0) = false := (by simp; omega)); all_goals (clear e2 hG4 k1' k2' k3' k4'; go_wp2; go_meet; (case rel => exact ⟨rfl, rfl⟩))
                            · have m1 : ((KI : Int) == 2) = true := by simp; omega
                              have m2 : ((KI : Int) == 0) = false := by simp; omega
                              have g1 : ¬ G < 0 := by have := k1' e1; omega
                              clear e1
                              (rcases (show X = 0 ∨ X = 1 ∨ X = 2 by omega) with e2 | e2 | e2); (rotate_left 2); (have n1 : ((X : Int) == 2) = true := (by simp; omega); have n2 : ((X : Int) == 0) = false := (by simp; omega); have n3 : (G != ((j : Nat) : Int)) = false := (by rw [k3' e2]; simp)); (rotate_left 1); (have n1 : ((X : Int) == 2) = false := (by simp; omega); have n2 : ((X : Int) == 0) = true := (by simp; omega); have n3 : (G == ((j : Nat) : Int)) = false := beq_eq_false_iff_ne.2 (hG4 e2)); (rotate_left 1); (have n1 : ((X : Int) == 2) = false := (by simp; omega); have n2 : ((X : Int) == 0) = false := (by simp; omega)); all_goals (clear e2 hG4 k1' k2' k3' k4'; go_wp2; go_meet; (case rel => exact ⟨rfl, rfl⟩))
                          case rest => as_aux_lemma =>
                            obtain ⟨rfl, rfl⟩ := hcut
                            clear k1' k2' k3' k4' HF ct cf ki
                            go_wp2
                            exact ⟨⟨t + 1, by omega, by go_num, HW, HB, HG⟩, by simp [intOf]; omega⟩
                      · have h0 : t ≠ 0 := fun h => hA ⟨(Hf0.out h).2, (Hf0.out h).1⟩
                        have m0 : ((t : Int) == 0) = false := by simp; omega
                        by_cases h1 : NE = 0
                        · have h2 : ((NP : Int) != NU) = true := by have : NP ≠ NU := fun h => hA ⟨h1, h⟩; simp; omega
                          subst h1
                          clear h0 hA
                          go_wp2
                          case roundEnd => exact ⟨⟨t + 1, by omega, by go_num, HW, HB, HG⟩, by simp [intOf]; omega⟩
                        · have h2 : ((NE : Int) != 0) = true := by simp; omega
                          clear h0 hA h1
                          go_wp2
                          case roundEnd => exact ⟨⟨t + 1, by omega, by go_num, HW, HB, HG⟩, by simp [intOf]; omega⟩
                    · have hltI : ¬ (t : Int) < 3 := by omega
                      go_wp2_with (go_at_call 99; fail); refine (works_c _).mono ?_; rintro e U9 ⟨rfl, g⟩; replace HW := Lib.hid (HW.out.trans (World.grows.trans (by (repeat (first | exact World.grows.refl _ | assumption | refine World.grows.alloc ?_ _ | refine World.grows.plus ?_ _ _ | refine World.grows.drew ?_))) g)); replace HB := Lib.hid (g.heap_of (World.grows.heap_of (by (repeat (first | exact World.grows.refl _ | assumption | refine World.grows.alloc ?_ _ | refine World.grows.plus ?_ _ _ | refine World.grows.drew ?_))) HB.out)); replace q0 := cell_of_heap (i := 0) HB.out rfl; replace q1 := cell_of_heap (i := 1) HB.out rfl; replace q2 := cell_of_heap (i := 2) HB.out rfl; clear g; go_wp2; (refine bodyPost_ret (v := .bool true) (by simp [results, Try.results7, go_sem]) rfl ?_); exact ⟨rfl, HW.out.trans (by (repeat (first | exact World.grows.refl _ | assumption | refine World.grows.alloc ?_ _ | refine World.grows.plus ?_ _ _ | refine World.grows.drew ?_)))⟩
  · rw [decide_eq_false hc]
    clear hc
    go_wp2_with (go_at_call 99; fail); refine (works_c _).mono ?_; rintro e U9 ⟨rfl, g⟩; replace HW := Lib.hid (HW.out.trans (World.grows.trans (by (repeat (first | exact World.grows.refl _ | assumption | refine World.grows.alloc ?_ _ | refine World.grows.plus ?_ _ _ | refine World.grows.drew ?_))) g)); replace HB := Lib.hid (g.heap_of (World.grows.heap_of (by (repeat (first | exact World.grows.refl _ | assumption | refine World.grows.alloc ?_ _ | refine World.grows.plus ?_ _ _ | refine World.grows.drew ?_))) HB.out)); replace q0 := cell_of_heap (i := 0) HB.out rfl; replace q1 := cell_of_heap (i := 1) HB.out rfl; replace q2 := cell_of_heap (i := 2) HB.out rfl; clear g; go_wp2; (refine bodyPost_ret (v := .bool true) (by simp [results, Try.results7, go_sem]) rfl ?_); exact ⟨rfl, HW.out.trans (by (repeat (first | exact World.grows.refl _ | assumption | refine World.grows.alloc ?_ _ | refine World.grows.plus ?_ _ _ | refine World.grows.drew ?_)))⟩
end Go.Proofs.Yteingahlmlndkaa

/-
  What is proved: the statement MatchWithout, at every input.
-/
namespace Go.Proofs.Yteingahlmlndkaa
open Go.ChangeShapes Go.WideShapes Go.ChangeAt Go.RowKit

set_option maxRecDepth 100000 in
theorem matchWithout_lifted (os : Os) (started : os.Started) (H : Type) (enc : TypeId × Value → H) :
    ReturnsInHanded {} Try.checked os 7 .any (Rows.matchWithoutSpec.pre6 enc Try.prog Try.f7 Rows.matchWithoutRow.domain false) (Rows.matchWithoutSpec.post enc Try.prog Try.f7 false true false false) := by
  refine law_lifted (C := Try.checked) (tb := 4) started own_c laid_c (by kernel_rfl) Try.func7 (of_decide_eq_true (by kernel_rfl))
    (ChangeSpec.witness6 (enc := enc) (C := Try.checked) false ⟨#[], #[.agg #[.slice none 0 0, .slice none 0 0, .int .i64 0], .int .u8 0, .int .u8 0, .slice none 0 0, .slice none 0 0], []⟩ 8 (by kernel_rfl) (by kernel_rfl) (by kernel_rfl) (by kernel_rfl))
    rfl Try.underlying4 rfl (fun ds hl => ?_) (fun W base args ds ps hval hA => ?_)
  · match ds, hl with
    | [d1, d2, d3, d4, d5], _ => exact ⟨rfl, rfl, rfl⟩
  · have hA' : DataW.TrodAll enc Try.prog W 0 (fun _ => true) true Try.f7.params.toList args.toList ds ps := hA
    have hval' : ∀ (j : Nat) t v, Try.f7.params[j]? = some t → args[j]? = some v → Value.okWide Try.prog W .any base t v := hval
    rw [Try.params7] at hA' hval'
    obtain ⟨v1, v2, v3, v4, v5, d1, d2, d3, d4, d5, p1, p2, p3, p4, p5, rfl, rfl, rfl, h1, h2, h3, h4, h5⟩ := trodAll_5 hA'
    obtain ⟨s1, hs1⟩ := stock_of (hval' 0 25 v1 rfl rfl) h1
    obtain ⟨z2, rfl, -, -, hw2⟩ := open_int Try.underlying5 (hval' 1 5 v2 rfl rfl) h2; have hz2 := lit_u8 hw2
    obtain ⟨z3, rfl, -, -, hw3⟩ := open_int Try.underlying5 (hval' 2 5 v3 rfl rfl) h3; have hz3 := lit_u8 hw3
    obtain ⟨m4, f4, hf4, hb4⟩ := bytes_of (hval' 3 54 v4 rfl rfl) h4
    obtain ⟨m5, f5, hf5, hb5⟩ := ints_of (hval' 4 26 v5 rfl rfl) h5
    exact without_w W v1 s1 hs1 z2 hz2 z3 hz3 v4 m4 f4 hf4 hb4 v5 m5 f5 hf5

theorem matchWithout_holds : Rows.MatchWithoutSaid :=
  OpenClaim.holds_of_wide 7 Try.f7 rfl rfl rfl rfl rfl rfl rfl ⟨rfl, rfl, rfl, rfl, rfl⟩ rfl rfl rfl rfl rfl (by kernel_rfl) Try.func7 (by kernel_rfl)
    (of_decide_eq_true (by kernel_rfl)) (by unfold Func.isWrapper; first | (rw [if_pos (by decide +kernel)]; kernel_rfl) | (rw [if_neg (by decide +kernel)]; exact ⟨rfl, rfl⟩))
    (fun os started H enc _ => matchWithout_lifted os started H enc)
end Go.Proofs.Yteingahlmlndkaa

