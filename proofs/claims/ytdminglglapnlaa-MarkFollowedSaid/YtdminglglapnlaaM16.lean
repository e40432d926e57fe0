/-
  What is proved: plain words: a set with twins in it costs the utmost.
-/
import Derived.Test.YtdminglglapnlaaM2
import Derived.Test.YtdminglglapnlaaM15
set_option linter.all false
namespace Go.Proofs.Ytdminglglapnlaa

theorem Reg.twin_cst {r : Reg} (hr : r.Ok) {i k : Nat} (hi : i < r.nm) (hk : k < r.nm) (ht : r.twin i k = true) : ∀ s, s < 2 ^ r.nm → s.testBit i = true → s.testBit k = true → 1099511627776 ≤ r.cst s := by
  obtain ⟨hw, hv⟩ := (r.twin_iff i k).1 ht
  intro s
  induction s using Nat.strongRecOn with
  | _ s ih =>
    intro hs h1 h2
    have hm : r.mixed s = true := (r.mixed_iff s).2 ⟨i, k, hi, hk, h1, h2, hw⟩
    rw [r.cst_eq hs, if_pos hm, r.le_looksR]
    refine ⟨by omega, fun f hf hp => ?_⟩
    have hb := hr.val i f hi hf
    obtain ⟨v, hvv⟩ : ∃ v : Nat, r.val i f = (v : Int) := ⟨(r.val i f).toNat, by omega⟩
    have hv10 : v < 10 := by omega
    have hb1 : (r.part s f (v : Nat)).testBit i = true := by rw [r.testBit_part]; simp [hi, h1, hvv]
    have hb2 : (r.part s f (v : Nat)).testBit k = true := by rw [r.testBit_part]; simp [hk, h2, ← hv f hf, hvv]
    have h3 := ih _ (r.part_less hs hp hv10) (r.part_lt s f (v : Nat)) hb1 hb2
    have h4 := r.le_mostR r.cst s f hv10
    have h5 := hr.cost f hf
    omega
theorem Reg.twins_cst {r : Reg} (hr : r.Ok) (hn : ¬ r.NoTwins) : 1099511627776 ≤ r.cst (2 ^ r.nm - 1) := by
  unfold Reg.NoTwins at hn
  have hn' : ∃ i k, i < k ∧ k < r.nm ∧ r.twin i k = true := by
    apply Classical.byContradiction
    intro h
    refine hn fun i k h1 h2 => ?_
    cases ht : r.twin i k with
    | false => rfl
    | true => exact absurd ⟨i, k, h1, h2, ht⟩ h
  obtain ⟨i, k, h1, h2, ht⟩ := hn'
  have hpos := Nat.two_pow_pos r.nm
  refine Reg.twin_cst hr (by omega) h2 ht _ (by omega) ?_ ?_
  · rw [Nat.testBit_two_pow_sub_one]; simp; omega
  · rw [Nat.testBit_two_pow_sub_one]; simp; omega
end Go.Proofs.Ytdminglglapnlaa

/-
  What is proved: MarkBests (4) answers true.
-/
namespace Go.Proofs.Ytdminglglapnlaa
open Go.RowKit
attribute [local irreducible] Go.wpCalm

theorem best_ok {w : World} {v : Value} {r : Reg} (hv : RegAt w v r) (h : r.solvE = 0) : Calls Try.prog 25 #[v] w fun e w' => ∃ (x : Int) (a : Option Addr) (n c : Nat) (t : Tr), e = .returned (.tuple #[.agg #[.int .i64 x, .slice a n c], .int .i64 (r.cst (2 ^ r.nm - 1)), .int .i64 0]) ∧ (TreeAt w' (.agg #[.int .i64 x, .slice a n c]) t ∧ t.treeE r = 0 ∧ t.treeA r = r.cst (2 ^ r.nm - 1)) ∧ w.grows w' :=
  (best_c w v r hv h).mono (by
    rintro e w' ⟨tv, t, rfl, h1, h2, h3, h4⟩
    have h1' := h1
    obtain ⟨nv, rfl, row, ⟨a, c, rfl, -⟩, -⟩ := h1'
    exact ⟨_, _, _, _, t, rfl, ⟨h1, h2, h3⟩, h4⟩)
theorem tab_ok {w : World} {v : Value} {r : Reg} (hv : RegAt w v r) (h : r.solvE = 0) : Calls Try.prog 26 #[v] w fun e w' => ∃ a n c, e = .returned (.tuple #[.slice a n c, .int .i64 0]) ∧ TableAt w' (.slice a n c) (r.tab r.sets) ∧ w.grows w' :=
  (ptab_c w v r hv h).mono (by
    rintro e w' ⟨lv, rfl, h1, h2⟩
    have h1' := h1
    obtain ⟨row, ⟨a, c, rfl, -⟩, -⟩ := h1'
    exact ⟨_, _, _, rfl, h1, h2⟩)
theorem rtree_ok {w : World} {v tv : Value} {t : Tr} {r : Reg} {C : Int} (hv : RegAt w v r) (ht : TreeAt w tv t) (h1 : t.treeE r = 0) (h2 : t.treeA r = C) : Calls Try.prog 20 #[v, tv] w fun e w' => e = .returned (.tuple #[.int .i64 C, .int .i64 0]) ∧ w.grows w' := by
  have h := rtree_c w v r hv tv t ht
  rwa [h1, h2] at h
theorem ptree_ok {w : World} {v tv : Value} {t : Tr} {r : Reg} {C : Int} (hv : RegAt w v r) (ht : TreeAt w tv t) (h1 : t.treeE r = 0) (h2 : t.treeA r = C) : Calls Try.prog 19 #[v, tv] w fun e w' => e = .returned (.tuple #[.int .i64 C, .int .i64 0]) ∧ w.grows w' := by
  have h := ptree_c w v r hv tv t ht
  rwa [h1, h2] at h
theorem rbounds_ok {w : World} {v tv : Value} {r : Reg} (hv : RegAt w v r) (h : r.solvE = 0) (ht : TableAt w tv (r.tab r.sets)) : Calls Try.prog 28 #[v, tv] w fun e w' => e = .returned (.tuple #[.int .i64 (r.cst (2 ^ r.nm - 1)), .int .i64 0]) ∧ w.grows w' := by
  have h2 := rbounds_c w v r hv tv _ ht
  have hh := Reg.solvE_zero.1 h
  have ht := Reg.tab_err (Reg.ok_of hh.1) hh.2
  rwa [ht.1, ht.2] at h2
theorem pbounds_ok {w : World} {v tv : Value} {r : Reg} (hv : RegAt w v r) (h : r.solvE = 0) (ht : TableAt w tv (r.tab r.sets)) : Calls Try.prog 27 #[v, tv] w fun e w' => e = .returned (.tuple #[.int .i64 (r.cst (2 ^ r.nm - 1)), .int .i64 0]) ∧ w.grows w' := by
  have h2 := pbounds_c w v r hv tv _ ht
  have hh := Reg.solvE_zero.1 h
  have ht := Reg.tab_err (Reg.ok_of hh.1) hh.2
  rwa [ht.1, ht.2] at h2
set_option maxRecDepth 100000 in
set_option maxHeartbeats 8000000 in
theorem bests_w (w : World) (rv : Value) (r : Reg) (hr : RegAt w rv r) (lv : Value) (b : Bn) (hl : TableAt w lv b) :
    Calls Try.prog 4 #[rv, lv] w fun e w' => e = .returned (.bool true) ∧ w.grows w' := by
  have h12 := fun W (g : w.grows W) => great_c W rv r (hr.mono g)
  have h23 := fun W (g : w.grows W) => wide_c W rv r (hr.mono g)
  have h24 := fun W (g : w.grows W) => long_c W lv b (hl.mono g)
  have Hr := Lib.hid hr
  have Hl := Lib.hid hl
  obtain ⟨mv, cv, row, rfl, ⟨ma, mc, rfl, -⟩, ⟨ca, cc, rfl, -⟩, -⟩ := hr
  obtain ⟨row, ⟨la, lc, rfl, -⟩, -⟩ := hl
  go_enter Try.func4, Try.ntmps4
  cases hg : r.greatB with
  | true =>
    rw [hg] at h12
    go_wp2_with (first | (go_at_call 12; refine (h12 _ (by (repeat (first | exact World.grows.refl _ | assumption | refine World.grows.alloc ?_ _ | refine World.grows.plus ?_ _ _ | refine World.grows.drew ?_)))).mono ?_; rintro e w' ⟨rfl, hg⟩; obtain ⟨n2, x2, rfl⟩ := World.plus_of hg) | (go_at_call 23; refine (h23 _ (by (repeat (first | exact World.grows.refl _ | assumption | refine World.grows.alloc ?_ _ | refine World.grows.plus ?_ _ _ | refine World.grows.drew ?_)))).mono ?_; rintro e w' ⟨rfl, hg⟩; obtain ⟨n2, x2, rfl⟩ := World.plus_of hg) | (go_at_call 24; refine (h24 _ (by (repeat (first | exact World.grows.refl _ | assumption | refine World.grows.alloc ?_ _ | refine World.grows.plus ?_ _ _ | refine World.grows.drew ?_)))).mono ?_; rintro e w' ⟨rfl, hg⟩; obtain ⟨n2, x2, rfl⟩ := World.plus_of hg) | (go_at_call 14; refine (works_c _).mono ?_; rintro e w' ⟨rfl, hg⟩; obtain ⟨n2, x2, rfl⟩ := World.plus_of hg)); (refine bodyPost_ret (v := .bool true) (by simp [results, Try.results4, go_sem]) rfl ?_); exact ⟨rfl, by (repeat (first | exact World.grows.refl _ | assumption | refine World.grows.alloc ?_ _ | refine World.grows.plus ?_ _ _ | refine World.grows.drew ?_))⟩
  | false =>
    rw [hg] at h12
    cases hw : (decide (r.check = 0) && decide (7 < r.nm)) with
    | true =>
      rw [hw] at h23
      go_wp2_with (first | (go_at_call 12; refine (h12 _ (by (repeat (first | exact World.grows.refl _ | assumption | refine World.grows.alloc ?_ _ | refine World.grows.plus ?_ _ _ | refine World.grows.drew ?_)))).mono ?_; rintro e w' ⟨rfl, hg⟩; obtain ⟨n2, x2, rfl⟩ := World.plus_of hg) | (go_at_call 23; refine (h23 _ (by (repeat (first | exact World.grows.refl _ | assumption | refine World.grows.alloc ?_ _ | refine World.grows.plus ?_ _ _ | refine World.grows.drew ?_)))).mono ?_; rintro e w' ⟨rfl, hg⟩; obtain ⟨n2, x2, rfl⟩ := World.plus_of hg) | (go_at_call 24; refine (h24 _ (by (repeat (first | exact World.grows.refl _ | assumption | refine World.grows.alloc ?_ _ | refine World.grows.plus ?_ _ _ | refine World.grows.drew ?_)))).mono ?_; rintro e w' ⟨rfl, hg⟩; obtain ⟨n2, x2, rfl⟩ := World.plus_of hg) | (go_at_call 14; refine (works_c _).mono ?_; rintro e w' ⟨rfl, hg⟩; obtain ⟨n2, x2, rfl⟩ := World.plus_of hg)); (refine bodyPost_ret (v := .bool true) (by simp [results, Try.results4, go_sem]) rfl ?_); exact ⟨rfl, by (repeat (first | exact World.grows.refl _ | assumption | refine World.grows.alloc ?_ _ | refine World.grows.plus ?_ _ _ | refine World.grows.drew ?_))⟩
    | false =>
      rw [hw] at h23
      cases hlo : b.longB with
      | true =>
        rw [hlo] at h24
        go_wp2_with (first | (go_at_call 12; refine (h12 _ (by (repeat (first | exact World.grows.refl _ | assumption | refine World.grows.alloc ?_ _ | refine World.grows.plus ?_ _ _ | refine World.grows.drew ?_)))).mono ?_; rintro e w' ⟨rfl, hg⟩; obtain ⟨n2, x2, rfl⟩ := World.plus_of hg) | (go_at_call 23; refine (h23 _ (by (repeat (first | exact World.grows.refl _ | assumption | refine World.grows.alloc ?_ _ | refine World.grows.plus ?_ _ _ | refine World.grows.drew ?_)))).mono ?_; rintro e w' ⟨rfl, hg⟩; obtain ⟨n2, x2, rfl⟩ := World.plus_of hg) | (go_at_call 24; refine (h24 _ (by (repeat (first | exact World.grows.refl _ | assumption | refine World.grows.alloc ?_ _ | refine World.grows.plus ?_ _ _ | refine World.grows.drew ?_)))).mono ?_; rintro e w' ⟨rfl, hg⟩; obtain ⟨n2, x2, rfl⟩ := World.plus_of hg) | (go_at_call 14; refine (works_c _).mono ?_; rintro e w' ⟨rfl, hg⟩; obtain ⟨n2, x2, rfl⟩ := World.plus_of hg)); (refine bodyPost_ret (v := .bool true) (by simp [results, Try.results4, go_sem]) rfl ?_); exact ⟨rfl, by (repeat (first | exact World.grows.refl _ | assumption | refine World.grows.alloc ?_ _ | refine World.grows.plus ?_ _ _ | refine World.grows.drew ?_))⟩
      | false =>
        rw [hlo] at h24
        clear hg hw hlo
        go_upto_region 1 with fail
        generalize hV : World.alloc _ _ = V
        have gV : w.grows V := by rw [← hV]; (repeat (first | exact World.grows.refl _ | assumption | refine World.grows.alloc ?_ _ | refine World.grows.plus ?_ _ _ | refine World.grows.drew ?_))
        have q10 : V.cell? ⟨w.heap.size, 0, none⟩ = some (.slice ma r.nm mc) := by rw [← hV]; simp [go_sem]
        have q11 : V.cell? ⟨w.heap.size, 1, none⟩ = some (.slice ca r.nc cc) := by rw [← hV]; simp [go_sem]
        have HZ := Lib.hid gV
        clear hV gV
        go_wp2_with (go_at_call 44; fail)
        refine (h12 _ (HZ.out.trans (by (repeat (first | exact World.grows.refl _ | assumption | refine World.grows.alloc ?_ _ | refine World.grows.plus ?_ _ _ | refine World.grows.drew ?_))))).mono ?_
        rintro e U ⟨rfl, g⟩
        replace q10 := World.grows.cell_of (World.grows.trans (by (repeat (first | exact World.grows.refl _ | assumption | refine World.grows.alloc ?_ _ | refine World.grows.plus ?_ _ _ | refine World.grows.drew ?_))) g) q10; replace q11 := World.grows.cell_of (World.grows.trans (by (repeat (first | exact World.grows.refl _ | assumption | refine World.grows.alloc ?_ _ | refine World.grows.plus ?_ _ _ | refine World.grows.drew ?_))) g) q11; replace HZ := Lib.hid (HZ.out.trans (World.grows.trans (by (repeat (first | exact World.grows.refl _ | assumption | refine World.grows.alloc ?_ _ | refine World.grows.plus ?_ _ _ | refine World.grows.drew ?_))) g))
        clear g
        go_wp2_with (go_at_call 44; fail)
        refine (h23 _ (HZ.out.trans (by (repeat (first | exact World.grows.refl _ | assumption | refine World.grows.alloc ?_ _ | refine World.grows.plus ?_ _ _ | refine World.grows.drew ?_))))).mono ?_
        rintro e U ⟨rfl, g⟩
        replace q10 := World.grows.cell_of (World.grows.trans (by (repeat (first | exact World.grows.refl _ | assumption | refine World.grows.alloc ?_ _ | refine World.grows.plus ?_ _ _ | refine World.grows.drew ?_))) g) q10; replace q11 := World.grows.cell_of (World.grows.trans (by (repeat (first | exact World.grows.refl _ | assumption | refine World.grows.alloc ?_ _ | refine World.grows.plus ?_ _ _ | refine World.grows.drew ?_))) g) q11; replace HZ := Lib.hid (HZ.out.trans (World.grows.trans (by (repeat (first | exact World.grows.refl _ | assumption | refine World.grows.alloc ?_ _ | refine World.grows.plus ?_ _ _ | refine World.grows.drew ?_))) g))
        clear g
        go_wp2_with (go_at_call 44; fail)
        refine (h24 _ (HZ.out.trans (by (repeat (first | exact World.grows.refl _ | assumption | refine World.grows.alloc ?_ _ | refine World.grows.plus ?_ _ _ | refine World.grows.drew ?_))))).mono ?_
        rintro e U ⟨rfl, g⟩
        replace q10 := World.grows.cell_of (World.grows.trans (by (repeat (first | exact World.grows.refl _ | assumption | refine World.grows.alloc ?_ _ | refine World.grows.plus ?_ _ _ | refine World.grows.drew ?_))) g) q10; replace q11 := World.grows.cell_of (World.grows.trans (by (repeat (first | exact World.grows.refl _ | assumption | refine World.grows.alloc ?_ _ | refine World.grows.plus ?_ _ _ | refine World.grows.drew ?_))) g) q11; replace HZ := Lib.hid (HZ.out.trans (World.grows.trans (by (repeat (first | exact World.grows.refl _ | assumption | refine World.grows.alloc ?_ _ | refine World.grows.plus ?_ _ _ | refine World.grows.drew ?_))) g))
        clear g h12 h23 h24
        obtain ⟨ans, hans⟩ : ∃ x, b.ans r = x := ⟨_, rfl⟩
        obtain ⟨err, herr⟩ : ∃ x, b.err r = x := ⟨_, rfl⟩
        have h27 := fun W (g : w.grows W) => pbounds_c W _ r (Hr.out.mono g) _ b (Hl.out.mono g)
        have h28 := fun W (g : w.grows W) => rbounds_c W _ r (Hr.out.mono g) _ b (Hl.out.mono g)
        have h22 := fun W (g : w.grows W) => rcheck_c W _ r (Hr.out.mono g)
        rw [hans, herr] at h27 h28
        clear hans herr
        by_cases hs : r.solvE = 0
        · have h25 := fun W (g : w.grows W) => best_ok (Hr.out.mono g) hs
          have h26 := fun W (g : w.grows W) => tab_ok (Hr.out.mono g) hs
          have hS := Lib.hid hs
          obtain ⟨hc0, hnt⟩ := Reg.solvE_zero.1 hs
          have hok := Reg.ok_of hc0
          have hbd := Reg.cst_bd hok hnt (s := 2 ^ r.nm - 1) (by have := Nat.two_pow_pos r.nm; omega)
          have h29 := fun W (g : w.grows W) => worst_c W _ r ((Hr.out.mono g).ok hok) hok
          have h28b := fun W (g : w.grows W) tv (ht : TableAt W tv (r.tab r.sets)) => rbounds_ok (Hr.out.mono g) hs ht
          obtain ⟨C, hC⟩ : ∃ x, r.cst (2 ^ r.nm - 1) = x := ⟨_, rfl⟩
          rw [hC] at hbd h29 h28b
          simp only [hC] at h25
          rw [hc0] at h22
          clear hs hc0 hnt hok hC
          have hb1 : ¬ (1099511627776 : Int) ≤ C := by omega
          clear hbd
          go_wp2_with (go_at_call 44; fail)
          refine (h25 _ (HZ.out.trans (by (repeat (first | exact World.grows.refl _ | assumption | refine World.grows.alloc ?_ _ | refine World.grows.plus ?_ _ _ | refine World.grows.drew ?_))))).mono ?_
          rintro e U ⟨bx, ba, bn, bc, bt, rfl, hB, g⟩
          have HB := Lib.hid hB
          replace q10 := World.grows.cell_of (World.grows.trans (by (repeat (first | exact World.grows.refl _ | assumption | refine World.grows.alloc ?_ _ | refine World.grows.plus ?_ _ _ | refine World.grows.drew ?_))) g) q10; replace q11 := World.grows.cell_of (World.grows.trans (by (repeat (first | exact World.grows.refl _ | assumption | refine World.grows.alloc ?_ _ | refine World.grows.plus ?_ _ _ | refine World.grows.drew ?_))) g) q11; replace HZ := Lib.hid (HZ.out.trans (World.grows.trans (by (repeat (first | exact World.grows.refl _ | assumption | refine World.grows.alloc ?_ _ | refine World.grows.plus ?_ _ _ | refine World.grows.drew ?_))) g))
          clear g hB h25
          go_upto_region 4 with fail
          have HB1 := Lib.hid (HB.out.1.mono (World.grows.alloc (World.grows.refl U) (Obj.cells #[.int .i64 bx, .slice ba bn bc] 28)))
          have HB2 := Lib.hid HB.out.2
          have q50 : (U.alloc (Obj.cells #[.int .i64 bx, .slice ba bn bc] 28)).cell? ⟨U.heap.size, 0, none⟩ = some _ := cell_of_heap (World.heap_at _ _ _ rfl) rfl; have q51 : (U.alloc (Obj.cells #[.int .i64 bx, .slice ba bn bc] 28)).cell? ⟨U.heap.size, 1, none⟩ = some _ := cell_of_heap (World.heap_at _ _ _ rfl) rfl; replace q10 := World.grows.cell_of (World.grows.alloc (World.grows.refl U) (Obj.cells #[.int .i64 bx, .slice ba bn bc] 28)) q10; replace q11 := World.grows.cell_of (World.grows.alloc (World.grows.refl U) (Obj.cells #[.int .i64 bx, .slice ba bn bc] 28)) q11; replace HZ := Lib.hid (HZ.out.trans (World.grows.alloc (World.grows.refl U) (Obj.cells #[.int .i64 bx, .slice ba bn bc] 28))); obtain ⟨k5, hk5⟩ : ∃ k, U.heap.size = k := ⟨_, rfl⟩; rw [hk5] at q50 q51 ⊢; simp only [List.getElem_toArray, List.getElem_cons_zero, List.getElem_cons_succ] at q50 q51
          clear HB hk5
          generalize World.alloc _ _ = Y at q50 q51 q10 q11 HZ HB1 ⊢
          have HY : Hid (Y.grows Y) := Lib.hid (World.grows.refl _)
          go_wp2_with (go_at_call 44; fail)
          refine (h26 _ (HZ.out.trans (by (repeat (first | exact World.grows.refl _ | assumption | refine World.grows.alloc ?_ _ | refine World.grows.plus ?_ _ _ | refine World.grows.drew ?_))))).mono ?_
          rintro e U ⟨ta, tn, tc, rfl, hT, g⟩
          replace q10 := World.grows.cell_of (World.grows.trans (by (repeat (first | exact World.grows.refl _ | assumption | refine World.grows.alloc ?_ _ | refine World.grows.plus ?_ _ _ | refine World.grows.drew ?_))) g) q10; replace q11 := World.grows.cell_of (World.grows.trans (by (repeat (first | exact World.grows.refl _ | assumption | refine World.grows.alloc ?_ _ | refine World.grows.plus ?_ _ _ | refine World.grows.drew ?_))) g) q11; replace HZ := Lib.hid (HZ.out.trans (World.grows.trans (by (repeat (first | exact World.grows.refl _ | assumption | refine World.grows.alloc ?_ _ | refine World.grows.plus ?_ _ _ | refine World.grows.drew ?_))) g))
          replace q50 := World.grows.cell_of (World.grows.trans (by (repeat (first | exact World.grows.refl _ | assumption | refine World.grows.alloc ?_ _ | refine World.grows.plus ?_ _ _ | refine World.grows.drew ?_))) g) q50; replace q51 := World.grows.cell_of (World.grows.trans (by (repeat (first | exact World.grows.refl _ | assumption | refine World.grows.alloc ?_ _ | refine World.grows.plus ?_ _ _ | refine World.grows.drew ?_))) g) q51
          replace HY := Lib.hid (HY.out.trans (World.grows.trans (by (repeat (first | exact World.grows.refl _ | assumption | refine World.grows.alloc ?_ _ | refine World.grows.plus ?_ _ _ | refine World.grows.drew ?_))) g))
          clear g h26
          have HT := Lib.hid hT
          have HU : Hid (U.grows U) := Lib.hid (World.grows.refl _)
          clear hT
          go_wp2_with (go_at_call 44; fail)
          refine (h27 _ (HZ.out.trans (by (repeat (first | exact World.grows.refl _ | assumption | refine World.grows.alloc ?_ _ | refine World.grows.plus ?_ _ _ | refine World.grows.drew ?_))))).mono ?_; rintro e U ⟨rfl, g⟩; replace q10 := World.grows.cell_of (World.grows.trans (by (repeat (first | exact World.grows.refl _ | assumption | refine World.grows.alloc ?_ _ | refine World.grows.plus ?_ _ _ | refine World.grows.drew ?_))) g) q10; replace q11 := World.grows.cell_of (World.grows.trans (by (repeat (first | exact World.grows.refl _ | assumption | refine World.grows.alloc ?_ _ | refine World.grows.plus ?_ _ _ | refine World.grows.drew ?_))) g) q11; replace HZ := Lib.hid (HZ.out.trans (World.grows.trans (by (repeat (first | exact World.grows.refl _ | assumption | refine World.grows.alloc ?_ _ | refine World.grows.plus ?_ _ _ | refine World.grows.drew ?_))) g)); replace q50 := World.grows.cell_of (World.grows.trans (by (repeat (first | exact World.grows.refl _ | assumption | refine World.grows.alloc ?_ _ | refine World.grows.plus ?_ _ _ | refine World.grows.drew ?_))) g) q50; replace q51 := World.grows.cell_of (World.grows.trans (by (repeat (first | exact World.grows.refl _ | assumption | refine World.grows.alloc ?_ _ | refine World.grows.plus ?_ _ _ | refine World.grows.drew ?_))) g) q51; replace HY := Lib.hid (HY.out.trans (World.grows.trans (by (repeat (first | exact World.grows.refl _ | assumption | refine World.grows.alloc ?_ _ | refine World.grows.plus ?_ _ _ | refine World.grows.drew ?_))) g)); replace HU := Lib.hid (HU.out.trans (World.grows.trans (by (repeat (first | exact World.grows.refl _ | assumption | refine World.grows.alloc ?_ _ | refine World.grows.plus ?_ _ _ | refine World.grows.drew ?_))) g)); clear g
          go_wp2_with (go_at_call 44; fail)
          refine (h28 _ (HZ.out.trans (by (repeat (first | exact World.grows.refl _ | assumption | refine World.grows.alloc ?_ _ | refine World.grows.plus ?_ _ _ | refine World.grows.drew ?_))))).mono ?_; rintro e U ⟨rfl, g⟩; replace q10 := World.grows.cell_of (World.grows.trans (by (repeat (first | exact World.grows.refl _ | assumption | refine World.grows.alloc ?_ _ | refine World.grows.plus ?_ _ _ | refine World.grows.drew ?_))) g) q10; replace q11 := World.grows.cell_of (World.grows.trans (by (repeat (first | exact World.grows.refl _ | assumption | refine World.grows.alloc ?_ _ | refine World.grows.plus ?_ _ _ | refine World.grows.drew ?_))) g) q11; replace HZ := Lib.hid (HZ.out.trans (World.grows.trans (by (repeat (first | exact World.grows.refl _ | assumption | refine World.grows.alloc ?_ _ | refine World.grows.plus ?_ _ _ | refine World.grows.drew ?_))) g)); replace q50 := World.grows.cell_of (World.grows.trans (by (repeat (first | exact World.grows.refl _ | assumption | refine World.grows.alloc ?_ _ | refine World.grows.plus ?_ _ _ | refine World.grows.drew ?_))) g) q50; replace q51 := World.grows.cell_of (World.grows.trans (by (repeat (first | exact World.grows.refl _ | assumption | refine World.grows.alloc ?_ _ | refine World.grows.plus ?_ _ _ | refine World.grows.drew ?_))) g) q51; replace HY := Lib.hid (HY.out.trans (World.grows.trans (by (repeat (first | exact World.grows.refl _ | assumption | refine World.grows.alloc ?_ _ | refine World.grows.plus ?_ _ _ | refine World.grows.drew ?_))) g)); replace HU := Lib.hid (HU.out.trans (World.grows.trans (by (repeat (first | exact World.grows.refl _ | assumption | refine World.grows.alloc ?_ _ | refine World.grows.plus ?_ _ _ | refine World.grows.drew ?_))) g)); clear g
          clear h27 h28
          go_wp2_with (go_at_call 44; fail)
          refine (h22 _ (HZ.out.trans (by (repeat (first | exact World.grows.refl _ | assumption | refine World.grows.alloc ?_ _ | refine World.grows.plus ?_ _ _ | refine World.grows.drew ?_))))).mono ?_; rintro e U ⟨rfl, g⟩; replace q10 := World.grows.cell_of (World.grows.trans (by (repeat (first | exact World.grows.refl _ | assumption | refine World.grows.alloc ?_ _ | refine World.grows.plus ?_ _ _ | refine World.grows.drew ?_))) g) q10; replace q11 := World.grows.cell_of (World.grows.trans (by (repeat (first | exact World.grows.refl _ | assumption | refine World.grows.alloc ?_ _ | refine World.grows.plus ?_ _ _ | refine World.grows.drew ?_))) g) q11; replace HZ := Lib.hid (HZ.out.trans (World.grows.trans (by (repeat (first | exact World.grows.refl _ | assumption | refine World.grows.alloc ?_ _ | refine World.grows.plus ?_ _ _ | refine World.grows.drew ?_))) g)); replace q50 := World.grows.cell_of (World.grows.trans (by (repeat (first | exact World.grows.refl _ | assumption | refine World.grows.alloc ?_ _ | refine World.grows.plus ?_ _ _ | refine World.grows.drew ?_))) g) q50; replace q51 := World.grows.cell_of (World.grows.trans (by (repeat (first | exact World.grows.refl _ | assumption | refine World.grows.alloc ?_ _ | refine World.grows.plus ?_ _ _ | refine World.grows.drew ?_))) g) q51; replace HY := Lib.hid (HY.out.trans (World.grows.trans (by (repeat (first | exact World.grows.refl _ | assumption | refine World.grows.alloc ?_ _ | refine World.grows.plus ?_ _ _ | refine World.grows.drew ?_))) g)); replace HU := Lib.hid (HU.out.trans (World.grows.trans (by (repeat (first | exact World.grows.refl _ | assumption | refine World.grows.alloc ?_ _ | refine World.grows.plus ?_ _ _ | refine World.grows.drew ?_))) g)); clear g
          go_wp2_with (go_at_call 44; fail)
          refine (h29 _ (HZ.out.trans (by (repeat (first | exact World.grows.refl _ | assumption | refine World.grows.alloc ?_ _ | refine World.grows.plus ?_ _ _ | refine World.grows.drew ?_))))).mono ?_; rintro e U ⟨rfl, g⟩; replace q10 := World.grows.cell_of (World.grows.trans (by (repeat (first | exact World.grows.refl _ | assumption | refine World.grows.alloc ?_ _ | refine World.grows.plus ?_ _ _ | refine World.grows.drew ?_))) g) q10; replace q11 := World.grows.cell_of (World.grows.trans (by (repeat (first | exact World.grows.refl _ | assumption | refine World.grows.alloc ?_ _ | refine World.grows.plus ?_ _ _ | refine World.grows.drew ?_))) g) q11; replace HZ := Lib.hid (HZ.out.trans (World.grows.trans (by (repeat (first | exact World.grows.refl _ | assumption | refine World.grows.alloc ?_ _ | refine World.grows.plus ?_ _ _ | refine World.grows.drew ?_))) g)); replace q50 := World.grows.cell_of (World.grows.trans (by (repeat (first | exact World.grows.refl _ | assumption | refine World.grows.alloc ?_ _ | refine World.grows.plus ?_ _ _ | refine World.grows.drew ?_))) g) q50; replace q51 := World.grows.cell_of (World.grows.trans (by (repeat (first | exact World.grows.refl _ | assumption | refine World.grows.alloc ?_ _ | refine World.grows.plus ?_ _ _ | refine World.grows.drew ?_))) g) q51; replace HY := Lib.hid (HY.out.trans (World.grows.trans (by (repeat (first | exact World.grows.refl _ | assumption | refine World.grows.alloc ?_ _ | refine World.grows.plus ?_ _ _ | refine World.grows.drew ?_))) g)); replace HU := Lib.hid (HU.out.trans (World.grows.trans (by (repeat (first | exact World.grows.refl _ | assumption | refine World.grows.alloc ?_ _ | refine World.grows.plus ?_ _ _ | refine World.grows.drew ?_))) g)); clear g
          go_wp2_with (go_at_call 44; fail)
          refine (rtree_ok (Hr.out.mono (HZ.out.trans (by (repeat (first | exact World.grows.refl _ | assumption | refine World.grows.alloc ?_ _ | refine World.grows.plus ?_ _ _ | refine World.grows.drew ?_))))) (HB1.out.mono (HY.out.trans (by (repeat (first | exact World.grows.refl _ | assumption | refine World.grows.alloc ?_ _ | refine World.grows.plus ?_ _ _ | refine World.grows.drew ?_))))) HB2.out.1 HB2.out.2).mono ?_; rintro e U ⟨rfl, g⟩; replace q10 := World.grows.cell_of (World.grows.trans (by (repeat (first | exact World.grows.refl _ | assumption | refine World.grows.alloc ?_ _ | refine World.grows.plus ?_ _ _ | refine World.grows.drew ?_))) g) q10; replace q11 := World.grows.cell_of (World.grows.trans (by (repeat (first | exact World.grows.refl _ | assumption | refine World.grows.alloc ?_ _ | refine World.grows.plus ?_ _ _ | refine World.grows.drew ?_))) g) q11; replace HZ := Lib.hid (HZ.out.trans (World.grows.trans (by (repeat (first | exact World.grows.refl _ | assumption | refine World.grows.alloc ?_ _ | refine World.grows.plus ?_ _ _ | refine World.grows.drew ?_))) g)); replace q50 := World.grows.cell_of (World.grows.trans (by (repeat (first | exact World.grows.refl _ | assumption | refine World.grows.alloc ?_ _ | refine World.grows.plus ?_ _ _ | refine World.grows.drew ?_))) g) q50; replace q51 := World.grows.cell_of (World.grows.trans (by (repeat (first | exact World.grows.refl _ | assumption | refine World.grows.alloc ?_ _ | refine World.grows.plus ?_ _ _ | refine World.grows.drew ?_))) g) q51; replace HY := Lib.hid (HY.out.trans (World.grows.trans (by (repeat (first | exact World.grows.refl _ | assumption | refine World.grows.alloc ?_ _ | refine World.grows.plus ?_ _ _ | refine World.grows.drew ?_))) g)); replace HU := Lib.hid (HU.out.trans (World.grows.trans (by (repeat (first | exact World.grows.refl _ | assumption | refine World.grows.alloc ?_ _ | refine World.grows.plus ?_ _ _ | refine World.grows.drew ?_))) g)); clear g
          go_wp2_with (go_at_call 44; fail)
          refine (h28b _ (HZ.out.trans (by (repeat (first | exact World.grows.refl _ | assumption | refine World.grows.alloc ?_ _ | refine World.grows.plus ?_ _ _ | refine World.grows.drew ?_)))) _ (HT.out.mono (HU.out.trans (by (repeat (first | exact World.grows.refl _ | assumption | refine World.grows.alloc ?_ _ | refine World.grows.plus ?_ _ _ | refine World.grows.drew ?_)))))).mono ?_; rintro e U ⟨rfl, g⟩; replace q10 := World.grows.cell_of (World.grows.trans (by (repeat (first | exact World.grows.refl _ | assumption | refine World.grows.alloc ?_ _ | refine World.grows.plus ?_ _ _ | refine World.grows.drew ?_))) g) q10; replace q11 := World.grows.cell_of (World.grows.trans (by (repeat (first | exact World.grows.refl _ | assumption | refine World.grows.alloc ?_ _ | refine World.grows.plus ?_ _ _ | refine World.grows.drew ?_))) g) q11; replace HZ := Lib.hid (HZ.out.trans (World.grows.trans (by (repeat (first | exact World.grows.refl _ | assumption | refine World.grows.alloc ?_ _ | refine World.grows.plus ?_ _ _ | refine World.grows.drew ?_))) g)); replace q50 := World.grows.cell_of (World.grows.trans (by (repeat (first | exact World.grows.refl _ | assumption | refine World.grows.alloc ?_ _ | refine World.grows.plus ?_ _ _ | refine World.grows.drew ?_))) g) q50; replace q51 := World.grows.cell_of (World.grows.trans (by (repeat (first | exact World.grows.refl _ | assumption | refine World.grows.alloc ?_ _ | refine World.grows.plus ?_ _ _ | refine World.grows.drew ?_))) g) q51; replace HY := Lib.hid (HY.out.trans (World.grows.trans (by (repeat (first | exact World.grows.refl _ | assumption | refine World.grows.alloc ?_ _ | refine World.grows.plus ?_ _ _ | refine World.grows.drew ?_))) g)); replace HU := Lib.hid (HU.out.trans (World.grows.trans (by (repeat (first | exact World.grows.refl _ | assumption | refine World.grows.alloc ?_ _ | refine World.grows.plus ?_ _ _ | refine World.grows.drew ?_))) g)); clear g
          go_wp2_with (go_at_call 44; fail)
          refine (h29 _ (HZ.out.trans (by (repeat (first | exact World.grows.refl _ | assumption | refine World.grows.alloc ?_ _ | refine World.grows.plus ?_ _ _ | refine World.grows.drew ?_))))).mono ?_; rintro e U ⟨rfl, g⟩; replace q10 := World.grows.cell_of (World.grows.trans (by (repeat (first | exact World.grows.refl _ | assumption | refine World.grows.alloc ?_ _ | refine World.grows.plus ?_ _ _ | refine World.grows.drew ?_))) g) q10; replace q11 := World.grows.cell_of (World.grows.trans (by (repeat (first | exact World.grows.refl _ | assumption | refine World.grows.alloc ?_ _ | refine World.grows.plus ?_ _ _ | refine World.grows.drew ?_))) g) q11; replace HZ := Lib.hid (HZ.out.trans (World.grows.trans (by (repeat (first | exact World.grows.refl _ | assumption | refine World.grows.alloc ?_ _ | refine World.grows.plus ?_ _ _ | refine World.grows.drew ?_))) g)); replace q50 := World.grows.cell_of (World.grows.trans (by (repeat (first | exact World.grows.refl _ | assumption | refine World.grows.alloc ?_ _ | refine World.grows.plus ?_ _ _ | refine World.grows.drew ?_))) g) q50; replace q51 := World.grows.cell_of (World.grows.trans (by (repeat (first | exact World.grows.refl _ | assumption | refine World.grows.alloc ?_ _ | refine World.grows.plus ?_ _ _ | refine World.grows.drew ?_))) g) q51; replace HY := Lib.hid (HY.out.trans (World.grows.trans (by (repeat (first | exact World.grows.refl _ | assumption | refine World.grows.alloc ?_ _ | refine World.grows.plus ?_ _ _ | refine World.grows.drew ?_))) g)); replace HU := Lib.hid (HU.out.trans (World.grows.trans (by (repeat (first | exact World.grows.refl _ | assumption | refine World.grows.alloc ?_ _ | refine World.grows.plus ?_ _ _ | refine World.grows.drew ?_))) g)); clear g
          go_wp2_with (go_at_call 44; fail)
          refine (works_c _).mono ?_
          rintro e U ⟨rfl, g⟩
          replace HZ := Lib.hid (HZ.out.trans (World.grows.trans (by (repeat (first | exact World.grows.refl _ | assumption | refine World.grows.alloc ?_ _ | refine World.grows.plus ?_ _ _ | refine World.grows.drew ?_))) g))
          go_wp2
          (refine bodyPost_ret (v := .bool true) (by simp [results, Try.results4, go_sem]) rfl ?_)
          exact ⟨rfl, HZ.out.trans (by (repeat (first | exact World.grows.refl _ | assumption | refine World.grows.alloc ?_ _ | refine World.grows.plus ?_ _ _ | refine World.grows.drew ?_)))⟩
        · have h25 := fun W (g : w.grows W) => best_bad W _ r (Hr.out.mono g) hs
          have h26 := fun W (g : w.grows W) => ptab_bad W _ r (Hr.out.mono g) hs
          obtain ⟨E, hE⟩ : ∃ E, r.solvE = E := ⟨_, rfl⟩
          rw [hE] at h25 h26 hs
          have HE := Lib.hid hE
          have HE0 := Lib.hid hs
          clear hE hs
          go_wp2_with (go_at_call 44; fail)
          refine (h25 _ (HZ.out.trans (by (repeat (first | exact World.grows.refl _ | assumption | refine World.grows.alloc ?_ _ | refine World.grows.plus ?_ _ _ | refine World.grows.drew ?_))))).mono ?_
          rintro e U ⟨rfl, g⟩
          replace q10 := World.grows.cell_of (World.grows.trans (by (repeat (first | exact World.grows.refl _ | assumption | refine World.grows.alloc ?_ _ | refine World.grows.plus ?_ _ _ | refine World.grows.drew ?_))) g) q10; replace q11 := World.grows.cell_of (World.grows.trans (by (repeat (first | exact World.grows.refl _ | assumption | refine World.grows.alloc ?_ _ | refine World.grows.plus ?_ _ _ | refine World.grows.drew ?_))) g) q11; replace HZ := Lib.hid (HZ.out.trans (World.grows.trans (by (repeat (first | exact World.grows.refl _ | assumption | refine World.grows.alloc ?_ _ | refine World.grows.plus ?_ _ _ | refine World.grows.drew ?_))) g))
          clear g h25
          go_upto_region 4 with fail
          have q50 : (U.alloc (Obj.cells #[.int .i64 0, .slice none 0 0] 28)).cell? ⟨U.heap.size, 0, none⟩ = some _ := cell_of_heap (World.heap_at _ _ _ rfl) rfl; have q51 : (U.alloc (Obj.cells #[.int .i64 0, .slice none 0 0] 28)).cell? ⟨U.heap.size, 1, none⟩ = some _ := cell_of_heap (World.heap_at _ _ _ rfl) rfl; replace q10 := World.grows.cell_of (World.grows.alloc (World.grows.refl U) (Obj.cells #[.int .i64 0, .slice none 0 0] 28)) q10; replace q11 := World.grows.cell_of (World.grows.alloc (World.grows.refl U) (Obj.cells #[.int .i64 0, .slice none 0 0] 28)) q11; replace HZ := Lib.hid (HZ.out.trans (World.grows.alloc (World.grows.refl U) (Obj.cells #[.int .i64 0, .slice none 0 0] 28))); obtain ⟨k5, hk5⟩ : ∃ k, U.heap.size = k := ⟨_, rfl⟩; rw [hk5] at q50 q51 ⊢; simp only [List.getElem_toArray, List.getElem_cons_zero, List.getElem_cons_succ] at q50 q51
          clear hk5
          generalize World.alloc _ _ = Y at q50 q51 q10 q11 HZ ⊢
          have HY : Hid (Y.grows Y) := Lib.hid (World.grows.refl _)
          have HU : Hid (Y.grows Y) := Lib.hid (World.grows.refl _)
          go_wp2_with (go_at_call 44; fail)
          refine (h26 _ (HZ.out.trans (by (repeat (first | exact World.grows.refl _ | assumption | refine World.grows.alloc ?_ _ | refine World.grows.plus ?_ _ _ | refine World.grows.drew ?_))))).mono ?_; rintro e U ⟨rfl, g⟩; replace q10 := World.grows.cell_of (World.grows.trans (by (repeat (first | exact World.grows.refl _ | assumption | refine World.grows.alloc ?_ _ | refine World.grows.plus ?_ _ _ | refine World.grows.drew ?_))) g) q10; replace q11 := World.grows.cell_of (World.grows.trans (by (repeat (first | exact World.grows.refl _ | assumption | refine World.grows.alloc ?_ _ | refine World.grows.plus ?_ _ _ | refine World.grows.drew ?_))) g) q11; replace HZ := Lib.hid (HZ.out.trans (World.grows.trans (by (repeat (first | exact World.grows.refl _ | assumption | refine World.grows.alloc ?_ _ | refine World.grows.plus ?_ _ _ | refine World.grows.drew ?_))) g)); replace q50 := World.grows.cell_of (World.grows.trans (by (repeat (first | exact World.grows.refl _ | assumption | refine World.grows.alloc ?_ _ | refine World.grows.plus ?_ _ _ | refine World.grows.drew ?_))) g) q50; replace q51 := World.grows.cell_of (World.grows.trans (by (repeat (first | exact World.grows.refl _ | assumption | refine World.grows.alloc ?_ _ | refine World.grows.plus ?_ _ _ | refine World.grows.drew ?_))) g) q51; replace HY := Lib.hid (HY.out.trans (World.grows.trans (by (repeat (first | exact World.grows.refl _ | assumption | refine World.grows.alloc ?_ _ | refine World.grows.plus ?_ _ _ | refine World.grows.drew ?_))) g)); replace HU := Lib.hid (HU.out.trans (World.grows.trans (by (repeat (first | exact World.grows.refl _ | assumption | refine World.grows.alloc ?_ _ | refine World.grows.plus ?_ _ _ | refine World.grows.drew ?_))) g)); clear g
          clear h26
          go_wp2_with (go_at_call 44; fail)
          refine (h27 _ (HZ.out.trans (by (repeat (first | exact World.grows.refl _ | assumption | refine World.grows.alloc ?_ _ | refine World.grows.plus ?_ _ _ | refine World.grows.drew ?_))))).mono ?_; rintro e U ⟨rfl, g⟩; replace q10 := World.grows.cell_of (World.grows.trans (by (repeat (first | exact World.grows.refl _ | assumption | refine World.grows.alloc ?_ _ | refine World.grows.plus ?_ _ _ | refine World.grows.drew ?_))) g) q10; replace q11 := World.grows.cell_of (World.grows.trans (by (repeat (first | exact World.grows.refl _ | assumption | refine World.grows.alloc ?_ _ | refine World.grows.plus ?_ _ _ | refine World.grows.drew ?_))) g) q11; replace HZ := Lib.hid (HZ.out.trans (World.grows.trans (by (repeat (first | exact World.grows.refl _ | assumption | refine World.grows.alloc ?_ _ | refine World.grows.plus ?_ _ _ | refine World.grows.drew ?_))) g)); replace q50 := World.grows.cell_of (World.grows.trans (by (repeat (first | exact World.grows.refl _ | assumption | refine World.grows.alloc ?_ _ | refine World.grows.plus ?_ _ _ | refine World.grows.drew ?_))) g) q50; replace q51 := World.grows.cell_of (World.grows.trans (by (repeat (first | exact World.grows.refl _ | assumption | refine World.grows.alloc ?_ _ | refine World.grows.plus ?_ _ _ | refine World.grows.drew ?_))) g) q51; replace HY := Lib.hid (HY.out.trans (World.grows.trans (by (repeat (first | exact World.grows.refl _ | assumption | refine World.grows.alloc ?_ _ | refine World.grows.plus ?_ _ _ | refine World.grows.drew ?_))) g)); replace HU := Lib.hid (HU.out.trans (World.grows.trans (by (repeat (first | exact World.grows.refl _ | assumption | refine World.grows.alloc ?_ _ | refine World.grows.plus ?_ _ _ | refine World.grows.drew ?_))) g)); clear g
          go_wp2_with (go_at_call 44; fail)
          refine (h28 _ (HZ.out.trans (by (repeat (first | exact World.grows.refl _ | assumption | refine World.grows.alloc ?_ _ | refine World.grows.plus ?_ _ _ | refine World.grows.drew ?_))))).mono ?_; rintro e U ⟨rfl, g⟩; replace q10 := World.grows.cell_of (World.grows.trans (by (repeat (first | exact World.grows.refl _ | assumption | refine World.grows.alloc ?_ _ | refine World.grows.plus ?_ _ _ | refine World.grows.drew ?_))) g) q10; replace q11 := World.grows.cell_of (World.grows.trans (by (repeat (first | exact World.grows.refl _ | assumption | refine World.grows.alloc ?_ _ | refine World.grows.plus ?_ _ _ | refine World.grows.drew ?_))) g) q11; replace HZ := Lib.hid (HZ.out.trans (World.grows.trans (by (repeat (first | exact World.grows.refl _ | assumption | refine World.grows.alloc ?_ _ | refine World.grows.plus ?_ _ _ | refine World.grows.drew ?_))) g)); replace q50 := World.grows.cell_of (World.grows.trans (by (repeat (first | exact World.grows.refl _ | assumption | refine World.grows.alloc ?_ _ | refine World.grows.plus ?_ _ _ | refine World.grows.drew ?_))) g) q50; replace q51 := World.grows.cell_of (World.grows.trans (by (repeat (first | exact World.grows.refl _ | assumption | refine World.grows.alloc ?_ _ | refine World.grows.plus ?_ _ _ | refine World.grows.drew ?_))) g) q51; replace HY := Lib.hid (HY.out.trans (World.grows.trans (by (repeat (first | exact World.grows.refl _ | assumption | refine World.grows.alloc ?_ _ | refine World.grows.plus ?_ _ _ | refine World.grows.drew ?_))) g)); replace HU := Lib.hid (HU.out.trans (World.grows.trans (by (repeat (first | exact World.grows.refl _ | assumption | refine World.grows.alloc ?_ _ | refine World.grows.plus ?_ _ _ | refine World.grows.drew ?_))) g)); clear g
          clear h27 h28
          by_cases hc : r.check = 0
          · have hok := Reg.ok_of hc
            have hnt : ¬ r.NoTwins := fun h => HE0.out (HE.out.symm.trans (Reg.solvE_zero.2 ⟨hc, h⟩))
            have hC2 := Reg.twins_cst hok hnt
            have h29 := fun W (g : w.grows W) => worst_c W _ r ((Hr.out.mono g).ok hok) hok
            obtain ⟨C, hC⟩ : ∃ x, r.cst (2 ^ r.nm - 1) = x := ⟨_, rfl⟩
            rw [hC] at hC2 h29
            have hE24 : E = 24 := by rw [← HE.out]; exact Reg.solvE_tw hc hnt
            subst hE24
            rw [hc] at h22
            clear hc hok hnt hC HE HE0
            go_wp2_with (go_at_call 44; fail)
            refine (h22 _ (HZ.out.trans (by (repeat (first | exact World.grows.refl _ | assumption | refine World.grows.alloc ?_ _ | refine World.grows.plus ?_ _ _ | refine World.grows.drew ?_))))).mono ?_; rintro e U ⟨rfl, g⟩; replace q10 := World.grows.cell_of (World.grows.trans (by (repeat (first | exact World.grows.refl _ | assumption | refine World.grows.alloc ?_ _ | refine World.grows.plus ?_ _ _ | refine World.grows.drew ?_))) g) q10; replace q11 := World.grows.cell_of (World.grows.trans (by (repeat (first | exact World.grows.refl _ | assumption | refine World.grows.alloc ?_ _ | refine World.grows.plus ?_ _ _ | refine World.grows.drew ?_))) g) q11; replace HZ := Lib.hid (HZ.out.trans (World.grows.trans (by (repeat (first | exact World.grows.refl _ | assumption | refine World.grows.alloc ?_ _ | refine World.grows.plus ?_ _ _ | refine World.grows.drew ?_))) g)); replace q50 := World.grows.cell_of (World.grows.trans (by (repeat (first | exact World.grows.refl _ | assumption | refine World.grows.alloc ?_ _ | refine World.grows.plus ?_ _ _ | refine World.grows.drew ?_))) g) q50; replace q51 := World.grows.cell_of (World.grows.trans (by (repeat (first | exact World.grows.refl _ | assumption | refine World.grows.alloc ?_ _ | refine World.grows.plus ?_ _ _ | refine World.grows.drew ?_))) g) q51; replace HY := Lib.hid (HY.out.trans (World.grows.trans (by (repeat (first | exact World.grows.refl _ | assumption | refine World.grows.alloc ?_ _ | refine World.grows.plus ?_ _ _ | refine World.grows.drew ?_))) g)); replace HU := Lib.hid (HU.out.trans (World.grows.trans (by (repeat (first | exact World.grows.refl _ | assumption | refine World.grows.alloc ?_ _ | refine World.grows.plus ?_ _ _ | refine World.grows.drew ?_))) g)); clear g
            go_wp2_with (go_at_call 44; fail)
            refine (h29 _ (HZ.out.trans (by (repeat (first | exact World.grows.refl _ | assumption | refine World.grows.alloc ?_ _ | refine World.grows.plus ?_ _ _ | refine World.grows.drew ?_))))).mono ?_; rintro e U ⟨rfl, g⟩; replace q10 := World.grows.cell_of (World.grows.trans (by (repeat (first | exact World.grows.refl _ | assumption | refine World.grows.alloc ?_ _ | refine World.grows.plus ?_ _ _ | refine World.grows.drew ?_))) g) q10; replace q11 := World.grows.cell_of (World.grows.trans (by (repeat (first | exact World.grows.refl _ | assumption | refine World.grows.alloc ?_ _ | refine World.grows.plus ?_ _ _ | refine World.grows.drew ?_))) g) q11; replace HZ := Lib.hid (HZ.out.trans (World.grows.trans (by (repeat (first | exact World.grows.refl _ | assumption | refine World.grows.alloc ?_ _ | refine World.grows.plus ?_ _ _ | refine World.grows.drew ?_))) g)); replace q50 := World.grows.cell_of (World.grows.trans (by (repeat (first | exact World.grows.refl _ | assumption | refine World.grows.alloc ?_ _ | refine World.grows.plus ?_ _ _ | refine World.grows.drew ?_))) g) q50; replace q51 := World.grows.cell_of (World.grows.trans (by (repeat (first | exact World.grows.refl _ | assumption | refine World.grows.alloc ?_ _ | refine World.grows.plus ?_ _ _ | refine World.grows.drew ?_))) g) q51; replace HY := Lib.hid (HY.out.trans (World.grows.trans (by (repeat (first | exact World.grows.refl _ | assumption | refine World.grows.alloc ?_ _ | refine World.grows.plus ?_ _ _ | refine World.grows.drew ?_))) g)); replace HU := Lib.hid (HU.out.trans (World.grows.trans (by (repeat (first | exact World.grows.refl _ | assumption | refine World.grows.alloc ?_ _ | refine World.grows.plus ?_ _ _ | refine World.grows.drew ?_))) g)); clear g
            go_wp2_with (go_at_call 44; fail)
            refine (works_c _).mono ?_
            rintro e U ⟨rfl, g⟩
            replace HZ := Lib.hid (HZ.out.trans (World.grows.trans (by (repeat (first | exact World.grows.refl _ | assumption | refine World.grows.alloc ?_ _ | refine World.grows.plus ?_ _ _ | refine World.grows.drew ?_))) g))
            go_wp2
            (refine bodyPost_ret (v := .bool true) (by simp [results, Try.results4, go_sem]) rfl ?_)
            exact ⟨rfl, HZ.out.trans (by (repeat (first | exact World.grows.refl _ | assumption | refine World.grows.alloc ?_ _ | refine World.grows.plus ?_ _ _ | refine World.grows.drew ?_)))⟩
          · have hEc : r.check = E := by rw [← HE.out]; unfold Reg.solvE; rw [if_neg hc]
            rw [hEc] at h22 hc
            have hb0 : (E == 0) = false := by simpa using hc
            have hb1 : (E != 0) = true := by simpa using hc
            clear hEc HE HE0
            go_wp2_with (go_at_call 44; fail)
            refine (h22 _ (HZ.out.trans (by (repeat (first | exact World.grows.refl _ | assumption | refine World.grows.alloc ?_ _ | refine World.grows.plus ?_ _ _ | refine World.grows.drew ?_))))).mono ?_; rintro e U ⟨rfl, g⟩; replace q10 := World.grows.cell_of (World.grows.trans (by (repeat (first | exact World.grows.refl _ | assumption | refine World.grows.alloc ?_ _ | refine World.grows.plus ?_ _ _ | refine World.grows.drew ?_))) g) q10; replace q11 := World.grows.cell_of (World.grows.trans (by (repeat (first | exact World.grows.refl _ | assumption | refine World.grows.alloc ?_ _ | refine World.grows.plus ?_ _ _ | refine World.grows.drew ?_))) g) q11; replace HZ := Lib.hid (HZ.out.trans (World.grows.trans (by (repeat (first | exact World.grows.refl _ | assumption | refine World.grows.alloc ?_ _ | refine World.grows.plus ?_ _ _ | refine World.grows.drew ?_))) g)); replace q50 := World.grows.cell_of (World.grows.trans (by (repeat (first | exact World.grows.refl _ | assumption | refine World.grows.alloc ?_ _ | refine World.grows.plus ?_ _ _ | refine World.grows.drew ?_))) g) q50; replace q51 := World.grows.cell_of (World.grows.trans (by (repeat (first | exact World.grows.refl _ | assumption | refine World.grows.alloc ?_ _ | refine World.grows.plus ?_ _ _ | refine World.grows.drew ?_))) g) q51; replace HY := Lib.hid (HY.out.trans (World.grows.trans (by (repeat (first | exact World.grows.refl _ | assumption | refine World.grows.alloc ?_ _ | refine World.grows.plus ?_ _ _ | refine World.grows.drew ?_))) g)); replace HU := Lib.hid (HU.out.trans (World.grows.trans (by (repeat (first | exact World.grows.refl _ | assumption | refine World.grows.alloc ?_ _ | refine World.grows.plus ?_ _ _ | refine World.grows.drew ?_))) g)); clear g
            go_wp2_with (go_at_call 44; fail)
            refine (works_c _).mono ?_
            rintro e U ⟨rfl, g⟩
            replace HZ := Lib.hid (HZ.out.trans (World.grows.trans (by (repeat (first | exact World.grows.refl _ | assumption | refine World.grows.alloc ?_ _ | refine World.grows.plus ?_ _ _ | refine World.grows.drew ?_))) g))
            go_wp2
            (refine bodyPost_ret (v := .bool true) (by simp [results, Try.results4, go_sem]) rfl ?_)
            exact ⟨rfl, HZ.out.trans (by (repeat (first | exact World.grows.refl _ | assumption | refine World.grows.alloc ?_ _ | refine World.grows.plus ?_ _ _ | refine World.grows.drew ?_)))⟩
end Go.Proofs.Ytdminglglapnlaa

/-
  What is proved: the statement MarkBests, at every input.
-/
namespace Go.Proofs.Ytdminglglapnlaa
open Go.ChangeShapes Go.WideShapes Go.ChangeAt Go.RowKit

set_option maxRecDepth 100000 in
theorem markBests_lifted (os : Os) (started : os.Started) (H : Type) (enc : TypeId × Value → H) :
    ReturnsInHanded {} Try.checked os 4 .any (Rows.markBestsSpec.pre6 enc Try.prog Try.f4 Rows.markBestsRow.domain false) (Rows.markBestsSpec.post enc Try.prog Try.f4 false true false false) := by
  refine law_lifted (C := Try.checked) (tb := 4) started own_c laid_c (by kernel_rfl) Try.func4 (of_decide_eq_true (by kernel_rfl))
    (ChangeSpec.witness6 (enc := enc) (C := Try.checked) false ⟨#[], #[.agg #[.slice none 0 0, .slice none 0 0], .slice none 0 0], []⟩ 8 (by kernel_rfl) (by kernel_rfl) (by kernel_rfl) (by kernel_rfl))
    rfl Try.underlying4 rfl (fun ds hl => ?_) (fun W base args ds ps hval hA => ?_)
  · match ds, hl with
    | [d1, d2], _ => exact ⟨rfl, rfl, rfl⟩
  · have hA' : DataW.TrodAll enc Try.prog W 0 (fun _ => true) true Try.f4.params.toList args.toList ds ps := hA
    have hval' : ∀ (j : Nat) t v, Try.f4.params[j]? = some t → args[j]? = some v → Value.okWide Try.prog W .any base t v := hval
    rw [Try.params4] at hA' hval'
    obtain ⟨v1, v2, d1, d2, p1, p2, rfl, rfl, rfl, h1, h2⟩ := trodAll_two hA'
    obtain ⟨r1, hr1⟩ := reg_of (hval' 0 25 v1 rfl rfl) h1
    obtain ⟨b2, hb2⟩ := table_of (hval' 1 42 v2 rfl rfl) h2
    exact bests_w W v1 r1 hr1 v2 b2 hb2

theorem markBests_holds : Rows.MarkBestsSaid :=
  OpenClaim.holds_of_wide 4 Try.f4 rfl rfl rfl rfl rfl rfl rfl ⟨rfl, rfl, rfl, rfl, rfl⟩ rfl rfl rfl rfl rfl (by kernel_rfl) Try.func4 (by kernel_rfl)
    (of_decide_eq_true (by kernel_rfl)) (by unfold Func.isWrapper; first | (rw [if_pos (by decide +kernel)]; kernel_rfl) | (rw [if_neg (by decide +kernel)]; exact ⟨rfl, rfl⟩))
    (fun os started H enc _ => markBests_lifted os started H enc)
end Go.Proofs.Ytdminglglapnlaa

