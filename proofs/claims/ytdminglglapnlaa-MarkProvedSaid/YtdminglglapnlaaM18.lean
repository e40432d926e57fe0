/-
  What is proved: MarkProved (6) answers true.
-/
import Derived.Test.YtdminglglapnlaaM16
import Derived.Test.YtdminglglapnlaaM17
import Derived.Test.YtdminglglapnlaaM15
set_option linter.all false
namespace Go.Proofs.Ytdminglglapnlaa
open Go.RowKit
attribute [local irreducible] Go.wpCalm

theorem ltree_ok (w : World) (v : Value) (r : Reg) (hv : RegAt w v r) (hr : r.Ok) (hn : r.NoTwins) (bv : Value) (nb : Nat) (b : Nat → Int) (hb : NumsAt .u8 w bv nb b) (hbb : ∀ i, i < nb → 0 ≤ b i ∧ b i ≤ 255) (hn40 : nb ≤ 40) :
    Calls Try.prog 38 #[v, bv] w fun e w' => ∃ (x : Int) (a : Option Addr) (n c : Nat) (t : Tr), e = .returned (.tuple #[.agg #[.int .i64 x, .slice a n c], .bool true]) ∧ TreeAt w' (.agg #[.int .i64 x, .slice a n c]) t ∧ t.treeE r = 0 ∧ w.grows w' :=
  (ltree_c w v r hv hr bv nb b hb hbb hn40).mono (by
    rintro e w' ⟨x, a, n, c, t, ok, rfl, h1, h2, h3, h4⟩
    cases ok with
    | true => exact ⟨x, a, n, c, t, rfl, h1, h2 rfl, h4⟩
    | false => exact absurd hn (h3 rfl))
theorem ltree_tw (w : World) (v : Value) (r : Reg) (hv : RegAt w v r) (hr : r.Ok) (hn : ¬ r.NoTwins) (bv : Value) (nb : Nat) (b : Nat → Int) (hb : NumsAt .u8 w bv nb b) (hbb : ∀ i, i < nb → 0 ≤ b i ∧ b i ≤ 255) (hn40 : nb ≤ 40) :
    Calls Try.prog 38 #[v, bv] w fun e w' => ∃ (x : Int) (a : Option Addr) (n c : Nat) (t : Tr), e = .returned (.tuple #[.agg #[.int .i64 x, .slice a n c], .bool false]) ∧ TreeAt w' (.agg #[.int .i64 x, .slice a n c]) t ∧ w.grows w' :=
  (ltree_c w v r hv hr bv nb b hb hbb hn40).mono (by
    rintro e w' ⟨x, a, n, c, t, ok, rfl, h1, h2, h3, h4⟩
    cases ok with
    | true => exact absurd (h2 rfl) (Reg.twins_tree hn t)
    | false => exact ⟨x, a, n, c, t, rfl, h1, h4⟩)
set_option maxRecDepth 100000 in
set_option maxHeartbeats 8000000 in
theorem proved_w (w : World) (rv : Value) (r : Reg) (hr : RegAt w rv r) (bv : Value) (nb : Nat) (b : Nat → Int) (hb : NumsAt .u8 w bv nb b) (hbb : ∀ i, i < nb → 0 ≤ b i ∧ b i ≤ 255) (tv : Value) (t : Tr) (ht : TreeAt w tv t) (lv : Value) (l : Bn) (hl : TableAt w lv l) :
    Calls Try.prog 6 #[rv, bv, tv, lv] w fun e w' => e = .returned (.bool true) ∧ w.grows w' := by
  have h37 := fun W (g : w.grows W) => fine_c W rv r (hr.mono g)
  have h13 := fun W (g : w.grows W) => tall_c W tv t (ht.mono g)
  have h24 := fun W (g : w.grows W) => long_c W lv l (hl.mono g)
  have Hr := Lib.hid hr
  have Ht := Lib.hid ht
  have Hl := Lib.hid hl
  have Hb := Lib.hid hb
  have Hbb := Lib.hid hbb
  obtain ⟨mv, cv, row, rfl, ⟨ma, mc, rfl, -⟩, ⟨ca, cc, rfl, -⟩, -⟩ := hr
  obtain ⟨nv, rfl, row, ⟨na, nc, rfl, -⟩, -⟩ := ht
  obtain ⟨row, ⟨la, lc, rfl, -⟩, -⟩ := hl
  obtain ⟨ba, bc, rfl, b1, b2⟩ := nums_shape hb
  clear hbb hb b1 b2
  go_enter Try.func6, Try.ntmps6
  by_cases hc : r.check = 0
  · rw [decide_eq_true hc] at h37
    by_cases hn : nb ≤ 40
    · have hnI : decide ((40 : Int) < (nb : Nat)) = false := by simp; omega
      have hnI' : ¬ (40 : Int) < (nb : Nat) := by omega
      cases htt : t.tallB with
      | true =>
        rw [htt] at h13
        go_wp2_with (first | (go_at_call 37; refine (h37 _ (by (repeat (first | exact World.grows.refl _ | assumption | refine World.grows.alloc ?_ _ | refine World.grows.plus ?_ _ _ | refine World.grows.drew ?_)))).mono ?_; rintro e w' ⟨rfl, hg⟩; obtain ⟨n2, x2, rfl⟩ := World.plus_of hg) | (go_at_call 13; refine (h13 _ (by (repeat (first | exact World.grows.refl _ | assumption | refine World.grows.alloc ?_ _ | refine World.grows.plus ?_ _ _ | refine World.grows.drew ?_)))).mono ?_; rintro e w' ⟨rfl, hg⟩; obtain ⟨n2, x2, rfl⟩ := World.plus_of hg) | (go_at_call 24; refine (h24 _ (by (repeat (first | exact World.grows.refl _ | assumption | refine World.grows.alloc ?_ _ | refine World.grows.plus ?_ _ _ | refine World.grows.drew ?_)))).mono ?_; rintro e w' ⟨rfl, hg⟩; obtain ⟨n2, x2, rfl⟩ := World.plus_of hg) | (go_at_call 14; refine (works_c _).mono ?_; rintro e w' ⟨rfl, hg⟩; obtain ⟨n2, x2, rfl⟩ := World.plus_of hg)); (refine bodyPost_ret (v := .bool true) (by simp [results, Try.results6, go_sem]) rfl ?_); exact ⟨rfl, by (repeat (first | exact World.grows.refl _ | assumption | refine World.grows.alloc ?_ _ | refine World.grows.plus ?_ _ _ | refine World.grows.drew ?_))⟩
      | false =>
        rw [htt] at h13
        by_cases hl2 : l.n ≤ 250
        · have hlI : decide ((250 : Int) < (l.n : Nat)) = false := by simp; omega
          have hlI' : ¬ (250 : Int) < (l.n : Nat) := by omega
          cases hlo : l.longB with
          | true =>
            rw [hlo] at h24
            go_wp2_with (first | (go_at_call 37; refine (h37 _ (by (repeat (first | exact World.grows.refl _ | assumption | refine World.grows.alloc ?_ _ | refine World.grows.plus ?_ _ _ | refine World.grows.drew ?_)))).mono ?_; rintro e w' ⟨rfl, hg⟩; obtain ⟨n2, x2, rfl⟩ := World.plus_of hg) | (go_at_call 13; refine (h13 _ (by (repeat (first | exact World.grows.refl _ | assumption | refine World.grows.alloc ?_ _ | refine World.grows.plus ?_ _ _ | refine World.grows.drew ?_)))).mono ?_; rintro e w' ⟨rfl, hg⟩; obtain ⟨n2, x2, rfl⟩ := World.plus_of hg) | (go_at_call 24; refine (h24 _ (by (repeat (first | exact World.grows.refl _ | assumption | refine World.grows.alloc ?_ _ | refine World.grows.plus ?_ _ _ | refine World.grows.drew ?_)))).mono ?_; rintro e w' ⟨rfl, hg⟩; obtain ⟨n2, x2, rfl⟩ := World.plus_of hg) | (go_at_call 14; refine (works_c _).mono ?_; rintro e w' ⟨rfl, hg⟩; obtain ⟨n2, x2, rfl⟩ := World.plus_of hg)); (refine bodyPost_ret (v := .bool true) (by simp [results, Try.results6, go_sem]) rfl ?_); exact ⟨rfl, by (repeat (first | exact World.grows.refl _ | assumption | refine World.grows.alloc ?_ _ | refine World.grows.plus ?_ _ _ | refine World.grows.drew ?_))⟩
          | false =>
            rw [hlo] at h24
            have Hhn := Lib.hid hn
            clear htt hlo hn hl2
            go_upto_region 1 with fail
            generalize hV : World.alloc _ _ = V
            have gV : w.grows V := by rw [← hV]; (repeat (first | exact World.grows.refl _ | assumption | refine World.grows.alloc ?_ _ | refine World.grows.plus ?_ _ _ | refine World.grows.drew ?_))
            have q10 : V.cell? ⟨w.heap.size, 0, none⟩ = some (.slice ma r.nm mc) := by rw [← hV]; simp [go_sem]
            have q11 : V.cell? ⟨w.heap.size, 1, none⟩ = some (.slice ca r.nc cc) := by rw [← hV]; simp [go_sem]
            have q20 : V.cell? ⟨w.heap.size + 1, 0, none⟩ = some (.int .i64 t.root) := by rw [← hV]; simp [go_sem]
            have q21 : V.cell? ⟨w.heap.size + 1, 1, none⟩ = some (.slice na t.n nc) := by rw [← hV]; simp [go_sem]
            have HZ := Lib.hid gV
            clear hV gV
            go_wp2_with (go_at_call 44; fail)
            refine (h37 _ (HZ.out.trans (by (repeat (first | exact World.grows.refl _ | assumption | refine World.grows.alloc ?_ _ | refine World.grows.plus ?_ _ _ | refine World.grows.drew ?_))))).mono ?_
            rintro e U ⟨rfl, g⟩
            replace q10 := World.grows.cell_of (World.grows.trans (by (repeat (first | exact World.grows.refl _ | assumption | refine World.grows.alloc ?_ _ | refine World.grows.plus ?_ _ _ | refine World.grows.drew ?_))) g) q10; replace q11 := World.grows.cell_of (World.grows.trans (by (repeat (first | exact World.grows.refl _ | assumption | refine World.grows.alloc ?_ _ | refine World.grows.plus ?_ _ _ | refine World.grows.drew ?_))) g) q11; replace HZ := Lib.hid (HZ.out.trans (World.grows.trans (by (repeat (first | exact World.grows.refl _ | assumption | refine World.grows.alloc ?_ _ | refine World.grows.plus ?_ _ _ | refine World.grows.drew ?_))) g))
            replace q20 := World.grows.cell_of (World.grows.trans (by (repeat (first | exact World.grows.refl _ | assumption | refine World.grows.alloc ?_ _ | refine World.grows.plus ?_ _ _ | refine World.grows.drew ?_))) g) q20; replace q21 := World.grows.cell_of (World.grows.trans (by (repeat (first | exact World.grows.refl _ | assumption | refine World.grows.alloc ?_ _ | refine World.grows.plus ?_ _ _ | refine World.grows.drew ?_))) g) q21
            clear g
            go_wp2_with (go_at_call 44; fail)
            refine (h13 _ (HZ.out.trans (by (repeat (first | exact World.grows.refl _ | assumption | refine World.grows.alloc ?_ _ | refine World.grows.plus ?_ _ _ | refine World.grows.drew ?_))))).mono ?_
            rintro e U ⟨rfl, g⟩
            replace q10 := World.grows.cell_of (World.grows.trans (by (repeat (first | exact World.grows.refl _ | assumption | refine World.grows.alloc ?_ _ | refine World.grows.plus ?_ _ _ | refine World.grows.drew ?_))) g) q10; replace q11 := World.grows.cell_of (World.grows.trans (by (repeat (first | exact World.grows.refl _ | assumption | refine World.grows.alloc ?_ _ | refine World.grows.plus ?_ _ _ | refine World.grows.drew ?_))) g) q11; replace HZ := Lib.hid (HZ.out.trans (World.grows.trans (by (repeat (first | exact World.grows.refl _ | assumption | refine World.grows.alloc ?_ _ | refine World.grows.plus ?_ _ _ | refine World.grows.drew ?_))) g))
            replace q20 := World.grows.cell_of (World.grows.trans (by (repeat (first | exact World.grows.refl _ | assumption | refine World.grows.alloc ?_ _ | refine World.grows.plus ?_ _ _ | refine World.grows.drew ?_))) g) q20; replace q21 := World.grows.cell_of (World.grows.trans (by (repeat (first | exact World.grows.refl _ | assumption | refine World.grows.alloc ?_ _ | refine World.grows.plus ?_ _ _ | refine World.grows.drew ?_))) g) q21
            clear g
            go_wp2_with (go_at_call 44; fail)
            refine (h24 _ (HZ.out.trans (by (repeat (first | exact World.grows.refl _ | assumption | refine World.grows.alloc ?_ _ | refine World.grows.plus ?_ _ _ | refine World.grows.drew ?_))))).mono ?_
            rintro e U ⟨rfl, g⟩
            replace q10 := World.grows.cell_of (World.grows.trans (by (repeat (first | exact World.grows.refl _ | assumption | refine World.grows.alloc ?_ _ | refine World.grows.plus ?_ _ _ | refine World.grows.drew ?_))) g) q10; replace q11 := World.grows.cell_of (World.grows.trans (by (repeat (first | exact World.grows.refl _ | assumption | refine World.grows.alloc ?_ _ | refine World.grows.plus ?_ _ _ | refine World.grows.drew ?_))) g) q11; replace HZ := Lib.hid (HZ.out.trans (World.grows.trans (by (repeat (first | exact World.grows.refl _ | assumption | refine World.grows.alloc ?_ _ | refine World.grows.plus ?_ _ _ | refine World.grows.drew ?_))) g))
            replace q20 := World.grows.cell_of (World.grows.trans (by (repeat (first | exact World.grows.refl _ | assumption | refine World.grows.alloc ?_ _ | refine World.grows.plus ?_ _ _ | refine World.grows.drew ?_))) g) q20; replace q21 := World.grows.cell_of (World.grows.trans (by (repeat (first | exact World.grows.refl _ | assumption | refine World.grows.alloc ?_ _ | refine World.grows.plus ?_ _ _ | refine World.grows.drew ?_))) g) q21
            clear g h37 h13 h24 hnI hnI' hlI hlI'
            have hok := Reg.ok_of hc
            by_cases hnt : r.NoTwins
            · have hs := Reg.solvE_zero.2 ⟨hc, hnt⟩
              have h15 := fun W (g : w.grows W) => ptwins_none (Hr.out.mono g) hc hnt
              have h25 := fun W (g : w.grows W) => best_ok (Hr.out.mono g) hs
              have h26 := fun W (g : w.grows W) => tab_ok (Hr.out.mono g) hs
              have h38 := fun W (g : w.grows W) => ltree_ok W _ r (Hr.out.mono g) hok hnt _ nb b (Hb.out.mono g) Hbb.out Hhn.out
              have h19 := fun W (g : w.grows W) => ptree_c W _ r (Hr.out.mono g) _ t (Ht.out.mono g)
              have h27 := fun W (g : w.grows W) => pbounds_c W _ r (Hr.out.mono g) _ l (Hl.out.mono g)
              have Hs := Lib.hid hs
              have HE := fun (h : t.treeE r = 0) => Reg.cst_le_treeA h
              have HF := fun (h : l.err r = 0) => Bn.ans_le h
              have HG := Lib.hid fun (u : Tr) (h : u.treeE r = 0) => Reg.cst_le_treeA h
              have h27b := fun W (g : w.grows W) tv (ht : TableAt W tv (r.tab r.sets)) => pbounds_ok (Hr.out.mono g) hs ht
              have h28 := fun W (g : w.grows W) tv (ht : TableAt W tv (r.tab r.sets)) => rbounds_ok (Hr.out.mono g) hs ht
              obtain ⟨C, hC⟩ : ∃ x, r.cst (2 ^ r.nm - 1) = x := ⟨_, rfl⟩
              obtain ⟨A, hA⟩ : ∃ x, t.treeA r = x := ⟨_, rfl⟩
              obtain ⟨E, hE⟩ : ∃ x, t.treeE r = x := ⟨_, rfl⟩
              obtain ⟨X, hX⟩ : ∃ x, l.ans r = x := ⟨_, rfl⟩
              obtain ⟨F, hF⟩ : ∃ x, l.err r = x := ⟨_, rfl⟩
              rw [hC] at h27b h28 HG
              simp only [hC] at h25
              rw [hA, hE] at h19
              rw [hX, hF] at h27
              rw [hC, hA, hE] at HE
              rw [hC, hX, hF] at HF
              clear hs hnt hc hok hC hA hE hX hF
              go_wp2_with (go_at_call 44; fail)
              refine (h15 _ (HZ.out.trans (by (repeat (first | exact World.grows.refl _ | assumption | refine World.grows.alloc ?_ _ | refine World.grows.plus ?_ _ _ | refine World.grows.drew ?_))))).mono ?_
              rintro e U ⟨rfl, g⟩
              replace q10 := World.grows.cell_of (World.grows.trans (by (repeat (first | exact World.grows.refl _ | assumption | refine World.grows.alloc ?_ _ | refine World.grows.plus ?_ _ _ | refine World.grows.drew ?_))) g) q10; replace q11 := World.grows.cell_of (World.grows.trans (by (repeat (first | exact World.grows.refl _ | assumption | refine World.grows.alloc ?_ _ | refine World.grows.plus ?_ _ _ | refine World.grows.drew ?_))) g) q11; replace HZ := Lib.hid (HZ.out.trans (World.grows.trans (by (repeat (first | exact World.grows.refl _ | assumption | refine World.grows.alloc ?_ _ | refine World.grows.plus ?_ _ _ | refine World.grows.drew ?_))) g))
              replace q20 := World.grows.cell_of (World.grows.trans (by (repeat (first | exact World.grows.refl _ | assumption | refine World.grows.alloc ?_ _ | refine World.grows.plus ?_ _ _ | refine World.grows.drew ?_))) g) q20; replace q21 := World.grows.cell_of (World.grows.trans (by (repeat (first | exact World.grows.refl _ | assumption | refine World.grows.alloc ?_ _ | refine World.grows.plus ?_ _ _ | refine World.grows.drew ?_))) g) q21
              clear g h15
              go_wp2_with (go_at_call 44; fail)
              refine (h25 _ (HZ.out.trans (by (repeat (first | exact World.grows.refl _ | assumption | refine World.grows.alloc ?_ _ | refine World.grows.plus ?_ _ _ | refine World.grows.drew ?_))))).mono ?_
              rintro e U ⟨bx, bea, ben, bec, bt, rfl, hB, g⟩
              replace q10 := World.grows.cell_of (World.grows.trans (by (repeat (first | exact World.grows.refl _ | assumption | refine World.grows.alloc ?_ _ | refine World.grows.plus ?_ _ _ | refine World.grows.drew ?_))) g) q10; replace q11 := World.grows.cell_of (World.grows.trans (by (repeat (first | exact World.grows.refl _ | assumption | refine World.grows.alloc ?_ _ | refine World.grows.plus ?_ _ _ | refine World.grows.drew ?_))) g) q11; replace HZ := Lib.hid (HZ.out.trans (World.grows.trans (by (repeat (first | exact World.grows.refl _ | assumption | refine World.grows.alloc ?_ _ | refine World.grows.plus ?_ _ _ | refine World.grows.drew ?_))) g))
              replace q20 := World.grows.cell_of (World.grows.trans (by (repeat (first | exact World.grows.refl _ | assumption | refine World.grows.alloc ?_ _ | refine World.grows.plus ?_ _ _ | refine World.grows.drew ?_))) g) q20; replace q21 := World.grows.cell_of (World.grows.trans (by (repeat (first | exact World.grows.refl _ | assumption | refine World.grows.alloc ?_ _ | refine World.grows.plus ?_ _ _ | refine World.grows.drew ?_))) g) q21
              clear g h25
              have HB := Lib.hid (hB.1.mono (World.grows.alloc (World.grows.refl U) (Obj.cells #[.int .i64 bx, .slice bea ben bec] 28)))
              have HB2 := Lib.hid hB.2
              clear hB
              go_upto_region 5 with fail
              have q30 : (U.alloc (Obj.cells #[.int .i64 bx, .slice bea ben bec] 28)).cell? ⟨U.heap.size, 0, none⟩ = some _ := cell_of_heap (World.heap_at _ _ _ rfl) rfl; have q31 : (U.alloc (Obj.cells #[.int .i64 bx, .slice bea ben bec] 28)).cell? ⟨U.heap.size, 1, none⟩ = some _ := cell_of_heap (World.heap_at _ _ _ rfl) rfl; replace q10 := World.grows.cell_of (World.grows.alloc (World.grows.refl U) (Obj.cells #[.int .i64 bx, .slice bea ben bec] 28)) q10; replace q11 := World.grows.cell_of (World.grows.alloc (World.grows.refl U) (Obj.cells #[.int .i64 bx, .slice bea ben bec] 28)) q11; replace q20 := World.grows.cell_of (World.grows.alloc (World.grows.refl U) (Obj.cells #[.int .i64 bx, .slice bea ben bec] 28)) q20; replace q21 := World.grows.cell_of (World.grows.alloc (World.grows.refl U) (Obj.cells #[.int .i64 bx, .slice bea ben bec] 28)) q21; replace HZ := Lib.hid (HZ.out.trans (World.grows.alloc (World.grows.refl U) (Obj.cells #[.int .i64 bx, .slice bea ben bec] 28))); obtain ⟨k5, hk5⟩ : ∃ k, U.heap.size = k := ⟨_, rfl⟩; rw [hk5] at q30 q31 ⊢; simp only [List.getElem_toArray, List.getElem_cons_zero, List.getElem_cons_succ] at q30 q31; clear hk5
              generalize World.alloc _ _ = Y at q30 q31 q20 q21 q10 q11 HZ HB ⊢
              go_wp2_with (go_at_call 44; fail)
              refine (h26 _ (HZ.out.trans (by (repeat (first | exact World.grows.refl _ | assumption | refine World.grows.alloc ?_ _ | refine World.grows.plus ?_ _ _ | refine World.grows.drew ?_))))).mono ?_
              rintro e U ⟨ta, tn, tc, rfl, hT, g⟩
              replace q10 := World.grows.cell_of (World.grows.trans (by (repeat (first | exact World.grows.refl _ | assumption | refine World.grows.alloc ?_ _ | refine World.grows.plus ?_ _ _ | refine World.grows.drew ?_))) g) q10; replace q11 := World.grows.cell_of (World.grows.trans (by (repeat (first | exact World.grows.refl _ | assumption | refine World.grows.alloc ?_ _ | refine World.grows.plus ?_ _ _ | refine World.grows.drew ?_))) g) q11; replace HZ := Lib.hid (HZ.out.trans (World.grows.trans (by (repeat (first | exact World.grows.refl _ | assumption | refine World.grows.alloc ?_ _ | refine World.grows.plus ?_ _ _ | refine World.grows.drew ?_))) g))
              replace q20 := World.grows.cell_of (World.grows.trans (by (repeat (first | exact World.grows.refl _ | assumption | refine World.grows.alloc ?_ _ | refine World.grows.plus ?_ _ _ | refine World.grows.drew ?_))) g) q20; replace q21 := World.grows.cell_of (World.grows.trans (by (repeat (first | exact World.grows.refl _ | assumption | refine World.grows.alloc ?_ _ | refine World.grows.plus ?_ _ _ | refine World.grows.drew ?_))) g) q21
              replace q30 := World.grows.cell_of (World.grows.trans (by (repeat (first | exact World.grows.refl _ | assumption | refine World.grows.alloc ?_ _ | refine World.grows.plus ?_ _ _ | refine World.grows.drew ?_))) g) q30; replace q31 := World.grows.cell_of (World.grows.trans (by (repeat (first | exact World.grows.refl _ | assumption | refine World.grows.alloc ?_ _ | refine World.grows.plus ?_ _ _ | refine World.grows.drew ?_))) g) q31; replace HB := Lib.hid (TreeAt.mono HB.out (World.grows.trans (by (repeat (first | exact World.grows.refl _ | assumption | refine World.grows.alloc ?_ _ | refine World.grows.plus ?_ _ _ | refine World.grows.drew ?_))) g))
              have HT := Lib.hid hT
              clear g h26 hT
              go_wp2_with (go_at_call 44; fail)
              refine (h38 _ (HZ.out.trans (by (repeat (first | exact World.grows.refl _ | assumption | refine World.grows.alloc ?_ _ | refine World.grows.plus ?_ _ _ | refine World.grows.drew ?_))))).mono ?_
              rintro e U ⟨ox, oa, on, oc, ot, rfl, hO, hO2, g⟩
              replace q10 := World.grows.cell_of (World.grows.trans (by (repeat (first | exact World.grows.refl _ | assumption | refine World.grows.alloc ?_ _ | refine World.grows.plus ?_ _ _ | refine World.grows.drew ?_))) g) q10; replace q11 := World.grows.cell_of (World.grows.trans (by (repeat (first | exact World.grows.refl _ | assumption | refine World.grows.alloc ?_ _ | refine World.grows.plus ?_ _ _ | refine World.grows.drew ?_))) g) q11; replace HZ := Lib.hid (HZ.out.trans (World.grows.trans (by (repeat (first | exact World.grows.refl _ | assumption | refine World.grows.alloc ?_ _ | refine World.grows.plus ?_ _ _ | refine World.grows.drew ?_))) g))
              replace q20 := World.grows.cell_of (World.grows.trans (by (repeat (first | exact World.grows.refl _ | assumption | refine World.grows.alloc ?_ _ | refine World.grows.plus ?_ _ _ | refine World.grows.drew ?_))) g) q20; replace q21 := World.grows.cell_of (World.grows.trans (by (repeat (first | exact World.grows.refl _ | assumption | refine World.grows.alloc ?_ _ | refine World.grows.plus ?_ _ _ | refine World.grows.drew ?_))) g) q21
              replace q30 := World.grows.cell_of (World.grows.trans (by (repeat (first | exact World.grows.refl _ | assumption | refine World.grows.alloc ?_ _ | refine World.grows.plus ?_ _ _ | refine World.grows.drew ?_))) g) q30; replace q31 := World.grows.cell_of (World.grows.trans (by (repeat (first | exact World.grows.refl _ | assumption | refine World.grows.alloc ?_ _ | refine World.grows.plus ?_ _ _ | refine World.grows.drew ?_))) g) q31; replace HB := Lib.hid (TreeAt.mono HB.out (World.grows.trans (by (repeat (first | exact World.grows.refl _ | assumption | refine World.grows.alloc ?_ _ | refine World.grows.plus ?_ _ _ | refine World.grows.drew ?_))) g))
              replace HT := Lib.hid (TableAt.mono HT.out (World.grows.trans (by (repeat (first | exact World.grows.refl _ | assumption | refine World.grows.alloc ?_ _ | refine World.grows.plus ?_ _ _ | refine World.grows.drew ?_))) g))
              have HA2 := HG.out ot hO2
              have h19o := fun W (hr : RegAt W (.agg #[.slice ma r.nm mc, .slice ca r.nc cc]) r) tv (ht : TreeAt W tv ot) => ptree_ok hr ht hO2 rfl
              obtain ⟨A2, hA2⟩ : ∃ x, ot.treeA r = x := ⟨_, rfl⟩
              rw [hA2] at HA2 h19o
              clear g h38 hO2 hA2
              have HO := Lib.hid (hO.mono (World.grows.alloc (World.grows.refl U) (Obj.cells #[.int .i64 ox, .slice oa on oc] 28)))
              replace HB := Lib.hid (HB.out.mono (World.grows.alloc (World.grows.refl U) (Obj.cells #[.int .i64 ox, .slice oa on oc] 28)))
              replace HT := Lib.hid (HT.out.mono (World.grows.alloc (World.grows.refl U) (Obj.cells #[.int .i64 ox, .slice oa on oc] 28)))
              replace q30 := World.grows.cell_of (World.grows.alloc (World.grows.refl U) (Obj.cells #[.int .i64 ox, .slice oa on oc] 28)) q30
              replace q31 := World.grows.cell_of (World.grows.alloc (World.grows.refl U) (Obj.cells #[.int .i64 ox, .slice oa on oc] 28)) q31
              clear hO
              go_upto_region 7 with fail
              have q40 : (U.alloc (Obj.cells #[.int .i64 ox, .slice oa on oc] 28)).cell? ⟨U.heap.size, 0, none⟩ = some _ := cell_of_heap (World.heap_at _ _ _ rfl) rfl; have q41 : (U.alloc (Obj.cells #[.int .i64 ox, .slice oa on oc] 28)).cell? ⟨U.heap.size, 1, none⟩ = some _ := cell_of_heap (World.heap_at _ _ _ rfl) rfl; replace q10 := World.grows.cell_of (World.grows.alloc (World.grows.refl U) (Obj.cells #[.int .i64 ox, .slice oa on oc] 28)) q10; replace q11 := World.grows.cell_of (World.grows.alloc (World.grows.refl U) (Obj.cells #[.int .i64 ox, .slice oa on oc] 28)) q11; replace q20 := World.grows.cell_of (World.grows.alloc (World.grows.refl U) (Obj.cells #[.int .i64 ox, .slice oa on oc] 28)) q20; replace q21 := World.grows.cell_of (World.grows.alloc (World.grows.refl U) (Obj.cells #[.int .i64 ox, .slice oa on oc] 28)) q21; replace HZ := Lib.hid (HZ.out.trans (World.grows.alloc (World.grows.refl U) (Obj.cells #[.int .i64 ox, .slice oa on oc] 28))); obtain ⟨k6, hk5⟩ : ∃ k, U.heap.size = k := ⟨_, rfl⟩; rw [hk5] at q40 q41 ⊢; simp only [List.getElem_toArray, List.getElem_cons_zero, List.getElem_cons_succ] at q40 q41; clear hk5
              generalize World.alloc _ _ = Y2 at q40 q41 q30 q31 q20 q21 q10 q11 HZ HB HO HT ⊢
              go_wp2_with (go_at_call 44; fail)
              refine (h19 _ (HZ.out.trans (by (repeat (first | exact World.grows.refl _ | assumption | refine World.grows.alloc ?_ _ | refine World.grows.plus ?_ _ _ | refine World.grows.drew ?_))))).mono ?_
              rintro e U ⟨rfl, g⟩
              replace q10 := World.grows.cell_of (World.grows.trans (by (repeat (first | exact World.grows.refl _ | assumption | refine World.grows.alloc ?_ _ | refine World.grows.plus ?_ _ _ | refine World.grows.drew ?_))) g) q10; replace q11 := World.grows.cell_of (World.grows.trans (by (repeat (first | exact World.grows.refl _ | assumption | refine World.grows.alloc ?_ _ | refine World.grows.plus ?_ _ _ | refine World.grows.drew ?_))) g) q11; replace HZ := Lib.hid (HZ.out.trans (World.grows.trans (by (repeat (first | exact World.grows.refl _ | assumption | refine World.grows.alloc ?_ _ | refine World.grows.plus ?_ _ _ | refine World.grows.drew ?_))) g))
              replace q30 := World.grows.cell_of (World.grows.trans (by (repeat (first | exact World.grows.refl _ | assumption | refine World.grows.alloc ?_ _ | refine World.grows.plus ?_ _ _ | refine World.grows.drew ?_))) g) q30; replace q31 := World.grows.cell_of (World.grows.trans (by (repeat (first | exact World.grows.refl _ | assumption | refine World.grows.alloc ?_ _ | refine World.grows.plus ?_ _ _ | refine World.grows.drew ?_))) g) q31; replace HB := Lib.hid (TreeAt.mono HB.out (World.grows.trans (by (repeat (first | exact World.grows.refl _ | assumption | refine World.grows.alloc ?_ _ | refine World.grows.plus ?_ _ _ | refine World.grows.drew ?_))) g))
              replace q40 := World.grows.cell_of (World.grows.trans (by (repeat (first | exact World.grows.refl _ | assumption | refine World.grows.alloc ?_ _ | refine World.grows.plus ?_ _ _ | refine World.grows.drew ?_))) g) q40; replace q41 := World.grows.cell_of (World.grows.trans (by (repeat (first | exact World.grows.refl _ | assumption | refine World.grows.alloc ?_ _ | refine World.grows.plus ?_ _ _ | refine World.grows.drew ?_))) g) q41; replace HO := Lib.hid (TreeAt.mono HO.out (World.grows.trans (by (repeat (first | exact World.grows.refl _ | assumption | refine World.grows.alloc ?_ _ | refine World.grows.plus ?_ _ _ | refine World.grows.drew ?_))) g))
              replace HT := Lib.hid (TableAt.mono HT.out (World.grows.trans (by (repeat (first | exact World.grows.refl _ | assumption | refine World.grows.alloc ?_ _ | refine World.grows.plus ?_ _ _ | refine World.grows.drew ?_))) g))
              clear g h19 q20 q21
              go_wp2_with (go_at_call 44; fail)
              refine (ptree_ok (Hr.out.mono (HZ.out.trans (by (repeat (first | exact World.grows.refl _ | assumption | refine World.grows.alloc ?_ _ | refine World.grows.plus ?_ _ _ | refine World.grows.drew ?_))))) (HB.out.mono (by (repeat (first | exact World.grows.refl _ | assumption | refine World.grows.alloc ?_ _ | refine World.grows.plus ?_ _ _ | refine World.grows.drew ?_)))) HB2.out.1 HB2.out.2).mono ?_
              rintro e U ⟨rfl, g⟩
              replace q10 := World.grows.cell_of (World.grows.trans (by (repeat (first | exact World.grows.refl _ | assumption | refine World.grows.alloc ?_ _ | refine World.grows.plus ?_ _ _ | refine World.grows.drew ?_))) g) q10; replace q11 := World.grows.cell_of (World.grows.trans (by (repeat (first | exact World.grows.refl _ | assumption | refine World.grows.alloc ?_ _ | refine World.grows.plus ?_ _ _ | refine World.grows.drew ?_))) g) q11; replace HZ := Lib.hid (HZ.out.trans (World.grows.trans (by (repeat (first | exact World.grows.refl _ | assumption | refine World.grows.alloc ?_ _ | refine World.grows.plus ?_ _ _ | refine World.grows.drew ?_))) g))
              replace q30 := World.grows.cell_of (World.grows.trans (by (repeat (first | exact World.grows.refl _ | assumption | refine World.grows.alloc ?_ _ | refine World.grows.plus ?_ _ _ | refine World.grows.drew ?_))) g) q30; replace q31 := World.grows.cell_of (World.grows.trans (by (repeat (first | exact World.grows.refl _ | assumption | refine World.grows.alloc ?_ _ | refine World.grows.plus ?_ _ _ | refine World.grows.drew ?_))) g) q31; replace HB := Lib.hid (TreeAt.mono HB.out (World.grows.trans (by (repeat (first | exact World.grows.refl _ | assumption | refine World.grows.alloc ?_ _ | refine World.grows.plus ?_ _ _ | refine World.grows.drew ?_))) g))
              replace q40 := World.grows.cell_of (World.grows.trans (by (repeat (first | exact World.grows.refl _ | assumption | refine World.grows.alloc ?_ _ | refine World.grows.plus ?_ _ _ | refine World.grows.drew ?_))) g) q40; replace q41 := World.grows.cell_of (World.grows.trans (by (repeat (first | exact World.grows.refl _ | assumption | refine World.grows.alloc ?_ _ | refine World.grows.plus ?_ _ _ | refine World.grows.drew ?_))) g) q41; replace HO := Lib.hid (TreeAt.mono HO.out (World.grows.trans (by (repeat (first | exact World.grows.refl _ | assumption | refine World.grows.alloc ?_ _ | refine World.grows.plus ?_ _ _ | refine World.grows.drew ?_))) g))
              replace HT := Lib.hid (TableAt.mono HT.out (World.grows.trans (by (repeat (first | exact World.grows.refl _ | assumption | refine World.grows.alloc ?_ _ | refine World.grows.plus ?_ _ _ | refine World.grows.drew ?_))) g))
              clear g
              go_wp2_with (go_at_call 44; fail)
              refine (rtree_ok (Hr.out.mono (HZ.out.trans (by (repeat (first | exact World.grows.refl _ | assumption | refine World.grows.alloc ?_ _ | refine World.grows.plus ?_ _ _ | refine World.grows.drew ?_))))) (HB.out.mono (by (repeat (first | exact World.grows.refl _ | assumption | refine World.grows.alloc ?_ _ | refine World.grows.plus ?_ _ _ | refine World.grows.drew ?_)))) HB2.out.1 HB2.out.2).mono ?_
              rintro e U ⟨rfl, g⟩
              replace q10 := World.grows.cell_of (World.grows.trans (by (repeat (first | exact World.grows.refl _ | assumption | refine World.grows.alloc ?_ _ | refine World.grows.plus ?_ _ _ | refine World.grows.drew ?_))) g) q10; replace q11 := World.grows.cell_of (World.grows.trans (by (repeat (first | exact World.grows.refl _ | assumption | refine World.grows.alloc ?_ _ | refine World.grows.plus ?_ _ _ | refine World.grows.drew ?_))) g) q11; replace HZ := Lib.hid (HZ.out.trans (World.grows.trans (by (repeat (first | exact World.grows.refl _ | assumption | refine World.grows.alloc ?_ _ | refine World.grows.plus ?_ _ _ | refine World.grows.drew ?_))) g))
              replace q40 := World.grows.cell_of (World.grows.trans (by (repeat (first | exact World.grows.refl _ | assumption | refine World.grows.alloc ?_ _ | refine World.grows.plus ?_ _ _ | refine World.grows.drew ?_))) g) q40; replace q41 := World.grows.cell_of (World.grows.trans (by (repeat (first | exact World.grows.refl _ | assumption | refine World.grows.alloc ?_ _ | refine World.grows.plus ?_ _ _ | refine World.grows.drew ?_))) g) q41; replace HO := Lib.hid (TreeAt.mono HO.out (World.grows.trans (by (repeat (first | exact World.grows.refl _ | assumption | refine World.grows.alloc ?_ _ | refine World.grows.plus ?_ _ _ | refine World.grows.drew ?_))) g))
              replace HT := Lib.hid (TableAt.mono HT.out (World.grows.trans (by (repeat (first | exact World.grows.refl _ | assumption | refine World.grows.alloc ?_ _ | refine World.grows.plus ?_ _ _ | refine World.grows.drew ?_))) g))
              clear g q30 q31 HB HB2
              go_wp2_with (go_at_call 44; fail)
              refine (h27b _ (HZ.out.trans (by (repeat (first | exact World.grows.refl _ | assumption | refine World.grows.alloc ?_ _ | refine World.grows.plus ?_ _ _ | refine World.grows.drew ?_)))) _ (HT.out.mono (by (repeat (first | exact World.grows.refl _ | assumption | refine World.grows.alloc ?_ _ | refine World.grows.plus ?_ _ _ | refine World.grows.drew ?_))))).mono ?_
              rintro e U ⟨rfl, g⟩
              replace q10 := World.grows.cell_of (World.grows.trans (by (repeat (first | exact World.grows.refl _ | assumption | refine World.grows.alloc ?_ _ | refine World.grows.plus ?_ _ _ | refine World.grows.drew ?_))) g) q10; replace q11 := World.grows.cell_of (World.grows.trans (by (repeat (first | exact World.grows.refl _ | assumption | refine World.grows.alloc ?_ _ | refine World.grows.plus ?_ _ _ | refine World.grows.drew ?_))) g) q11; replace HZ := Lib.hid (HZ.out.trans (World.grows.trans (by (repeat (first | exact World.grows.refl _ | assumption | refine World.grows.alloc ?_ _ | refine World.grows.plus ?_ _ _ | refine World.grows.drew ?_))) g))
              replace q40 := World.grows.cell_of (World.grows.trans (by (repeat (first | exact World.grows.refl _ | assumption | refine World.grows.alloc ?_ _ | refine World.grows.plus ?_ _ _ | refine World.grows.drew ?_))) g) q40; replace q41 := World.grows.cell_of (World.grows.trans (by (repeat (first | exact World.grows.refl _ | assumption | refine World.grows.alloc ?_ _ | refine World.grows.plus ?_ _ _ | refine World.grows.drew ?_))) g) q41; replace HO := Lib.hid (TreeAt.mono HO.out (World.grows.trans (by (repeat (first | exact World.grows.refl _ | assumption | refine World.grows.alloc ?_ _ | refine World.grows.plus ?_ _ _ | refine World.grows.drew ?_))) g))
              replace HT := Lib.hid (TableAt.mono HT.out (World.grows.trans (by (repeat (first | exact World.grows.refl _ | assumption | refine World.grows.alloc ?_ _ | refine World.grows.plus ?_ _ _ | refine World.grows.drew ?_))) g))
              clear g
              go_wp2_with (go_at_call 44; fail)
              refine (h28 _ (HZ.out.trans (by (repeat (first | exact World.grows.refl _ | assumption | refine World.grows.alloc ?_ _ | refine World.grows.plus ?_ _ _ | refine World.grows.drew ?_)))) _ (HT.out.mono (by (repeat (first | exact World.grows.refl _ | assumption | refine World.grows.alloc ?_ _ | refine World.grows.plus ?_ _ _ | refine World.grows.drew ?_))))).mono ?_
              rintro e U ⟨rfl, g⟩
              replace q10 := World.grows.cell_of (World.grows.trans (by (repeat (first | exact World.grows.refl _ | assumption | refine World.grows.alloc ?_ _ | refine World.grows.plus ?_ _ _ | refine World.grows.drew ?_))) g) q10; replace q11 := World.grows.cell_of (World.grows.trans (by (repeat (first | exact World.grows.refl _ | assumption | refine World.grows.alloc ?_ _ | refine World.grows.plus ?_ _ _ | refine World.grows.drew ?_))) g) q11; replace HZ := Lib.hid (HZ.out.trans (World.grows.trans (by (repeat (first | exact World.grows.refl _ | assumption | refine World.grows.alloc ?_ _ | refine World.grows.plus ?_ _ _ | refine World.grows.drew ?_))) g))
              replace q40 := World.grows.cell_of (World.grows.trans (by (repeat (first | exact World.grows.refl _ | assumption | refine World.grows.alloc ?_ _ | refine World.grows.plus ?_ _ _ | refine World.grows.drew ?_))) g) q40; replace q41 := World.grows.cell_of (World.grows.trans (by (repeat (first | exact World.grows.refl _ | assumption | refine World.grows.alloc ?_ _ | refine World.grows.plus ?_ _ _ | refine World.grows.drew ?_))) g) q41; replace HO := Lib.hid (TreeAt.mono HO.out (World.grows.trans (by (repeat (first | exact World.grows.refl _ | assumption | refine World.grows.alloc ?_ _ | refine World.grows.plus ?_ _ _ | refine World.grows.drew ?_))) g))
              clear g HT h27b h28
              go_wp2_with (go_at_call 44; fail)
              refine (h19o _ (Hr.out.mono (HZ.out.trans (by (repeat (first | exact World.grows.refl _ | assumption | refine World.grows.alloc ?_ _ | refine World.grows.plus ?_ _ _ | refine World.grows.drew ?_))))) _ (HO.out.mono (by (repeat (first | exact World.grows.refl _ | assumption | refine World.grows.alloc ?_ _ | refine World.grows.plus ?_ _ _ | refine World.grows.drew ?_))))).mono ?_
              rintro e U ⟨rfl, g⟩
              replace q10 := World.grows.cell_of (World.grows.trans (by (repeat (first | exact World.grows.refl _ | assumption | refine World.grows.alloc ?_ _ | refine World.grows.plus ?_ _ _ | refine World.grows.drew ?_))) g) q10; replace q11 := World.grows.cell_of (World.grows.trans (by (repeat (first | exact World.grows.refl _ | assumption | refine World.grows.alloc ?_ _ | refine World.grows.plus ?_ _ _ | refine World.grows.drew ?_))) g) q11; replace HZ := Lib.hid (HZ.out.trans (World.grows.trans (by (repeat (first | exact World.grows.refl _ | assumption | refine World.grows.alloc ?_ _ | refine World.grows.plus ?_ _ _ | refine World.grows.drew ?_))) g))
              clear g q40 q41 HO h19o
              go_wp2_with (go_at_call 44; fail)
              refine (h27 _ (HZ.out.trans (by (repeat (first | exact World.grows.refl _ | assumption | refine World.grows.alloc ?_ _ | refine World.grows.plus ?_ _ _ | refine World.grows.drew ?_))))).mono ?_
              rintro e U ⟨rfl, g⟩
              replace q10 := World.grows.cell_of (World.grows.trans (by (repeat (first | exact World.grows.refl _ | assumption | refine World.grows.alloc ?_ _ | refine World.grows.plus ?_ _ _ | refine World.grows.drew ?_))) g) q10; replace q11 := World.grows.cell_of (World.grows.trans (by (repeat (first | exact World.grows.refl _ | assumption | refine World.grows.alloc ?_ _ | refine World.grows.plus ?_ _ _ | refine World.grows.drew ?_))) g) q11; replace HZ := Lib.hid (HZ.out.trans (World.grows.trans (by (repeat (first | exact World.grows.refl _ | assumption | refine World.grows.alloc ?_ _ | refine World.grows.plus ?_ _ _ | refine World.grows.drew ?_))) g))
              clear g h27
              have hA2' : ¬ A2 < C := by omega
              have hA2d : decide (C ≤ A2) = true := decide_eq_true HA2
              by_cases hE0 : E = 0
              · have hCA := HE hE0
                have hCAd : decide (C ≤ A) = true := decide_eq_true hCA
                subst hE0
                by_cases hF0 : F = 0
                · have hXC := HF hF0
                  have hXCd : decide (X ≤ C) = true := decide_eq_true hXC
                  subst hF0
                  clear HE HF
                  go_wp2_with (go_at_call 44; fail); refine (works_c _).mono ?_; rintro e U ⟨rfl, g⟩; replace HZ := Lib.hid (HZ.out.trans (World.grows.trans (by (repeat (first | exact World.grows.refl _ | assumption | refine World.grows.alloc ?_ _ | refine World.grows.plus ?_ _ _ | refine World.grows.drew ?_))) g)); clear g; go_wp2; (refine bodyPost_ret (v := .bool true) (by simp [results, Try.results6, go_sem]) rfl ?_); exact ⟨rfl, HZ.out.trans (by (repeat (first | exact World.grows.refl _ | assumption | refine World.grows.alloc ?_ _ | refine World.grows.plus ?_ _ _ | refine World.grows.drew ?_)))⟩
                · have hFb : (F == 0) = false := by simpa using hF0
                  have hFb' : (F != 0) = true := by simpa using hF0
                  clear HE HF
                  go_wp2_with (go_at_call 44; fail); refine (works_c _).mono ?_; rintro e U ⟨rfl, g⟩; replace HZ := Lib.hid (HZ.out.trans (World.grows.trans (by (repeat (first | exact World.grows.refl _ | assumption | refine World.grows.alloc ?_ _ | refine World.grows.plus ?_ _ _ | refine World.grows.drew ?_))) g)); clear g; go_wp2; (refine bodyPost_ret (v := .bool true) (by simp [results, Try.results6, go_sem]) rfl ?_); exact ⟨rfl, HZ.out.trans (by (repeat (first | exact World.grows.refl _ | assumption | refine World.grows.alloc ?_ _ | refine World.grows.plus ?_ _ _ | refine World.grows.drew ?_)))⟩
              · have hEb : (E == 0) = false := by simpa using hE0
                have hEb' : (E != 0) = true := by simpa using hE0
                by_cases hF0 : F = 0
                · have hXC := HF hF0
                  have hXCd : decide (X ≤ C) = true := decide_eq_true hXC
                  subst hF0
                  clear HE HF
                  go_wp2_with (go_at_call 44; fail); refine (works_c _).mono ?_; rintro e U ⟨rfl, g⟩; replace HZ := Lib.hid (HZ.out.trans (World.grows.trans (by (repeat (first | exact World.grows.refl _ | assumption | refine World.grows.alloc ?_ _ | refine World.grows.plus ?_ _ _ | refine World.grows.drew ?_))) g)); clear g; go_wp2; (refine bodyPost_ret (v := .bool true) (by simp [results, Try.results6, go_sem]) rfl ?_); exact ⟨rfl, HZ.out.trans (by (repeat (first | exact World.grows.refl _ | assumption | refine World.grows.alloc ?_ _ | refine World.grows.plus ?_ _ _ | refine World.grows.drew ?_)))⟩
                · have hFb : (F == 0) = false := by simpa using hF0
                  have hFb' : (F != 0) = true := by simpa using hF0
                  clear HE HF
                  go_wp2_with (go_at_call 44; fail); refine (works_c _).mono ?_; rintro e U ⟨rfl, g⟩; replace HZ := Lib.hid (HZ.out.trans (World.grows.trans (by (repeat (first | exact World.grows.refl _ | assumption | refine World.grows.alloc ?_ _ | refine World.grows.plus ?_ _ _ | refine World.grows.drew ?_))) g)); clear g; go_wp2; (refine bodyPost_ret (v := .bool true) (by simp [results, Try.results6, go_sem]) rfl ?_); exact ⟨rfl, HZ.out.trans (by (repeat (first | exact World.grows.refl _ | assumption | refine World.grows.alloc ?_ _ | refine World.grows.plus ?_ _ _ | refine World.grows.drew ?_)))⟩
            · have hs24 := Reg.solvE_tw hc hnt
              have hs : r.solvE ≠ 0 := by rw [hs24]; decide
              have h15 := fun W (g : w.grows W) => ptwins_some (Hr.out.mono g) hc hnt
              have h25 := fun W (g : w.grows W) => best_bad W _ r (Hr.out.mono g) hs
              have h26 := fun W (g : w.grows W) => ptab_bad W _ r (Hr.out.mono g) hs
              have h38 := fun W (g : w.grows W) => ltree_tw W _ r (Hr.out.mono g) hok hnt _ nb b (Hb.out.mono g) Hbb.out Hhn.out
              have h19 := fun W (g : w.grows W) => ptree_c W _ r (Hr.out.mono g) _ t (Ht.out.mono g)
              have h39 := Lib.hid fun W (g : w.grows W) => isTwins_c W _ r ((Hr.out.mono g).ok hok)
              have hE0 := Reg.twins_tree hnt t
              obtain ⟨A, hA⟩ : ∃ x, t.treeA r = x := ⟨_, rfl⟩
              obtain ⟨E, hE⟩ : ∃ x, t.treeE r = x := ⟨_, rfl⟩
              rw [hs24] at h25 h26
              rw [hA, hE] at h19
              rw [hE] at hE0
              have hEb : (E == 0) = false := by simpa using hE0
              have hEb' : (E != 0) = true := by simpa using hE0
              clear hs hnt hc hok hA hE hs24
              go_wp2_with (go_at_call 44; fail)
              refine (h15 _ (HZ.out.trans (by (repeat (first | exact World.grows.refl _ | assumption | refine World.grows.alloc ?_ _ | refine World.grows.plus ?_ _ _ | refine World.grows.drew ?_))))).mono ?_
              rintro e U ⟨i, k, rfl, hF, g⟩
              replace q10 := World.grows.cell_of (World.grows.trans (by (repeat (first | exact World.grows.refl _ | assumption | refine World.grows.alloc ?_ _ | refine World.grows.plus ?_ _ _ | refine World.grows.drew ?_))) g) q10; replace q11 := World.grows.cell_of (World.grows.trans (by (repeat (first | exact World.grows.refl _ | assumption | refine World.grows.alloc ?_ _ | refine World.grows.plus ?_ _ _ | refine World.grows.drew ?_))) g) q11; replace HZ := Lib.hid (HZ.out.trans (World.grows.trans (by (repeat (first | exact World.grows.refl _ | assumption | refine World.grows.alloc ?_ _ | refine World.grows.plus ?_ _ _ | refine World.grows.drew ?_))) g))
              replace q20 := World.grows.cell_of (World.grows.trans (by (repeat (first | exact World.grows.refl _ | assumption | refine World.grows.alloc ?_ _ | refine World.grows.plus ?_ _ _ | refine World.grows.drew ?_))) g) q20; replace q21 := World.grows.cell_of (World.grows.trans (by (repeat (first | exact World.grows.refl _ | assumption | refine World.grows.alloc ?_ _ | refine World.grows.plus ?_ _ _ | refine World.grows.drew ?_))) g) q21
              have h39' := Lib.hid fun W (g : w.grows W) => h39.out W g i k (Nat.lt_trans hF.lt hF.nm) hF.nm
              have hik : (i : Int) < k := by have := hF.lt; omega
              have hik' : i < k := hF.lt
              have hkn : (k : Int) < r.nm := by have := hF.nm; omega
              have hkn' : k < r.nm := hF.nm
              rw [hF.is] at h39'
              clear g h15 hF h39
              go_wp2_with (go_at_call 44; fail)
              refine (h25 _ (HZ.out.trans (by (repeat (first | exact World.grows.refl _ | assumption | refine World.grows.alloc ?_ _ | refine World.grows.plus ?_ _ _ | refine World.grows.drew ?_))))).mono ?_
              rintro e U ⟨rfl, g⟩
              replace q10 := World.grows.cell_of (World.grows.trans (by (repeat (first | exact World.grows.refl _ | assumption | refine World.grows.alloc ?_ _ | refine World.grows.plus ?_ _ _ | refine World.grows.drew ?_))) g) q10; replace q11 := World.grows.cell_of (World.grows.trans (by (repeat (first | exact World.grows.refl _ | assumption | refine World.grows.alloc ?_ _ | refine World.grows.plus ?_ _ _ | refine World.grows.drew ?_))) g) q11; replace HZ := Lib.hid (HZ.out.trans (World.grows.trans (by (repeat (first | exact World.grows.refl _ | assumption | refine World.grows.alloc ?_ _ | refine World.grows.plus ?_ _ _ | refine World.grows.drew ?_))) g))
              replace q20 := World.grows.cell_of (World.grows.trans (by (repeat (first | exact World.grows.refl _ | assumption | refine World.grows.alloc ?_ _ | refine World.grows.plus ?_ _ _ | refine World.grows.drew ?_))) g) q20; replace q21 := World.grows.cell_of (World.grows.trans (by (repeat (first | exact World.grows.refl _ | assumption | refine World.grows.alloc ?_ _ | refine World.grows.plus ?_ _ _ | refine World.grows.drew ?_))) g) q21
              clear g h25
              go_upto_region 5 with fail
              have q30 : (U.alloc (Obj.cells #[.int .i64 0, .slice none 0 0] 28)).cell? ⟨U.heap.size, 0, none⟩ = some _ := cell_of_heap (World.heap_at _ _ _ rfl) rfl; have q31 : (U.alloc (Obj.cells #[.int .i64 0, .slice none 0 0] 28)).cell? ⟨U.heap.size, 1, none⟩ = some _ := cell_of_heap (World.heap_at _ _ _ rfl) rfl; replace q10 := World.grows.cell_of (World.grows.alloc (World.grows.refl U) (Obj.cells #[.int .i64 0, .slice none 0 0] 28)) q10; replace q11 := World.grows.cell_of (World.grows.alloc (World.grows.refl U) (Obj.cells #[.int .i64 0, .slice none 0 0] 28)) q11; replace q20 := World.grows.cell_of (World.grows.alloc (World.grows.refl U) (Obj.cells #[.int .i64 0, .slice none 0 0] 28)) q20; replace q21 := World.grows.cell_of (World.grows.alloc (World.grows.refl U) (Obj.cells #[.int .i64 0, .slice none 0 0] 28)) q21; replace HZ := Lib.hid (HZ.out.trans (World.grows.alloc (World.grows.refl U) (Obj.cells #[.int .i64 0, .slice none 0 0] 28))); obtain ⟨k5, hk5⟩ : ∃ k, U.heap.size = k := ⟨_, rfl⟩; rw [hk5] at q30 q31 ⊢; simp only [List.getElem_toArray, List.getElem_cons_zero, List.getElem_cons_succ] at q30 q31; clear hk5
              clear q30 q31
              generalize World.alloc _ _ = Y at q20 q21 q10 q11 HZ ⊢
              go_wp2_with (go_at_call 44; fail)
              refine (h26 _ (HZ.out.trans (by (repeat (first | exact World.grows.refl _ | assumption | refine World.grows.alloc ?_ _ | refine World.grows.plus ?_ _ _ | refine World.grows.drew ?_))))).mono ?_
              rintro e U ⟨rfl, g⟩
              replace q10 := World.grows.cell_of (World.grows.trans (by (repeat (first | exact World.grows.refl _ | assumption | refine World.grows.alloc ?_ _ | refine World.grows.plus ?_ _ _ | refine World.grows.drew ?_))) g) q10; replace q11 := World.grows.cell_of (World.grows.trans (by (repeat (first | exact World.grows.refl _ | assumption | refine World.grows.alloc ?_ _ | refine World.grows.plus ?_ _ _ | refine World.grows.drew ?_))) g) q11; replace HZ := Lib.hid (HZ.out.trans (World.grows.trans (by (repeat (first | exact World.grows.refl _ | assumption | refine World.grows.alloc ?_ _ | refine World.grows.plus ?_ _ _ | refine World.grows.drew ?_))) g))
              replace q20 := World.grows.cell_of (World.grows.trans (by (repeat (first | exact World.grows.refl _ | assumption | refine World.grows.alloc ?_ _ | refine World.grows.plus ?_ _ _ | refine World.grows.drew ?_))) g) q20; replace q21 := World.grows.cell_of (World.grows.trans (by (repeat (first | exact World.grows.refl _ | assumption | refine World.grows.alloc ?_ _ | refine World.grows.plus ?_ _ _ | refine World.grows.drew ?_))) g) q21
              clear g h26
              go_wp2_with (go_at_call 44; fail)
              refine (h38 _ (HZ.out.trans (by (repeat (first | exact World.grows.refl _ | assumption | refine World.grows.alloc ?_ _ | refine World.grows.plus ?_ _ _ | refine World.grows.drew ?_))))).mono ?_
              rintro e U ⟨ox, oa, on, oc, ot, rfl, -, g⟩
              replace q10 := World.grows.cell_of (World.grows.trans (by (repeat (first | exact World.grows.refl _ | assumption | refine World.grows.alloc ?_ _ | refine World.grows.plus ?_ _ _ | refine World.grows.drew ?_))) g) q10; replace q11 := World.grows.cell_of (World.grows.trans (by (repeat (first | exact World.grows.refl _ | assumption | refine World.grows.alloc ?_ _ | refine World.grows.plus ?_ _ _ | refine World.grows.drew ?_))) g) q11; replace HZ := Lib.hid (HZ.out.trans (World.grows.trans (by (repeat (first | exact World.grows.refl _ | assumption | refine World.grows.alloc ?_ _ | refine World.grows.plus ?_ _ _ | refine World.grows.drew ?_))) g))
              replace q20 := World.grows.cell_of (World.grows.trans (by (repeat (first | exact World.grows.refl _ | assumption | refine World.grows.alloc ?_ _ | refine World.grows.plus ?_ _ _ | refine World.grows.drew ?_))) g) q20; replace q21 := World.grows.cell_of (World.grows.trans (by (repeat (first | exact World.grows.refl _ | assumption | refine World.grows.alloc ?_ _ | refine World.grows.plus ?_ _ _ | refine World.grows.drew ?_))) g) q21
              clear g h38
              go_upto_region 7 with fail
              have q40 : (U.alloc (Obj.cells #[.int .i64 ox, .slice oa on oc] 28)).cell? ⟨U.heap.size, 0, none⟩ = some _ := cell_of_heap (World.heap_at _ _ _ rfl) rfl; have q41 : (U.alloc (Obj.cells #[.int .i64 ox, .slice oa on oc] 28)).cell? ⟨U.heap.size, 1, none⟩ = some _ := cell_of_heap (World.heap_at _ _ _ rfl) rfl; replace q10 := World.grows.cell_of (World.grows.alloc (World.grows.refl U) (Obj.cells #[.int .i64 ox, .slice oa on oc] 28)) q10; replace q11 := World.grows.cell_of (World.grows.alloc (World.grows.refl U) (Obj.cells #[.int .i64 ox, .slice oa on oc] 28)) q11; replace q20 := World.grows.cell_of (World.grows.alloc (World.grows.refl U) (Obj.cells #[.int .i64 ox, .slice oa on oc] 28)) q20; replace q21 := World.grows.cell_of (World.grows.alloc (World.grows.refl U) (Obj.cells #[.int .i64 ox, .slice oa on oc] 28)) q21; replace HZ := Lib.hid (HZ.out.trans (World.grows.alloc (World.grows.refl U) (Obj.cells #[.int .i64 ox, .slice oa on oc] 28))); obtain ⟨k6, hk5⟩ : ∃ k, U.heap.size = k := ⟨_, rfl⟩; rw [hk5] at q40 q41 ⊢; simp only [List.getElem_toArray, List.getElem_cons_zero, List.getElem_cons_succ] at q40 q41; clear hk5
              clear q40 q41
              generalize World.alloc _ _ = Y2 at q20 q21 q10 q11 HZ ⊢
              go_wp2_with (go_at_call 44; fail)
              refine (h19 _ (HZ.out.trans (by (repeat (first | exact World.grows.refl _ | assumption | refine World.grows.alloc ?_ _ | refine World.grows.plus ?_ _ _ | refine World.grows.drew ?_))))).mono ?_
              rintro e U ⟨rfl, g⟩
              replace q10 := World.grows.cell_of (World.grows.trans (by (repeat (first | exact World.grows.refl _ | assumption | refine World.grows.alloc ?_ _ | refine World.grows.plus ?_ _ _ | refine World.grows.drew ?_))) g) q10; replace q11 := World.grows.cell_of (World.grows.trans (by (repeat (first | exact World.grows.refl _ | assumption | refine World.grows.alloc ?_ _ | refine World.grows.plus ?_ _ _ | refine World.grows.drew ?_))) g) q11; replace HZ := Lib.hid (HZ.out.trans (World.grows.trans (by (repeat (first | exact World.grows.refl _ | assumption | refine World.grows.alloc ?_ _ | refine World.grows.plus ?_ _ _ | refine World.grows.drew ?_))) g))
              clear g h19 q20 q21
              go_wp2_with (go_at_call 44; fail)
              refine (h39'.out _ (HZ.out.trans (by (repeat (first | exact World.grows.refl _ | assumption | refine World.grows.alloc ?_ _ | refine World.grows.plus ?_ _ _ | refine World.grows.drew ?_))))).mono ?_
              rintro e U ⟨rfl, g⟩
              replace q10 := World.grows.cell_of (World.grows.trans (by (repeat (first | exact World.grows.refl _ | assumption | refine World.grows.alloc ?_ _ | refine World.grows.plus ?_ _ _ | refine World.grows.drew ?_))) g) q10; replace q11 := World.grows.cell_of (World.grows.trans (by (repeat (first | exact World.grows.refl _ | assumption | refine World.grows.alloc ?_ _ | refine World.grows.plus ?_ _ _ | refine World.grows.drew ?_))) g) q11; replace HZ := Lib.hid (HZ.out.trans (World.grows.trans (by (repeat (first | exact World.grows.refl _ | assumption | refine World.grows.alloc ?_ _ | refine World.grows.plus ?_ _ _ | refine World.grows.drew ?_))) g))
              clear g
              go_wp2_with (go_at_call 44; fail); refine (works_c _).mono ?_; rintro e U ⟨rfl, g⟩; replace HZ := Lib.hid (HZ.out.trans (World.grows.trans (by (repeat (first | exact World.grows.refl _ | assumption | refine World.grows.alloc ?_ _ | refine World.grows.plus ?_ _ _ | refine World.grows.drew ?_))) g)); clear g; go_wp2; (refine bodyPost_ret (v := .bool true) (by simp [results, Try.results6, go_sem]) rfl ?_); exact ⟨rfl, HZ.out.trans (by (repeat (first | exact World.grows.refl _ | assumption | refine World.grows.alloc ?_ _ | refine World.grows.plus ?_ _ _ | refine World.grows.drew ?_)))⟩
        · have hlI : decide ((250 : Int) < (l.n : Nat)) = true := by simp; omega
          have hlI' : (250 : Int) < (l.n : Nat) := by omega
          go_wp2_with (first | (go_at_call 37; refine (h37 _ (by (repeat (first | exact World.grows.refl _ | assumption | refine World.grows.alloc ?_ _ | refine World.grows.plus ?_ _ _ | refine World.grows.drew ?_)))).mono ?_; rintro e w' ⟨rfl, hg⟩; obtain ⟨n2, x2, rfl⟩ := World.plus_of hg) | (go_at_call 13; refine (h13 _ (by (repeat (first | exact World.grows.refl _ | assumption | refine World.grows.alloc ?_ _ | refine World.grows.plus ?_ _ _ | refine World.grows.drew ?_)))).mono ?_; rintro e w' ⟨rfl, hg⟩; obtain ⟨n2, x2, rfl⟩ := World.plus_of hg) | (go_at_call 24; refine (h24 _ (by (repeat (first | exact World.grows.refl _ | assumption | refine World.grows.alloc ?_ _ | refine World.grows.plus ?_ _ _ | refine World.grows.drew ?_)))).mono ?_; rintro e w' ⟨rfl, hg⟩; obtain ⟨n2, x2, rfl⟩ := World.plus_of hg) | (go_at_call 14; refine (works_c _).mono ?_; rintro e w' ⟨rfl, hg⟩; obtain ⟨n2, x2, rfl⟩ := World.plus_of hg)); (refine bodyPost_ret (v := .bool true) (by simp [results, Try.results6, go_sem]) rfl ?_); exact ⟨rfl, by (repeat (first | exact World.grows.refl _ | assumption | refine World.grows.alloc ?_ _ | refine World.grows.plus ?_ _ _ | refine World.grows.drew ?_))⟩
    · have hnI : decide ((40 : Int) < (nb : Nat)) = true := by simp; omega
      have hnI' : (40 : Int) < (nb : Nat) := by omega
      go_wp2_with (first | (go_at_call 37; refine (h37 _ (by (repeat (first | exact World.grows.refl _ | assumption | refine World.grows.alloc ?_ _ | refine World.grows.plus ?_ _ _ | refine World.grows.drew ?_)))).mono ?_; rintro e w' ⟨rfl, hg⟩; obtain ⟨n2, x2, rfl⟩ := World.plus_of hg) | (go_at_call 13; refine (h13 _ (by (repeat (first | exact World.grows.refl _ | assumption | refine World.grows.alloc ?_ _ | refine World.grows.plus ?_ _ _ | refine World.grows.drew ?_)))).mono ?_; rintro e w' ⟨rfl, hg⟩; obtain ⟨n2, x2, rfl⟩ := World.plus_of hg) | (go_at_call 24; refine (h24 _ (by (repeat (first | exact World.grows.refl _ | assumption | refine World.grows.alloc ?_ _ | refine World.grows.plus ?_ _ _ | refine World.grows.drew ?_)))).mono ?_; rintro e w' ⟨rfl, hg⟩; obtain ⟨n2, x2, rfl⟩ := World.plus_of hg) | (go_at_call 14; refine (works_c _).mono ?_; rintro e w' ⟨rfl, hg⟩; obtain ⟨n2, x2, rfl⟩ := World.plus_of hg)); (refine bodyPost_ret (v := .bool true) (by simp [results, Try.results6, go_sem]) rfl ?_); exact ⟨rfl, by (repeat (first | exact World.grows.refl _ | assumption | refine World.grows.alloc ?_ _ | refine World.grows.plus ?_ _ _ | refine World.grows.drew ?_))⟩
  · rw [decide_eq_false hc] at h37
    go_wp2_with (first | (go_at_call 37; refine (h37 _ (by (repeat (first | exact World.grows.refl _ | assumption | refine World.grows.alloc ?_ _ | refine World.grows.plus ?_ _ _ | refine World.grows.drew ?_)))).mono ?_; rintro e w' ⟨rfl, hg⟩; obtain ⟨n2, x2, rfl⟩ := World.plus_of hg) | (go_at_call 13; refine (h13 _ (by (repeat (first | exact World.grows.refl _ | assumption | refine World.grows.alloc ?_ _ | refine World.grows.plus ?_ _ _ | refine World.grows.drew ?_)))).mono ?_; rintro e w' ⟨rfl, hg⟩; obtain ⟨n2, x2, rfl⟩ := World.plus_of hg) | (go_at_call 24; refine (h24 _ (by (repeat (first | exact World.grows.refl _ | assumption | refine World.grows.alloc ?_ _ | refine World.grows.plus ?_ _ _ | refine World.grows.drew ?_)))).mono ?_; rintro e w' ⟨rfl, hg⟩; obtain ⟨n2, x2, rfl⟩ := World.plus_of hg) | (go_at_call 14; refine (works_c _).mono ?_; rintro e w' ⟨rfl, hg⟩; obtain ⟨n2, x2, rfl⟩ := World.plus_of hg)); (refine bodyPost_ret (v := .bool true) (by simp [results, Try.results6, go_sem]) rfl ?_); exact ⟨rfl, by (repeat (first | exact World.grows.refl _ | assumption | refine World.grows.alloc ?_ _ | refine World.grows.plus ?_ _ _ | refine World.grows.drew ?_))⟩
end Go.Proofs.Ytdminglglapnlaa

/-
  What is proved: the statement MarkProved, at every input.
-/
namespace Go.Proofs.Ytdminglglapnlaa
open Go.ChangeShapes Go.WideShapes Go.ChangeAt Go.RowKit

set_option maxRecDepth 100000 in
theorem markProved_lifted (os : Os) (started : os.Started) (H : Type) (enc : TypeId × Value → H) :
    ReturnsInHanded {} Try.checked os 6 .any (Rows.markProvedSpec.pre6 enc Try.prog Try.f6 Rows.markProvedRow.domain false) (Rows.markProvedSpec.post enc Try.prog Try.f6 false true false false) := by
  refine law_lifted (C := Try.checked) (tb := 4) started own_c laid_c (by kernel_rfl) Try.func6 (of_decide_eq_true (by kernel_rfl))
    (ChangeSpec.witness6 (enc := enc) (C := Try.checked) false ⟨#[], #[.agg #[.slice none 0 0, .slice none 0 0], .slice none 0 0, .agg #[.int .i64 0, .slice none 0 0], .slice none 0 0], []⟩ 8 (by kernel_rfl) (by kernel_rfl) (by kernel_rfl) (by kernel_rfl))
    rfl Try.underlying4 rfl (fun ds hl => ?_) (fun W base args ds ps hval hA => ?_)
  · match ds, hl with
    | [d1, d2, d3, d4], _ => exact ⟨rfl, rfl, rfl⟩
  · have hA' : DataW.TrodAll enc Try.prog W 0 (fun _ => true) true Try.f6.params.toList args.toList ds ps := hA
    have hval' : ∀ (j : Nat) t v, Try.f6.params[j]? = some t → args[j]? = some v → Value.okWide Try.prog W .any base t v := hval
    rw [Try.params6] at hA' hval'
    obtain ⟨v1, v2, v3, v4, d1, d2, d3, d4, p1, p2, p3, p4, rfl, rfl, rfl, h1, h2, h3, h4⟩ := trodAll_four hA'
    obtain ⟨r1, hr1⟩ := reg_of (hval' 0 25 v1 rfl rfl) h1
    obtain ⟨m2, f2, hf2, hb2⟩ := bytes_of (hval' 1 58 v2 rfl rfl) h2
    obtain ⟨t3, ht3⟩ := tree_of (hval' 2 28 v3 rfl rfl) h3
    obtain ⟨b4, hb4⟩ := table_of (hval' 3 42 v4 rfl rfl) h4
    exact proved_w W v1 r1 hr1 v2 m2 f2 hf2 hb2 v3 t3 ht3 v4 b4 hb4

theorem markProved_holds : Rows.MarkProvedSaid :=
  OpenClaim.holds_of_wide 6 Try.f6 rfl rfl rfl rfl rfl rfl rfl ⟨rfl, rfl, rfl, rfl, rfl⟩ rfl rfl rfl rfl rfl (by kernel_rfl) Try.func6 (by kernel_rfl)
    (of_decide_eq_true (by kernel_rfl)) (by unfold Func.isWrapper; first | (rw [if_pos (by decide +kernel)]; kernel_rfl) | (rw [if_neg (by decide +kernel)]; exact ⟨rfl, rfl⟩))
    (fun os started H enc _ => markProved_lifted os started H enc)
end Go.Proofs.Ytdminglglapnlaa

