/-
  What is proved: which visits cost a cart, in the program (39).
-/
import Derived.Test.YtaanbdjmibjcbaaM13
import Derived.Test.YtaanbdjmibjcbaaM11
import Derived.Test.YtaanbdjmibjcbaaM12
import Derived.Test.YtaanbdjmibjcbaaM7
import Derived.Test.YtaanbdjmibjcbaaM2
import Derived.Test.YtaanbdjmibjcbaaM6
import Derived.Test.YtaanbdjmibjcbaaM1
import Derived.ProofKit
import Derived.OpenShut
import Derived.SizedLaws
import Derived.Deep.Slices
import Derived.Lib.SmallJoins
set_option linter.all false
namespace Go.Proofs.Ytaanbdjmibjcbaa
open Go.RowKit
attribute [local irreducible] Go.wpCalm rowI
/-- what is left where the column of v is cut in the first j rows -/
def lessJ (A : Nat → Nat → Bool) (v j : Nat) : Nat → Nat → Bool := fun i k => A i k && !(i == v) && !(decide (i < j) && (k == v))
theorem lessJ_part {A : Nat → Nat → Bool} {v j : Nat} (i k : Nat) : partA (lessJ A v j) j v i k = lessJ A v (j + 1) i k := by
  unfold partA lessJ
  by_cases h1 : i = j
  · subst h1
    simp
  · have h2 : (i == j) = false := by simpa using h1
    have h3 : decide (i < j + 1) = decide (i < j) := by
      by_cases h : i < j
      · rw [decide_eq_true h, decide_eq_true (by omega)]
      · rw [decide_eq_false h, decide_eq_false (by omega)]
    rw [h2, h3]; simp
theorem lessJ_row {A : Nat → Nat → Bool} {v : Nat} (i k : Nat) : (if i = v then Nat.testBit 0 k else A i k) = lessJ A v 0 i k := by
  unfold lessJ
  by_cases h : i = v
  · subst h; simp
  · have : (i == v) = false := by simpa using h
    rw [if_neg h, this]; simp
theorem lessJ_end {A : Nat → Nat → Bool} {v : Nat} (i k : Nat) (h : i < 16) : lessJ A v 16 i k = lessA A v i k := by
  unfold lessJ lessA
  rw [decide_eq_true h]; simp
theorem cost_iff {t : Town} (slow : Bool) {v : Nat} (hv : v < t.nv) : costB t slow v = decide (t.nv - mm (lessA (aft t slow) v) t.nv = t.nv - mm (aft t slow) t.nv) := by
  have e1 : few (t.less v) slow = t.nv - 1 - mm (lessA (aft t slow) v) t.nv := by
    unfold few
    rw [show (t.less v).nv = t.nv - 1 from rfl, ← mm_cut hv, mm_congr fun i k _ _ => aft_less t slow v i k]
  have e2 := mm_less_le (A := aft t slow) (n := t.nv) v
  have e3 := mm_le (aft t slow) t.nv
  have e4 := mm_le (cutA (aft t slow) v) (t.nv - 1)
  rw [mm_cut hv] at e4
  unfold costB
  rw [e1]
  unfold few
  by_cases h1 : t.nv - mm (lessA (aft t slow) v) t.nv = t.nv - mm (aft t slow) t.nv
  · rw [decide_eq_true h1, decide_eq_true (by omega)]
  · rw [decide_eq_false h1, decide_eq_false (by omega)]
set_option maxRecDepth 100000 in
set_option maxHeartbeats 8000000 in
theorem costs_c (w : World) (tv : Value) (t : Town) (slow : Bool) (ht : TownAt w tv t) : Calls Try.prog 39 #[tv, .bool slow] w fun e w' => ∃ v, e = .returned (.tuple #[v, .int .i64 (needE t slow : Nat)]) ∧ w.grows w' ∧ if needE t slow = 0 then ListAt w' v (filtL (costB t slow) t.nv) else v = .slice none 0 0 := by
  have Ht := Lib.hid ht
  have h71 := fun W (g : w.grows W) => ready0_c W _ t slow (Ht.out.mono g)
  have hok : needE t slow = 0 → t.Ok := fun h => by
    by_cases hc : t.check = 0
    · exact t.ok_iff.1 hc
    · unfold needE at h; rw [if_pos hc] at h; exact absurd h hc
  obtain ⟨sv, vv, rfl, ⟨sa, sc, rfl, -⟩, ⟨va, vc, rfl, -⟩⟩ := ht
  obtain ⟨C, hC⟩ : ∃ C : Nat, needE t slow = C := ⟨_, rfl⟩
  rw [hC] at hok ⊢
  simp only [hC] at h71
  clear hC
  go_enter Try.func39, Try.ntmps39
  go_wp2_with (go_at_call 99; fail)
  have h := h71 (w.alloc (.cells #[.int .i64 t.pl, .slice sa t.ns sc, .slice va t.nv vc] 25)) (by (repeat (first | exact World.grows.refl _ | assumption | refine World.grows.alloc ?_ _ | refine World.grows.plus ?_ _ _ | refine World.grows.drew ?_)))
  refine h.mono ?_
  intro e W hR
  have hR' : RdyIs _ t slow C e W := hR
  clear hR h71
  unfold RdyIs at hR'
  by_cases hc0 : C = 0
  case neg =>
    rw [if_neg hc0] at hR'
    obtain ⟨rfl, g⟩ := hR'
    have gW : w.grows W := World.grows.trans (by (repeat (first | exact World.grows.refl _ | assumption | refine World.grows.alloc ?_ _ | refine World.grows.plus ?_ _ _ | refine World.grows.drew ?_))) g
    have hcI : ¬ (C : Int) = 0 := by omega
    clear g hok
    go_wp2
    (refine bodyPost_ret (v := .tuple #[.slice none 0 0, .int .i64 (C : Int)]) (by simp [results, Try.results39, go_sem]) rfl ?_)
    first | exact ⟨rfl, gW.trans (by (repeat (first | exact World.grows.refl _ | assumption | refine World.grows.alloc ?_ _ | refine World.grows.plus ?_ _ _ | refine World.grows.drew ?_)))⟩ | exact gW.trans (by (repeat (first | exact World.grows.refl _ | assumption | refine World.grows.alloc ?_ _ | refine World.grows.plus ?_ _ _ | refine World.grows.drew ?_)))
  rw [if_pos hc0] at hR'
  subst hc0
  obtain ⟨y, rfl, g, hlt, hY⟩ := hR'
  have Hok := Lib.hid (hok rfl)
  have h16 := Hok.out.v16
  have HGW : Hid (w.grows W) := Lib.hid (World.grows.trans (by (repeat (first | exact World.grows.refl _ | assumption | refine World.grows.alloc ?_ _ | refine World.grows.plus ?_ _ _ | refine World.grows.drew ?_))) g)
  have HB : Hid (W.heap[w.heap.size]? = some (.cells #[.int .i64 t.pl, .slice sa t.ns sc, .slice va t.nv vc] 25)) := Lib.hid (World.grows.heap_of g (World.heap_at _ _ _ rfl))
  obtain ⟨sv2, va2, vc2, hy, vc2a, vc2b, -, ⟨sa2, sc2, rfl, -⟩⟩ := hY
  have HYa := Lib.hid hy
  have HVC := Lib.hid (And.intro vc2a vc2b)
  have q2 : W.cell? ⟨w.heap.size, 2, none⟩ = some (.slice va t.nv vc) := cell_of_heap HB.out rfl
  obtain ⟨M0, hM0⟩ : ∃ M0, mm (aft t slow) t.nv = M0 := ⟨_, rfl⟩
  have hM0l : M0 ≤ t.nv := by rw [← hM0]; exact mm_le (aft t slow) t.nv
  obtain ⟨D0, hD0⟩ : ∃ D0, t.nv - M0 = D0 := ⟨_, rfl⟩
  have hwD : IntKind.i64.wrap ((t.nv : Int) - M0) = (D0 : Int) := wrapI (by omega) (by omega)
  have HCB : Hid (∀ i, i < t.nv → costB t slow i = decide (t.nv - mm (lessA (aft t slow) i) t.nv = D0)) := Lib.hid fun i hi => by rw [cost_iff slow hi, hM0, hD0]
  have HM0 := Lib.hid hM0
  clear hok hlt g vc2a vc2b hM0 hy
  go_upto_region 4 with fail
  (refine wp_region_chain 7 [4, 5, 6] (by kernel_rfl) (by kernel_rfl) (by decide) ?_; simp only [without, only, withNo, List.take_succ_cons, List.take_zero, List.drop_succ_cons, List.drop_zero, List.take_nil, List.drop_nil, Nat.reduceAdd, Nat.reduceSub, List.filter, List.contains_cons, List.contains_nil, Nat.reduceBEq, Bool.or_false, Bool.false_or, Bool.true_or, Bool.or_true, Bool.or_self, Bool.not_true, Bool.not_false, List.map_cons, List.map_nil]; (repeat (refine wpCalm_step (fun K hK => ?_); go_simp; first | (refine hK _ ?_; clear hK K) | (apply Exists.intro; refine ⟨fun n' x' => ?_, hK _ ?_⟩; (fail); clear hK K))); refine wpCalm_nil ?_)
  (refine wpChain_step (fun K hK nc xc => ?_); go_simp)
  refine (join_c _ y t.nv (aftF t slow t.nv) (aft t slow) ⟨_, _, _, _, _, HYa.out.grow (World.grows_plus _ _ _), HVC.out.1, HVC.out.2⟩ (rows_aft t slow h16) h16).mono ?_
  rintro e W9 ⟨jb, m, rfl, g4, hmb, hJ, -⟩
  have g3 : W.grows W9 := World.grows.trans (by (repeat (first | exact World.grows.refl _ | assumption | refine World.grows.alloc ?_ _ | refine World.grows.plus ?_ _ _ | refine World.grows.drew ?_))) g4
  refine ⟨_, rfl, g4, hK _ _ ?_⟩
  clear hK K
  have hlen : ∀ n x, (Builtin.len_ #[105] 3 #[.map (some jb)]).run Try.prog (W9.plus n x) = .ok (.int .i64 (M0 : Int)) (W9.plus n x) := fun n x => by
    have := len105 ((World.grows_plus W9 n x).heap_of hmb) 3
    rw [hJ.many, HM0.out] at this
    exact this
  clear hmb hJ g4
  ((refine wpChain_step (fun K hK nc xc => ?_); go_simp); refine ⟨World.grows.refl _, hK _ _ ?_⟩; clear hK K)
  ((refine wpChain_step (fun K hK nc xc => ?_); go_simp); refine ⟨World.grows.refl _, hK _ _ ?_⟩; clear hK K)
  (refine wpChain_nil (fun nc xc => ?_))
  rename_i n1 x1 n2 x2
  have gV : W.grows (((W9.plus n1 x1).plus n2 x2).plus nc xc) := g3.trans (by (repeat (first | exact World.grows.refl _ | assumption | refine World.grows.alloc ?_ _ | refine World.grows.plus ?_ _ _ | refine World.grows.drew ?_)))
  generalize (((W9.plus n1 x1).plus n2 x2).plus nc xc) = V at gV ⊢
  replace HGW := Lib.hid (HGW.out.trans gV)
  replace HB := Lib.hid (gV.heap_of HB.out)
  replace HYa := Lib.hid (HYa.out.grow gV)
  clear gV g3 hlen q2 hwD HM0
  have q2 : V.cell? ⟨w.heap.size, 2, none⟩ = some (.slice va t.nv vc) := cell_of_heap HB.out rfl
  obtain ⟨cY, hcY⟩ : ∃ cY, yardC (.int .i64 t.pl) (.slice sa2 t.ns sc2) (.slice va2 t.nv vc2) (wayP t slow) (aftF t slow t.nv) = cY := ⟨_, rfl⟩
  have HYb : Hid (V.heap[y]? = some (.cells cY 85)) := Lib.hid (by rw [← hcY]; exact HYa.out)
  have hYs : cY.size = 83 := by rw [← hcY]; exact yardC_size _ _ _ _ _
  have hone : Hid (cY.all (·.oneCell') = true) := Lib.hid (by rw [← hcY]; exact yardC_one rfl rfl rfl _ _)
  have HcY := Lib.hid hcY
  have HYs := Lib.hid hYs
  clear hcY hYs HYa
  go_wp2
  clear q2
  go_loopw [9, 32] (fun l i wr => ∃ k : Nat, k ≤ t.nv ∧ i = .int .i64 k ∧ Hid (wr.ownsRow V.heap.size 3 1 l (filtL (costB t slow) k).length (ilist (filtL (costB t slow) k))) ∧ Hid (V.grows wr)) (fun _ i _ => t.nv - (intOf i).toNat)
  case atStart => exact ⟨0, by omega, rfl, Lib.hid (World.ownsRow_nil _ _ _ _), Lib.hid (World.grows.refl _)⟩
  case round =>
    obtain ⟨k, hk, rfl, ho, hg⟩ := hrel
    obtain ⟨Wo, rfl⟩ : ∃ Wo, Wo = wr := ⟨_, rfl⟩
    obtain ⟨la, lc, rfl, -, -⟩ := row_form ho.out
    by_cases hlt : k < t.nv
    · have hkI : (k : Int) < t.nv := by omega
      have hk16 : k < 16 := by omega
      have hkI16 : (k : Int) < 16 := by omega
      have hYk : Wo.heap[y]? = some (.cells cY 85) := hg.out.heap_of HYb.out
      go_upto_region 9 with fail
      iterate 7 go_step
      refine wpList_load_mid rfl 85 (.tmp 36) rfl y 0 (by simp [go_sem]) cY.toList _ (cells_range hYk) Try.underlying85 rfl (by rw [s85, Array.length_toList, HYs.out]) ?_
      rw [Array.toArray_toList]
      iterate 3 go_step
      refine wpList_store_row rfl 85 (.tmp 11) (.tmp 37) rfl Wo.heap.size Try.zeroCells85 cY (World.heap_at _ _ _ rfl) (by simp [go_sem]) (by simp [go_sem]) (by rw [s85, HYs.out]) (by rw [zc85_size, HYs.out]) hone.out ?_
      rw [World.putObj_alloc_at _ _ _ _ rfl]
      obtain ⟨b1, hb1⟩ : ∃ b1, Wo.heap.size = b1 := ⟨_, rfl⟩
      have hVb : V.heap.size ≤ b1 := by rw [← hb1]; exact hg.out.size
      have hwV : w.heap.size < V.heap.size := World.lt_of_block HB.out
      have HY1 : Hid (YardAt (Wo.alloc (.cells cY 85)) b1 t.pl (.slice sa2 t.ns sc2) (.slice va2 t.nv vc2) (wayP t slow) (aftF t slow t.nv)) := Lib.hid (by
        have := World.heap_at Wo (.cells cY 85) b1 hb1.symm
        rw [← HcY.out] at this ⊢
        exact this)
      have hgA : Wo.grows (Wo.alloc (.cells cY 85)) := by (repeat (first | exact World.grows.refl _ | assumption | refine World.grows.alloc ?_ _ | refine World.grows.plus ?_ _ _ | refine World.grows.drew ?_))
      rw [hb1]
      generalize Wo.alloc (.cells cY 85) = V1 at HY1 hgA ⊢
      have fa := HY1.out.fz (67 + k)
      have ca := HY1.out.aft hk16
      have HYs1 := Lib.hid (HY1.out.setAft hk16 (0 : Int))
      have hrb : ∀ u, Wo.grows (V1.setCell ⟨b1, 67 + k, none⟩ u) := fun u => hgA.setCell (p := ⟨b1, 67 + k, none⟩) (by rw [← hb1]; exact Nat.le_refl _) u
      have HGs := Lib.hid (hrb (.int .i64 0))
      have HR0 : Hid (Rows16 (updI (aftF t slow t.nv) k 0) (lessJ (aft t slow) k 0) t.nv) := Lib.hid (((rows16_aft t slow h16).row k (Z := 0) (by omega)).congr fun i j _ _ => lessJ_row i j)
      clear hrb hgA HY1 hYk
      generalize hV2 : V1.setCell ⟨b1, 67 + k, none⟩ (.int .i64 0) = V2 at HYs1 HGs
      go_upto_region 11 with fail
      clear hV2 fa ca
      go_wp2
      go_loopw [41] (fun i wr => ∃ (j : Nat) (F' : Nat → Int), j ≤ 16 ∧ i = .int .i64 j ∧ Hid (YardAt wr b1 t.pl (.slice sa2 t.ns sc2) (.slice va2 t.nv vc2) (wayP t slow) F') ∧ Hid (Rows16 F' (lessJ (aft t slow) k j) t.nv) ∧ Hid (Wo.grows wr)) (fun i _ => 16 - (intOf i).toNat)
      case atStart => exact ⟨0, _, by omega, rfl, HYs1, HR0, HGs⟩
      case round =>
        clear HYs1 HR0 HGs
        obtain ⟨j, F', hj, rfl, hy1, hr1, hgj⟩ := hrel
        by_cases hjl : j < 16
        · have hjI : (j : Int) < 16 := by omega
          obtain ⟨N, hN⟩ : ∃ N, 2 ^ k = N := ⟨_, rfl⟩
          have HN := Lib.hid hN
          obtain ⟨B1, Z1, hB1, hZ1, hR9⟩ := hr1.out.part hjl (show k ≤ 16 by omega) hN
          have HR2 : Hid (Rows16 (updI F' j (Z1 : Int)) (lessJ (aft t slow) k (j + 1)) t.nv) := Lib.hid (hR9.congr fun i l _ _ => lessJ_part i l)
          have ca := hy1.out.aft hjl
          rw [hB1] at ca
          clear hB1 hR9 hr1 hN
          go_upto_region 14 with fail
          (refine wp_region_chain 9 [5, 6, 7] (by kernel_rfl) (by kernel_rfl) (by decide) ?_; simp only [without, only, withNo, List.take_succ_cons, List.take_zero, List.drop_succ_cons, List.drop_zero, List.take_nil, List.drop_nil, Nat.reduceAdd, Nat.reduceSub, List.filter, List.contains_cons, List.contains_nil, Nat.reduceBEq, Bool.or_false, Bool.false_or, Bool.true_or, Bool.or_true, Bool.or_self, Bool.not_true, Bool.not_false, List.map_cons, List.map_nil]; (repeat (refine wpCalm_step (fun K hK => ?_); go_simp; first | (refine hK _ ?_; clear hK K) | (apply Exists.intro; refine ⟨fun n' x' => ?_, hK _ ?_⟩; (fail); clear hK K))); refine wpCalm_nil ?_)
          ((refine wpChain_step (fun K hK nc xc => ?_); go_simp); refine ⟨by (repeat (first | exact World.grows.refl _ | assumption | refine World.grows.alloc ?_ _ | refine World.grows.plus ?_ _ _ | refine World.grows.drew ?_)), hK _ _ ?_⟩; clear hK K)
          ((refine wpChain_step (fun K hK nc xc => ?_); go_simp); refine (bit_c _ _ k hk16 (SliceAt.mono (one_slice _ _ _ _ (by simp)) (World.grows_plus _ _ _)) HN.out).mono ?_; rintro e W9 ⟨rfl, g⟩; refine ⟨_, rfl, g, hK _ _ ?_⟩; clear hK K; have g3 : (wr).grows W9 := World.grows.trans (by (repeat (first | exact World.grows.refl _ | assumption | refine World.grows.alloc ?_ _ | refine World.grows.plus ?_ _ _ | refine World.grows.drew ?_))) g; clear g)
          ((refine wpChain_step (fun K hK nc xc => ?_); go_simp); refine ⟨World.grows.refl _, hK _ _ ?_⟩; clear hK K)
          (refine wpChain_nil (fun nc xc => ?_))
          rename_i n9 x9
          have gV : wr.grows ((W9.plus n9 x9).plus nc xc) := g3.trans (by (repeat (first | exact World.grows.refl _ | assumption | refine World.grows.alloc ?_ _ | refine World.grows.plus ?_ _ _ | refine World.grows.drew ?_)))
          generalize ((W9.plus n9 x9).plus nc xc) = V5 at gV ⊢
          replace hgj := Lib.hid (hgj.out.trans gV)
          replace hy1 := Lib.hid (hy1.out.grow gV)
          have fa := hy1.out.fz (67 + j)
          have ca := hy1.out.aft hjl
          have hs1 := Lib.hid (hy1.out.setAft hjl (Z1 : Int))
          have hsg := Lib.hid (hgj.out.setCell (p := ⟨b1, 67 + j, none⟩) (show Wo.heap.size ≤ b1 by omega) (.int .i64 (Z1 : Int)))
          clear hgj hy1 gV g3
          go_wp2
          exact ⟨⟨j + 1, _, by omega, by go_num, hs1, HR2, hsg⟩, by simp [intOf]; omega⟩
        · have hje : j = 16 := by omega
          subst hje
          have HR2 : Hid (Rows16 F' (lessA (aft t slow) k) t.nv) := Lib.hid (hr1.out.congr fun i l hi _ => lessJ_end i l (by omega))
          simp only [show ((16 : Nat) : Int) = (16 : Int) from rfl]
          clear hr1
          have q2 : wr.cell? ⟨w.heap.size, 2, none⟩ = some (.slice va t.nv vc) := cell_of_heap ((hg.out.trans hgj.out).heap_of HB.out) rfl
          obtain ⟨M1, hM1⟩ : ∃ M1, mm (lessA (aft t slow) k) t.nv = M1 := ⟨_, rfl⟩
          have hM1l : M1 ≤ t.nv := by rw [← hM1]; exact mm_le _ _
          have HM1 := Lib.hid hM1
          obtain ⟨D1, hD1⟩ : ∃ D1, t.nv - M1 = D1 := ⟨_, rfl⟩
          have hwD : IntKind.i64.wrap ((t.nv : Int) - M1) = (D1 : Int) := wrapI (by omega) (by omega)
          have hCB : costB t slow k = decide (D1 = D0) := by rw [HCB.out k hlt, hM1, hD1]
          have hS := filtL_succ (costB t slow) k
          have hlen := filtL_len (costB t slow) k
          rw [hCB] at hS
          clear hM1 hCB
          by_cases hDD : D1 = D0
          · have hDI : decide ((D1 : Int) = (D0 : Int)) = true := decide_eq_true (by omega)
            have hDI2 : (D1 : Int) = (D0 : Int) := by omega
            rw [decide_eq_true hDD, if_pos rfl] at hS
            have HS := Lib.hid hS
            clear hS hDD
            go_upto_region 16 with fail
            (refine wp_region_chain 8 [3, 4, 5, 7] (by kernel_rfl) (by kernel_rfl) (by decide) ?_; simp only [without, only, withNo, List.take_succ_cons, List.take_zero, List.drop_succ_cons, List.drop_zero, List.take_nil, List.drop_nil, Nat.reduceAdd, Nat.reduceSub, List.filter, List.contains_cons, List.contains_nil, Nat.reduceBEq, Bool.or_false, Bool.false_or, Bool.true_or, Bool.or_true, Bool.or_self, Bool.not_true, Bool.not_false, List.map_cons, List.map_nil]; (repeat (refine wpCalm_step (fun K hK => ?_); go_simp; first | (refine hK _ ?_; clear hK K) | (apply Exists.intro; refine ⟨fun n' x' => ?_, hK _ ?_⟩; (fail); clear hK K))); refine wpCalm_nil ?_)
            (refine wpChain_step (fun K hK nc xc => ?_); go_simp)
            refine (join_c _ b1 t.nv F' (lessA (aft t slow) k) ⟨_, _, _, _, _, hy1.out.grow (World.grows_plus _ _ _), HVC.out.1, HVC.out.2⟩ (HR2.out.rows h16) h16).mono ?_
            rintro e W9 ⟨jb, m, rfl, g4, hmb, hJ, -⟩
            have g3 : wr.grows W9 := World.grows.trans (by (repeat (first | exact World.grows.refl _ | assumption | refine World.grows.alloc ?_ _ | refine World.grows.plus ?_ _ _ | refine World.grows.drew ?_))) g4
            refine ⟨_, rfl, g4, hK _ _ ?_⟩
            clear hK K
            have hml : ∀ n x, (Builtin.len_ #[105] 3 #[.map (some jb)]).run Try.prog (W9.plus n x) = .ok (.int .i64 (M1 : Int)) (W9.plus n x) := fun n x => by
              have := len105 ((World.grows_plus W9 n x).heap_of hmb) 3
              rw [hJ.many, HM1.out] at this
              exact this
            clear hmb hJ g4
            ((refine wpChain_step (fun K hK nc xc => ?_); go_simp); refine ⟨World.grows.refl _, hK _ _ ?_⟩; clear hK K)
            ((refine wpChain_step (fun K hK nc xc => ?_); go_simp); refine ⟨World.grows.refl _, hK _ _ ?_⟩; clear hK K)
            ((refine wpChain_step (fun K hK nc xc => ?_); go_simp); refine ⟨World.grows.refl _, hK _ _ ?_⟩; clear hK K)
            (refine wpChain_nil (fun nc xc => ?_))
            rename_i n1 x1 n2 x2 n3 x3
            have gV : wr.grows ((((W9.plus n1 x1).plus n2 x2).plus n3 x3).plus nc xc) := g3.trans (by (repeat (first | exact World.grows.refl _ | assumption | refine World.grows.alloc ?_ _ | refine World.grows.plus ?_ _ _ | refine World.grows.drew ?_)))
            generalize ((((W9.plus n1 x1).plus n2 x2).plus n3 x3).plus nc xc) = V6 at gV ⊢
            have gV6 : Wo.grows V6 := hgj.out.trans gV
            replace ho := Lib.hid (ho.out.grow gV6)
            replace hg := Lib.hid (hg.out.trans gV6)
            clear gV g3 hml hgj hy1 hwD q2 gV6
            obtain ⟨n, hn⟩ : ∃ n, (filtL (costB t slow) k).length = n := ⟨_, rfl⟩
            rw [hn] at ho hlen ⊢
            have Hn := Lib.hid hn
            have hsz := hg.out.size
            clear hn
            go_upto_region 17 with fail
            iterate 10 go_step
            refine wpList_append_r _ rfl (.tmp 63) (.tmp 65) 35 (by rfl) V.heap.size 3 (.int .i64 0) 1 8 Try.underlying35 el3 (by rfl) (by omega) (.slice la n lc) n _ (by rfl) (ho.out.grow (by (repeat (first | exact World.grows.refl _ | assumption | refine World.grows.alloc ?_ _ | refine World.grows.plus ?_ _ _ | refine World.grows.drew ?_)))) (.slice (some ⟨V6.heap.size, 0, none⟩) 1 1) (by rfl) 1 _ (SliceAt.src (by omega) (one_slice _ _ _ _ (by simp))) (one_cell _) (by unfold maxLen; omega) (by omega) (by simp; omega) ?_
            intro v' w3 hown3 hgb
            obtain ⟨la3, lc3, rfl, -, -⟩ := row_form hown3
            have ho3 : Hid (w3.ownsRow V.heap.size 3 1 (.slice la3 (n + 1) lc3) (filtL (costB t slow) (k + 1)).length (ilist (filtL (costB t slow) (k + 1)))) := Lib.hid (by rw [HS.out, ilist_snoc, List.length_append, Hn.out]; exact hown3)
            have hg3 := Lib.hid (hgb.grows (ho.out.grow (World.grows.alloc (World.grows.refl V6) _)) (World.grows.trans hg.out (World.grows.alloc (World.grows.refl V6) _)) (Nat.le_refl _))
            clear hown3 hgb
            go_wp2
            case roundEnd =>
              have hlen2 : (filtL (costB t slow) (k + 1)).length = n + 1 := by rw [HS.out, List.length_append, Hn.out]; rfl
              exact ⟨⟨k + 1, by omega, by go_num, by rw [hlen2] at ho3 ⊢; exact ho3, hg3⟩, by simp [intOf]; omega⟩
          · have hDI : decide ((D1 : Int) = (D0 : Int)) = false := decide_eq_false (by omega)
            have hDI2 : ¬ (D1 : Int) = (D0 : Int) := by omega
            rw [decide_eq_false hDD, if_neg (by decide)] at hS
            have HS := Lib.hid hS
            clear hS
            go_upto_region 16 with fail
            (refine wp_region_chain 8 [3, 4, 5, 7] (by kernel_rfl) (by kernel_rfl) (by decide) ?_; simp only [without, only, withNo, List.take_succ_cons, List.take_zero, List.drop_succ_cons, List.drop_zero, List.take_nil, List.drop_nil, Nat.reduceAdd, Nat.reduceSub, List.filter, List.contains_cons, List.contains_nil, Nat.reduceBEq, Bool.or_false, Bool.false_or, Bool.true_or, Bool.or_true, Bool.or_self, Bool.not_true, Bool.not_false, List.map_cons, List.map_nil]; (repeat (refine wpCalm_step (fun K hK => ?_); go_simp; first | (refine hK _ ?_; clear hK K) | (apply Exists.intro; refine ⟨fun n' x' => ?_, hK _ ?_⟩; (fail); clear hK K))); refine wpCalm_nil ?_)
            (refine wpChain_step (fun K hK nc xc => ?_); go_simp)
            refine (join_c _ b1 t.nv F' (lessA (aft t slow) k) ⟨_, _, _, _, _, hy1.out.grow (World.grows_plus _ _ _), HVC.out.1, HVC.out.2⟩ (HR2.out.rows h16) h16).mono ?_
            rintro e W9 ⟨jb, m, rfl, g4, hmb, hJ, -⟩
            have g3 : wr.grows W9 := World.grows.trans (by (repeat (first | exact World.grows.refl _ | assumption | refine World.grows.alloc ?_ _ | refine World.grows.plus ?_ _ _ | refine World.grows.drew ?_))) g4
            refine ⟨_, rfl, g4, hK _ _ ?_⟩
            clear hK K
            have hml : ∀ n x, (Builtin.len_ #[105] 3 #[.map (some jb)]).run Try.prog (W9.plus n x) = .ok (.int .i64 (M1 : Int)) (W9.plus n x) := fun n x => by
              have := len105 ((World.grows_plus W9 n x).heap_of hmb) 3
              rw [hJ.many, HM1.out] at this
              exact this
            clear hmb hJ g4
            ((refine wpChain_step (fun K hK nc xc => ?_); go_simp); refine ⟨World.grows.refl _, hK _ _ ?_⟩; clear hK K)
            ((refine wpChain_step (fun K hK nc xc => ?_); go_simp); refine ⟨World.grows.refl _, hK _ _ ?_⟩; clear hK K)
            ((refine wpChain_step (fun K hK nc xc => ?_); go_simp); refine ⟨World.grows.refl _, hK _ _ ?_⟩; clear hK K)
            (refine wpChain_nil (fun nc xc => ?_))
            rename_i n1 x1 n2 x2 n3 x3
            have gV : wr.grows ((((W9.plus n1 x1).plus n2 x2).plus n3 x3).plus nc xc) := g3.trans (by (repeat (first | exact World.grows.refl _ | assumption | refine World.grows.alloc ?_ _ | refine World.grows.plus ?_ _ _ | refine World.grows.drew ?_)))
            generalize ((((W9.plus n1 x1).plus n2 x2).plus n3 x3).plus nc xc) = V6 at gV ⊢
            have gV6 : Wo.grows V6 := hgj.out.trans gV
            replace ho := Lib.hid (ho.out.grow gV6)
            replace hg := Lib.hid (hg.out.trans gV6)
            clear gV g3 hml hgj hy1 hwD q2 gV6
            go_wp2
            case roundEnd => exact ⟨⟨k + 1, by omega, by go_num, by rw [HS.out]; exact ho, hg⟩, by simp [intOf]; omega⟩

    · have hke : k = t.nv := by omega
      have hL := ho.out.listAt rfl
      subst hke
      clear ho
      go_wp2
      (refine bodyPost_ret (v := .tuple #[.slice la (filtL (costB t slow) t.nv).length lc, .int .i64 0]) (by simp [results, Try.results39, go_sem]) rfl ?_)
      exact ⟨_, rfl, HGW.out.trans (hg.out.trans (by (repeat (first | exact World.grows.refl _ | assumption | refine World.grows.alloc ?_ _ | refine World.grows.plus ?_ _ _ | refine World.grows.drew ?_)))), hL.mono (by (repeat (first | exact World.grows.refl _ | assumption | refine World.grows.alloc ?_ _ | refine World.grows.plus ?_ _ _ | refine World.grows.drew ?_)))⟩
end Go.Proofs.Ytaanbdjmibjcbaa

/-
  What is proved: the definition's check whether visits stand apart (36).
-/
namespace Go.Proofs.Ytaanbdjmibjcbaa
open Go.RowKit
attribute [local irreducible] Go.wpCalm rowI
set_option maxRecDepth 100000 in
set_option maxHeartbeats 4000000 in
theorem rapart_c (w : World) (tv lv : Value) (t : Town) (slow : Bool) (ht : TownAt w tv t) (m : Nat) (f : Nat → Int) (hl : IntsAt w lv m f) (hm : m ≤ 1000000) : Calls Try.prog 36 #[tv, lv, .bool slow] w fun e w' => e = .returned (.int .i64 (apE t slow m f : Nat)) ∧ w.grows w' := by
  have Ht := Lib.hid ht
  have h20 := fun W (g : w.grows W) => rcheck_c W _ t (Ht.out.mono g)
  have h63 := fun W (g : w.grows W) x => rvisit_c W _ t (Ht.out.mono g) x
  have h64 := fun W (g : w.grows W) (hok : t.Ok) => afters_c W _ t slow (Ht.out.mono g) hok
  obtain ⟨sv, vv, rfl, ⟨sa, sc, rfl, -⟩, ⟨va, vc, rfl, -⟩⟩ := ht
  have HL := Lib.hid hl
  obtain ⟨la, lc, rfl, l1, l2, -⟩ := hl
  unfold maxLen at l2
  by_cases hc : t.check = 0
  case neg =>
    have HR : Hid (apE t slow m f = t.check) := Lib.hid (by unfold apE; rw [if_pos hc])
    obtain ⟨C, hC⟩ : ∃ C : Nat, t.check = C := ⟨_, rfl⟩
    simp only [hC] at h20
    rw [hC] at hc HR
    have hc0 : ¬ (C : Int) = 0 := by omega
    clear h63 h64 hC
    go_enter Try.func36, Try.ntmps36
    go_wp2_with (go_at_call 99; fail)
    refine (h20 _ (by (repeat (first | exact World.grows.refl _ | assumption | refine World.grows.alloc ?_ _ | refine World.grows.plus ?_ _ _ | refine World.grows.drew ?_)))).mono ?_
    rintro e W ⟨rfl, g⟩
    obtain ⟨n2, x2, rfl⟩ := World.plus_of g
    go_wp2_with (go_at_call 99; fail)
    refine (h20 _ (by (repeat (first | exact World.grows.refl _ | assumption | refine World.grows.alloc ?_ _ | refine World.grows.plus ?_ _ _ | refine World.grows.drew ?_)))).mono ?_
    rintro e W ⟨rfl, g⟩
    obtain ⟨n3, x3, rfl⟩ := World.plus_of g
    clear h20
    go_wp2
    (refine bodyPost_ret (v := .int .i64 (C : Int)) (by simp [results, Try.results36, go_sem]) rfl ?_)
    exact ⟨by rw [HR.out], by (repeat (first | exact World.grows.refl _ | assumption | refine World.grows.alloc ?_ _ | refine World.grows.plus ?_ _ _ | refine World.grows.drew ?_))⟩
  have hE : Hid (apE t slow m f = if okL t.nv m f then (if hitL (aft t slow) m f then 14 else 0) else 3) := Lib.hid (by unfold apE; rw [if_neg (by omega)])
  have Hok := Lib.hid (t.ok_iff.1 hc)
  simp only [hc] at h20
  have h16 := Hok.out.v16
  clear hc
  go_enter Try.func36, Try.ntmps36
  go_wp2_with (go_at_call 99; fail)
  refine (h20 _ (by (repeat (first | exact World.grows.refl _ | assumption | refine World.grows.alloc ?_ _ | refine World.grows.plus ?_ _ _ | refine World.grows.drew ?_)))).mono ?_
  rintro e W ⟨rfl, g⟩
  have HB : Hid (W.heap[w.heap.size]? = some (.cells #[.int .i64 t.pl, .slice sa t.ns sc, .slice va t.nv vc] 25)) := Lib.hid (World.grows.heap_of g (World.heap_at _ _ _ rfl))
  have HGW : Hid (w.grows W) := Lib.hid (World.grows.trans (by (repeat (first | exact World.grows.refl _ | assumption | refine World.grows.alloc ?_ _ | refine World.grows.plus ?_ _ _ | refine World.grows.drew ?_))) g)
  replace HL := Lib.hid (HL.out.mono HGW.out)
  have H63 := Lib.hid h63
  have H64 := Lib.hid h64
  clear h20 h63 h64 g
  go_wp2
  go_loopw [7] (fun i wr => ∃ k : Nat, k ≤ m ∧ i = .int .i64 k ∧ Hid (W.grows wr) ∧ Hid (∀ j, j < k → isV t.nv (f j) = true) ∧ Hid (∀ j, j + 1 < k → f j < f (j + 1))) (fun i _ => m - (intOf i).toNat)
  case atStart => exact ⟨0, by omega, rfl, Lib.hid (World.grows.refl _), Lib.hid fun j hj => by omega, Lib.hid fun j hj => by omega⟩
  case round =>
    obtain ⟨k, hk, rfl, hg, hv, hr⟩ := hrel
    have q0 : wr.cell? ⟨w.heap.size, 0, none⟩ = some (.int .i64 t.pl) := cell_of_heap (World.grows.heap_of hg.out HB.out) rfl
    have q1 : wr.cell? ⟨w.heap.size, 1, none⟩ = some (.slice sa t.ns sc) := cell_of_heap (World.grows.heap_of hg.out HB.out) rfl
    have q2 : wr.cell? ⟨w.heap.size, 2, none⟩ = some (.slice va t.nv vc) := cell_of_heap (World.grows.heap_of hg.out HB.out) rfl
    by_cases hlt : k < m
    · obtain ⟨_, _, e, -, -, hcell⟩ := HL.out
      cases e
      obtain ⟨b, o, rfl, c0⟩ := hcell k 0 hlt (by omega)
      simp only [Nat.mul_one, Nat.add_zero] at c0
      replace c0 := hg.out.cell_of c0
      have hkI : (k : Int) < m := by omega
      have h63 := fun n x => H63.out (wr.plus n x) (HGW.out.trans (hg.out.trans (by (repeat (first | exact World.grows.refl _ | assumption | refine World.grows.alloc ?_ _ | refine World.grows.plus ?_ _ _ | refine World.grows.drew ?_))))) (f k)
      cases p1 : isV t.nv (f k) with
      | false =>
        have HR : Hid (apE t slow m f = 3) := Lib.hid (by
          rw [hE.out, if_neg]
          unfold okL
          rw [any_true_of hlt (by rw [p1]; rfl)]
          exact fun h => by cases h)
        simp only [p1] at h63
        clear p1 hcell
        go_upto_region 6 with fail
        (refine wp_region_calm (by kernel_rfl) (by kernel_rfl) ?_; (repeat (refine wpCalm_step (fun K hK => ?_); go_simp; first | (refine hK _ ?_; clear hK K) | (apply Exists.intro; refine ⟨fun n' x' => ?_, hK _ ?_⟩; (exact h63 _ _); clear hK K))); refine wpCalm_nil ?_; intro nq xq)
        clear h63
        go_wp2
        (refine bodyPost_ret (v := .int .i64 3) (by simp [results, Try.results36, go_sem]) rfl ?_)
        exact ⟨by rw [HR.out]; rfl, HGW.out.trans (hg.out.trans (by (repeat (first | exact World.grows.refl _ | assumption | refine World.grows.alloc ?_ _ | refine World.grows.plus ?_ _ _ | refine World.grows.drew ?_))))⟩
      | true =>
        have HV2 : Hid (∀ j, j < k + 1 → isV t.nv (f j) = true) := Lib.hid (upto_succ hv.out p1)
        simp only [p1] at h63
        by_cases hk0 : k = 0
        · subst hk0
          rw [Nat.add_zero] at c0
          clear p1 hcell
          go_upto_region 6 with fail
          (refine wp_region_calm (by kernel_rfl) (by kernel_rfl) ?_; (repeat (refine wpCalm_step (fun K hK => ?_); go_simp; first | (refine hK _ ?_; clear hK K) | (apply Exists.intro; refine ⟨fun n' x' => ?_, hK _ ?_⟩; (exact h63 _ _); clear hK K))); refine wpCalm_nil ?_; intro nq xq)
          clear h63
          go_wp2
          case roundEnd => exact ⟨⟨1, by omega, by go_num, Lib.hid (hg.out.trans (by (repeat (first | exact World.grows.refl _ | assumption | refine World.grows.alloc ?_ _ | refine World.grows.plus ?_ _ _ | refine World.grows.drew ?_)))), HV2, Lib.hid fun j hj => by omega⟩, by simp [intOf]; omega⟩
        · obtain ⟨p, hp⟩ : ∃ p, k = p + 1 := ⟨k - 1, by omega⟩
          obtain ⟨_, _, e', c1⟩ := hcell p 0 (by omega) (by omega)
          cases e'
          simp only [Nat.mul_one, Nat.add_zero] at c1
          replace c1 := hg.out.cell_of c1
          have hks : (k : Int) - 1 = (p : Nat) := by omega
          have hkw : IntKind.i64.wrap (p : Int) = (p : Int) := wrapI rfl (by omega)
          have hk0I : 0 < k := by omega
          have hpI : (p : Int) < m := by omega
          obtain ⟨x, hx⟩ : ∃ x, f k = x := ⟨_, rfl⟩
          obtain ⟨y, hy⟩ : ∃ y, f p = y := ⟨_, rfl⟩
          rw [hx] at c0
          simp only [hx] at h63
          rw [hy] at c1
          have HXY := Lib.hid (And.intro hx hy)
          have HP := Lib.hid hp
          clear p1 hcell hx hy hp
          go_upto_region 6 with fail
          (refine wp_region_calm (by kernel_rfl) (by kernel_rfl) ?_; (repeat (refine wpCalm_step (fun K hK => ?_); go_simp; first | (refine hK _ ?_; clear hK K) | (apply Exists.intro; refine ⟨fun n' x' => ?_, hK _ ?_⟩; (exact h63 _ _); clear hK K))); refine wpCalm_nil ?_; intro nq xq)
          clear h63
          by_cases hxy : x ≤ y
          · have HR : Hid (apE t slow m f = 3) := Lib.hid (by
              rw [hE.out, if_neg]
              unfold okL
              rw [Bool.and_eq_true]
              rintro ⟨-, h⟩
              unfold riseF at h
              rw [decide_eq_true_eq] at h
              have h2 := h p (by have := HP.out; omega) (by have := HP.out; omega)
              rw [← HP.out, HXY.out.1, HXY.out.2] at h2
              omega)
            go_wp2
            (refine bodyPost_ret (v := .int .i64 3) (by simp [results, Try.results36, go_sem]) rfl ?_)
            exact ⟨by rw [HR.out]; rfl, HGW.out.trans (hg.out.trans (by (repeat (first | exact World.grows.refl _ | assumption | refine World.grows.alloc ?_ _ | refine World.grows.plus ?_ _ _ | refine World.grows.drew ?_))))⟩
          · have HA : Hid (∀ j, j + 1 < k + 1 → f j < f (j + 1)) := Lib.hid fun j h => by
              have hp := HP.out
              by_cases e : j = p
              · subst e
                rw [← hp, HXY.out.1, HXY.out.2]
                omega
              · exact hr.out j (by omega)
            go_wp2
            case roundEnd => exact ⟨⟨k + 1, by omega, by go_num, Lib.hid (hg.out.trans (by (repeat (first | exact World.grows.refl _ | assumption | refine World.grows.alloc ?_ _ | refine World.grows.plus ?_ _ _ | refine World.grows.drew ?_)))), HV2, HA⟩, by simp [intOf]; omega⟩
    · have hke : k = m := by omega
      subst hke
      have hE2 : Hid (apE t slow k f = if hitL (aft t slow) k f then 14 else 0) := Lib.hid (by
        rw [hE.out, if_pos]
        unfold okL riseF
        rw [any_false_of fun i hi => by rw [hv.out i hi]; rfl, decide_eq_true fun i h1 h2 => hr.out i h2]
        rfl)
      have HV : Hid (∀ i, i < k → ∃ a : Nat, f i = (a : Int) ∧ a < t.nv) := Lib.hid fun i hi => by
        have h := hv.out i hi
        simp only [Bool.and_eq_true, isV, decide_eq_true_eq] at h
        exact ⟨(f i).toNat, by omega, by omega⟩
      clear hE
      go_wp2_with (go_at_call 99; fail)
      refine (H64.out _ (HGW.out.trans hg.out) Hok.out).mono ?_
      rintro e W2 ⟨p, rfl, g2, -, hp⟩
      have HP := Lib.hid hp
      have HG2 := Lib.hid (hg.out.trans g2)
      replace HL := Lib.hid (HL.out.mono HG2.out)
      clear q0 q1 q2 hp g2 hg
      go_wp2
      go_loopw [9] (fun i wr => ∃ j : Nat, j ≤ k ∧ i = .int .i64 j ∧ Hid (W2.grows wr) ∧ Hid (∀ x, x < j → ((List.range k).any fun i => aft t slow (f x).toNat (f i).toNat) = false)) (fun i _ => k - (intOf i).toNat)
      case atStart => exact ⟨0, by omega, rfl, Lib.hid (World.grows.refl _), Lib.hid fun x hx => by omega⟩
      case round =>
        obtain ⟨j, hj, rfl, hg, hall⟩ := hrel
        by_cases hlt : j < k
        · go_wp2
          go_loopw [10] (fun i wr2 => ∃ l : Nat, l ≤ k ∧ i = .int .i64 l ∧ Hid (W2.grows wr2) ∧ Hid (∀ x, x < l → aft t slow (f j).toNat (f x).toNat = false)) (fun i _ => k - (intOf i).toNat)
          case atStart => exact ⟨0, by omega, rfl, hg, Lib.hid fun x hx => by omega⟩
          case round =>
            clear hg
            obtain ⟨l, hl, rfl, hg, hin⟩ := hrel
            by_cases hlk : l < k
            · obtain ⟨A, hA, hAn⟩ := HV.out j hlt
              obtain ⟨B, hB, hBn⟩ := HV.out l hlk
              obtain ⟨_, _, e, -, -, hcell⟩ := HL.out
              cases e
              obtain ⟨b, o, rfl, c0⟩ := hcell j 0 hlt (by omega)
              obtain ⟨_, _, e, c1⟩ := hcell l 0 hlk (by omega)
              cases e
              simp only [Nat.mul_one, Nat.add_zero, hA] at c0
              simp only [Nat.mul_one, Nat.add_zero, hB] at c1
              replace c0 := hg.out.cell_of c0
              replace c1 := hg.out.cell_of c1
              have cX := rowI_cell (World.grows.heap_of hg.out HP.out) (i := 16 * A + B) (by omega)
              rw [show aftI t slow (16 * A + B) = if aft t slow A B then 1 else 0 by
                unfold aftI
                rw [show (16 * A + B) / 16 = A by omega, show (16 * A + B) % 16 = B by omega]
                cases aft t slow A B
                · rw [if_neg (fun h => by cases h.2.2)]; rfl
                · rw [if_pos ⟨hAn, hBn, rfl⟩]; rfl] at cX
              obtain ⟨I, hI⟩ : ∃ I, 16 * A + B = I := ⟨_, rfl⟩
              rw [hI] at cX
              have hw1 : IntKind.i64.wrap (16 * (A : Int)) = 16 * (A : Int) := wrapI rfl (by omega)
              have hw2 : IntKind.i64.wrap (16 * (A : Int) + B) = (I : Nat) := wrapI (by omega) (by omega)
              have hXI : (I : Int) < 256 := by omega
              clear hI
              have hA16 : A < 16 := by omega
              have hB16 : B < 16 := by omega
              have hjI : (j : Int) < k := by omega
              have hlI : (l : Int) < k := by omega
              have HAB := Lib.hid (And.intro hA hB)
              clear hA hB hcell
              cases hr0 : aft t slow A B with
              | true =>
                have HR : Hid (apE t slow k f = 14) := Lib.hid (by
                  rw [hE2.out, if_pos]
                  exact any_true_of hlt (any_true_of hlk (by rw [HAB.out.1, HAB.out.2, Int.toNat_natCast, Int.toNat_natCast]; exact hr0)))
                rw [hr0, if_pos rfl] at cX
                clear hr0
                go_upto_region 15 with fail
                (refine wp_region_calm (by kernel_rfl) (by kernel_rfl) ?_; (repeat (refine wpCalm_step (fun K hK => ?_); go_simp; first | (refine hK _ ?_; clear hK K) | (apply Exists.intro; refine ⟨fun n' x' => ?_, hK _ ?_⟩; (fail); clear hK K))); refine wpCalm_nil ?_; intro nq xq)
                go_wp2
                (refine bodyPost_ret (v := .int .i64 14) (by simp [results, Try.results36, go_sem]) rfl ?_)
                exact ⟨by rw [HR.out]; rfl, HGW.out.trans (HG2.out.trans (hg.out.trans (by (repeat (first | exact World.grows.refl _ | assumption | refine World.grows.alloc ?_ _ | refine World.grows.plus ?_ _ _ | refine World.grows.drew ?_)))))⟩
              | false =>
                rw [hr0, if_neg (by decide)] at cX
                have HA : Hid (∀ x, x < l + 1 → aft t slow (f j).toNat (f x).toNat = false) := Lib.hid (upto_succ hin.out (by rw [HAB.out.1, HAB.out.2, Int.toNat_natCast, Int.toNat_natCast]; exact hr0))
                clear hr0
                go_upto_region 15 with fail
                (refine wp_region_calm (by kernel_rfl) (by kernel_rfl) ?_; (repeat (refine wpCalm_step (fun K hK => ?_); go_simp; first | (refine hK _ ?_; clear hK K) | (apply Exists.intro; refine ⟨fun n' x' => ?_, hK _ ?_⟩; (fail); clear hK K))); refine wpCalm_nil ?_; intro nq xq)
                go_wp2
                case roundEnd => exact ⟨⟨l + 1, by omega, by go_num, Lib.hid (hg.out.trans (by (repeat (first | exact World.grows.refl _ | assumption | refine World.grows.alloc ?_ _ | refine World.grows.plus ?_ _ _ | refine World.grows.drew ?_)))), HA⟩, by simp [intOf]; omega⟩
            · have hle : l = k := by omega
              subst hle
              have HA := Lib.hid (upto_succ hall.out (any_false_of hin.out))
              go_wp2
              case roundEnd => exact ⟨⟨j + 1, by omega, by go_num, hg, HA⟩, by simp [intOf]; omega⟩
        · have hje : j = k := by omega
          subst hje
          have HR : Hid (apE t slow j f = 0) := Lib.hid (by
            rw [hE2.out, if_neg]
            unfold hitL
            rw [any_false_of hall.out]; decide)
          go_wp2
          (refine bodyPost_ret (v := .int .i64 0) (by simp [results, Try.results36, go_sem]) rfl ?_)
          exact ⟨by rw [HR.out]; rfl, HGW.out.trans (HG2.out.trans (hg.out.trans (by (repeat (first | exact World.grows.refl _ | assumption | refine World.grows.alloc ?_ _ | refine World.grows.plus ?_ _ _ | refine World.grows.drew ?_)))))⟩
end Go.Proofs.Ytaanbdjmibjcbaa

/-
  What is proved: the minutes of a way, in the program (17) and in the definition (18).
-/
namespace Go.Proofs.Ytaanbdjmibjcbaa
open Go.RowKit
attribute [local irreducible] Go.wpCalm rowI

theorem wayE_bad {t : Town} {slow : Bool} {a b : Int} (h : t.check ≠ 0) : wayE t slow a b = t.check ∧ wayM t slow a b = 0 := by
  have h1 : wayE t slow a b = t.check := by unfold wayE; rw [if_pos h]
  exact ⟨h1, by unfold wayM; rw [if_neg (by rw [h1]; exact h)]⟩
theorem wayE_arg {t : Town} {slow : Bool} {a b : Int} (h : t.check = 0) (h2 : (t.isPlace a && t.isPlace b) = false) : wayE t slow a b = 2 ∧ wayM t slow a b = 0 := by
  have h1 : wayE t slow a b = 2 := by unfold wayE; rw [if_neg (by omega), h2]; rfl
  exact ⟨h1, by unfold wayM; rw [if_neg (by omega)]⟩
theorem wayE_none {t : Town} {slow : Bool} {a b : Int} (h : t.check = 0) (h2 : (t.isPlace a && t.isPlace b) = true) (h3 : ¬ dist t slow a.toNat b.toNat < nev) : wayE t slow a b = 5 ∧ wayM t slow a b = 0 := by
  have h1 : wayE t slow a b = 5 := by unfold wayE; rw [if_neg (by omega), h2, if_pos rfl, if_neg h3]
  exact ⟨h1, by unfold wayM; rw [if_neg (by omega)]⟩
theorem wayE_ok {t : Town} {slow : Bool} {a b : Int} (h : t.check = 0) (h2 : (t.isPlace a && t.isPlace b) = true) (h3 : dist t slow a.toNat b.toNat < nev) : wayE t slow a b = 0 ∧ wayM t slow a b = dist t slow a.toNat b.toNat := by
  have h1 : wayE t slow a b = 0 := by unfold wayE; rw [if_neg (by omega), h2, if_pos rfl, if_pos h3]
  exact ⟨h1, by unfold wayM; rw [if_pos h1]⟩
theorem place_out (t : Town) (x : Int) : outB 0 (t.pl - 1) x = !t.isPlace x := by
  unfold outB Town.isPlace
  by_cases h1 : x < 0
  · have : ¬ 0 ≤ x := by omega
    simp [h1, this]
  · by_cases h2 : x < t.pl
    · have a : 0 ≤ x := by omega
      have b : ¬ t.pl - 1 < x := by omega
      simp [h1, h2, a, b]
    · have a : 0 ≤ x := by omega
      have b : t.pl - 1 < x := by omega
      simp [h2, a, b]
theorem ret_two {a b : Int} {n m : Nat} (h : a = b) (h2 : n = m) : (Ending.returned (.tuple #[.int .i64 a, .int .i64 (n : Int)])) = .returned (.tuple #[.int .i64 b, .int .i64 (m : Int)]) := by rw [h, h2]
set_option maxHeartbeats 2000000 in
theorem way_c (w : World) (tv : Value) (t : Town) (slow : Bool) (ht : TownAt w tv t) (a b : Int) : Calls Try.prog 17 #[tv, .int .i64 a, .int .i64 b, .bool slow] w fun e w' => e = .returned (.tuple #[.int .i64 (wayM t slow a b), .int .i64 (wayE t slow a b : Int)]) ∧ w.grows w' := by
  have Ht := Lib.hid ht
  obtain ⟨sv, vv, rfl, ⟨sa, sc, rfl, -⟩, ⟨va, vc, rfl, -⟩⟩ := ht
  by_cases hc : t.check = 0
  · have hok := t.ok_iff.1 hc
    have Hok := Lib.hid hok
    have Hc := Lib.hid hc
    have hp1 := hok.p1
    have hp8 := hok.p8
    have h48 := fun W (g : w.grows W) => open_ok W _ t slow (Ht.out.mono g) Hok.out
    have H49 : Hid (∀ (W : World) sv, IntsAt W sv 2 (fun k => if k = 0 then a else b) → Calls Try.prog 49 #[.int .i64 0, .int .i64 (t.pl - 1), sv] W fun e w' => e = .returned (.bool (t.isPlace a && t.isPlace b)) ∧ W.grows w') := Lib.hid fun W sv hs => by
      have h := c49two W 0 (t.pl - 1) a b sv hs
      rw [place_out, place_out] at h
      have e : (!(!t.isPlace a || !t.isPlace b)) = (t.isPlace a && t.isPlace b) := by cases t.isPlace a <;> cases t.isPlace b <;> rfl
      rw [e] at h
      exact h
    have w1 : wrap64 (t.pl - 1) = t.pl - 1 := wrap64_own' _ (by omega)
    clear hok hc
    go_enter Try.func17, Try.ntmps17
    go_wp2_with (go_at_call 99; fail)
    refine (h48 _ (by (repeat (first | exact World.grows.refl _ | assumption | refine World.grows.alloc ?_ _ | refine World.grows.plus ?_ _ _ | refine World.grows.drew ?_)))).mono ?_
    rintro e W ⟨y, rfl, g, hlt, hY⟩
    have gW : w.grows W := World.grows.trans (by (repeat (first | exact World.grows.refl _ | assumption | refine World.grows.alloc ?_ _ | refine World.grows.plus ?_ _ _ | refine World.grows.drew ?_))) g
    have q0 : W.cell? ⟨w.heap.size, 0, none⟩ = some (.int .i64 t.pl) := World.grows.cell_of g (by simp [go_sem])
    have HY := Lib.hid hY
    clear hY g hlt h48
    go_wp2_with (go_at_call 99; fail)
    refine (H49.out _ _ (two_ints _ _ _ _ _ (by simp))).mono ?_
    rintro e W2 ⟨rfl, g⟩
    replace gW := World.grows.trans gW (World.grows.trans (by (repeat (first | exact World.grows.refl _ | assumption | refine World.grows.alloc ?_ _ | refine World.grows.plus ?_ _ _ | refine World.grows.drew ?_))) g)
    replace HY := Lib.hid (HY.out.mono (World.grows.trans (by (repeat (first | exact World.grows.refl _ | assumption | refine World.grows.alloc ?_ _ | refine World.grows.plus ?_ _ _ | refine World.grows.drew ?_))) g))
    clear q0 g H49 w1
    cases hq : t.isPlace a && t.isPlace b with
    | false =>
      have HR := Lib.hid (wayE_arg (slow := slow) Hc.out hq)
      clear hq
      go_wp2
      (refine bodyPost_ret (v := .tuple #[.int .i64 0, .int .i64 2]) (by simp [results, Try.results17, go_sem]) rfl ?_)
      exact ⟨by rw [HR.out.1, HR.out.2]; rfl, gW.trans (by (repeat (first | exact World.grows.refl _ | assumption | refine World.grows.alloc ?_ _ | refine World.grows.plus ?_ _ _ | refine World.grows.drew ?_)))⟩
    | true =>
      have hq2 := hq
      simp only [Bool.and_eq_true, Town.isPlace, decide_eq_true_eq] at hq2
      obtain ⟨A, rfl⟩ : ∃ A : Nat, a = A := ⟨a.toNat, by omega⟩
      obtain ⟨B, rfl⟩ : ∃ B : Nat, b = B := ⟨b.toNat, by omega⟩
      have hA8 : A < 8 := by omega
      have hB8 : B < 8 := by omega
      have hAI : (A : Int) < 8 := by omega
      have hBI : (B : Int) < 8 := by omega
      obtain ⟨sv2, va2, vc2, hy, -⟩ := HY.out
      have cw := hy.way2 hA8 hB8
      have hP : wayP t slow (A * 8 + B) = upW (dist t slow A B) := by
        unfold wayP
        rw [show (A * 8 + B) / 8 = A by omega, show (A * 8 + B) % 8 = B by omega]
      rw [hP] at cw
      by_cases hd : dist t slow A B < nev
      · have HR := Lib.hid (wayE_ok (slow := slow) Hc.out hq (by simpa using hd))
        have hnev : nev = 1099511627776 := rfl
        have hu : upW (dist t slow A B) = dist t slow A B := by unfold upW; rw [if_pos hd]
        rw [hu] at cw
        obtain ⟨D, hD⟩ : ∃ D, dist t slow A B = D := ⟨_, rfl⟩
        rw [hD] at cw hd
        have hD2 : ¬ D = 1125899906842624 := by omega
        have HD := Lib.hid hD
        clear hq hq2 hy hP hu hD hd hnev
        go_wp2
        (refine bodyPost_ret (v := .tuple #[.int .i64 D, .int .i64 0]) (by simp [results, Try.results17, go_sem]) rfl ?_)
        exact ⟨by rw [HR.out.1, HR.out.2, Int.toNat_natCast, Int.toNat_natCast, HD.out]; rfl, gW.trans (by (repeat (first | exact World.grows.refl _ | assumption | refine World.grows.alloc ?_ _ | refine World.grows.plus ?_ _ _ | refine World.grows.drew ?_)))⟩
      · have HR := Lib.hid (wayE_none (slow := slow) Hc.out hq (by simpa using hd))
        have hu : upW (dist t slow A B) = 1125899906842624 := by unfold upW; rw [if_neg hd]; rfl
        rw [hu] at cw
        clear hq hq2 hy hP hu hd
        go_wp2
        (refine bodyPost_ret (v := .tuple #[.int .i64 0, .int .i64 5]) (by simp [results, Try.results17, go_sem]) rfl ?_)
        exact ⟨by rw [HR.out.1, HR.out.2]; rfl, gW.trans (by (repeat (first | exact World.grows.refl _ | assumption | refine World.grows.alloc ?_ _ | refine World.grows.plus ?_ _ _ | refine World.grows.drew ?_)))⟩
  · have HR := Lib.hid (wayE_bad (slow := slow) (a := a) (b := b) hc)
    obtain ⟨C, hC⟩ : ∃ C : Nat, t.check = C := ⟨_, rfl⟩
    have h48 := fun W (g : w.grows W) => open_bad W _ t slow (Ht.out.mono g) hc
    simp only [hC] at h48
    have hc0 : ¬ (C : Int) = 0 := by omega
    have HC := Lib.hid hC
    clear hc hC
    go_enter Try.func17, Try.ntmps17
    go_wp2_with (go_at_call 99; fail)
    refine (h48 _ (by (repeat (first | exact World.grows.refl _ | assumption | refine World.grows.alloc ?_ _ | refine World.grows.plus ?_ _ _ | refine World.grows.drew ?_)))).mono ?_
    rintro e W ⟨rfl, g⟩
    have gW : w.grows W := World.grows.trans (by (repeat (first | exact World.grows.refl _ | assumption | refine World.grows.alloc ?_ _ | refine World.grows.plus ?_ _ _ | refine World.grows.drew ?_))) g
    clear h48 g
    go_wp2
    (refine bodyPost_ret (v := .tuple #[.int .i64 0, .int .i64 (C : Int)]) (by simp [results, Try.results17, go_sem]) rfl ?_)
    exact ⟨by rw [HR.out.1, HR.out.2, HC.out], gW.trans (by (repeat (first | exact World.grows.refl _ | assumption | refine World.grows.alloc ?_ _ | refine World.grows.plus ?_ _ _ | refine World.grows.drew ?_)))⟩
set_option maxHeartbeats 2000000 in
theorem rway_c (w : World) (tv : Value) (t : Town) (slow : Bool) (ht : TownAt w tv t) (a b : Int) : Calls Try.prog 18 #[tv, .int .i64 a, .int .i64 b, .bool slow] w fun e w' => e = .returned (.tuple #[.int .i64 (wayM t slow a b), .int .i64 (wayE t slow a b : Int)]) ∧ w.grows w' := by
  have Ht := Lib.hid ht
  obtain ⟨sv, vv, rfl, ⟨sa, sc, rfl, -⟩, ⟨va, vc, rfl, -⟩⟩ := ht
  have h20 := fun W (g : w.grows W) => rcheck_c W _ t (Ht.out.mono g)
  by_cases hc : t.check = 0
  · have hok := t.ok_iff.1 hc
    have Hok := Lib.hid hok
    have Hc := Lib.hid hc
    have hp1 := hok.p1
    have hp8 := hok.p8
    simp only [hc] at h20
    have h50 := fun W (g : w.grows W) x => rplace_c W _ t (Ht.out.mono g) x
    have h51 := fun W (g : w.grows W) => rways_c W _ t slow (Ht.out.mono g) Hok.out
    clear hok hc
    go_enter Try.func18, Try.ntmps18
    go_wp2_with (go_at_call 99; fail)
    refine (h20 _ (by (repeat (first | exact World.grows.refl _ | assumption | refine World.grows.alloc ?_ _ | refine World.grows.plus ?_ _ _ | refine World.grows.drew ?_)))).mono ?_
    rintro e W ⟨rfl, g⟩
    obtain ⟨n2, x2, rfl⟩ := World.plus_of g
    clear h20
    go_wp2_with (go_at_call 99; fail)
    refine (h50 _ (by (repeat (first | exact World.grows.refl _ | assumption | refine World.grows.alloc ?_ _ | refine World.grows.plus ?_ _ _ | refine World.grows.drew ?_))) _).mono ?_
    rintro e W ⟨rfl, g⟩
    obtain ⟨n3, x3, rfl⟩ := World.plus_of g
    cases p1 : t.isPlace a with
    | false =>
      have HR := Lib.hid (wayE_arg (slow := slow) (b := b) Hc.out (show (t.isPlace a && t.isPlace b) = false by rw [p1]; rfl))
      clear p1 h50 h51
      go_wp2
      (refine bodyPost_ret (v := .tuple #[.int .i64 0, .int .i64 2]) (by simp [results, Try.results18, go_sem]) rfl ?_)
      exact ⟨by rw [HR.out.1, HR.out.2]; rfl, by (repeat (first | exact World.grows.refl _ | assumption | refine World.grows.alloc ?_ _ | refine World.grows.plus ?_ _ _ | refine World.grows.drew ?_))⟩
    | true =>
      go_wp2_with (go_at_call 99; fail)
      refine (h50 _ (by (repeat (first | exact World.grows.refl _ | assumption | refine World.grows.alloc ?_ _ | refine World.grows.plus ?_ _ _ | refine World.grows.drew ?_))) _).mono ?_
      rintro e W ⟨rfl, g⟩
      obtain ⟨n4, x4, rfl⟩ := World.plus_of g
      cases p2 : t.isPlace b with
      | false =>
        have HR := Lib.hid (wayE_arg (slow := slow) (a := a) Hc.out (show (t.isPlace a && t.isPlace b) = false by rw [p1, p2]; rfl))
        clear p1 p2 h50 h51
        go_wp2
        (refine bodyPost_ret (v := .tuple #[.int .i64 0, .int .i64 2]) (by simp [results, Try.results18, go_sem]) rfl ?_)
        exact ⟨by rw [HR.out.1, HR.out.2]; rfl, by (repeat (first | exact World.grows.refl _ | assumption | refine World.grows.alloc ?_ _ | refine World.grows.plus ?_ _ _ | refine World.grows.drew ?_))⟩
      | true =>
        have hq : (t.isPlace a && t.isPlace b) = true := by rw [p1, p2]; rfl
        have Hq := Lib.hid hq
        simp only [Town.isPlace, Bool.and_eq_true, decide_eq_true_eq] at p1 p2
        obtain ⟨A, rfl⟩ : ∃ A : Nat, a = A := ⟨a.toNat, by omega⟩
        obtain ⟨B, rfl⟩ : ∃ B : Nat, b = B := ⟨b.toNat, by omega⟩
        have hA8 : A < 8 := by omega
        have hB8 : B < 8 := by omega
        clear hq p1 p2 h50
        go_wp2_with (go_at_call 99; fail)
        refine (h51 _ (by (repeat (first | exact World.grows.refl _ | assumption | refine World.grows.alloc ?_ _ | refine World.grows.plus ?_ _ _ | refine World.grows.drew ?_)))).mono ?_
        rintro e W ⟨p, rfl, g, hlt, hp⟩
        have gW : w.grows W := World.grows.trans (by (repeat (first | exact World.grows.refl _ | assumption | refine World.grows.alloc ?_ _ | refine World.grows.plus ?_ _ _ | refine World.grows.drew ?_))) g
        obtain ⟨A8, hA8e⟩ : ∃ x : Nat, 8 * A = x := ⟨_, rfl⟩
        obtain ⟨X, hX⟩ : ∃ x : Nat, A8 + B = x := ⟨_, rfl⟩
        have w1 : wrap64 (8 * (A : Int)) = A8 := by rw [wrap64_own' _ (by omega)]; omega
        have w2 : wrap64 ((A8 : Int) + B) = X := by rw [wrap64_own' _ (by omega)]; omega
        have w3 : IntKind.i64.wrap (8 * (A : Int)) = A8 := wrapI (by omega) (by omega)
        have w4 : IntKind.i64.wrap ((A8 : Int) + B) = X := wrapI (by omega) (by omega)
        have hX64 : (X : Int) < 64 := by omega
        have cX := rowI_cell hp (i := X) (by omega)
        rw [show X / 8 = A by omega, show X % 8 = B by omega] at cX
        by_cases hd : dist t slow A B < nev
        · have HR := Lib.hid (wayE_ok (slow := slow) Hc.out Hq.out (by simpa using hd))
          have hnev : nev = 1099511627776 := rfl
          obtain ⟨D, hD⟩ : ∃ D, dist t slow A B = D := ⟨_, rfl⟩
          rw [hD] at cX hd
          have hD2 : ¬ 1099511627776 ≤ D := by omega
          have HD := Lib.hid hD
          clear hD hd hnev hp g h51 hA8e hX
          go_wp2
          (refine bodyPost_ret (v := .tuple #[.int .i64 D, .int .i64 0]) (by simp [results, Try.results18, go_sem]) rfl ?_)
          exact ⟨by rw [HR.out.1, HR.out.2, Int.toNat_natCast, Int.toNat_natCast, HD.out]; rfl, gW.trans (by (repeat (first | exact World.grows.refl _ | assumption | refine World.grows.alloc ?_ _ | refine World.grows.plus ?_ _ _ | refine World.grows.drew ?_)))⟩
        · have HR := Lib.hid (wayE_none (slow := slow) Hc.out Hq.out (by simpa using hd))
          have hnev : nev = 1099511627776 := rfl
          obtain ⟨D, hD⟩ : ∃ D, dist t slow A B = D := ⟨_, rfl⟩
          rw [hD] at cX hd
          have hD2 : 1099511627776 ≤ D := by omega
          clear hD hd hnev hp g h51 hA8e hX
          go_wp2
          (refine bodyPost_ret (v := .tuple #[.int .i64 0, .int .i64 5]) (by simp [results, Try.results18, go_sem]) rfl ?_)
          exact ⟨by rw [HR.out.1, HR.out.2]; rfl, gW.trans (by (repeat (first | exact World.grows.refl _ | assumption | refine World.grows.alloc ?_ _ | refine World.grows.plus ?_ _ _ | refine World.grows.drew ?_)))⟩
  · have HR := Lib.hid (wayE_bad (slow := slow) (a := a) (b := b) hc)
    obtain ⟨C, hC⟩ : ∃ C : Nat, t.check = C := ⟨_, rfl⟩
    simp only [hC] at h20
    have hc0 : ¬ (C : Int) = 0 := by omega
    have HC := Lib.hid hC
    clear hc hC
    go_enter Try.func18, Try.ntmps18
    go_wp2_with (go_at_call 99; fail)
    refine (h20 _ (by (repeat (first | exact World.grows.refl _ | assumption | refine World.grows.alloc ?_ _ | refine World.grows.plus ?_ _ _ | refine World.grows.drew ?_)))).mono ?_
    rintro e W ⟨rfl, g⟩
    obtain ⟨n2, x2, rfl⟩ := World.plus_of g
    go_wp2_with (go_at_call 99; fail)
    refine (h20 _ (by (repeat (first | exact World.grows.refl _ | assumption | refine World.grows.alloc ?_ _ | refine World.grows.plus ?_ _ _ | refine World.grows.drew ?_)))).mono ?_
    rintro e W ⟨rfl, g⟩
    obtain ⟨n3, x3, rfl⟩ := World.plus_of g
    clear h20
    go_wp2
    (refine bodyPost_ret (v := .tuple #[.int .i64 0, .int .i64 (C : Int)]) (by simp [results, Try.results18, go_sem]) rfl ?_)
    exact ⟨by rw [HR.out.1, HR.out.2, HC.out], by (repeat (first | exact World.grows.refl _ | assumption | refine World.grows.alloc ?_ _ | refine World.grows.plus ?_ _ _ | refine World.grows.drew ?_))⟩
end Go.Proofs.Ytaanbdjmibjcbaa

/-
  What is proved: helpers of the statements of layer 11: 25 ints, 43 in, 26 full, 27 long.
-/
namespace Go.Proofs.Ytaanbdjmibjcbaa
open Go.RowKit
attribute [local irreducible] Go.wpCalm rowI
def eqL (f g : Nat → Int) (n : Nat) : Bool := decide (∀ i, i < n → f i = g i)
theorem eqL_yes {f g : Nat → Int} {n : Nat} (h : ∀ i, i < n → f i = g i) : eqL f g n = true := decide_eq_true h
theorem eqL_no {f g : Nat → Int} {n k : Nat} (hk : k < n) (h : f k ≠ g k) : eqL f g n = false := decide_eq_false fun h2 => h (h2 k hk)
set_option maxHeartbeats 1000000 in
theorem ints_c (w : World) (av bv : Value) (n m : Nat) (f g : Nat → Int) (ha : IntsAt w av n f) (hb : IntsAt w bv m g) :
    Calls Try.prog 25 #[av, bv] w fun e w' => e = .returned (.bool (decide (n = m) && eqL f g n)) ∧ w.grows w' := by
  obtain ⟨aa, ac, rfl, a1, a2, ha⟩ := ha
  obtain ⟨ba, bc, rfl, b1, b2, hb⟩ := hb
  unfold maxLen at a2 b2
  go_enter Try.func25, Try.ntmps25
  by_cases hn : n = m
  · subst hn
    go_wp2
    go_loopw [5] (fun i wr => ∃ k : Nat, k ≤ n ∧ i = .int .i64 k ∧ Hid (∀ j, j < k → f j = g j) ∧ w.grows wr) (fun i _ => n - (intOf i).toNat)
    case atStart => exact ⟨0, by omega, rfl, Lib.hid fun j hj => by omega, by (repeat (first | exact World.grows.refl _ | assumption | refine World.grows.alloc ?_ _ | refine World.grows.plus ?_ _ _ | refine World.grows.drew ?_))⟩
    case round =>
      obtain ⟨k, hk, rfl, hl, hg⟩ := hrel
      obtain ⟨n1, x1, rfl⟩ := World.plus_of hg
      by_cases hlt : k < n
      · obtain ⟨b, o, rfl, h0⟩ := ha k 0 hlt (by omega)
        obtain ⟨b', o', rfl, h1⟩ := hb k 0 hlt (by omega)
        simp only [Nat.mul_one, Nat.add_zero] at h0 h1
        by_cases he : f k = g k
        · have hnx := Lib.hid (upto_succ hl.out he)
          rw [he] at h0
          clear he
          go_wp2
          (refine wp_region_calm (by kernel_rfl) (by kernel_rfl) ?_; (repeat (refine wpCalm_step (fun K hK => ?_); go_simp; first | (refine hK _ ?_; clear hK K) | (apply Exists.intro; refine ⟨fun n' x' => ?_, hK _ ?_⟩; (fail); clear hK K))); refine wpCalm_nil ?_; intro nq xq)
          go_wp2
          go_roundw
          case rel => exact ⟨k + 1, by omega, by go_num, hnx, by (repeat (first | exact World.grows.refl _ | assumption | refine World.grows.alloc ?_ _ | refine World.grows.plus ?_ _ _ | refine World.grows.drew ?_))⟩
          case measure => simp [intOf]; omega
        · have hx := Lib.hid (eqL_no hlt he)
          have heb : (f k == g k) = false := beq_eq_false_iff_ne.2 he
          go_wp2
          (refine wp_region_calm (by kernel_rfl) (by kernel_rfl) ?_; (repeat (refine wpCalm_step (fun K hK => ?_); go_simp; first | (refine hK _ ?_; clear hK K) | (apply Exists.intro; refine ⟨fun n' x' => ?_, hK _ ?_⟩; (fail); clear hK K))); refine wpCalm_nil ?_; intro nq xq)
          go_wp2
          (refine bodyPost_ret (v := .bool false) (by simp [results, Try.results25, go_sem]) rfl ?_)
          exact ⟨by simp [hx.out], by (repeat (first | exact World.grows.refl _ | assumption | refine World.grows.alloc ?_ _ | refine World.grows.plus ?_ _ _ | refine World.grows.drew ?_))⟩
      · have hke : k = n := by omega
        subst hke
        have hx := Lib.hid (eqL_yes hl.out)
        go_wp2
        (refine bodyPost_ret (v := .bool true) (by simp [results, Try.results25, go_sem]) rfl ?_)
        exact ⟨by simp [hx.out], by (repeat (first | exact World.grows.refl _ | assumption | refine World.grows.alloc ?_ _ | refine World.grows.plus ?_ _ _ | refine World.grows.drew ?_))⟩
  · have hn' : ¬ (n : Int) = (m : Int) := by omega
    have hnb : ((n : Int) == (m : Int)) = false := beq_eq_false_iff_ne.2 hn'
    go_wp2
    (refine bodyPost_ret (v := .bool false) (by simp [results, Try.results25, go_sem]) rfl ?_)
    exact ⟨by simp [hn], by (repeat (first | exact World.grows.refl _ | assumption | refine World.grows.alloc ?_ _ | refine World.grows.plus ?_ _ _ | refine World.grows.drew ?_))⟩

set_option maxHeartbeats 1000000 in
theorem in_c (w : World) (av : Value) (n : Nat) (f : Nat → Int) (ha : IntsAt w av n f) (x : Int) :
    Calls Try.prog 43 #[av, .int .i64 x] w fun e w' => e = .returned (.bool ((List.range n).any fun i => decide (f i = x))) ∧ w.grows w' := by
  obtain ⟨aa, ac, rfl, a1, a2, ha⟩ := ha
  unfold maxLen at a2
  go_enter Try.func43, Try.ntmps43
  go_wp2
  go_loopw [5] (fun i wr => ∃ k : Nat, k ≤ n ∧ i = .int .i64 k ∧ Hid (∀ j, j < k → decide (f j = x) = false) ∧ w.grows wr) (fun i _ => n - (intOf i).toNat)
  case atStart => exact ⟨0, by omega, rfl, Lib.hid fun j hj => by omega, by (repeat (first | exact World.grows.refl _ | assumption | refine World.grows.alloc ?_ _ | refine World.grows.plus ?_ _ _ | refine World.grows.drew ?_))⟩
  case round =>
    obtain ⟨k, hk, rfl, hl, hg⟩ := hrel
    obtain ⟨n1, x1, rfl⟩ := World.plus_of hg
    by_cases hlt : k < n
    · obtain ⟨b, o, rfl, h0⟩ := ha k 0 hlt (by omega)
      simp only [Nat.mul_one, Nat.add_zero] at h0
      by_cases he : f k = x
      · have hx := Lib.hid (any_true_of (q := fun i => decide (f i = x)) hlt (by simp [he]))
        rw [he] at h0
        clear he
        go_wp2
        (refine bodyPost_ret (v := .bool true) (by simp [results, Try.results43, go_sem]) rfl ?_)
        exact ⟨by rw [hx.out], by (repeat (first | exact World.grows.refl _ | assumption | refine World.grows.alloc ?_ _ | refine World.grows.plus ?_ _ _ | refine World.grows.drew ?_))⟩
      · have hnx := Lib.hid (upto_succ hl.out (decide_eq_false he))
        have heb : (f k == x) = false := beq_eq_false_iff_ne.2 he
        go_wp2
        go_roundw
        case rel => exact ⟨k + 1, by omega, by go_num, hnx, by (repeat (first | exact World.grows.refl _ | assumption | refine World.grows.alloc ?_ _ | refine World.grows.plus ?_ _ _ | refine World.grows.drew ?_))⟩
        case measure => simp [intOf]; omega
    · have hke : k = n := by omega
      have hx := Lib.hid (any_false_of (n := k) hl.out)
      subst hke
      go_wp2
      (refine bodyPost_ret (v := .bool false) (by simp [results, Try.results43, go_sem]) rfl ?_)
      exact ⟨by rw [hx.out], by (repeat (first | exact World.grows.refl _ | assumption | refine World.grows.alloc ?_ _ | refine World.grows.plus ?_ _ _ | refine World.grows.drew ?_))⟩


/-- a valid town of more than eight visits -/
def Town.full (t : Town) : Bool := decide (t.check = 0) && decide (8 < t.nv)
set_option maxHeartbeats 1000000 in
theorem full_c (w : World) (tv : Value) (t : Town) (ht : TownAt w tv t) : Calls Try.prog 26 #[tv] w fun e w' => e = .returned (.bool t.full) ∧ w.grows w' := by
  have Ht := Lib.hid ht
  obtain ⟨sv, vv, rfl, ⟨sa, sc, rfl, -⟩, ⟨va, vc, rfl, v1, v2, -⟩⟩ := ht
  unfold maxLen at v2
  have h20 := fun W (g : w.grows W) => rcheck_c W _ t (Ht.out.mono g)
  have HF : Hid (t.full = (decide (t.check = 0) && decide (8 < t.nv))) := Lib.hid rfl
  obtain ⟨C, hC⟩ : ∃ C : Nat, t.check = C := ⟨_, rfl⟩
  rw [hC] at HF
  simp only [hC] at h20
  clear hC
  go_enter Try.func26, Try.ntmps26
  go_wp2_with (go_at_call 99; fail)
  refine (h20 _ (by (repeat (first | exact World.grows.refl _ | assumption | refine World.grows.alloc ?_ _ | refine World.grows.plus ?_ _ _ | refine World.grows.drew ?_)))).mono ?_
  rintro e W ⟨rfl, g⟩
  obtain ⟨n2, x2, rfl⟩ := World.plus_of g
  clear h20
  by_cases hc0 : C = 0
  · subst hc0
    by_cases h8 : 8 < t.nv
    · have h8I : (8 : Int) < t.nv := by omega
      go_wp2
      (refine bodyPost_ret (v := .bool true) (by simp [results, Try.results26, go_sem]) rfl ?_)
      exact ⟨by rw [HF.out, decide_eq_true h8]; rfl, by (repeat (first | exact World.grows.refl _ | assumption | refine World.grows.alloc ?_ _ | refine World.grows.plus ?_ _ _ | refine World.grows.drew ?_))⟩
    · have h8I : ¬ (8 : Int) < t.nv := by omega
      go_wp2
      refine bodyPost_ret (v := .bool false) (by simp [results, Try.results26, go_sem]; omega) rfl ?_
      exact ⟨by rw [HF.out, decide_eq_false h8]; rfl, by (repeat (first | exact World.grows.refl _ | assumption | refine World.grows.alloc ?_ _ | refine World.grows.plus ?_ _ _ | refine World.grows.drew ?_))⟩
  · have hcI : ¬ (C : Int) = 0 := by omega
    go_wp2
    (refine bodyPost_ret (v := .bool false) (by simp [results, Try.results26, go_sem]) rfl ?_)
    exact ⟨by rw [HF.out, decide_eq_false hc0]; rfl, by (repeat (first | exact World.grows.refl _ | assumption | refine World.grows.alloc ?_ _ | refine World.grows.plus ?_ _ _ | refine World.grows.drew ?_))⟩
/-- a plan of too many carts, or visits of one -/
def longP (P : List (List Int)) : Bool := decide (30 < P.length) || P.any fun c => decide (30 < c.length)
set_option maxRecDepth 100000 in
set_option maxHeartbeats 1000000 in
theorem long_c (w : World) (pv : Value) (P : List (List Int)) (hp : PlanAt w pv P) : Calls Try.prog 27 #[pv] w fun e w' => e = .returned (.bool (longP P)) ∧ w.grows w' := by
  obtain ⟨row, ⟨pa, pc, rfl, p1, p2, hr⟩, hrow⟩ := hp
  unfold maxLen at p2
  have HR := Lib.hid hr
  have HRow := Lib.hid hrow
  have HL : Hid (longP P = (decide (30 < P.length) || (List.range P.length).any fun i => decide (30 < (P.getD i []).length))) := Lib.hid (by rw [any_getDL (q := fun c => decide (30 < c.length))]; rfl)
  obtain ⟨m, hm⟩ : ∃ m, P.length = m := ⟨_, rfl⟩
  rw [hm] at HR HRow HL p1 ⊢
  clear hr hrow hm
  go_enter Try.func27, Try.ntmps27
  by_cases h30 : 30 < m
  · have h30I : (30 : Int) < m := by omega
    go_wp2
    (refine bodyPost_ret (v := .bool true) (by simp [results, Try.results27, go_sem]) rfl ?_)
    exact ⟨by rw [HL.out, decide_eq_true h30]; rfl, by (repeat (first | exact World.grows.refl _ | assumption | refine World.grows.alloc ?_ _ | refine World.grows.plus ?_ _ _ | refine World.grows.drew ?_))⟩
  have h30I : ¬ (30 : Int) < m := by omega
  have h30d : decide (30 < m) = false := decide_eq_false h30
  go_wp2
  go_loopw [3] (fun i wr => ∃ k : Nat, k ≤ m ∧ i = .int .i64 k ∧ Hid (w.grows wr) ∧ Hid (∀ j, j < k → decide (30 < (P.getD j []).length) = false)) (fun i _ => m - (intOf i).toNat)
  case atStart => exact ⟨0, by omega, rfl, Lib.hid (World.grows.refl _), Lib.hid fun j hj => by omega⟩
  case round =>
    obtain ⟨k, hk, rfl, hg, hall⟩ := hrel
    by_cases hlt : k < m
    · obtain ⟨b, o, rfl, h0⟩ := HR.out k 0 hlt (by omega)
      simp only [Nat.mul_one, Nat.add_zero] at h0
      obtain ⟨a1, cap1, hre, hc1, hc2, -⟩ := HRow.out k hlt
      rw [hre] at h0
      replace h0 := hg.out.cell_of h0
      have hkI : (k : Int) < m := by omega
      obtain ⟨L, hL⟩ : ∃ L, (P.getD k []).length = L := ⟨_, rfl⟩
      rw [hL] at h0
      have HLe := Lib.hid hL
      clear hre hL hc1
      by_cases hL30 : 30 < L
      · have hLI : (30 : Int) < L := by omega
        have HT : Hid (longP P = true) := Lib.hid (by
          rw [HL.out, any_true_of hlt (by rw [HLe.out]; exact decide_eq_true hL30), Bool.or_true])
        go_wp2
        (refine bodyPost_ret (v := .bool true) (by simp [results, Try.results27, go_sem]) rfl ?_)
        exact ⟨by rw [HT.out], hg.out.trans (by (repeat (first | exact World.grows.refl _ | assumption | refine World.grows.alloc ?_ _ | refine World.grows.plus ?_ _ _ | refine World.grows.drew ?_)))⟩
      · have hLI : ¬ (30 : Int) < L := by omega
        have HA : Hid (∀ j, j < k + 1 → decide (30 < (P.getD j []).length) = false) := Lib.hid (upto_succ hall.out (by rw [HLe.out]; exact decide_eq_false hL30))
        go_wp2
        exact ⟨⟨k + 1, by omega, by go_num, hg, HA⟩, by simp [intOf]; omega⟩
    · have hke : k = m := by omega
      subst hke
      have HT : Hid (longP P = false) := Lib.hid (by rw [HL.out, any_false_of hall.out, decide_eq_false h30]; rfl)
      go_wp2
      (refine bodyPost_ret (v := .bool false) (by simp [results, Try.results27, go_sem]) rfl ?_)
      exact ⟨by rw [HT.out], hg.out.trans (by (repeat (first | exact World.grows.refl _ | assumption | refine World.grows.alloc ?_ _ | refine World.grows.plus ?_ _ _ | refine World.grows.drew ?_)))⟩
end Go.Proofs.Ytaanbdjmibjcbaa

/-
  What is proved: whether a plan has a pair, one right after the other (45).
-/
namespace Go.Proofs.Ytaanbdjmibjcbaa
open Go.RowKit
attribute [local irreducible] Go.wpCalm rowI
def pairA (c : List Int) (a b : Int) (x : Nat) : Bool := decide (c.getD x 0 = a) && decide (c.getD (x + 1) 0 = b)
def joinC (a b : Int) (c : List Int) : Bool := (List.range (c.length - 1)).any (pairA c a b)
def joinsB (P : List (List Int)) (a b : Int) : Bool := P.any (joinC a b)
set_option maxRecDepth 100000 in
set_option maxHeartbeats 2000000 in
theorem joins_c (w : World) (pv : Value) (P : List (List Int)) (a b : Int) (hp : PlanAt w pv P) (hne : ∀ i, i < P.length → 0 < (P.getD i []).length) : Calls Try.prog 45 #[pv, .int .i64 a, .int .i64 b] w fun e w' => e = .returned (.bool (joinsB P a b)) ∧ w.grows w' := by
  have HP := Lib.hid hp
  obtain ⟨_, ⟨pa, pc, rfl, p1, p2, -⟩, -⟩ := hp
  unfold maxLen at p2
  have HC := Lib.hid fun k (hk : k < P.length) => plan_cell HP.out hk (hne k hk)
  have HL : Hid (joinsB P a b = (List.range P.length).any fun i => joinC a b (P.getD i [])) := Lib.hid (any_getDL (q := joinC a b) P).symm
  have HNe := Lib.hid hne
  obtain ⟨m, hm⟩ : ∃ m, P.length = m := ⟨_, rfl⟩
  rw [hm] at HC HL HNe p1 ⊢
  clear hm HP hne
  go_enter Try.func45, Try.ntmps45
  go_wp2
  go_loopw [7] (fun i wr => ∃ k : Nat, k ≤ m ∧ i = .int .i64 k ∧ Hid (w.grows wr) ∧ Hid (∀ j, j < k → joinC a b (P.getD j []) = false)) (fun i _ => m - (intOf i).toNat)
  case atStart => exact ⟨0, by omega, rfl, Lib.hid (World.grows.refl _), Lib.hid fun j hj => by omega⟩
  case round =>
    obtain ⟨k, hk, rfl, hg, hall⟩ := hrel
    by_cases hlt : k < m
    · obtain ⟨pb, o, rb, ro, rc, rfl, c0, r1, r2, hcl⟩ := HC.out k hlt
      have hn0 := HNe.out k hlt
      obtain ⟨c, hc⟩ : ∃ c, P.getD k [] = c := ⟨_, rfl⟩
      have HCe := Lib.hid hc
      rw [hc] at c0 r1 hcl hn0
      obtain ⟨L, hL⟩ : ∃ L, c.length = L := ⟨_, rfl⟩
      have HLe := Lib.hid hL
      rw [hL] at c0 r1 hcl hn0
      have HX := Lib.hid hcl
      have HC1 := Lib.hid c0
      have hkI : (k : Int) < m := by omega
      unfold maxLen at r2
      clear hc hL hcl c0
      go_wp2
      go_loopw [8] (fun i wr => ∃ l : Nat, l + 1 ≤ L ∧ i = .int .i64 (l + 1 : Nat) ∧ Hid (w.grows wr) ∧ Hid (∀ x, x < l → pairA c a b x = false)) (fun i _ => L - (intOf i).toNat)
      case atStart => exact ⟨0, by omega, rfl, hg, Lib.hid fun x hx => by omega⟩
      case round =>
        clear hg
        obtain ⟨l, hl, rfl, hg, hin⟩ := hrel
        have c0 := hg.out.cell_of HC1.out
        obtain ⟨l1, hl1⟩ : ∃ l1, l + 1 = l1 := ⟨_, rfl⟩
        have Hl1 := Lib.hid hl1
        by_cases hlL : l1 < L
        · have d0 := hg.out.cell_of (HX.out l (by omega))
          have d1 := hg.out.cell_of (HX.out l1 hlL)
          obtain ⟨x, hx⟩ : ∃ x, c.getD l 0 = x := ⟨_, rfl⟩
          obtain ⟨y, hy⟩ : ∃ y, c.getD l1 0 = y := ⟨_, rfl⟩
          have HQ : Hid (pairA c a b l = (decide (x = a) && decide (y = b))) := Lib.hid (by unfold pairA; rw [hl1, hx, hy])
          rw [hx] at d0
          rw [hy] at d1
          have hls : (l1 : Int) - 1 = (l : Nat) := by omega
          have hlw : IntKind.i64.wrap (l : Int) = (l : Int) := wrapI rfl (by omega)
          have hl1I : (l1 : Int) < L := by omega
          have hlI : (l : Int) < L := by omega
          rw [hl1]
          clear hx hy hl1
          have HT : Hid (pairA c a b l = true → joinsB P a b = true) := Lib.hid fun h => by
            rw [HL.out]
            exact any_true_of hlt (by
              rw [HCe.out]
              unfold joinC
              exact any_true_of (i := l) (by rw [HLe.out]; have := Hl1.out; omega) h)
          have HA : Hid (pairA c a b l = false → ∀ x, x < l + 1 → pairA c a b x = false) := Lib.hid fun h => upto_succ hin.out h
          by_cases hxa : x = a
          · subst hxa
            by_cases hyb : y = b
            · subst hyb
              have HT2 : Hid (joinsB P x y = true) := Lib.hid (HT.out (by rw [HQ.out]; simp))
              go_wp2
              (refine bodyPost_ret (v := .bool true) (by simp [results, Try.results45, go_sem]) rfl ?_)
              exact ⟨by rw [HT2.out], hg.out.trans (by (repeat (first | exact World.grows.refl _ | assumption | refine World.grows.alloc ?_ _ | refine World.grows.plus ?_ _ _ | refine World.grows.drew ?_)))⟩
            · have HA2 := Lib.hid (HA.out (by rw [HQ.out, decide_eq_false hyb, Bool.and_false]))
              go_wp2
              exact ⟨⟨l + 1, by have := Hl1.out; omega, by have := Hl1.out; go_num, Lib.hid (hg.out.trans (by (repeat (first | exact World.grows.refl _ | assumption | refine World.grows.alloc ?_ _ | refine World.grows.plus ?_ _ _ | refine World.grows.drew ?_)))), HA2⟩, by simp [intOf]; omega⟩
          · have HA2 := Lib.hid (HA.out (by rw [HQ.out, decide_eq_false hxa, Bool.false_and]))
            go_wp2
            exact ⟨⟨l + 1, by have := Hl1.out; omega, by have := Hl1.out; go_num, Lib.hid (hg.out.trans (by (repeat (first | exact World.grows.refl _ | assumption | refine World.grows.alloc ?_ _ | refine World.grows.plus ?_ _ _ | refine World.grows.drew ?_)))), HA2⟩, by simp [intOf]; omega⟩
        · have HA : Hid (∀ x, x < k + 1 → joinC a b (P.getD x []) = false) := Lib.hid (upto_succ hall.out (by
            rw [HCe.out]
            unfold joinC
            exact any_false_of fun i hi => hin.out i (by rw [HLe.out] at hi; omega)))
          rw [hl1]
          clear hl1
          go_wp2
          exact ⟨⟨k + 1, by omega, by go_num, hg, HA⟩, by simp [intOf]; omega⟩
    · have hke : k = m := by omega
      subst hke
      have HT : Hid (joinsB P a b = false) := Lib.hid (by rw [HL.out, any_false_of hall.out])
      go_wp2
      (refine bodyPost_ret (v := .bool false) (by simp [results, Try.results45, go_sem]) rfl ?_)
      exact ⟨by rw [HT.out], hg.out.trans (by (repeat (first | exact World.grows.refl _ | assumption | refine World.grows.alloc ?_ _ | refine World.grows.plus ?_ _ _ | refine World.grows.drew ?_)))⟩
end Go.Proofs.Ytaanbdjmibjcbaa

/-
  What is proved: the examples' street (82) and visit (46).
-/
namespace Go.Proofs.Ytaanbdjmibjcbaa
open Go.RowKit
attribute [local irreducible] Go.wpCalm rowI
set_option maxHeartbeats 1000000 in
theorem visit_c (w : World) (a b c : Int) : Calls Try.prog 46 #[.int .i64 a, .int .i64 b, .int .i64 c] w fun e w' => e = .returned (.agg #[.int .i64 a, .int .i64 b, .int .i64 c]) ∧ w.grows w' := by
  go_enter Try.func46, Try.ntmps46
  go_wp2
  refine bodyPost_ret (v := .agg #[.int .i64 a, .int .i64 b, .int .i64 c]) (by simp [results, Try.results46, go_sem]) rfl ?_
  exact ⟨rfl, by (repeat (first | exact World.grows.refl _ | assumption | refine World.grows.alloc ?_ _ | refine World.grows.plus ?_ _ _ | refine World.grows.drew ?_))⟩
set_option maxHeartbeats 1000000 in
theorem street_c (w : World) (a b c d : Int) : Calls Try.prog 82 #[.int .i64 a, .int .i64 b, .int .i64 c, .int .i64 d] w fun e w' => e = .returned (.agg #[.int .i64 a, .int .i64 b, .int .i64 c, .int .i64 d]) ∧ w.grows w' := by
  go_enter Try.func82, Try.ntmps82
  go_wp2
  refine bodyPost_ret (v := .agg #[.int .i64 a, .int .i64 b, .int .i64 c, .int .i64 d]) (by simp [results, Try.results82, go_sem]) rfl ?_
  exact ⟨rfl, by (repeat (first | exact World.grows.refl _ | assumption | refine World.grows.alloc ?_ _ | refine World.grows.plus ?_ _ _ | refine World.grows.drew ?_))⟩
/-- the examples' town -/
def exT : Town where
  pl := 3
  ns := 2
  sa := fun i => if i = 0 then 0 else 1
  sb := fun i => if i = 0 then 1 else 2
  slo := fun i => if i = 0 then 10 else 5
  shi := fun i => if i = 0 then 20 else 30
  nv := 5
  vp := fun i => if i = 0 then 1 else if i = 1 then 2 else if i = 2 then 1 else if i = 3 then 0 else 2
  vf := fun i => if i = 0 then 20 else if i = 1 then 50 else if i = 2 then 80 else if i = 3 then 25 else 95
  vb := fun i => if i = 0 then 30 else if i = 1 then 55 else if i = 2 then 90 else if i = 3 then 45 else 99
set_option maxHeartbeats 2000000 in
theorem town_c (w : World) : Calls Try.prog 47 #[] w fun e w' => ∃ v, e = .returned v ∧ TownAt w' v exT ∧ w.grows w' := by
  go_enter Try.func47, Try.ntmps47
  go_wp2_with (go_at_call 99; fail)
  refine (street_c _ _ _ _ _).mono ?_
  rintro e W1 ⟨rfl, g1⟩
  have B := g1.heap_of (World.heap_at _ _ _ rfl)
  have G := World.grows.trans (show w.grows _ by (repeat (first | exact World.grows.refl _ | assumption | refine World.grows.alloc ?_ _ | refine World.grows.plus ?_ _ _ | refine World.grows.drew ?_))) g1
  clear g1
  go_wp2_with (go_at_call 99; fail)
  refine (street_c _ _ _ _ _).mono ?_
  rintro e W2 ⟨rfl, g2⟩
  replace B := g2.heap_of B
  replace G := G.trans g2
  have hlt2 := World.lt_of_block B
  clear g2
  go_wp2_with (go_at_call 99; fail)
  refine (visit_c _ _ _ _).mono ?_
  rintro e W3 ⟨rfl, g3⟩
  have S := g3.heap_of (World.heap_at _ _ _ rfl)
  replace B := g3.heap_of (World.grows.heap_of (by (repeat (first | exact World.grows.refl _ | assumption | refine World.grows.alloc ?_ _ | refine World.grows.plus ?_ _ _ | refine World.grows.drew ?_))) B)
  replace G := G.trans (World.grows.trans (by (repeat (first | exact World.grows.refl _ | assumption | refine World.grows.alloc ?_ _ | refine World.grows.plus ?_ _ _ | refine World.grows.drew ?_))) g3)
  have hsz := (World.lt_of_block B)
  obtain ⟨sb, hsb⟩ : ∃ sb, W2.heap.size = sb := ⟨_, rfl⟩
  rw [hsb] at S hlt2 ⊢
  clear g3 hsb
  go_wp2_with (go_at_call 99; fail)
  refine (visit_c _ _ _ _).mono ?_
  rintro e W4 ⟨rfl, g4⟩
  go_wp2_with (go_at_call 99; fail)
  refine (visit_c _ _ _ _).mono ?_
  rintro e W5 ⟨rfl, g5⟩
  go_wp2_with (go_at_call 99; fail)
  refine (visit_c _ _ _ _).mono ?_
  rintro e W6 ⟨rfl, g6⟩
  go_wp2_with (go_at_call 99; fail)
  refine (visit_c _ _ _ _).mono ?_
  rintro e W7 ⟨rfl, g7⟩
  have g := ((g4.trans g5).trans g6).trans g7
  replace B := g.heap_of B
  replace S := g.heap_of S
  replace G := G.trans g
  clear g4 g5 g6 g7 g hsz
  have c0 := cell_of_heap (i := 0) B rfl
  have c1 := cell_of_heap (i := 1) B rfl
  have c2 := cell_of_heap (i := 2) B rfl
  have f0 := frozen_of_heap B 0
  have f1 := frozen_of_heap B 1
  have f2 := frozen_of_heap B 2
  have hb7 := World.lt_of_block B
  go_wp2
  have E := store_of_heap (store_of_heap (store_of_heap B 0 (.int .i64 3)) 1 (.slice (some ⟨sb, 0, none⟩) 2 2)) 2 (.slice (some ⟨W7.heap.size, 0, none⟩) 5 5)
  have S2 : (((W7.setCell ⟨w.heap.size, 0, none⟩ (.int .i64 3)).setCell ⟨w.heap.size, 1, none⟩ (.slice (some ⟨sb, 0, none⟩) 2 2)).setCell ⟨w.heap.size, 2, none⟩ (.slice (some ⟨W7.heap.size, 0, none⟩) 5 5)).heap[sb]? = some (.cells #[.int .i64 0, .int .i64 1, .int .i64 10, .int .i64 20, .int .i64 1, .int .i64 2, .int .i64 5, .int .i64 30] 62) := by
    rw [World.heap_setCell_map _ _ _ _ (show w.heap.size ≠ sb by omega), World.heap_setCell_map _ _ _ _ (show w.heap.size ≠ sb by omega), World.heap_setCell_map _ _ _ _ (show w.heap.size ≠ sb by omega)]
    exact S
  have GU := ((G.setCell (p := ⟨w.heap.size, 0, none⟩) (Nat.le_refl _) (.int .i64 3)).setCell (p := ⟨w.heap.size, 1, none⟩) (Nat.le_refl _) (.slice (some ⟨sb, 0, none⟩) 2 2)).setCell (p := ⟨w.heap.size, 2, none⟩) (Nat.le_refl _) (.slice (some ⟨W7.heap.size, 0, none⟩) 5 5)
  have hUs : W7.heap.size = (((W7.setCell ⟨w.heap.size, 0, none⟩ (.int .i64 3)).setCell ⟨w.heap.size, 1, none⟩ (.slice (some ⟨sb, 0, none⟩) 2 2)).setCell ⟨w.heap.size, 2, none⟩ (.slice (some ⟨W7.heap.size, 0, none⟩) 5 5)).heap.size := by simp
  obtain ⟨tb, htb⟩ : ∃ tb, W7.heap.size = tb := ⟨_, rfl⟩
  rw [htb] at E S2 GU hUs ⊢
  generalize World.setCell _ _ _ = U at E S2 GU hUs ⊢
  have gU : U.grows (U.alloc (.cells #[.int .i64 1, .int .i64 20, .int .i64 30, .int .i64 2, .int .i64 50, .int .i64 55, .int .i64 1, .int .i64 80, .int .i64 90, .int .i64 0, .int .i64 25, .int .i64 45, .int .i64 2, .int .i64 95, .int .i64 99] 71)) := by (repeat (first | exact World.grows.refl _ | assumption | refine World.grows.alloc ?_ _ | refine World.grows.plus ?_ _ _ | refine World.grows.drew ?_))
  have T := World.heap_at U (.cells #[.int .i64 1, .int .i64 20, .int .i64 30, .int .i64 2, .int .i64 50, .int .i64 55, .int .i64 1, .int .i64 80, .int .i64 90, .int .i64 0, .int .i64 25, .int .i64 45, .int .i64 2, .int .i64 95, .int .i64 99] 71) tb hUs
  replace E := gU.heap_of E
  replace S2 := gU.heap_of S2
  replace GU := GU.trans gU
  generalize World.alloc _ _ = F at E S2 GU T ⊢
  have e0 := cell_of_heap (v := .int .i64 3) (i := 0) E rfl
  have e1 := cell_of_heap (v := .slice (some ⟨sb, 0, none⟩) 2 2) (i := 1) E rfl
  have e2 := cell_of_heap (v := .slice (some ⟨tb, 0, none⟩) 5 5) (i := 2) E rfl
  refine bodyPost_ret (v := .agg #[.int .i64 3, .slice (some ⟨sb, 0, none⟩) 2 2, .slice (some ⟨tb, 0, none⟩) 5 5]) (by simp [results, Try.results47, go_sem, e0, e1, e2]) rfl ?_
  refine ⟨_, rfl, ⟨_, _, rfl, ⟨_, _, rfl, Nat.le_refl _, by unfold maxLen; omega, fun i j hi hj => ⟨_, _, rfl, ?_⟩⟩, ⟨_, _, rfl, Nat.le_refl _, by unfold maxLen; omega, fun i j hi hj => ⟨_, _, rfl, ?_⟩⟩⟩, GU⟩
  · have hi : i < 2 := hi
    refine cell_of_heap S2 ?_
    rcases (by omega : i = 0 ∨ i = 1) with rfl | rfl <;> rcases (by omega : j = 0 ∨ j = 1 ∨ j = 2 ∨ j = 3) with rfl | rfl | rfl | rfl <;> rfl
  · have hi : i < 5 := hi
    refine cell_of_heap T ?_
    rcases (by omega : i = 0 ∨ i = 1 ∨ i = 2 ∨ i = 3 ∨ i = 4) with rfl | rfl | rfl | rfl | rfl <;> rcases (by omega : j = 0 ∨ j = 1 ∨ j = 2) with rfl | rfl | rfl <;> rfl
end Go.Proofs.Ytaanbdjmibjcbaa

/-
  What is proved: whether the carts of a plan are in order, in the definition (33).
-/
namespace Go.Proofs.Ytaanbdjmibjcbaa
open Go.RowKit
attribute [local irreducible] Go.wpCalm rowI
/-- the least of the first number and the first k -/
def lowK (c : List Int) : Nat → Int
  | 0 => c.getD 0 0
  | k + 1 => min (lowK c k) (c.getD k 0)
theorem min_if2 (a b : Int) : (if b < a then b else a) = min a b := by rw [Int.min_def]; split <;> split <;> omega
def low (c : List Int) : Int := lowK c c.length
def lastK (P : List (List Int)) : Nat → Int
  | 0 => -1
  | k + 1 => low (P.getD k [])
def ordB (P : List (List Int)) : Bool := decide (∀ j, j < P.length → lastK P j < low (P.getD j []))
def Small (P : List (List Int)) : Prop := ∀ i j, i < P.length → j < (P.getD i []).length → -9223372036854775808 ≤ (P.getD i []).getD j 0 ∧ (P.getD i []).getD j 0 ≤ 9223372036854775807
set_option maxRecDepth 100000 in
set_option maxHeartbeats 4000000 in
theorem rord_c (w : World) (pv : Value) (P : List (List Int)) (hp : PlanAt w pv P) (hne : ∀ i, i < P.length → 0 < (P.getD i []).length) : Calls Try.prog 33 #[pv] w fun e w' => e = .returned (.bool (ordB P)) ∧ w.grows w' := by
  obtain ⟨row, ⟨pa, pc, rfl, p1, p2, hr⟩, hrow⟩ := hp
  unfold maxLen at p2
  have HR := Lib.hid hr
  have HRow := Lib.hid hrow
  have HNe := Lib.hid hne
  have HO : Hid (ordB P = decide (∀ j, j < P.length → lastK P j < low (P.getD j []))) := Lib.hid rfl
  obtain ⟨m, hm⟩ : ∃ m, P.length = m := ⟨_, rfl⟩
  rw [hm] at HR HRow HNe HO p1 ⊢
  clear hr hrow hne hm
  go_enter Try.func33, Try.ntmps33
  go_wp2
  go_loopw [3, 4] (fun s i wr => ∃ k : Nat, k ≤ m ∧ i = .int .i64 k ∧ s = .int .i64 (lastK P k) ∧ Hid (w.grows wr) ∧ Hid (∀ j, j < k → lastK P j < low (P.getD j []))) (fun _ i _ => m - (intOf i).toNat)
  case atStart => exact ⟨0, by omega, rfl, rfl, Lib.hid (World.grows.refl _), Lib.hid fun j hj => by omega⟩
  case round =>
    obtain ⟨k, hk, rfl, rfl, hg, hall⟩ := hrel
    by_cases hlt : k < m
    · obtain ⟨b, o, rfl, h0⟩ := HR.out k 0 hlt (by omega)
      simp only [Nat.mul_one, Nat.add_zero] at h0
      have hrk := IntsAt.mono (HRow.out k hlt) hg.out
      have hn0 := HNe.out k hlt
      obtain ⟨c, hc⟩ : ∃ c, P.getD k [] = c := ⟨_, rfl⟩
      rw [hc] at hrk hn0
      have HC := Lib.hid hc
      obtain ⟨a1, cap1, hre, hc1, hc2, hcell⟩ := hrk
      obtain ⟨rb, ro, rfl, _⟩ := hcell 0 0 hn0 (by omega)
      rw [hre] at h0
      replace h0 := hg.out.cell_of h0
      unfold maxLen at hc2
      have HX : Hid (∀ j, j < c.length → wr.cell? ⟨rb, ro + j, none⟩ = some (.int .i64 (c.getD j 0))) := Lib.hid fun j hj => by
        obtain ⟨_, _, e, h⟩ := hcell j 0 hj (by omega)
        cases e
        simpa using h
      obtain ⟨L, hL⟩ : ∃ L, c.length = L := ⟨_, rfl⟩
      have HLow : Hid (low (P.getD k []) = lowK c L) := Lib.hid (by rw [hc]; unfold low; rw [hL])
      rw [hL] at HX hn0 hc1 h0
      have hL0 : (0 : Int) < L := by omega
      have hkI : (k : Int) < m := by omega
      obtain ⟨la, hla⟩ : ∃ la, lastK P k = la := ⟨_, rfl⟩
      rw [hla]
      have HLa := Lib.hid hla
      have d0 := HX.out 0 hn0
      rw [Nat.add_zero] at d0
      obtain ⟨x0, hx0⟩ : ∃ x0, c.getD 0 0 = x0 := ⟨_, rfl⟩
      rw [hx0] at d0
      have HX0 := Lib.hid hx0
      clear hc hre hL hcell hla hx0
      go_upto_region 7 with fail
      clear d0
      go_loopw [5, 6] (fun s i wr2 => ∃ j : Nat, j ≤ L ∧ i = .int .i64 j ∧ s = .int .i64 (lowK c j) ∧ Hid (wr.grows wr2)) (fun _ i _ => L - (intOf i).toNat)
      case atStart => exact ⟨0, by omega, rfl, by rw [← HX0.out]; rfl, Lib.hid (World.grows.refl _)⟩
      case round =>
        obtain ⟨j, hj, rfl, rfl, hg2⟩ := hrel
        replace h0 := hg2.out.cell_of h0
        by_cases hjL : j < L
        · have d1 := hg2.out.cell_of (HX.out j hjL)
          have hS : lowK c (j + 1) = min (lowK c j) (c.getD j 0) := rfl
          obtain ⟨x, hx⟩ : ∃ x, c.getD j 0 = x := ⟨_, rfl⟩
          obtain ⟨l0, hl0⟩ : ∃ l0, lowK c j = l0 := ⟨_, rfl⟩
          rw [hx] at d1 hS
          rw [hl0] at hS ⊢
          have HS := Lib.hid hS
          have hjI : (j : Int) < L := by omega
          clear hS hx hl0
          go_wp2
          exact ⟨⟨j + 1, by omega, by go_num, by rw [HS.out, min_if2], hg2⟩, by simp [intOf]; omega⟩
        · have hje : j = L := by omega
          subst hje
          obtain ⟨lo, hlo⟩ : ∃ lo, lowK c j = lo := ⟨_, rfl⟩
          rw [hlo] at HLow ⊢
          clear hlo
          by_cases hle : lo ≤ la
          · have HF : Hid (ordB P = false) := Lib.hid (by
              rw [HO.out, decide_eq_false]
              intro h
              have := h k hlt
              rw [HLow.out, HLa.out] at this
              omega)
            go_wp2
            (refine bodyPost_ret (v := .bool false) (by simp [results, Try.results33, go_sem]) rfl ?_)
            exact ⟨by rw [HF.out], hg.out.trans (hg2.out.trans (by (repeat (first | exact World.grows.refl _ | assumption | refine World.grows.alloc ?_ _ | refine World.grows.plus ?_ _ _ | refine World.grows.drew ?_))))⟩
          · have HA : Hid (∀ x, x < k + 1 → lastK P x < low (P.getD x [])) := Lib.hid (upto_succ hall.out (by rw [HLow.out, HLa.out]; omega))
            go_wp2
            case roundEnd => exact ⟨⟨k + 1, by omega, by go_num, by show Value.int IntKind.i64 lo = _; rw [← HLow.out]; rfl, Lib.hid (hg.out.trans hg2.out), HA⟩, by simp [intOf]; omega⟩
    · have hke : k = m := by omega
      subst hke
      go_wp2
      (refine bodyPost_ret (v := .bool true) (by simp [results, Try.results33, go_sem]) rfl ?_)
      exact ⟨by rw [HO.out, decide_eq_true hall.out], hg.out.trans (by (repeat (first | exact World.grows.refl _ | assumption | refine World.grows.alloc ?_ _ | refine World.grows.plus ?_ _ _ | refine World.grows.drew ?_)))⟩
end Go.Proofs.Ytaanbdjmibjcbaa

/-
  What is proved: plain: the order of the carts of a best plan.
-/
namespace Go.Proofs.Ytaanbdjmibjcbaa
open Go.RowKit
/-- a cart of visits as numbers -/
def cI (c : List Nat) : List Int := c.map fun v : Nat => (v : Int)
def pI (P : List (List Nat)) : List (List Int) := P.map cI
theorem cI_len (c : List Nat) : (cI c).length = c.length := by simp [cI]
theorem pI_len (P : List (List Nat)) : (pI P).length = P.length := by simp [pI]
theorem pI_get (P : List (List Nat)) {i : Nat} (h : i < P.length) : (pI P).getD i [] = cI (P.getD i []) := by simp [pI, h]
theorem cI_get (c : List Nat) {i : Nat} (h : i < c.length) : (cI c).getD i 0 = ((c.getD i 0 : Nat) : Int) := by simp [cI, h]
theorem getD_mem {α : Type} {l : List α} {i : Nat} {d : α} (h : i < l.length) : l.getD i d ∈ l := by
  rw [List.getD_eq_getElem?_getD, List.getElem?_eq_getElem h]
  exact List.getElem_mem h
theorem lowK_mem {c : List Int} (h : 0 < c.length) : ∀ k, k ≤ c.length → lowK c k ∈ c
  | 0, _ => getD_mem h
  | k + 1, hk => by
    unfold lowK
    rw [Int.min_def]
    split
    · exact lowK_mem h k (by omega)
    · exact getD_mem (by omega)
theorem low_mem {c : List Int} (h : 0 < c.length) : low c ∈ c := lowK_mem h _ (Nat.le_refl _)
theorem low_nat {c : List Nat} (h : c ≠ []) : ∃ v, v ∈ c ∧ low (cI c) = (v : Int) := by
  have h0 : 0 < (cI c).length := by rw [cI_len]; exact List.length_pos_iff.2 h
  obtain ⟨v, hv, e⟩ := List.mem_map.1 (low_mem h0)
  exact ⟨v, hv, e.symm⟩
theorem ord_of {A : Nat → Nat → Bool} {n : Nat} {Q : List (List Nat)} (hR : RightP A n Q) (hs : ∀ i j, i < j → j < Q.length → low (cI (Q.getD i [])) ≤ low (cI (Q.getD j []))) : ordB (pI Q) = true := by
  unfold ordB
  rw [decide_eq_true_eq]
  intro j hj
  rw [pI_len] at hj
  rw [pI_get _ hj]
  cases j with
  | zero =>
    obtain ⟨v, -, e⟩ := low_nat (hR.ne _ (getD_mem hj))
    rw [e]
    show (-1 : Int) < _
    omega
  | succ k =>
    show low ((pI Q).getD k []) < _
    rw [pI_get _ (by omega)]
    have h1 := hs k (k + 1) (by omega) hj
    obtain ⟨v, hv, e⟩ := low_nat (hR.ne _ (getD_mem hj))
    obtain ⟨u, hu, e'⟩ := low_nat (hR.ne _ (getD_mem (show k < Q.length by omega)))
    rw [e, e'] at h1 ⊢
    have hne : u ≠ v := fun he => by
      subst he
      have hp := (flat_nodup.1 hR.nodup).2
      rw [List.pairwise_iff_getElem] at hp
      refine hp k (k + 1) (by omega) hj (by omega) u ?_ ?_
      · rw [List.getD_eq_getElem?_getD, List.getElem?_eq_getElem (show k < Q.length by omega)] at hu; exact hu
      · rw [List.getD_eq_getElem?_getD, List.getElem?_eq_getElem hj] at hv; exact hv
    omega
/-- a cart so far -/
def Path (J : Jn) : List Nat → Prop
  | [] => False
  | [_] => True
  | a :: b :: r => J a = some b ∧ Path J (b :: r)
theorem Path.ne {J : Jn} : ∀ {c : List Nat}, Path J c → c ≠ []
  | [], h, _ => h
  | _ :: _, _, e => by cases e
theorem Path.snoc {J : Jn} {l k : Nat} (e : J l = some k) : ∀ {c : List Nat}, Path J c → c.getLast? = some l → Path J (c ++ [k])
  | [], h, _ => h.elim
  | [a], _, hl => by
    have : a = l := by simpa using hl
    subst this
    exact ⟨e, trivial⟩
  | a :: b :: r, h, hl => ⟨h.1, Path.snoc e h.2 (by rwa [List.getLast?_cons_cons] at hl)⟩
theorem Path.follows {J : Jn} {l : Nat} (e : J l = none) : ∀ {c : List Nat}, Path J c → c.getLast? = some l → Follows J c
  | [], h, _ => h.elim
  | [a], _, hl => by
    have : a = l := by simpa using hl
    subst this
    exact e
  | a :: b :: r, h, hl => ⟨h.1, Path.follows e h.2 (by rwa [List.getLast?_cons_cons] at hl)⟩
section
variable {A : Nat → Nat → Bool} {n : Nat} {ρ : Nat → Int} {J : Jn}
theorem Path.lt (hM : Mat A n J) : ∀ {c : List Nat}, Path J c → (∀ x, c.head? = some x → x < n) → ∀ v ∈ c, v < n
  | [], h, _, _, _ => h.elim
  | [a], _, hh, v, hv => by
    have : v = a := by simpa using hv
    subst this
    exact hh _ rfl
  | a :: b :: r, h, hh, v, hv => by
    rcases List.mem_cons.1 hv with rfl | hv
    · exact hh _ rfl
    · refine Path.lt hM h.2 (fun x hx => ?_) v hv
      have : b = x := by simpa using hx
      subst this
      exact (hM.lt _ _ h.1).2.1
theorem Path.up (hR : Rises A n ρ) (hM : Mat A n J) : ∀ {c : List Nat}, Path J c → c.Pairwise (fun a b => ρ a < ρ b)
  | [], h => h.elim
  | [_], _ => List.pairwise_singleton _ _
  | a :: b :: r, h => by
    have h1 := Path.up hR hM h.2
    obtain ⟨x, y, z⟩ := hM.lt _ _ h.1
    have h2 := hR.up _ _ x y z
    refine List.pairwise_cons.2 ⟨fun v hv => ?_, h1⟩
    rcases List.mem_cons.1 hv with rfl | hv
    · exact h2
    · have := (List.pairwise_cons.1 h1).1 v hv
      omega
theorem Path.len (hR : Rises A n ρ) (hM : Mat A n J) {c : List Nat} (h : Path J c) (hh : ∀ x, c.head? = some x → x < n) : c.length ≤ n := by
  have hnd : (cI c).Nodup := by
    unfold cI List.Nodup
    rw [List.pairwise_map]
    exact (h.up hR hM).imp fun h e => by
      have e : _ = _ := Int.ofNat_inj.1 e
      rw [e] at h
      omega
  obtain ⟨r, hr⟩ := perm_of_sub hnd (L := rangeI n) fun a ha => by
    obtain ⟨v, hv, rfl⟩ := List.mem_map.1 ha
    exact List.mem_map.2 ⟨v, List.mem_range.2 (h.lt hM hh v hv), rfl⟩
  have := hr.length_eq
  rw [List.length_append, cI_len] at this
  have e : (rangeI n).length = n := by simp [rangeI]
  omega
end
/-- what a best plan is -/
structure BestPl (t : Town) (slow : Bool) (Q : List (List Nat)) : Prop where
  right : RightP (aft t slow) t.nv Q
  size : Q.length = few t slow
  ord : ordB (pI Q) = true
theorem BestPl.mk' {t : Town} {slow : Bool} {Q : List (List Nat)} (h : t.Ok) (hR : RightP (aft t slow) t.nv Q) (hl : Q.length + mm (aft t slow) t.nv = t.nv) (ho : ordB (pI Q) = true) : BestPl t slow Q := ⟨hR, by unfold few; omega, ho⟩
end Go.Proofs.Ytaanbdjmibjcbaa

/-
  What is proved: slices.Min of a cart (76), and the closure of Best (75).
-/
namespace Go.Proofs.Ytaanbdjmibjcbaa
open Go.RowKit
attribute [local irreducible] Go.wpCalm rowI
set_option maxRecDepth 100000 in
set_option maxHeartbeats 2000000 in
theorem min_c (w : World) (v : Value) (c : List Int) (hv : RowAt w v c) (hne : 0 < c.length) : Calls Try.prog 76 #[v] w fun e w' => e = .returned (.int .i64 (low c)) ∧ w' = w := by
  obtain ⟨a, cap, rfl, h1, h2, hc⟩ := hv
  obtain ⟨rb, ro, rfl, _⟩ := hc 0 0 hne (by omega)
  unfold maxLen at h2
  have HX : Hid (∀ j, j < c.length → w.cell? ⟨rb, ro + j, none⟩ = some (.int .i64 (c.getD j 0))) := Lib.hid fun j hj => by
    obtain ⟨_, _, e, h⟩ := hc j 0 hj (by omega)
    cases e
    simpa using h
  obtain ⟨L, hL⟩ : ∃ L, c.length = L := ⟨_, rfl⟩
  have HLow : Hid (low c = lowK c L) := Lib.hid (by unfold low; rw [hL])
  rw [hL] at HX hne h1 ⊢
  have hL1 : ¬ (L : Int) < 1 := by omega
  have hL0 : (0 : Int) < L := by omega
  have d0 := HX.out 0 hne
  rw [Nat.add_zero] at d0
  have H1 : Hid (lowK c 1 = c.getD 0 0) := Lib.hid (by show min (c.getD 0 0) (c.getD 0 0) = _; exact Int.min_self _)
  obtain ⟨x0, hx0⟩ : ∃ x0, c.getD 0 0 = x0 := ⟨_, rfl⟩
  rw [hx0] at d0 H1
  clear hc hL hx0
  go_enter Try.func76, Try.ntmps76
  go_wp2
  clear d0
  go_loopw [3, 4] (fun s i wr => ∃ j : Nat, 1 ≤ j ∧ j ≤ L ∧ i = .int .i64 j ∧ s = .int .i64 (lowK c j) ∧ wr = w) (fun _ i _ => L - (intOf i).toNat)
  case atStart => exact ⟨1, by omega, by omega, rfl, by rw [H1.out], rfl⟩
  case round =>
    obtain ⟨j, hj1, hj, rfl, rfl, rfl⟩ := hrel
    by_cases hjL : j < L
    · have d1 := HX.out j hjL
      have hS : lowK c (j + 1) = min (lowK c j) (c.getD j 0) := rfl
      obtain ⟨x, hx⟩ : ∃ x, c.getD j 0 = x := ⟨_, rfl⟩
      obtain ⟨l0, hl0⟩ : ∃ l0, lowK c j = l0 := ⟨_, rfl⟩
      rw [hx] at d1 hS
      rw [hl0] at hS ⊢
      have HS := Lib.hid hS
      have hjI : (j : Int) < L := by omega
      clear hS hx hl0
      go_wp2
      exact ⟨⟨j + 1, by omega, by omega, by go_num, by rw [HS.out, min_if2], trivial⟩, by simp [intOf]; omega⟩
    · have hje : j = L := by omega
      subst hje
      go_wp2
      (refine bodyPost_ret (v := .int .i64 (lowK c j)) (by simp [results, Try.results76, go_sem]) rfl ?_)
      exact ⟨ret_int HLow.out.symm, rfl⟩
set_option maxRecDepth 100000 in
set_option maxHeartbeats 2000000 in
theorem cmp_c (w : World) (u v : Value) (c d : List Int) (hu : RowAt w u c) (hv : RowAt w v d) (hc : 0 < c.length) (hd : 0 < d.length) (hb : -1000000 ≤ low c ∧ low c ≤ 1000000 ∧ -1000000 ≤ low d ∧ low d ≤ 1000000) : Calls Try.prog 75 #[u, v] w fun e w' => e = .returned (.int .i64 (low c - low d)) ∧ w' = w := by
  have h1 := min_c w u c hu hc
  have h2 := min_c w v d hv hd
  generalize low c = x at h1 hb ⊢
  generalize low d = y at h2 hb ⊢
  clear hu hv
  have hw : IntKind.i64.wrap (x - y) = x - y := wrapI rfl (by omega)
  have hw2 : wrap64 (x - y) = x - y := by unfold wrap64; omega
  go_enter Try.func75, Try.ntmps75
  go_wp2_with (go_at_call 99; fail)
  refine h1.mono ?_
  rintro e W ⟨rfl, rfl⟩
  go_wp2_with (go_at_call 99; fail)
  refine h2.mono ?_
  rintro e W ⟨rfl, rfl⟩
  go_wp2
  (refine bodyPost_ret (v := .int .i64 (x - y)) (by simp [results, Try.results75, go_sem]) rfl ?_)
  exact ⟨rfl, rfl⟩
end Go.Proofs.Ytaanbdjmibjcbaa

/-
  What is proved: a law's row, from a contract that says that the call returns true in a world that has only grown.
-/
namespace Go
open Go.ChangeShapes Go.WideShapes Go.ChangeAt Go.RowKit

theorem trodAll_stays {H : Type} {enc : TypeId × Value → H} {P : Program} (hl : laidOutB P = true) {W W' : World} (hb : Below W.heap.size W W') :
    ∀ {ts : List TypeId} {vs : List Value} {ds : List (DataW H)} {ps : List MemPlace}, (∀ t ∈ ts, P.readableRec t = true ∧ t < P.types.size) →
      DataW.TrodAll enc P W 0 (fun _ => true) true ts vs ds ps → (∀ x ∈ ps, x.block < W.heap.size) → DataW.TrodAll enc P W' 0 (fun b => decide (b < W.heap.size)) true ts vs ds ps
  | [], vs, ds, ps, _, h, _ => by
    obtain ⟨rfl, rfl, rfl⟩ := trodAll_nil h
    rfl
  | t :: ts, vs, ds, ps, ht, h, hlt => by
    match vs, ds, h with
    | v :: vs, d :: ds, ⟨p, q, h1, h2, hp⟩ =>
      subst hp
      exact ⟨p, q, Below.trod hl (ht t (by simp)).1 (ht t (by simp)).2 h1 hb (fun x hx => hlt x (by simp [hx])),
        trodAll_stays hl hb (fun t' h' => ht t' (by simp [h'])) h2 (fun x hx => hlt x (by simp [hx])), rfl⟩

theorem trodAll_len {H : Type} {enc : TypeId × Value → H} {P : Program} {w : World} {base : Nat} {spare : Nat → Bool} {held : Bool} :
    ∀ {ts : List TypeId} {vs : List Value} {ds : List (DataW H)} {ps : List MemPlace}, DataW.TrodAll enc P w base spare held ts vs ds ps → ds.length = ts.length
  | [], vs, ds, ps, h => by
    obtain ⟨rfl, rfl, rfl⟩ := trodAll_nil h
    rfl
  | t :: ts, vs, ds, ps, h => by
    match vs, ds, h with
    | v :: vs, d :: ds, ⟨p, q, h1, h2, hp⟩ =>
      simp only [List.length_cons]
      rw [trodAll_len h2]

theorem law_lifted {C : Checked} {f : FuncId} {fn : Func} {s : ChangeSpec} {tb : TypeId} {conds : List PathCond} {os : Os} (started : os.Started) {H : Type} {enc : TypeId × Value → H}
    (own : ownKnob C.prog.godebug = none) (hl : laidOutB C.prog = true) (noInit : C.prog.inits.idxOf? f = none) (hfn : C.prog.funcs[f]? = some fn)
    (hts : ∀ t ∈ fn.params.toList, C.prog.readableRec t = true ∧ t < C.prog.types.size)
    (witness : ∃ (w : World) (tape : Tape) (i : Input), w.os = os ∧ (w.forCall tape i).Shaped C.prog ∧ i.vars = [] ∧ Input.okWide C.prog (w.forCall tape i) .any w.heap.size f i ∧
      s.pre6 enc C.prog fn conds false (w.forCall tape i).memory i.args ∧ ({} : Assume).holds C.prog (lone (Frame.enter C.prog f i.args .normal) [] (w.forCall tape i)))
    (hres : fn.resultTypes = #[tb]) (hb : C.prog.underlying tb = some .bool) (hvars : s.vars = [])
    (hspec : ∀ ds : List (DataW H), ds.length = fn.params.size → (s.fn H ds).results = [.lit (.bool true)] ∧ (s.fn H ds).args = ds ∧ (s.fn H ds).vars = [])
    (walk : ∀ (W : World) (base : Nat) (args : Array Value) (ds : List (DataW H)) (ps : List MemPlace),
      (∀ (j : Nat) t v, fn.params[j]? = some t → args[j]? = some v → Value.okWide C.prog W .any base t v) →
      DataW.TrodAll enc C.prog W 0 (fun _ => true) true fn.params.toList args.toList ds ps →
      Calls C.prog f args W fun e W' => e = .returned (.bool true) ∧ W.grows W') :
    ReturnsInHanded {} C os f .any (s.pre6 enc C.prog fn conds false) (s.post enc C.prog fn false true false false) := by
  refine returnsInHanded_of_change own started noInit hfn witness ?_
  intro W base args ds gs before hval hW _ _
  have hW' := hW
  obtain ⟨p, q, hA, hV, rfl, _, _⟩ := hW
  rw [hvars] at hV
  obtain ⟨rfl, rfl⟩ := trodVars_none hV
  have hlt : ∀ x ∈ p, x.block < W.heap.size := fun x hx => by simpa using hW'.lt x (by simp [hx])
  have hlen : ds.length = fn.params.size := by simpa using trodAll_len hA
  obtain ⟨s1, s2, s3⟩ := hspec ds hlen
  refine (walk W base args ds p hval hA).mono fun e W' ⟨he, hg⟩ => ?_
  subst he
  refine ⟨_, rfl, ds, [], p ++ [], [], p, [], hW', ?_, ?_, ?_, hg.frame _, fun h => by cases h⟩
  · rw [List.append_nil, s1, hres]
    exact trodAll_mk1 (shut_bool hb _)
  · rw [List.append_nil, s2]
    exact trodAll_stays hl hg hts hA hlt
  · rw [List.append_nil, s3, hvars]
    rfl

end Go

/-
  What is proved: what a call is handed (slices of anything, structs), read as tables of cells.
-/
namespace Go
open Go.ChangeShapes Go.WideShapes Go.ChangeAt Go.RowKit Go.Deep

section
variable {H : Type} {enc : TypeId × Value → H} {P : Program} {w : World} {base : Nat} {held : Bool}

theorem add_spot (b o k : Nat) : (Addr.add ⟨b, o, none⟩ k) = ⟨b, o + k, none⟩ := by
  unfold Addr.add
  by_cases h : k = 0 <;> simp [h]

/-- the cells of a row -/
def cellsOfRow (c : Nat → Value) (sz : Nat) : List Value := (List.range sz).map c

theorem sliceAt_open {t e : TypeId} {fuel sz : Nat} {v : Value} {x : DataW H × List MemPlace} (ht : P.underlying t = some (.slice e)) (hc : P.cellsOf e = sz)
    (h : DataW.trod enc P w base (fun _ => true) held fuel t [v] = some x) :
    ∃ (m n : Nat) (c : Nat → Nat → Value), SliceAt w v m sz c ∧ ∀ i, i < m → ∃ y, DataW.trod enc P w base (fun _ => true) held n e (cellsOfRow (c i) sz) = some y := by
  rcases open_slice ht h with ⟨h1, h2⟩ | ⟨a, len, cap, m, n, D, Pl, hcs, hb, hl, hm, hmm, hx, hr⟩
  · obtain rfl : v = .slice none 0 0 := by simpa using h1
    exact ⟨0, 0, fun _ _ => default, SliceAt.none, fun i hi => absurd hi (by omega)⟩
  · obtain rfl : v = .slice (some a) len cap := by simpa using hcs
    simp only [if_true] at hmm
    subst hmm
    rw [hc] at hr
    obtain ⟨cs, hcsx⟩ := choose_lt (α := List Value) hr
    refine ⟨len, n, fun i j => (cs i).getD j default, ⟨some a, m, rfl, hl, hm, fun i j hi hj => ?_⟩, fun i hi => ?_⟩
    · obtain ⟨_, hl2, hcell⟩ := World.cells?_some (hcsx i (by omega)).1
      have hcj := hcell j hj
      have hv : (cs i)[j]? = some ((cs i).getD j default) := by
        rw [List.getElem?_eq_getElem (by omega)]
        simp [List.getD, List.getElem?_eq_getElem (show j < (cs i).length by omega)]
      rw [hv, add_add] at hcj
      obtain ⟨b, o, s⟩ := a
      have hs : s = none := by
        obtain ⟨_, hl0, hcell0⟩ := World.cells?_some (hcsx 0 (by omega)).1
        have hc0 := hcell0 0 (by omega)
        rw [List.getElem?_eq_getElem (by omega)] at hc0
        simpa [Addr.add] using World.cell?_spot hc0
      subst hs
      rw [add_spot] at hcj
      exact ⟨b, o, rfl, by rw [Nat.add_assoc]; exact hcj⟩
    · obtain ⟨hcl, htr⟩ := hcsx i (by omega)
      obtain ⟨_, hl2, _⟩ := World.cells?_some hcl
      refine ⟨(D i, Pl i), ?_⟩
      have : cellsOfRow (fun j => (cs i).getD j default) sz = cs i := by
        unfold cellsOfRow
        refine List.ext_getElem (by simp [hl2]) fun j h1 h2 => ?_
        simp [List.getD, List.getElem?_eq_getElem h2]
      rw [this]
      exact htr

theorem cellsOfRow_one (c : Nat → Value) : cellsOfRow c 1 = [c 0] := rfl
theorem cellsOfRow_two (c : Nat → Value) : cellsOfRow c 2 = [c 0, c 1] := rfl

/-- numbers of any kind in a slice -/
def NumsAt (k : IntKind) (w : World) (v : Value) (m : Nat) (f : Nat → Int) : Prop := SliceAt w v m 1 (fun i _ => .int k (f i))
theorem NumsAt.mono {k : IntKind} {w w' : World} {v : Value} {m : Nat} {f : Nat → Int} (h : NumsAt k w v m f) (g : w.grows w') : NumsAt k w' v m f := SliceAt.mono h g

theorem nums_open {t e : TypeId} {k : IntKind} {fuel : Nat} {v : Value} {x : DataW H × List MemPlace} (ht : P.underlying t = some (.slice e)) (he : P.underlying e = some (.int k)) (hc : P.cellsOf e = 1)
    (h : DataW.trod enc P w base (fun _ => true) held fuel t [v] = some x) :
    ∃ (m : Nat) (f : Nat → Int), NumsAt k w v m f ∧ ∀ i, i < m → (Lit.int k (f i)).wf = true := by
  obtain ⟨m, n, c, h1, h2⟩ := sliceAt_open ht hc h
  have h3 : ∀ i, i < m → ∃ z : Int, c i 0 = .int k z ∧ (Lit.int k z).wf = true := fun i hi => by
    obtain ⟨y, hy⟩ := h2 i hi
    rw [cellsOfRow_one] at hy
    obtain ⟨z, e1, _, e2⟩ := DataW.trod_int he hy
    exact ⟨z, by simpa using e1, e2⟩
  obtain ⟨f, hf⟩ := choose_lt h3
  refine ⟨m, f, h1.congr fun i j hi hj => ?_, fun i hi => (hf i hi).2⟩
  obtain rfl : j = 0 := by omega
  exact (hf i hi).1

theorem lit_i64 {z : Int} (h : (Lit.int .i64 z).wf = true) : -9223372036854775808 ≤ z ∧ z ≤ 9223372036854775807 := by
  have e1 : IntKind.i64.min = -9223372036854775808 := rfl
  have e2 : IntKind.i64.max = 9223372036854775807 := rfl
  simpa [Lit.wf, e1, e2] using h
theorem lit_u8 {z : Int} (h : (Lit.int .u8 z).wf = true) : 0 ≤ z ∧ z ≤ 255 := by
  have e1 : IntKind.u8.min = 0 := rfl
  have e2 : IntKind.u8.max = 255 := rfl
  simpa [Lit.wf, e1, e2] using h
theorem lit_u16 {z : Int} (h : (Lit.int .u16 z).wf = true) : 0 ≤ z ∧ z ≤ 65535 := by
  have e1 : IntKind.u16.min = 0 := rfl
  have e2 : IntKind.u16.max = 65535 := rfl
  simpa [Lit.wf, e1, e2] using h
theorem lit_i16 {z : Int} (h : (Lit.int .i16 z).wf = true) : -32768 ≤ z ∧ z ≤ 32767 := by
  have e1 : IntKind.i16.min = -32768 := rfl
  have e2 : IntKind.i16.max = 32767 := rfl
  simpa [Lit.wf, e1, e2] using h
theorem lit_i32 {z : Int} (h : (Lit.int .i32 z).wf = true) : -2147483648 ≤ z ∧ z ≤ 2147483647 := by
  have e1 : IntKind.i32.min = -2147483648 := rfl
  have e2 : IntKind.i32.max = 2147483647 := rfl
  simpa [Lit.wf, e1, e2] using h

/-- the fields of a struct that lies in a row -/
theorem struct_open {t : TypeId} {fs : Array Field} {fuel : Nat} {cs : List Value} {x : DataW H × List MemPlace} (ht : P.underlying t = some (.struct fs)) (h : DataW.trod enc P w base (fun _ => true) held fuel t cs = some x) :
    ∃ n, ∀ (i : Nat) (f : Field), fs[i]? = some f → ∃ y, DataW.trod enc P w base (fun _ => true) held n f.type ((cs.drop f.offset).take (P.cellsOf f.type)) = some y := by
  obtain ⟨xs, n, _, rfl, hl, hlen, hf⟩ := DataW.trod_struct ht h
  refine ⟨n, fun i f hi => ?_⟩
  rw [hf i f hi]
  have : i < xs.length := by rw [hlen]; exact (Array.getElem?_eq_some_iff.1 hi).1
  exact ⟨_, List.getElem?_eq_getElem this⟩

end
end Go

/-
  What is proved: arguments in fives and sixes; arrays of numbers as arguments.
-/
namespace Go
open Go.ChangeShapes Go.WideShapes Go.ChangeAt

section
variable {H : Type} {enc : TypeId × Value → H} {P : Program} {w : World} {base : Nat} {spare : Nat → Bool} {held : Bool}
theorem trodAll_5 {t1 t2 t3 t4 t5 : TypeId} {args : Array Value} {ds : List (DataW H)} {ps : List MemPlace} (h : DataW.TrodAll enc P w base spare held [t1, t2, t3, t4, t5] args.toList ds ps) :
    ∃ v1 v2 v3 v4 v5 d1 d2 d3 d4 d5 p1 p2 p3 p4 p5, args = #[v1, v2, v3, v4, v5] ∧ ds = [d1, d2, d3, d4, d5] ∧ ps = p1 ++ (p2 ++ (p3 ++ (p4 ++ p5))) ∧ DataW.Trod enc P w base spare held t1 v1 d1 p1 ∧ DataW.Trod enc P w base spare held t2 v2 d2 p2 ∧
      DataW.Trod enc P w base spare held t3 v3 d3 p3 ∧ DataW.Trod enc P w base spare held t4 v4 d4 p4 ∧ DataW.Trod enc P w base spare held t5 v5 d5 p5 := by
  obtain ⟨v1, s1, d1, e1, p1, q1, hargs, rfl, rfl, h1, r1⟩ := trodAll_cons h
  obtain ⟨v2, s2, d2, e2, p2, q2, rfl, rfl, rfl, h2, r2⟩ := trodAll_cons r1
  obtain ⟨v3, s3, d3, e3, p3, q3, rfl, rfl, rfl, h3, r3⟩ := trodAll_cons r2
  obtain ⟨v4, s4, d4, e4, p4, q4, rfl, rfl, rfl, h4, r4⟩ := trodAll_cons r3
  obtain ⟨v5, s5, d5, e5, p5, q5, rfl, rfl, rfl, h5, r5⟩ := trodAll_cons r4
  obtain ⟨rfl, rfl, rfl⟩ := trodAll_nil r5
  exact ⟨v1, v2, v3, v4, v5, d1, d2, d3, d4, d5, p1, p2, p3, p4, p5, by cases args; simp_all, rfl, by simp, h1, h2, h3, h4, h5⟩
theorem trodAll_6 {t1 t2 t3 t4 t5 t6 : TypeId} {args : Array Value} {ds : List (DataW H)} {ps : List MemPlace} (h : DataW.TrodAll enc P w base spare held [t1, t2, t3, t4, t5, t6] args.toList ds ps) :
    ∃ v1 v2 v3 v4 v5 v6 d1 d2 d3 d4 d5 d6 p1 p2 p3 p4 p5 p6, args = #[v1, v2, v3, v4, v5, v6] ∧ ds = [d1, d2, d3, d4, d5, d6] ∧ ps = p1 ++ (p2 ++ (p3 ++ (p4 ++ (p5 ++ p6)))) ∧ DataW.Trod enc P w base spare held t1 v1 d1 p1 ∧ DataW.Trod enc P w base spare held t2 v2 d2 p2 ∧
      DataW.Trod enc P w base spare held t3 v3 d3 p3 ∧ DataW.Trod enc P w base spare held t4 v4 d4 p4 ∧ DataW.Trod enc P w base spare held t5 v5 d5 p5 ∧ DataW.Trod enc P w base spare held t6 v6 d6 p6 := by
  obtain ⟨v1, s1, d1, e1, p1, q1, hargs, rfl, rfl, h1, r1⟩ := trodAll_cons h
  obtain ⟨v2, s2, d2, e2, p2, q2, rfl, rfl, rfl, h2, r2⟩ := trodAll_cons r1
  obtain ⟨v3, s3, d3, e3, p3, q3, rfl, rfl, rfl, h3, r3⟩ := trodAll_cons r2
  obtain ⟨v4, s4, d4, e4, p4, q4, rfl, rfl, rfl, h4, r4⟩ := trodAll_cons r3
  obtain ⟨v5, s5, d5, e5, p5, q5, rfl, rfl, rfl, h5, r5⟩ := trodAll_cons r4
  obtain ⟨v6, s6, d6, e6, p6, q6, rfl, rfl, rfl, h6, r6⟩ := trodAll_cons r5
  obtain ⟨rfl, rfl, rfl⟩ := trodAll_nil r6
  exact ⟨v1, v2, v3, v4, v5, v6, d1, d2, d3, d4, d5, d6, p1, p2, p3, p4, p5, p6, by cases args; simp_all, rfl, by simp, h1, h2, h3, h4, h5, h6⟩
theorem okWide_array {r : Reach} {v : Value} {n : Nat} {e t : TypeId} (ht : P.underlying t = some (.array n e)) (h : Value.okWide P w r base t v) : ∃ cs, v = .agg cs ∧ cs.size = P.cellsOf t := by
  simp only [Value.okWide, ht] at h
  obtain ⟨cs, h1, h2, _⟩ := h
  exact ⟨cs, h1, h2⟩
/-- an array of numbers of one kind -/
theorem array_nums {t e : TypeId} {k : IntKind} {n fuel : Nat} {cs : List Value} {x : DataW H × List MemPlace} (ht : P.underlying t = some (.array n e)) (he : P.underlying e = some (.int k)) (hc : P.cellsOf e = 1) (hn : P.cellsOf t = n)
    (h : DataW.trod enc P w base spare held fuel t cs = some x) : cs.length = n ∧ ∀ i, i < n → ∃ z : Int, cs[i]? = some (.int k z) ∧ (Lit.int k z).wf = true := by
  obtain ⟨xs, m, -, -, hl, hlen, hx⟩ := DataW.trod_array ht h
  refine ⟨by omega, fun i hi => ?_⟩
  have h1 := hx i hi
  rw [hc, Nat.mul_one, List.getElem?_eq_getElem (by omega)] at h1
  obtain ⟨z, e1, _, e2⟩ := DataW.trod_int he h1
  refine ⟨z, ?_, e2⟩
  have h2 : i < cs.length := by omega
  have h3 : (cs.drop i).take 1 = [cs[i]] := by rw [List.drop_eq_getElem_cons h2]; rfl
  rw [h3] at e1
  rw [List.getElem?_eq_getElem h2]
  simpa using e1
end
end Go

