/-
  What is proved: Order of the law (39).
-/
import Derived.Test.YtjpccfpmhmddjaaM13
import Derived.Test.YtjpccfpmhmddjaaM9
set_option linter.all false
namespace Go.Proofs.Ytjpccfpmhmddjaa
open Go.RowKit
attribute [local irreducible] Go.wpCalm

/-- an edge that has passes left -/
def Job.canB (J : Job) (g : Nat → Nat) (s : Nat) (r : Nat) : Bool := decide (walkP g s r < J.len r)

theorem walkP_congr {g g' : Nat → Nat} : ∀ s, (∀ i, i < s → g i = g' i) → walkP g s = walkP g' s
  | 0, _ => rfl
  | s + 1, h => by
    simp only [walkP]
    rw [walkP_congr s fun i hi => h i (by omega), h s (by omega)]
theorem walkP_push (g : Nat → Nat) (s R : Nat) : walkP (fun i => if i = s then R else g i) (s + 1) = upd (walkP g s) R (walkP g s R + 1) := by
  have e : walkP (fun i => if i = s then R else g i) s = walkP g s := walkP_congr s fun i hi => by
    show (if i = s then R else g i) = g i
    rw [if_neg (by omega)]
  simp only [walkP]
  rw [e]
  simp
theorem sumN_lt_of {f g : Nat → Nat} {r : Nat} : ∀ n, r < n → (∀ i, i < n → f i ≤ g i) → f r < g r → sumN f n < sumN g n
  | 0, h, _, _ => absurd h (by omega)
  | n + 1, hr, h, hlt => by
    simp only [sumN]
    have h1 := h n (by omega)
    rcases Nat.lt_or_ge r n with h2 | h2
    · have := sumN_lt_of n h2 (fun i hi => h i (by omega)) hlt
      omega
    · have : r = n := by omega
      subst this
      have := sumN_mono (f := f) (g := g) r (fun i hi => h i (by omega))
      omega
theorem own_len {W : World} {B : Nat} {e : TypeId} {v : Value} {n : Nat} {xs : List Value} (h : W.ownsRow B e 1 v n xs) : lenV v = n := by
  rcases h.2 with ⟨rfl, h0⟩ | ⟨g, cap, cur, rfl, _⟩
  · rw [h0]; rfl
  · rfl

set_option maxRecDepth 100000 in
set_option maxHeartbeats 8000000 in
theorem order_c (w : World) (v : Value) (J : Job) (hv : RawAt w v J) (hJ : J.Ok) (bv : Value) (mb : Nat) (fb : Nat → Int) (hb : NumsAt .u8 w bv mb fb) (hfb : ∀ i, i < mb → 0 ≤ fb i ∧ fb i ≤ 255) :
    Calls Try.prog 39 #[v, bv] w fun e w' => ∃ sv m g, e = .returned sv ∧ w.grows w' ∧ IntsAt w' sv m (fun i => (g i : Nat)) ∧ J.OrdOk m g := by
  have Hv := Lib.hid hv
  have HJ := Lib.hid hJ
  obtain ⟨jb, jo, jcap, rb, ro, rc, rfl, hjc, hjc2, hR⟩ := Hv.out.job HJ.out
  have HR := Lib.hid hR
  unfold maxLen at hjc2
  have hn4 := hJ.n4
  have hn9 : J.n ≤ 1000000000 := by omega
  obtain ⟨ba, bcap, rfl, hbc1, hbc2, hbc⟩ := hb
  unfold maxLen at hbc2
  have Hbc := Lib.hid hbc
  have Hfb := Lib.hid hfb
  clear hR hv hJ hbc hfb
  go_enter Try.func39, Try.ntmps39
  go_wp2
  obtain ⟨wA, hwA⟩ : ∃ wA, wA = w.alloc (.cells #[.int .i64 J.start, .slice (some ⟨jb, jo, none⟩) J.n jcap] 24) := ⟨_, rfl⟩
  have hgA : w.grows wA := by rw [hwA]; (repeat (first | exact World.grows.refl _ | assumption | refine World.grows.alloc ?_ _ | refine World.grows.plus ?_ _ _ | refine World.grows.drew ?_))
  have hsA : wA.heap.size = w.heap.size + 1 := by rw [hwA]; simp
  have b1 : wA.cell? ⟨w.heap.size, 1, none⟩ = some (.slice (some ⟨jb, jo, none⟩) J.n jcap) := by rw [hwA]; simp [go_sem]
  rw [← hwA]
  clear hwA
  obtain ⟨w1, hw1⟩ : ∃ w1, w1 = wA.alloc (.cells (rowA J.n fun _ => 0) 3) := ⟨_, rfl⟩
  have hg1 : wA.grows w1 := by rw [hw1]; (repeat (first | exact World.grows.refl _ | assumption | refine World.grows.alloc ?_ _ | refine World.grows.plus ?_ _ _ | refine World.grows.drew ?_))
  have hs1 : w1.heap.size = w.heap.size + 2 := by rw [hw1]; simp; omega
  have r1 : w1.heap[w.heap.size + 1]? = some (.cells (rowA J.n (walkP (fun _ => 0) 0)) 3) := by rw [hw1, ← hsA]; exact heap_alloc_new _ _
  rw [← hw1]
  clear hw1
  have HgA := Lib.hid hgA
  have Hg1 := Lib.hid hg1
  have B1 := Lib.hid b1
  clear hgA hg1 b1
  go_loopw [6] (fun o wr => ∃ (s : Nat) (g : Nat → Nat), Hid (wr.ownsRow w1.heap.size 3 1 o s (tableL s 1 (fun i _ => .int .i64 (g i : Nat)))) ∧ Hid (wr.heap[w.heap.size + 1]? = some (.cells (rowA J.n (walkP g s)) 3)) ∧ Hid (∀ i, i < s → g i < J.n) ∧ Hid (∀ r, r < J.n → walkP g s r ≤ J.len r) ∧ Hid (wA.grows wr) ∧ Hid (w1.heap.size ≤ wr.heap.size)) (fun o _ => sumN J.len J.n - lenV o)
  case atStart => exact ⟨0, fun _ => 0, Lib.hid (World.ownsRow_nil _ _ _ _), Lib.hid r1, Lib.hid fun i hi => by omega, Lib.hid fun r hr => Nat.zero_le _, Hg1, Lib.hid (Nat.le_refl _)⟩
  case round =>
    obtain ⟨s, g, hO, hA, hlt, hle, hgW, hsW⟩ := hrel
    clear r1
    obtain ⟨vo, vc, hv⟩ : ∃ vo vc, u6 = .slice vo s vc := by
      rcases hO.out.2 with ⟨rfl, hn⟩ | ⟨g, cap, cur, rfl, _⟩
      · rw [hn]; exact ⟨_, _, rfl⟩
      · exact ⟨_, _, rfl⟩
    subst hv
    have hcl := Lib.hid (filT_len (J.canB g s))
    go_wp2
    obtain ⟨W0, rfl⟩ : ∃ W0, W0 = wr := ⟨_, rfl⟩
    go_loopw [7, 8] (fun c i wr => ∃ q : Nat, q ≤ J.n ∧ i = .int .i64 q ∧ Hid (wr.ownsRow W0.heap.size 3 1 c (filT (J.canB g s) q).length (tableL (filT (J.canB g s) q).length 1 (fun i _ => .int .i64 ((filT (J.canB g s) J.n).getD i 0 : Nat)))) ∧ Hid (W0.grows wr)) (fun _ i _ => J.n - (intOf i).toNat)
    case atStart => exact ⟨0, by omega, rfl, Lib.hid (World.ownsRow_nil _ _ _ _), Lib.hid (World.grows.refl _)⟩
    case round =>
      obtain ⟨q, hq, rfl, hC, hgX⟩ := hrel
      obtain ⟨co, cc, hv⟩ : ∃ co cc, u7 = .slice co (filT (J.canB g s) q).length cc := by
        rcases hC.out.2 with ⟨rfl, hn⟩ | ⟨g, cap, cur, rfl, _⟩
        · rw [hn]; exact ⟨_, _, rfl⟩
        · exact ⟨_, _, rfl⟩
      subst hv
      have hgx := Lib.hid (hgW.out.trans hgX.out)
      have hgw := Lib.hid (HgA.out.trans hgx.out)
      have s1 := hgx.out.cell_of B1.out
      by_cases hqn : q < J.n
      · have hqi : (q : Int) < J.n := by omega
        have a0 := hgX.out.cell_of (rowA_cell hA.out hqn)
        have z0 := hgw.out.cell_of (HR.out.row q hqn)
        have hrc := HR.out.cap q hqn
        unfold maxLen at hrc
        have hl6 := HJ.out.l6 q hqn
        have hsucc := Lib.hid (filT_succ (J.canB g s) q)
        have hcle := hcl.out q
        by_cases hc : walkP g s q < J.len q
        · have hci : (walkP g s q : Int) < J.len q := by omega
          have hq2 : Hid (J.canB g s q = true) := Lib.hid (decide_eq_true hc)
          have hat := Lib.hid (filT_at (J.canB g s) q J.n hqn hq2.out)
          clear hc
          go_wp2
          (refine wp_region_calm (by kernel_rfl) (by kernel_rfl) ?_; (repeat (refine wpCalm_step (fun K hK => ?_); go_simp; first | (refine hK _ ?_; clear hK K) | (apply Exists.intro; refine ⟨fun n' x' => ?_, hK _ ?_⟩; (fail); clear hK K))); refine wpCalm_nil ?_; intro nq xq)
          go_wp2_with (at_builtin; go_loud (refine wpList_append_g _ rfl _ _ _ (by rfl) W0.heap.size 3 (.int .i64 0) 1 8 Try.underlying25 el3 (by rfl) (by omega) _ _ _ (by rfl) ((hC.out.grow (World.grows_plus _ _ _)).grow (World.grows.alloc (World.grows.refl _) _)) _ (by rfl) 1 _ (SliceAt.src (by omega) (one_slice _ _ _ _ (by simp))) (ints_one _ _) (by unfold maxLen; omega) (by omega) (by have := hgX.out.size; simp; omega) ?_; intro v9 w9 hown hgr; have Hown := Lib.hid hown; have Hgr := Lib.hid (hgr W0 ((hgX.out.trans (World.grows_plus _ _ _)).alloc _) (Nat.le_refl _)); clear hown hgr))
          go_roundw
          case rel =>
            refine ⟨q + 1, by omega, by go_num, Lib.hid ?_, Hgr⟩
            rw [hsucc.out, hq2.out, if_pos rfl, List.length_append, List.length_singleton, tableL_snoc]
            simp only [List.range_one, List.map_cons, List.map_nil, hat.out]
            exact Hown.out
          case measure => change J.n - (intOf (Value.int IntKind.i64 ((q : Int) + 1))).toNat < J.n - (intOf (Value.int IntKind.i64 (q : Int))).toNat; simp [intOf] <;> omega
        · have hci : ¬ (walkP g s q : Int) < J.len q := by omega
          have hq2 : Hid (J.canB g s q = false) := Lib.hid (decide_eq_false hc)
          clear hc
          go_wp2
          (refine wp_region_calm (by kernel_rfl) (by kernel_rfl) ?_; (repeat (refine wpCalm_step (fun K hK => ?_); go_simp; first | (refine hK _ ?_; clear hK K) | (apply Exists.intro; refine ⟨fun n' x' => ?_, hK _ ?_⟩; (fail); clear hK K))); refine wpCalm_nil ?_; intro nq xq)
          go_wp2
          go_roundw
          case rel => exact ⟨q + 1, by omega, by go_num, Lib.hid (by rw [hsucc.out, hq2.out]; simpa using hC.out.grow (by (repeat (first | exact World.grows.refl _ | assumption | refine World.grows.alloc ?_ _ | refine World.grows.plus ?_ _ _ | refine World.grows.drew ?_)))), Lib.hid (hgX.out.trans (by (repeat (first | exact World.grows.refl _ | assumption | refine World.grows.alloc ?_ _ | refine World.grows.plus ?_ _ _ | refine World.grows.drew ?_))))⟩
          case measure => change J.n - (intOf (Value.int IntKind.i64 ((q : Int) + 1))).toNat < J.n - (intOf (Value.int IntKind.i64 (q : Int))).toNat; simp [intOf] <;> omega
      · have hqe : q = J.n := by omega
        subst hqe
        generalize hL : filT (J.canB g s) J.n = L at hC ⊢
        obtain ⟨m, hm⟩ : ∃ m, L.length = m := ⟨_, rfl⟩
        rw [hm] at hC ⊢
        have HL : Hid (∀ k, k < m → L.getD k 0 < J.n ∧ walkP g s (L.getD k 0) < J.len (L.getD k 0)) := Lib.hid fun k hk => by
          have h1 : L.getD k 0 ∈ L := by
            rw [List.getD_eq_getElem?_getD, List.getElem?_eq_getElem (by omega)]
            exact List.getElem_mem (by omega)
          rw [← hL] at h1
          unfold filT at h1
          have h2 := List.mem_filter.1 h1
          unfold filT at hL
          rw [hL] at h2
          exact ⟨List.mem_range.1 h2.1, by have := h2.2; unfold Job.canB at this; simpa using this⟩
        by_cases hm0 : m = 0
        · subst hm0
          have hend : ∀ r, r < J.n → walkP g s r = J.len r := fun r hr => by
            have h1 := hle.out r hr
            rcases Nat.lt_or_ge (walkP g s r) (J.len r) with h2 | h2
            · have h3 : r ∈ filT (J.canB g s) J.n := List.mem_filter.2 ⟨List.mem_range.2 hr, decide_eq_true h2⟩
              rw [hL] at h3
              have := List.length_pos_of_mem h3
              omega
            · omega
          have Hend := Lib.hid hend
          clear hend
          go_wp2
          go_ret
          refine ⟨_, s, g, rfl, hgw.out.trans (by (repeat (first | exact World.grows.refl _ | assumption | refine World.grows.alloc ?_ _ | refine World.grows.plus ?_ _ _ | refine World.grows.drew ?_))), (hO.out.grow (hgX.out.trans (by (repeat (first | exact World.grows.refl _ | assumption | refine World.grows.alloc ?_ _ | refine World.grows.plus ?_ _ _ | refine World.grows.drew ?_))))).sliceAt fun i j hi hj => ?_, ⟨hlt.out, Hend.out⟩⟩
          exact tableL_get _ hi hj
        · have hmi : ¬ (m : Int) = 0 := by omega
          have hmp : (0 : Int) < m := by omega
          obtain ⟨gc, cc', hce, hgb⟩ := hC.out.form (by omega)
          cases hce
          have hm4 : m ≤ 4 := by
            have := hcl.out J.n
            rw [hL, hm] at this
            omega
          have hsb : s ≤ 24 := by
            have h1 := walkP_sum s hlt.out
            have h2 := sumN_le (f := walkP g s) (c := 6) J.n fun r hr => Nat.le_trans (hle.out r hr) (HJ.out.l6 r hr)
            omega
          by_cases hmb : mb = 0
          · subst hmb
            have hkm2 : 0 < m := by omega
            obtain ⟨hR1, hR2⟩ := HL.out 0 hkm2
            obtain ⟨R, hR⟩ : ∃ R, L.getD 0 0 = R := ⟨_, rfl⟩
            have k0 := hC.out.cellAt 0 (by omega)
            rw [tableL_map] at k0
            simp only [List.getElem?_map, List.getElem?_range hkm2, Option.map_some] at k0
            rw [hR] at k0 hR1 hR2
            have hl6R := HJ.out.l6 R hR1
            have hR1' := hR1; have hR2' := hR2
            go_wp2_with (at_builtin; go_loud (refine wpList_append_r _ rfl _ _ _ (by rfl) w1.heap.size 3 (.int .i64 0) 1 8 Try.underlying25 el3 (by rfl) (by omega) _ _ _ (by rfl) ((hO.out.grow hgX.out).grow (World.grows.alloc (World.grows.refl _) _)) _ (by rfl) 1 _ (SliceAt.src (by omega) (one_slice _ _ _ _ (by simp))) (ints_one _ _) (by unfold maxLen; omega) (by omega) (by have := hgX.out.size; have := hsW.out; simp; omega) ?_; intro v9 w9 hown hgr; have hne1 : some gc ≠ (Value.slice vo s vc).ownBlock := (fun e => by have := hO.out.lt gc e.symm; omega); have hne2 : some (w.heap.size + 1) ≠ (Value.slice vo s vc).ownBlock := (fun e => by have := hO.out.lt _ e.symm; omega); have k9 := hgr.cell (a := ⟨gc, 0, none⟩) (v := .int .i64 (R : Nat)) (World.grows.cell_of ((World.grows.refl wr).alloc _) k0) hne1; have hb1 : w.heap.size + 1 < wr.heap.size := (by have := hgX.out.size; have := hsW.out; omega); have A9 : w9.heap[w.heap.size + 1]? = some (.cells (rowA J.n (walkP g s)) 3) := (by rw [hgr.block _ (by simp; omega) hne2]; exact World.grows.heap_of (hgX.out.alloc _) hA.out); have HA9 := Lib.hid A9; have Hown := Lib.hid hown; have HG9 := Lib.hid (World.grownBy.grows hgr ((hO.out.grow hgX.out).grow (World.grows.alloc (World.grows.refl _) _)) (hgx.out.alloc _) (by omega)); have hs9 : Hid (w1.heap.size ≤ w9.heap.size) := Lib.hid (by have h1 := hgr.size; have h2 := hgX.out.size; have h3 := hsW.out; simp at h1; omega); have a9 := rowA_cell A9 hR1; have f9 := rowA_frozen A9 R; clear hown hgr hne1 hne2 hb1 A9))
            go_roundw
            case rel =>
              refine ⟨s + 1, fun i => if i = s then R else g i, Lib.hid ?_, Lib.hid ?_, Lib.hid fun i hi => ?_, Lib.hid fun r hr => ?_, Lib.hid (HG9.out.setCell (show wA.heap.size ≤ w.heap.size + 1 by omega) _), Lib.hid (by simpa using hs9.out)⟩
              · refine World.ownsRow.set ?_ (by show w.heap.size + 1 < w1.heap.size; omega) _
                refine own_push (h := fun i => ((if i = s then R else g i : Nat) : Int)) (x := R) ?_ (by simp)
                have e : tableL s 1 (fun i _ => Value.int .i64 ((if i = s then R else g i : Nat) : Int)) = tableL s 1 (fun i _ => Value.int .i64 (g i : Nat)) := by
                  unfold tableL
                  apply List.map_congr_left
                  intro x hx
                  have hx' : x < s := by simpa using hx
                  simp only [Nat.div_one]
                  rw [if_neg (by omega)]
                rw [e]
                exact Hown.out
              · rw [walkP_push]
                have := rowA_store HA9.out hR1' (walkP g s R + 1)
                rw [← upd_updN]
                exact this
              · show (if i = s then R else g i) < J.n
                split
                · exact hR1'
                · exact hlt.out i (by omega)
              · rw [walkP_push]
                unfold upd
                split
                · rename_i h; subst h; omega
                · exact hle.out r hr
            case measure =>
              have h1 := walkP_sum s hlt.out
              have h2 := sumN_lt_of (f := walkP g s) (g := J.len) J.n hR1' hle.out hR2'
              show sumN J.len J.n - lenV v9 < sumN J.len J.n - lenV (Value.slice vo s vc)
              have h3 : lenV v9 = s + 1 := own_len Hown.out
              rw [h3]
              show _ < sumN J.len J.n - s
              omega
          · have hmbp : (0 : Int) < mb := by omega
            have hmbi : ¬ (mb : Int) = 0 := by omega
            obtain ⟨sm, hsm⟩ : ∃ sm : Nat, (s : Int) % (mb : Int) = (sm : Int) := ⟨s % mb, by omega⟩
            have hsm2 : sm < mb := by
              have := Int.emod_lt_of_pos (s : Int) hmbp
              omega
            obtain ⟨bb, bo, rfl, h0⟩ := Hbc.out sm 0 hsm2 (by omega)
            simp only [Nat.mul_one, Nat.add_zero] at h0
            replace h0 := hgw.out.cell_of h0
            obtain ⟨f1, f2⟩ := Hfb.out sm hsm2
            obtain ⟨fn, hfn⟩ := Int.eq_ofNat_of_zero_le f1
            rw [hfn] at h0
            obtain ⟨km, hkm⟩ : ∃ km : Nat, (fn : Int) % (m : Int) = (km : Int) := ⟨fn % m, by omega⟩
            have hkm2 : km < m := by
              have := Int.emod_lt_of_pos (fn : Int) hmp
              omega
            have hfn2 : fn ≤ 255 := by omega
            obtain ⟨hR1, hR2⟩ := HL.out km hkm2
            obtain ⟨R, hR⟩ : ∃ R, L.getD km 0 = R := ⟨_, rfl⟩
            have k0 := hC.out.cellAt km (by omega)
            rw [tableL_map] at k0
            simp only [List.getElem?_map, List.getElem?_range hkm2, Option.map_some] at k0
            rw [hR] at k0 hR1 hR2
            have hkmi : (km : Int) < m := by omega
            clear hfn f1 f2
            have hl6R := HJ.out.l6 R hR1
            have hR1' := hR1; have hR2' := hR2
            go_wp2_with (at_builtin; go_loud (refine wpList_append_r _ rfl _ _ _ (by rfl) w1.heap.size 3 (.int .i64 0) 1 8 Try.underlying25 el3 (by rfl) (by omega) _ _ _ (by rfl) ((hO.out.grow hgX.out).grow (World.grows.alloc (World.grows.refl _) _)) _ (by rfl) 1 _ (SliceAt.src (by omega) (one_slice _ _ _ _ (by simp))) (ints_one _ _) (by unfold maxLen; omega) (by omega) (by have := hgX.out.size; have := hsW.out; simp; omega) ?_; intro v9 w9 hown hgr; have hne1 : some gc ≠ (Value.slice vo s vc).ownBlock := (fun e => by have := hO.out.lt gc e.symm; omega); have hne2 : some (w.heap.size + 1) ≠ (Value.slice vo s vc).ownBlock := (fun e => by have := hO.out.lt _ e.symm; omega); have k9 := hgr.cell (a := ⟨gc, km, none⟩) (v := .int .i64 (R : Nat)) (World.grows.cell_of ((World.grows.refl wr).alloc _) k0) hne1; have hb1 : w.heap.size + 1 < wr.heap.size := (by have := hgX.out.size; have := hsW.out; omega); have A9 : w9.heap[w.heap.size + 1]? = some (.cells (rowA J.n (walkP g s)) 3) := (by rw [hgr.block _ (by simp; omega) hne2]; exact World.grows.heap_of (hgX.out.alloc _) hA.out); have HA9 := Lib.hid A9; have Hown := Lib.hid hown; have HG9 := Lib.hid (World.grownBy.grows hgr ((hO.out.grow hgX.out).grow (World.grows.alloc (World.grows.refl _) _)) (hgx.out.alloc _) (by omega)); have hs9 : Hid (w1.heap.size ≤ w9.heap.size) := Lib.hid (by have h1 := hgr.size; have h2 := hgX.out.size; have h3 := hsW.out; simp at h1; omega); have a9 := rowA_cell A9 hR1; have f9 := rowA_frozen A9 R; clear hown hgr hne1 hne2 hb1 A9))
            go_roundw
            case rel =>
              refine ⟨s + 1, fun i => if i = s then R else g i, Lib.hid ?_, Lib.hid ?_, Lib.hid fun i hi => ?_, Lib.hid fun r hr => ?_, Lib.hid (HG9.out.setCell (show wA.heap.size ≤ w.heap.size + 1 by omega) _), Lib.hid (by simpa using hs9.out)⟩
              · refine World.ownsRow.set ?_ (by show w.heap.size + 1 < w1.heap.size; omega) _
                refine own_push (h := fun i => ((if i = s then R else g i : Nat) : Int)) (x := R) ?_ (by simp)
                have e : tableL s 1 (fun i _ => Value.int .i64 ((if i = s then R else g i : Nat) : Int)) = tableL s 1 (fun i _ => Value.int .i64 (g i : Nat)) := by
                  unfold tableL
                  apply List.map_congr_left
                  intro x hx
                  have hx' : x < s := by simpa using hx
                  simp only [Nat.div_one]
                  rw [if_neg (by omega)]
                rw [e]
                exact Hown.out
              · rw [walkP_push]
                have := rowA_store HA9.out hR1' (walkP g s R + 1)
                rw [← upd_updN]
                exact this
              · show (if i = s then R else g i) < J.n
                split
                · exact hR1'
                · exact hlt.out i (by omega)
              · rw [walkP_push]
                unfold upd
                split
                · rename_i h; subst h; omega
                · exact hle.out r hr
            case measure =>
              have h1 := walkP_sum s hlt.out
              have h2 := sumN_lt_of (f := walkP g s) (g := J.len) J.n hR1' hle.out hR2'
              show sumN J.len J.n - lenV v9 < sumN J.len J.n - lenV (Value.slice vo s vc)
              have h3 : lenV v9 = s + 1 := own_len Hown.out
              rw [h3]
              show _ < sumN J.len J.n - s
              omega
end Go.Proofs.Ytjpccfpmhmddjaa

