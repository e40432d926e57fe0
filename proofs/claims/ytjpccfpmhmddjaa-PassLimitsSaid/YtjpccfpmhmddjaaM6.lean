/-
  What is proved: the ways from all places to the last one, in the program (88).
-/
import Derived.Test.YtjpccfpmhmddjaaM5
set_option linter.all false
namespace Go.Proofs.Ytjpccfpmhmddjaa
open Go.RowKit
attribute [local irreducible] Go.wpCalm Go.wpCalm2
attribute [local go_sem] Oper.semAt_some

@[local go_sem ↓] theorem mk99' (w : World) : (Instr.makeMap 99 none).run Try.prog w = .ok (.map (some w.heap.size)) (w.alloc (.map #[] 0)) := rfl
def PM.lastm (J : Job) : PM Pl := (PM.empty Pl).set (tup J.last) 1
@[local go_sem ↓] theorem up99l (J : Job) (w : World) (b : Nat) (hb : b = w.heap.size) : (Instr.mapUpdate 99 (.map (some b)) (plc J.last) (.int .i64 1)).run Try.prog (w.alloc (.map #[] 0)) = .ok () (w.alloc ((PM.lastm J).obj ePl)) := by
  have h := up99 (PM.empty Pl) b (w.alloc (.map #[] 0)) (by subst hb; exact heap_alloc_new w _) J.last 1
  refine h.trans ?_
  rw [World.putObj_alloc_at _ _ _ _ hb]
  rfl
/-- the number in a box -/
def boxN (v : Value) (W : World) : Nat := match v with | .pointer (some a) => (match W.cell? a with | some (.int _ n) => (n + 1).toNat | _ => 0) | _ => 0

set_option maxHeartbeats 4000000 in
theorem togo_c (w : World) (P0 lb : Nat) (J : Job) (hP : PlateAt w P0 J) (hJ : J.Ok) (l : Int) (hl : w.cell? ⟨lb, 0, none⟩ = some (.int .i64 l)) :
    Calls Try.prog 88 #[.pointer (some ⟨P0, 0, none⟩), .func (.func 84) #[] #[.pointer (some ⟨lb, 0, none⟩)]] w fun e w' => ∃ (b : Nat) (m : PM Pl), e = .returned (.map (some b)) ∧ w.grows w' ∧ w'.heap[b]? = some (m.obj ePl) ∧ m.Ok ∧ ∀ q, J.In q → m.getD (tup q) = J.togoN l q := by
  have hsz := J.size_le hJ
  have q0 : w.cell? ⟨P0, 2, none⟩ = some (.int .i64 (J.last 0)) := hP.last 0 (by omega)
  have q1 : w.cell? ⟨P0, 3, none⟩ = some (.int .i64 (J.last 1)) := hP.last 1 (by omega)
  have q2 : w.cell? ⟨P0, 4, none⟩ = some (.int .i64 (J.last 2)) := hP.last 2 (by omega)
  have q3 : w.cell? ⟨P0, 5, none⟩ = some (.int .i64 (J.last 3)) := hP.last 3 (by omega)
  (refine (callsIn_wide (n := 0)).1 (callsIn_of_wp_marks Try.func88 rfl trivial ((wpIn_wide (n := 0)).2 ?_) rfl); simp only [Try.ntmps88, List.size_toArray, List.length_cons, List.length_nil, Nat.reduceAdd, Nat.reduceSub, Array.replicate_succ, Array.replicate_zero, List.push_toArray, List.append_toArray, List.nil_append, List.cons_append])
  go_wp2_with (go_at_call 65; refine (all_c _ P0 J (hP.mono (by (repeat (first | exact World.grows.refl _ | assumption | refine World.grows.alloc ?_ _ | refine World.grows.plus ?_ _ _ | refine World.grows.drew ?_)))) hJ).mono ?_; rintro e w1 ⟨av, rfl, hg1, hA⟩; obtain ⟨aa, acap, rfl, ha1, ha2, hac⟩ := hA; unfold maxLen at ha2; have Hac := Lib.hid hac; clear hac)
  obtain ⟨W1, hW1⟩ : ∃ W1, W1 = ((w1.alloc (Obj.cells #[Value.slice aa J.size acap] 105)).alloc (Obj.cells #[Value.int IntKind.i64 (↑J.size - 1)] 3)) := ⟨_, rfl⟩
  have hg2 : w1.grows W1 := by subst hW1; (repeat (first | exact World.grows.refl _ | assumption | refine World.grows.alloc ?_ _ | refine World.grows.plus ?_ _ _ | refine World.grows.drew ?_))
  have ci : W1.cell? ⟨w1.heap.size + 1, 0, none⟩ = some (.int .i64 ((J.size : Int) - 1)) := by subst hW1; simp [go_sem]
  have ca : W1.cell? ⟨w1.heap.size, 0, none⟩ = some (.slice aa J.size acap) := by subst hW1; simp [go_sem]
  have cs : W1.heap.size = w1.heap.size + 2 := by subst hW1; simp
  have hg3 := World.grows.trans hg1 hg2
  have hgb : w.heap.size + 2 < w1.heap.size := by have := hg1.size; simp at this; omega
  have hb1 : W1.heap[w.heap.size + 1]? = some ((PM.lastm J).obj ePl) := hg3.heap_of (by rw [World.heap_a _ _ _ (by rw [World.heap_at _ _ _ (by simp)]; rfl), World.heap_at _ _ _ (by simp)])
  have hmc : ∀ (m : PM Pl) a, (W1.putObj (w.heap.size + 1) (m.obj ePl)).cell? a = W1.cell? a := fun m a => World.putObj_map_cell hb1 a
  have hmb : ∀ m : PM Pl, (W1.putObj (w.heap.size + 1) (m.obj ePl)).heap[w.heap.size + 1]? = some (m.obj ePl) := fun m => World.putObj_heap_same (by omega)
  have hmp : ∀ (m : PM Pl) o, (W1.putObj (w.heap.size + 1) (m.obj ePl)).putObj (w.heap.size + 1) o = W1.putObj (w.heap.size + 1) o := fun m o => World.putObj_putObj _ _ _ _
  have c0 : W1.cell? ⟨w.heap.size, 0, none⟩ = some (.func (.func 84) #[] #[.pointer (some ⟨lb, 0, none⟩)]) := hg3.cell_of (by simp [go_sem])
  have c2 : W1.cell? ⟨w.heap.size + 1 + 1, 0, none⟩ = some (.map (some (w.heap.size + 1))) := hg3.cell_of (by simp [go_sem])
  have cl : W1.cell? ⟨lb, 0, none⟩ = some (.int .i64 l) := hg3.cell_of (by simp [go_sem, hl])
  have hP1 : PlateAt W1 P0 J := hP.mono (World.grows.trans (by (repeat (first | exact World.grows.refl _ | assumption | refine World.grows.alloc ?_ _ | refine World.grows.plus ?_ _ _ | refine World.grows.drew ?_))) hg3)
  have hgw : w.grows W1 := World.grows.trans (by (repeat (first | exact World.grows.refl _ | assumption | refine World.grows.alloc ?_ _ | refine World.grows.plus ?_ _ _ | refine World.grows.drew ?_))) hg3
  have Hac2 : Hid (∀ i j : Nat, i < J.size → j < 4 → ∃ b o, aa = some { block := b, off := o } ∧ W1.cell? { block := b, off := o + i * 4 + j } = some (placeC J.dig i j)) := Lib.hid fun i j hi hj => by obtain ⟨b, o, e1, e2⟩ := Hac.out i j hi hj; exact ⟨b, o, e1, hg2.cell_of e2⟩
  have Hgw := Lib.hid hgw
  have HP1 := Lib.hid hP1
  have HJ := Lib.hid hJ
  rw [← hW1]
  have hb3 : w.heap.size + 2 < W1.heap.size := by omega
  clear hP hl hg1 hP1 hgw hJ Hac hg2 hg3 hW1 q0 q1 q2 q3
  refine wp_loop_d [false, false, false, false, false, false, false, false, true, true, false, false, false, false, false, false, false, false, false, false, false, false, false, true, true, true, true, true, true, true, true, true, true, true, true, true, true, true, true, true, true, true, true, true, true, true, true, true, true, true, true, true, true, true, true, true, true, true, false] (fun u ds W => ∃ (k bi : Nat) (m : PM Pl), k ≤ J.size ∧ u 8 = .pointer (some ⟨bi, 0, none⟩) ∧ W.cell? ⟨bi, 0, none⟩ = some (.int .i64 ((k : Int) - 1)) ∧ Hid (togoIs J l k 0 m) ∧ Hid (Marks w.heap.size ds W) ∧ Hid ((W1.putObj (w.heap.size + 1) (m.obj ePl)).grows W)) (fun u W => boxN (u 8) W) (by rfl) ⟨J.size, _, PM.lastm J, by omega, rfl, ci, Lib.hid ⟨PM.Ok.empty.set _ _, fun q hq => ?_⟩, Lib.hid trivial, ?_⟩ ?_
  · rw [Job.gone_start J l hq, PM.lastm, PM.getD_set, PM.getD_empty]
    have hlast : J.In J.last := ⟨fun i hi => by simp [Job.last, hi], fun i hi => by simp [Job.last]; omega⟩
    by_cases hd : J.rem q = 0
    · have : q = J.last := by
        funext i
        rcases Nat.lt_or_ge i J.n with hi | hi
        · have h1 := sumN_eq_zero J.n hd i hi
          have h2 := hq.le i hi
          simp only [Job.last, hi, if_true]
          omega
        · rw [hq.out i hi, hlast.out i hi]
      rw [if_pos hd, this]; simp
    · rw [if_neg hd, if_neg]
      · rfl
      · intro he
        have := Job.tup_inj HJ.out hq hlast he
        subst this
        exact hd (sumN_zero _ fun i hi => by simp [Job.last, hi])
  · rw [World.putObj_self hb1]; exact Lib.hid (World.grows.refl _)
  rintro u ds W ⟨k, bi, m, hk, hu, hbi, hm, hds, hg⟩
  simp only [fillL, hu, Nat.reduceAdd, Nat.zero_add]
  have wb : W.heap[w.heap.size + 1]? = some (m.obj ePl) := hg.out.heap_of (hmb m)
  have wc : ∀ (m' : PM Pl) a, (W.putObj (w.heap.size + 1) (m'.obj ePl)).cell? a = W.cell? a := fun m' a => World.putObj_map_cell wb a
  have wh : ∀ m' : PM Pl, (W.putObj (w.heap.size + 1) (m'.obj ePl)).heap[w.heap.size + 1]? = some (m'.obj ePl) := fun m' => World.putObj_heap_same (World.lt_of_block wb)
  have wp_ : ∀ (m' : PM Pl) o, (W.putObj (w.heap.size + 1) (m'.obj ePl)).putObj (w.heap.size + 1) o = W.putObj (w.heap.size + 1) o := fun m' o => World.putObj_putObj _ _ _ _
  have w0 : W.cell? ⟨w.heap.size, 0, none⟩ = some (.func (.func 84) #[] #[.pointer (some ⟨lb, 0, none⟩)]) := hg.out.cell_of (by rw [hmc]; exact c0)
  have w2 : W.cell? ⟨w.heap.size + 1 + 1, 0, none⟩ = some (.map (some (w.heap.size + 1))) := hg.out.cell_of (by rw [hmc]; exact c2)
  have wl : W.cell? ⟨lb, 0, none⟩ = some (.int .i64 l) := hg.out.cell_of (by rw [hmc]; exact cl)
  have wa : W.cell? ⟨w1.heap.size, 0, none⟩ = some (.slice aa J.size acap) := hg.out.cell_of (by rw [hmc]; exact ca)
  have hWs : w.heap.size + 1 < W.heap.size := World.lt_of_block wb
  have hmu : boxN (.pointer (some ⟨bi, 0, none⟩)) W = k := by simp [boxN, hbi]
  rw [hmu]
  cases k with
  | succ t =>
    have hlt : t < J.size := by omega
    have e0 : ((t + 1 : Nat) : Int) - 1 = t := by omega
    rw [e0] at hbi
    obtain ⟨ab, ao, rfl, h0⟩ := Hac2.out t 0 hlt (by omega)
    obtain ⟨_, _, e1, h1⟩ := Hac2.out t 1 hlt (by omega); cases e1
    obtain ⟨_, _, e1, h2⟩ := Hac2.out t 2 hlt (by omega); cases e1
    obtain ⟨_, _, e1, h3⟩ := Hac2.out t 3 hlt (by omega); cases e1
    simp only [placeC, Nat.add_zero] at h0 h1 h2 h3
    replace h0 := hg.out.cell_of (by rw [hmc]; exact h0)
    replace h1 := hg.out.cell_of (by rw [hmc]; exact h1)
    replace h2 := hg.out.cell_of (by rw [hmc]; exact h2)
    replace h3 := hg.out.cell_of (by rw [hmc]; exact h3)
    go_wp2_with (go_at_call 66; refine (steps_c _ P0 (J.dig t)).mono ?_; rintro e W9 ⟨rfl, rfl⟩)
    generalize hWe : ((W.alloc (Obj.cells #[Value.pointer (some { block := P0, off := 0 })] 72)).alloc (plcO (J.dig t))) = We
    refine wp_rangeFunc_walk (f := 85) (by rfl) (fun _ _ => rfl) (steps_seq _ _ P0 J (J.dig t) HJ.out (J.dig_in t).le) (fun x hx => by obtain ⟨r, _, rfl⟩ := List.mem_map.1 hx; rfl)
      (fun j V => ∃ (mk : PM Pl) (r : Nat), r ≤ J.n ∧ (J.steps (J.dig t) r).length = j ∧ togoIs J l (t + 1) r mk ∧ V = ((((W.putObj (w.heap.size + 1) (mk.obj ePl)).alloc (Obj.cells #[Value.pointer (some { block := P0, off := 0 })] 72)).alloc (plcO (J.dig t)))))
      (fun _ _ => False) ?_ (fun _ _ h => h.elim) ?_ ?_ ?_ ?_ (fun _ _ _ _ h => h.elim)
    · rintro j V ⟨mk, r, -, -, -, rfl⟩
      subst hWe
      simp
    · rintro j V ⟨mk, r, -, -, -, rfl⟩ W9 hgW
      exact ⟨hgW.cell_of (by simp [go_sem]), fun i hi => hgW.cell_of (by simp [go_sem, hi]), ((HP1.out.sub fun a v h => by rw [wc]; exact hg.out.cell_of (by rw [hmc]; exact h)).mono (w' := ((((W.putObj (w.heap.size + 1) (mk.obj ePl)).alloc (Obj.cells #[Value.pointer (some { block := P0, off := 0 })] 72)).alloc (plcO (J.dig t))))) (by (repeat (first | exact World.grows.refl _ | assumption | refine World.grows.alloc ?_ _ | refine World.grows.plus ?_ _ _ | refine World.grows.drew ?_)))).mono hgW⟩
    · exact ⟨m, 0, by omega, rfl, hm.out, by rw [World.putObj_self wb]; exact hWe.symm⟩
    · rintro j x V lo n y hx ⟨mk, r, hr, hj, hmk, hV⟩ K0 hK0
      obtain ⟨r', hr1, hr2, hr3, rfl, hr4, hr5⟩ := J.next_open (J.dig t) (J.n - r) r (by omega) hj hx
      have hmr : togoIs J l (t + 1) r' mk := by
        have := hmk.jump hlt (r' - r) (fun i h1 h2 => hr5 i h1 (by omega))
        rwa [show r + (r' - r) = r' by omega] at this
      clear hmk hr hj hr1 hr5 hx
      have hWes : We.heap.size = W.heap.size + 2 := by subst hWe; simp
      have hVs : V.heap.size = W.heap.size + 2 := by subst hV; simp
      have hVb : V.heap[w.heap.size + 1]? = some (mk.obj ePl) := by subst hV; simp [go_sem, wh]
      have v0 : V.cell? ⟨w.heap.size, 0, none⟩ = some (.func (.func 84) #[] #[.pointer (some ⟨lb, 0, none⟩)]) := by subst hV; simp [go_sem, wc, w0]
      have v2 : V.cell? ⟨w.heap.size + 1 + 1, 0, none⟩ = some (.map (some (w.heap.size + 1))) := by subst hV; simp [go_sem, wc, w2]
      have vl : V.cell? ⟨lb, 0, none⟩ = some (.int .i64 l) := by subst hV; simp [go_sem, wc, wl]
      have va : V.cell? ⟨w1.heap.size, 0, none⟩ = some (.slice (some ⟨ab, ao, none⟩) J.size acap) := by subst hV; simp [go_sem, wc, wa]
      have vi : V.cell? ⟨bi, 0, none⟩ = some (.int .i64 t) := by subst hV; simp [go_sem, wc, hbi]
      have p0 : V.cell? ⟨ab, ao + t * 4, none⟩ = some (.int .i64 (J.dig t 0)) := by subst hV; simp [go_sem, wc, h0]
      have p1 : V.cell? ⟨ab, ao + t * 4 + 1, none⟩ = some (.int .i64 (J.dig t 1)) := by subst hV; simp [go_sem, wc, h1]
      have p2 : V.cell? ⟨ab, ao + t * 4 + 2, none⟩ = some (.int .i64 (J.dig t 2)) := by subst hV; simp [go_sem, wc, h2]
      have p3 : V.cell? ⟨ab, ao + t * 4 + 3, none⟩ = some (.int .i64 (J.dig t 3)) := by subst hV; simp [go_sem, wc, h3]
      have hVc : ∀ m' : PM Pl, V.putObj (w.heap.size + 1) (m'.obj ePl) = (((W.putObj (w.heap.size + 1) (m'.obj ePl)).alloc (Obj.cells #[Value.pointer (some { block := P0, off := 0 })] 72)).alloc (plcO (J.dig t))) := fun m' => by
        subst hV
        rw [World.putObj_alloc_lt _ _ _ _ (by simp; omega), World.putObj_alloc_lt _ _ _ _ (by simp; omega), wp_]
      have HVc := Lib.hid hVc
      clear hV hWe hVc h0 h1 h2 h3 w0 w2 wl wa hbi
      simp only [hWes] at hK0 ⊢
      dsimp only [Job.stepv]
      rw [zip_one]
      simp only [List.setIfInBounds_toArray, List.set_cons_zero, List.set_cons_succ]
      gi_wp2
      refine hK0.out _ _ (by (repeat (first | exact World.grows.refl _ | assumption | refine World.grows.alloc ?_ _ | refine World.grows.plus ?_ _ _ | refine World.grows.drew ?_))) fun lo' K1 hK1 => ?_
      rw [World.putObj_alloc_lt _ _ _ _ (by simp; omega), World.putObj_plus _ _ _ _ _ (by simp; omega), World.putObj_alloc_at _ _ _ _ (by simp; omega)]
      generalize World.putIn ((V.alloc (Obj.deferred (some []))).alloc lo) n y (W.heap.size + 2 + 1) lo' = y'
      have hl1 := fun W h => lk99 mk (w.heap.size + 1) W h (Job.to (J.dig t) r')
      have hth := hmr.there hlt hr2 hr3
      simp only [hth] at hl1
      by_cases hwz : 0 < J.togoN l (Job.to (J.dig t) r')
      · have hwz' : (0 : Int) < (J.togoN l (Job.to (J.dig t) r') : Int) := by omega
        gi_wp2_with (gi_at_call 84; go_loud (refine (Fence.free_round Try.prog _).calls _ _ _ _ _ ((c84 _ lb r' (Job.to (J.dig t) r') (J.hot (J.dig t) r') l (by simp [go_sem, vl])).mono ?_); rintro e U ⟨rfl, hgU⟩; have ub : U.heap[w.heap.size + 1]? = some (mk.obj ePl) := hgU.heap_of (by simp [go_sem, hVb]); have u2 : U.cell? ⟨w.heap.size + 1 + 1, 0, none⟩ = some (.map (some (w.heap.size + 1))) := hgU.cell_of (by simp [go_sem, v2]); have ua : U.cell? ⟨w1.heap.size, 0, none⟩ = some (.slice (some ⟨ab, ao, none⟩) J.size acap) := hgU.cell_of (by simp [go_sem, va]); have ui : U.cell? ⟨bi, 0, none⟩ = some (.int .i64 t) := hgU.cell_of (by simp [go_sem, vi]); have up0 : U.cell? ⟨ab, ao + t * 4, none⟩ = some (.int .i64 (J.dig t 0)) := hgU.cell_of (by simp [go_sem, p0]); have up1 : U.cell? ⟨ab, ao + t * 4 + 1, none⟩ = some (.int .i64 (J.dig t 1)) := hgU.cell_of (by simp [go_sem, p1]); have up2 : U.cell? ⟨ab, ao + t * 4 + 2, none⟩ = some (.int .i64 (J.dig t 2)) := hgU.cell_of (by simp [go_sem, p2]); have up3 : U.cell? ⟨ab, ao + t * 4 + 3, none⟩ = some (.int .i64 (J.dig t 3)) := hgU.cell_of (by simp [go_sem, p3]); have us0 : U.cell? ⟨W.heap.size + 2 + 1 + 1 + n, 1, none⟩ = some (.int .i64 ((Job.to (J.dig t) r') 0)) := hgU.cell_of (by simp [go_sem, hVs]); have us1 : U.cell? ⟨W.heap.size + 2 + 1 + 1 + n, 2, none⟩ = some (.int .i64 ((Job.to (J.dig t) r') 1)) := hgU.cell_of (by simp [go_sem, hVs]); have us2 : U.cell? ⟨W.heap.size + 2 + 1 + 1 + n, 3, none⟩ = some (.int .i64 ((Job.to (J.dig t) r') 2)) := hgU.cell_of (by simp [go_sem, hVs]); have us3 : U.cell? ⟨W.heap.size + 2 + 1 + 1 + n, 4, none⟩ = some (.int .i64 ((Job.to (J.dig t) r') 3)) := hgU.cell_of (by simp [go_sem, hVs]); have hU : ((V.alloc (.deferred (some []))).alloc lo').grows U := World.grows.trans (by (repeat (first | exact World.grows.refl _ | assumption | refine World.grows.alloc ?_ _ | refine World.grows.plus ?_ _ _ | refine World.grows.drew ?_))) hgU; have HU := Lib.hid hU; clear hgU hU p0 p1 p2 p3 v0 v2 vl va vi))
        · rename_i hle
          have hb := Lib.hid (hmr.bd HJ.out (by omega) (J.dig_in t))
          have hb2 := Lib.hid (Job.togoN_bd HJ.out l (Job.to (J.dig t) r'))
          have hst := Lib.hid (hmr.step HJ.out hlt hr2 hr3 (by simpa using hle))
          have hl2 := fun W h => lk99 mk (w.heap.size + 1) W h (J.dig t)
          have hl3 := fun W h => lk99 (mk.touch (tup (J.dig t))) (w.heap.size + 1) W h (J.dig t)
          have hl4 := fun W h => lk99 (mk.touch (tup (J.dig t))) (w.heap.size + 1) W h (Job.to (J.dig t) r')
          simp only [PM.touch_getD, hth] at hl3 hl4
          have hle1 := entry99 mk (w.heap.size + 1) (J.dig t)
          have hle2 := estore99 mk hmr.1 (w.heap.size + 1) (J.dig t)
          obtain ⟨c, hc⟩ : ∃ c, mk.getD (tup (J.dig t)) = c := ⟨_, rfl⟩
          rw [hth, hc] at hst
          simp only [hc] at hl2 hl3 hle1 hb
          obtain ⟨hb0, hb1⟩ := hb.out
          have hb3 := hb2.out
          have uc := World.putObj_map_cell (es' := (PM.ents ePl (mk.touch (tup (J.dig t))).l).toArray) (c' := (mk.touch (tup (J.dig t))).clock) ub
          have uc' : ∀ a, (U.putObj (w.heap.size + 1) (PM.obj ePl (mk.touch (tup (J.dig t))))).cell? a = U.cell? a := uc
          clear uc
          have uh := World.putObj_heap_same (o := PM.obj ePl (mk.touch (tup (J.dig t)))) (World.lt_of_block ub)
          (refine wpIn_region_stirO (Fence.free_round _ _) 12 13 11 _ (w.heap.size + 1) ((mk.touch (tup (J.dig t))).obj ePl) rfl (by kernel_rfl) (by kernel_rfl) (by kernel_rfl) (by decide) (by decide) (by decide) rfl ?_; simp only [List.take_succ_cons, List.take_zero, List.drop_succ_cons, List.drop_zero, List.take_nil, List.drop_nil, List.append_nil, List.nil_append, List.cons_append, Nat.reduceAdd, Nat.reduceSub]; (repeat (refine wpCalm2_step (fun K hK => ?_); go_simp; first | (refine hK _ ?_; clear hK K) | (apply Exists.intro; refine ⟨⟨fun n' x' => ?_, fun n' x' => ?_⟩, hK _ ?_⟩; (fail); (fail); clear hK K))); refine wpCalm2_nil ?_)
          refine ⟨.tuple #[.int .i64 c, goInt (mk.stamp (tup (J.dig t)))], Oper.stirs_of (World.lt_of_block ub) (fun n' x' => by go_simp), ?_⟩
          refine wpCalm_step (fun K hK => ?_)
          go_simp
          refine hK _ ?_
          clear hK K
          refine wpCalm_nil (fun n5 x5 => ?_)
          gi_wp2
          have hx3 := HVc.out (mk.set (tup (J.dig t)) (c + ↑(J.togoN l (Job.to (J.dig t) r'))))
          refine hK1.out _ _ _ ⟨_, ⟨_, r' + 1, by omega, by rw [Job.steps_succ, if_pos hr3]; simp [hr4], hst.out, hx3⟩, ?_⟩
          rw [World.putObj_putObj]
          have hg2 := HU.out.putObj (PM.obj ePl (mk.set (tup (J.dig t)) (c + ↑(J.togoN l (Job.to (J.dig t) r'))))) (b := w.heap.size + 1) (by simp; omega)
          rw [World.putObj_alloc_lt _ _ _ _ (by simp; omega), World.putObj_alloc_lt _ _ _ _ (by omega)] at hg2
          exact hg2.plus _ _
        · rename_i hle
          have hx3 := HVc.out mk
          rw [World.putObj_self hVb] at hx3
          refine hK1.out _ _ _ ⟨V, ⟨mk, r' + 1, by omega, by rw [Job.steps_succ, if_pos hr3]; simp [hr4], hmr.skip hlt fun _ => .inl (by simpa using hle), hx3⟩, HU.out⟩
      · have hwz' : ¬ (0 : Int) < (J.togoN l (Job.to (J.dig t) r') : Int) := by omega
        gi_wp2
        have hx3 := HVc.out mk
        rw [World.putObj_self hVb] at hx3
        refine hK1.out _ _ _ ⟨V, ⟨mk, r' + 1, by omega, by rw [Job.steps_succ, if_pos hr3]; simp [hr4], hmr.skip hlt fun _ => .inr (by omega), hx3⟩, by (repeat (first | exact World.grows.refl _ | assumption | refine World.grows.alloc ?_ _ | refine World.grows.plus ?_ _ _ | refine World.grows.drew ?_))⟩
    · rintro V n y ⟨mk, r, hr, hj, hmk, hV⟩
      have hWes : We.heap.size = V.heap.size := by subst hWe; subst hV; simp
      have hmn : togoIs J l (t + 1) J.n mk := by
        have := hmk.jump hlt (J.n - r) (fun i h1 h2 => J.done_open (J.dig t) (J.n - r) r (by omega) hj i h1 (by omega))
        rwa [show r + (J.n - r) = J.n by omega] at this
      have Hmn : Hid (togoIs J l t 0 mk) := Lib.hid ⟨hmn.1, fun q hq => by rw [hmn.2 q hq, J.gone_next]⟩
      have hgV : (W1.putObj (w.heap.size + 1) (mk.obj ePl)).grows V := by
        subst hV
        refine World.grows.trans ?_ (show (W.putObj (w.heap.size + 1) (mk.obj ePl)).grows _ by (repeat (first | exact World.grows.refl _ | assumption | refine World.grows.alloc ?_ _ | refine World.grows.plus ?_ _ _ | refine World.grows.drew ?_)))
        have := hg.out.putObj (mk.obj ePl) (b := w.heap.size + 1) (by simp; omega)
        rwa [hmp] at this
      have HgV := Lib.hid hgV
      have hdV : Marks w.heap.size ds V := by
        subst hV
        exact (hds.out.put (o := mk.obj ePl) (b := w.heap.size + 1) (fun c => by rw [wb]; simp [PM.obj])).mono (by (repeat (first | exact World.grows.refl _ | assumption | refine World.grows.alloc ?_ _ | refine World.grows.plus ?_ _ _ | refine World.grows.drew ?_)))
      have HdV := Lib.hid hdV
      have hVs : V.heap.size = W.heap.size + 2 := by subst hV; simp
      have vi : V.cell? ⟨bi, 0, none⟩ = some (.int .i64 t) := by subst hV; simp [go_sem, wc, hbi]
      clear hgV hdV hmn hmk hj hr hV hWe h0 h1 h2 h3 hbi
      go_wp2
      refine ⟨_, rfl, rfl, ⟨t, _, mk, by omega, rfl, by simp [go_sem, hVs], Hmn, Lib.hid ?_, Lib.hid (HgV.out.trans (by (repeat (first | exact World.grows.refl _ | assumption | refine World.grows.alloc ?_ _ | refine World.grows.plus ?_ _ _ | refine World.grows.drew ?_))))⟩, by simp [getL, boxN, go_sem, hVs]⟩
      rw [hWes]
      exact HdV.out.push (by (repeat (first | exact World.grows.refl _ | assumption | refine World.grows.alloc ?_ _ | refine World.grows.plus ?_ _ _ | refine World.grows.drew ?_))) (by omega)
  | zero =>
    go_wp2
    refine Marks.leaves (B := w.heap.size) (fun W => w.grows W ∧ W.heap[w.heap.size + 1]? = some (m.obj ePl)) (fun W D h hD hd => ⟨World.putObj_grows h.1 _ hD, ?_⟩) (fun W h => ⟨_, by simp [results, Try.results88, go_sem] <;> rfl, _, m, rfl, h.1, h.2, hm.out.1, fun q hq => by rw [hm.out.2 q hq, Job.gone_end J l q]⟩) ds _ (hds.out.mono (by (repeat (first | exact World.grows.refl _ | assumption | refine World.grows.alloc ?_ _ | refine World.grows.plus ?_ _ _ | refine World.grows.drew ?_)))) ⟨?_, ?_⟩
    · rw [World.putObj_heap_other]
      · exact h.2
      · intro he; rw [he] at h; rw [h.2] at hd; simp [PM.obj] at hd
    · exact ((World.putObj_grows Hgw.out _ (by omega)).trans hg.out).trans (by (repeat (first | exact World.grows.refl _ | assumption | refine World.grows.alloc ?_ _ | refine World.grows.plus ?_ _ _ | refine World.grows.drew ?_)))
    · exact (show W.grows _ by (repeat (first | exact World.grows.refl _ | assumption | refine World.grows.alloc ?_ _ | refine World.grows.plus ?_ _ _ | refine World.grows.drew ?_))).heap_of wb

end Go.Proofs.Ytjpccfpmhmddjaa

