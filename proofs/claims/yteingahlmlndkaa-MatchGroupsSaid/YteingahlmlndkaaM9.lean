/-
  What is proved: a search for a way from an unmatched thing (78).
-/
import Derived.Test.YteingahlmlndkaaM8
import Derived.Test.YteingahlmlndkaaM7
set_option linter.all false
namespace Go.Proofs.Yteingahlmlndkaa
open Go.RowKit
attribute [local irreducible] Go.wpCalm rowV
attribute [local go_sem] Oper.semAt_some
/-- what a search answers -/
def WayAns (A : Nat → Nat → Bool) (Lf : Nat → Bool) (M : Nat → Nat) (r : Nat) (p : Nat → Option Nat) (e : Ending) : Prop :=
  (e = .returned (.int .i64 (-1)) ∧ NoCov A Lf M r) ∨ ∃ (t v : Nat) (q : List Nat), e = .returned (.int .i64 (t : Nat)) ∧ p t = some v ∧ Alt M p v q r ∧ (t :: (q ++ [r])).Nodup ∧ (∀ y ∈ q, M y ≠ y) ∧ (∀ z w, p z = some w → A w z = true) ∧ M t = t ∧ Lf t = true
theorem SrchAt.baseEq {w : World} {b : Nat} {bp : Value} {L : Nat} {M : Nat → Nat} {p : Nat → Option Nat} {bs bs' : Nat → Nat} {S : Nat} (h : SrchAt w b bp L M p bs S) (e : ∀ i, i < 16 → bs i = bs' i) : SrchAt w b bp L M p bs' S := by
  unfold SrchAt at h ⊢
  rw [h]
  congr 2
  refine rowV_congr fun i hi => ?_
  unfold srchC
  by_cases h1 : 34 ≤ i ∧ i < 50
  · rw [e (i - 34) (by omega)]
  · by_cases h2 : i < 34
    · by_cases h0 : i = 0
      · rw [if_pos h0, if_pos h0]
      · by_cases h3 : i = 1
        · rw [if_neg h0, if_neg h0, if_pos h3, if_pos h3]
        · by_cases h4 : i < 18
          · rw [if_neg h0, if_neg h0, if_neg h3, if_neg h3, if_pos h4, if_pos h4]
          · rw [if_neg h0, if_neg h0, if_neg h3, if_neg h3, if_neg h4, if_neg h4, if_pos h2, if_pos h2]
    · have h3 : ¬ i < 50 := by omega
      rw [if_neg (by omega), if_neg (by omega), if_neg (by omega), if_neg h2, if_neg h3, if_neg (by omega), if_neg (by omega), if_neg (by omega), if_neg h2, if_neg h3]
def bsZ (k i : Nat) : Nat := if i < k then i else 0
theorem bsZ_next (k : Nat) : updB (bsZ k) k k = bsZ (k + 1) := funext fun i => by
  unfold updB bsZ
  by_cases h : i = k
  · rw [if_pos h, if_pos (by omega), h]
  · rw [if_neg h]
    by_cases h2 : i < k
    · rw [if_pos h2, if_pos (by omega)]
    · rw [if_neg h2, if_neg (by omega)]
set_option maxRecDepth 100000 in
set_option maxHeartbeats 4000000 in
theorem way_c (w : World) (sb bb n : Nat) (L : Nat) (M : Nat → Nat) (p0 : Nat → Option Nat) (bs0 : Nat → Nat) (S0 r : Nat) (A : Nat → Nat → Bool) (Lf : Nat → Bool)
    (h : SrchAt w sb (.pointer (some ⟨bb, 0, none⟩)) L M p0 bs0 S0) (hB : BenchOf w bb n A) (hbs : bb ≠ sb) (hLb : L < 65536) (hL : L.testBit = Lf) (hM : IsM A Lf M) (hA : ∀ a b, A a b = A b a) (hr : Lf r = true) (hr1 : M r = r) :
    Calls Try.prog 78 #[.pointer (some ⟨sb, 0, none⟩), .int .i64 (r : Nat)] w fun e w' => ∃ (p : Nat → Option Nat) (bs : Nat → Nat) (S : Nat), SrchAt w' sb (.pointer (some ⟨bb, 0, none⟩)) L M p bs S ∧ Only sb w w' ∧ WayAns A Lf M r p e := by
  have hL16 : ∀ v, Lf v = true → v < 16 := fun v hv => by
    rw [← hL] at hv
    exact Nat.lt_of_not_le fun hle => by
      have h2 : 2 ^ 16 ≤ 2 ^ v := Nat.pow_le_pow_right (by omega) hle
      rw [Nat.testBit_lt_two_pow (x := L) (i := v) (Nat.lt_of_lt_of_le hLb h2)] at hv
      cases hv
  have hr16 := hL16 r hr
  have hsz : sb < w.heap.size := World.lt_of_block h
  have HLf := Lib.hid hL
  have HM := Lib.hid hM
  have HA := Lib.hid hA
  have Hr := Lib.hid (And.intro hr hr1)
  have HL16 := Lib.hid hL16
  have HB := Lib.hid hB
  have Hh := Lib.hid h
  clear hL hM hA hr hr1 hL16 hB h
  (refine (callsIn_wide (n := 0)).1 (callsIn_of_wp_marks Try.func78 rfl trivial ((wpIn_wide (n := 0)).2 ?_) rfl); simp only [Try.ntmps78, List.size_toArray, List.length_cons, List.length_nil, Nat.reduceAdd, Nat.reduceSub, Array.replicate_succ, Array.replicate_zero, List.push_toArray, List.append_toArray, List.nil_append, List.cons_append])
  go_upto_region 1 with fail
  go_step3
  go_upto_region 1 with fail
  (refine wp_region_chain 2 [1] (by kernel_rfl) (by kernel_rfl) (by decide) ?_; simp only [without, only, withNo, List.take_succ_cons, List.take_zero, List.drop_succ_cons, List.drop_zero, List.take_nil, List.drop_nil, Nat.reduceAdd, Nat.reduceSub, List.filter, List.contains_cons, List.contains_nil, Nat.reduceBEq, Bool.or_false, Bool.false_or, Bool.true_or, Bool.or_true, Bool.or_self, Bool.not_true, Bool.not_false, List.map_cons, List.map_nil]; (repeat (refine wpCalm_step (fun K hK => ?_); go_simp; first | (refine hK _ ?_; clear hK K) | (apply Exists.intro; refine ⟨fun n' x' => ?_, hK _ ?_⟩; (fail); clear hK K))); refine wpCalm_nil ?_)
  (refine wpChain_step (fun K hK nc xc => ?_); go_simp)
  refine (none_c _).mono ?_
  rintro e W1 ⟨rfl, g1⟩
  refine ⟨_, rfl, g1, hK _ _ ?_⟩
  clear hK K
  (refine wpChain_nil (fun nc xc => ?_))
  have gA : w.grows (W1.plus nc xc) := World.grows.trans (by (repeat (first | exact World.grows.refl _ | assumption | refine World.grows.alloc ?_ _ | refine World.grows.plus ?_ _ _ | refine World.grows.drew ?_))) (World.grows.trans g1 (by (repeat (first | exact World.grows.refl _ | assumption | refine World.grows.alloc ?_ _ | refine World.grows.plus ?_ _ _ | refine World.grows.drew ?_))))
  have gB : ((w.alloc (Obj.cells #[Value.pointer (some { block := sb, off := 0 })] 120)).alloc (Obj.cells #[Value.int IntKind.i64 ↑r] 3)).grows (W1.plus nc xc) := World.grows.trans (by (repeat (first | exact World.grows.refl _ | assumption | refine World.grows.alloc ?_ _ | refine World.grows.plus ?_ _ _ | refine World.grows.drew ?_))) (World.grows.trans g1 (by (repeat (first | exact World.grows.refl _ | assumption | refine World.grows.alloc ?_ _ | refine World.grows.plus ?_ _ _ | refine World.grows.drew ?_))))
  obtain ⟨x2, hx2⟩ : ∃ x2, w.heap.size = x2 := ⟨_, rfl⟩
  have H2 : (W1.plus nc xc).heap[x2]? = some (.cells #[.pointer (some ⟨sb, 0, none⟩)] 120) := gB.heap_of (World.grows.heap_of (by (repeat (first | exact World.grows.refl _ | assumption | refine World.grows.alloc ?_ _ | refine World.grows.plus ?_ _ _ | refine World.grows.drew ?_))) (World.heap_at w _ _ hx2.symm))
  have H3 : (W1.plus nc xc).heap[x2 + 1]? = some (.cells #[.int .i64 (r : Nat)] 3) := gB.heap_of (World.heap_at _ _ _ (by simp [hx2]))
  have S1 := Hh.out.grow gA
  simp only [hx2]
  generalize W1.plus nc xc = V at gA gB H2 H3 S1 ⊢
  clear gB g1
  iterate 2 (refine wpList_step (fun K hK => ?_); go_simp; refine hK _ _ ?_; clear hK K)
  refine wpList_store_mid rfl 99 (.tmp 14) (.tmp 12) rfl sb 18 (rowI 16 fun _ => -1) (by rfl) (by rfl) (S1.there (o := 18) (by omega)) (by rw [info99]; rfl) (rowI_one _ _) ?_
  have S2 := S1.rowP
  have O2 : Only sb w (V.setCells sb 18 (rowI 16 fun _ => -1).toList) := (Only.of gA).cells _ _
  have O2' : Only sb V (V.setCells sb 18 (rowI 16 fun _ => -1).toList) := (Only.refl sb V).cells _ _
  replace H2 := O2'.other x2 _ (by omega) H2
  replace H3 := O2'.other (x2 + 1) _ (by omega) H3
  generalize V.setCells sb 18 (rowI 16 fun _ => -1).toList = V2 at H2 H3 S2 O2 ⊢
  clear O2' gA S1
  have b2 := cell_box H2
  go_upto_region 2 with fail
  iterate 13 go_step
  refine wpList_clear rfl (.tmp 18) 26 rfl (.slice (some ⟨sb, 34, none⟩) 16 16) (by rfl) (S2.clear_run _) ?_
  have S3 := S2.zeroB
  have O3 : Only sb w (V2.setCells sb 34 (List.replicate 16 (.int .i64 0))) := O2.cells _ _
  have O3' : Only sb V2 (V2.setCells sb 34 (List.replicate 16 (.int .i64 0))) := (Only.refl sb V2).cells _ _
  replace H2 := O3'.other x2 _ (by omega) H2
  replace H3 := O3'.other (x2 + 1) _ (by omega) H3
  generalize V2.setCells sb 34 (List.replicate 16 (.int .i64 0)) = V3 at H2 H3 S3 O3 ⊢
  clear O3' b2 S2 O2
  go_wp2
  have A0 := And.intro H2 (And.intro H3 (And.intro S3 O3))
  have HA0 := Lib.hid A0
  clear A0 H2 H3 S3 O3
  go_loopw [19] (fun i wr => ∃ k : Nat, k ≤ 16 ∧ i = .int .i64 (k : Nat) ∧ Hid (wr.heap[x2]? = some (.cells #[.pointer (some ⟨sb, 0, none⟩)] 120)) ∧ Hid (wr.heap[x2 + 1]? = some (.cells #[.int .i64 (r : Nat)] 3)) ∧ Hid (SrchAt wr sb (.pointer (some ⟨bb, 0, none⟩)) L M (fun _ => none) (bsZ k) S0) ∧ Hid (Only sb w wr)) (fun i _ => 16 - (intOf i).toNat)
  case atStart => exact ⟨0, by omega, rfl, Lib.hid HA0.out.1, Lib.hid HA0.out.2.1, Lib.hid (HA0.out.2.2.1.baseEq fun i hi => by unfold bsZ; rw [if_neg (by omega)]), Lib.hid HA0.out.2.2.2⟩
  case round =>
    clear HA0
    obtain ⟨k, hk, rfl, h2, h3, hs, ho⟩ := hrel
    by_cases hlt : k < 16
    · have hkI : (k : Int) < 16 := by omega
      have b2 := cell_box h2.out
      have c1 := hs.out.base hlt
      have c2 := hs.out.fz (34 + k)
      have HS := Lib.hid (hs.out.setB hlt k)
      have O1 : Only sb wr (wr.setCell ⟨sb, 34 + k, none⟩ (.int .i64 (k : Nat))) := (Only.refl sb wr).set _ _
      have HR := Lib.hid (And.intro (O1.other x2 _ (by omega) h2.out) (And.intro (O1.other (x2 + 1) _ (by omega) h3.out) (ho.out.trans O1)))
      clear h2 h3 hs ho O1
      go_wp2
      case roundEnd => exact ⟨⟨k + 1, by omega, by go_num, Lib.hid HR.out.1, Lib.hid HR.out.2.1, Lib.hid (by rw [← bsZ_next]; exact HS.out), Lib.hid HR.out.2.2⟩, by simp [intOf]; omega⟩
    · have hke : k = 16 := by omega
      subst hke
      have b2 := cell_box h2.out
      have b3 := cell_box h3.out
      have hsh := shlw_u32 hr16
      have f5 := hs.out.fz 50
      have HS := Lib.hid (hs.out.baseEq (bs' := id) fun i hi => by unfold bsZ; rw [if_pos hi]; rfl)
      have HA1 := Lib.hid (And.intro h2.out (And.intro h3.out ho.out))
      obtain ⟨N, hN⟩ : ∃ N, 2 ^ r = N := ⟨_, rfl⟩
      have HN := Lib.hid hN
      rw [hN] at hsh
      have c50 := hs.out.seen
      clear h2 h3 ho hs hlt hk hN
      go_upto_region 8 with fail
      (refine wp_region_tail 5 (by kernel_rfl) (by kernel_rfl) (by decide) ?_; simp only [List.take_succ_cons, List.take_zero, List.drop_succ_cons, List.drop_zero, List.take_nil, List.drop_nil, List.append_nil, List.nil_append, List.cons_append, Nat.reduceAdd, Nat.reduceSub]; (repeat (refine wpCalm_step (fun K hK => ?_); go_simp; first | (refine hK _ ?_; clear hK K) | (apply Exists.intro; refine ⟨fun n' x' => ?_, hK _ ?_⟩; (fail); clear hK K))); refine wpCalm_nil ?_; intro nq xq)
      (refine wpList_step (fun K hK => ?_); go_simp; refine hK _ _ ?_; clear hK K)
      obtain ⟨W4, hW4⟩ : ∃ W4, W4 = (wr.setCell ⟨sb, 50, none⟩ (.int .u32 (N : Nat))).plus nq (wr.setIn nq xq ⟨sb, 50, none⟩ (.int .u32 (N : Nat))) := ⟨_, rfl⟩
      have g8 : (wr.setCell ⟨sb, 50, none⟩ (.int .u32 (N : Nat))).grows W4 := by rw [hW4]; (repeat (first | exact World.grows.refl _ | assumption | refine World.grows.alloc ?_ _ | refine World.grows.plus ?_ _ _ | refine World.grows.drew ?_))
      have S4 := (HS.out.setS N).grow g8
      have O4 : Only sb wr W4 := ((Only.refl sb wr).set _ _).grow g8
      have H2 := O4.other x2 _ (by omega) HA1.out.1
      have H3 := O4.other (x2 + 1) _ (by omega) HA1.out.2.1
      replace O4 := HA1.out.2.2.trans O4
      rw [← hW4]
      clear hW4
      clear g8 HA1 HS c50 hsh f5 b2 b3
      have b2 := cell_box H2
      have b3 := cell_box H3
      go_wp2
      go_step3
      go_wp2
      obtain ⟨q, hq⟩ : ∃ q, W4.heap.size = q := ⟨_, rfl⟩
      obtain ⟨W5, hW5⟩ : ∃ W5, W5 = allocs W4 [.cells #[.int .i64 (r : Nat)] 3, .cells #[.slice (some ⟨q, 0, none⟩) 1 1] 26, .cells #[.func (Fn.func 86) #[.pointer (some ⟨sb, 0, none⟩)] #[]] 110, .cells #[.int .i64 (-1)] 3] := ⟨_, rfl⟩
      have e1 : ((((W4.alloc (.cells #[.int .i64 (r : Nat)] 3)).alloc (.cells #[.slice (some ⟨q, 0, none⟩) 1 1] 26)).alloc (.cells #[.func (Fn.func 86) #[.pointer (some ⟨sb, 0, none⟩)] #[]] 110)).alloc (.cells #[.int .i64 (-1)] 3)) = W5 := by rw [hW5]; rfl
      simp only [hq]
      rw [e1]
      have g5 : W4.grows W5 := by rw [hW5]; exact allocs_grows _ _
      have k0 : W5.heap[q]? = some (.cells #[.int .i64 (r : Nat)] 3) := by rw [hW5, ← hq]; exact allocs_at _ W4 (i := 0) rfl
      have k6 : W5.heap[q + 1]? = some (.cells #[.slice (some ⟨q, 0, none⟩) 1 1] 26) := by rw [hW5, ← hq]; exact allocs_at _ W4 (i := 1) rfl
      have k7 : W5.heap[q + 1 + 1]? = some (.cells #[.func (Fn.func 86) #[.pointer (some ⟨sb, 0, none⟩)] #[]] 110) := by rw [hW5, ← hq]; exact allocs_at _ W4 (i := 2) rfl
      have k8 : W5.heap[q + 1 + 1 + 1]? = some (.cells #[.int .i64 (-1)] 3) := by rw [hW5, ← hq]; exact allocs_at _ W4 (i := 3) rfl
      have hwq : w.heap.size ≤ q := by rw [← hq]; exact O4.size
      have hx2l := World.lt_of_block H2
      have hx3l := World.lt_of_block H3
      have S5 := Lib.hid (S4.grow g5)
      have Y5 : Hid (WyS w sb (q + 1) [(x2, .cells #[.pointer (some ⟨sb, 0, none⟩)] 120), (x2 + 1, .cells #[.int .i64 (r : Nat)] 3), (q + 1 + 1, .cells #[.func (Fn.func 86) #[.pointer (some ⟨sb, 0, none⟩)] #[]] 110), (q + 1 + 1 + 1, .cells #[.int .i64 (-1)] 3)] [] [r] (.slice (some ⟨q, 0, none⟩) 1 1) W5) := Lib.hid (by
        have y0 : WyS w sb (q + 1) [] [] [r] (.slice (some ⟨q, 0, none⟩) 1 1) W5 := ⟨O4.grow g5, by omega, hsz, k6, ⟨some ⟨q, 0, none⟩, 1, rfl, Nat.le_refl _, by decide, fun a ha => (by cases ha; exact ⟨hwq, World.lt_of_block k0⟩), fun _ => ⟨q, 0, _, rfl, hwq, k0, rfl, fun i x hx => by
          cases i with
          | zero => exact hx
          | succ i => cases hx⟩⟩, fun e => (by have : q = q + 1 := Option.some.inj e; omega), fun y hy => absurd hy List.not_mem_nil, fun y hy => absurd hy List.not_mem_nil, fun y hy => absurd hy List.not_mem_nil, trivial⟩
        have vq : ∀ b, b ≠ q → vblk (.slice (some ⟨q, 0, none⟩) 1 1) ≠ some b := fun b hb e => hb (Option.some.inj e).symm
        exact (((y0.add k8 (by omega) (by omega) (vq _ (by omega))).add k7 (by omega) (by omega) (vq _ (by omega))).add (g5.heap_of H3) (by omega) (by omega) (vq _ (by omega))).add (g5.heap_of H2) (by omega) (by omega) (vq _ (by omega)))
      have hsn : N.testBit = fun v => decide (v = r) := funext fun v => by rw [← HN.out, Nat.testBit_two_pow]; exact decide_eq_decide.2 eq_comm
      have P5 : Hid (WayP A Lf M r (fun _ => none) id N.testBit [r] (UW [r])) := Lib.hid (by rw [hsn]; exact WayP.start HM.out Hr.out.1 Hr.out.2)
      have hN16 : N < 65536 := by rw [← HN.out]; exact pow_lt16 hr16
      clear hsn HN hW5 e1 g5 k0 k6 k7 k8 hx2l hx3l H2 H3 O4 S4 b2 b3 hq
      refine wp_loop_d [false, false, false, false, false, false, false, false, false, true, false, false, false, false, false, false, false, false, false, false, false, false, false, false, false, false, false, false, false, false, false, false, false, false, false, false, false, false, true, true, true, true, true, true, true, true, true, true, true, true, true, true, true, true, true, true, true, true, true, true, true, false, false, false, false, false, false, false, false, false, false, false, false, false, false, false, false, false, false, false, false, false, false, false, false, false, false, false, false, false, false, false, false, false, false, false, false, false, false, false, false, false, false, false, false, false, false, false, false, false, false, false, false, false, false, false, false, false, false, false, false, false, false, false, false, false, false, false, false, false, false, false, false, false, false, false, false, false, false, false, false, false, false, false, false, false, false, false, false, false, false, false, false, false, false, false, false, false, false, false, false, false, false, false, false, false, false, false, false] (fun u ds W => ∃ (p : Nat → Option Nat) (bs : Nat → Nat) (S : Nat) (wt : List Nat) (wv : Value), Hid (SrchAt W sb (.pointer (some ⟨bb, 0, none⟩)) L M p bs S) ∧ S < 65536 ∧ Hid (WayP A Lf M r p bs S.testBit wt (UW wt)) ∧ wayM S.testBit wt ≤ 33 ∧ Hid (WyS w sb (q + 1) [(x2, .cells #[.pointer (some ⟨sb, 0, none⟩)] 120), (x2 + 1, .cells #[.int .i64 (r : Nat)] 3), (q + 1 + 1, .cells #[.func (Fn.func 86) #[.pointer (some ⟨sb, 0, none⟩)] #[]] 110), (q + 1 + 1 + 1, .cells #[.int .i64 (-1)] 3)] ds wt wv W)) (fun u W => wyM sb (q + 1) W) (by rfl) ⟨_, _, _, _, _, S5, hN16, P5, wayM_le (Nat.le_refl _), Y5⟩ ?_
      clear S5 Y5 P5 hN16
      rintro u ds W ⟨p, bs, S, wt, wv, hS, hS16, hP, hM33, hY⟩
      simp only [fillL, Nat.reduceAdd, Nat.zero_add]
      rw [wyM_eq hY.out hS.out]
      obtain ⟨Aw, capw, rfl, hcap, -⟩ := hY.out.qu.form
      rw [ilist_len] at hY hcap
      have b6 := cell_box hY.out.x6h
      have b2 := cell_box hY.out.hd
      cases wt with
      | nil =>
        have b6' : W.cell? ⟨q + 1, 0, none⟩ = some (.slice Aw 0 capw) := b6
        have b8 := cell_box (hY.out.drop.drop.drop.hd)
        clear b6
        have HN := Lib.hid (hP.out.hung HL16.out)
        have HMk := Lib.hid hY.out.ms
        have HO := Lib.hid hY.out.only
        clear hP hY hcap
        go_wp2
        dsimp only [Exit.noGoto]
        refine Marks.leaves (B := w.heap.size) (fun W' => SrchAt W' sb (.pointer (some ⟨bb, 0, none⟩)) L M p bs S ∧ Only sb w W') (fun W' D h hD hd => ⟨h.1.put (by omega), h.2.putB hD⟩) (fun W' h => ⟨_, by simp [results, Try.results78, go_sem] <;> rfl, p, bs, S, h.1, h.2, .inl ⟨rfl, HN.out⟩⟩) ds _ HMk.out ⟨hS.out, HO.out⟩
      | cons v wt =>
        have hget := hY.out.qu.get (i := 0) (x := .int .i64 (v : Nat)) (by rfl)
        obtain ⟨b, o, rfl, cb⟩ := hget
        rw [Nat.add_zero] at cb
        have f6 := frozen_of_heap hY.out.x6h 0
        have hl6 := World.lt_of_block hY.out.x6h
        obtain ⟨MM, hMM⟩ : ∃ MM, wt.length = MM := ⟨_, rfl⟩
        rw [List.length_cons, hMM] at hY hcap b6
        have hlI : (0 : Int) < ((MM + 1 : Nat) : Int) := by omega
        have hMI : (1 : Int) ≤ ((MM + 1 : Nat) : Int) := by omega
        have hMc : ((MM + 1 : Nat) : Int) ≤ capw := by omega
        go_upto_region 15 with fail
        obtain ⟨A2, hA2⟩ : ∃ A2, (if capw = 1 then some ({ block := b, off := o } : Addr) else some { block := b, off := o + 1 }) = A2 := ⟨_, rfl⟩
        rw [hA2]
        have hQ2 : QAt W w.heap.size 3 (.slice A2 (ilist wt).length (capw - 1)) (ilist wt) := hY.out.qu.tail (A := A2) (by
          rw [← hA2]
          by_cases e : capw = 1
          · right; exact ⟨e, by rw [if_pos e]⟩
          · left; rw [if_neg e])
        have hvb : vblk (.slice A2 (ilist wt).length (capw - 1)) = vblk (.slice (some ⟨b, o, none⟩) (MM + 1) capw) := by
          rw [← hA2]
          split <;> rfl
        rw [ilist_len, hMM] at hQ2 hvb
        obtain ⟨x9, hx9⟩ : ∃ x9, W.heap.size = x9 := ⟨_, rfl⟩
        have hy1 := hY.out.app ⟨_, _, hS.out⟩ hQ2 ⟨rfl, rfl, rfl, Nat.le_refl _, fun _ _ _ => rfl⟩ (.inl hvb) (fun k o h _ => h)
        have hS1 := hS.out.other (b' := q + 1) (i := 0) (v := .slice A2 MM (capw - 1)) (by omega)
        have hz9 : (W.setCell ⟨q + 1, 0, none⟩ (.slice A2 MM (capw - 1))).heap.size = x9 := by rw [← hx9]; simp
        have hy2 := hy1.fresh (U' := (W.setCell ⟨q + 1, 0, none⟩ (.slice A2 MM (capw - 1))).alloc (.cells #[.int .i64 (v : Nat)] 3)) (by (repeat (first | exact World.grows.refl _ | assumption | refine World.grows.alloc ?_ _ | refine World.grows.plus ?_ _ _ | refine World.grows.drew ?_))) (World.heap_at _ _ _ hz9.symm) (by omega)
        have hS2 := hS1.grow (show (W.setCell ⟨q + 1, 0, none⟩ (.slice A2 MM (capw - 1))).grows ((W.setCell ⟨q + 1, 0, none⟩ (.slice A2 MM (capw - 1))).alloc (.cells #[.int .i64 (v : Nat)] 3)) by (repeat (first | exact World.grows.refl _ | assumption | refine World.grows.alloc ?_ _ | refine World.grows.plus ?_ _ _ | refine World.grows.drew ?_)))
        obtain ⟨hP2, hsv⟩ := hP.out.pop HA.out HL16.out
        have hMl : wayM S.testBit wt < wayM S.testBit (v :: wt) := by unfold wayM; rw [List.length_cons]; omega
        have hMl : wayM S.testBit wt < wayM S.testBit (v :: wt) := by unfold wayM; rw [List.length_cons]; omega
        have hLv := hP.out.srch.elim fun d hd => hd.in_ v hsv
        have hv16 := HL16.out v hLv
        have hvI : (v : Int) < 16 := by omega
        generalize (W.setCell ⟨q + 1, 0, none⟩ (.slice A2 MM (capw - 1))).alloc (.cells #[.int .i64 (v : Nat)] 3) = V6 at hy2 hS2 ⊢
        simp only [hx9]
        have hM33' : wayM S.testBit wt ≤ 33 := by omega
        clear hA2 hQ2 hvb hy1 hz9 hS1 hlI hMI hMc hcap f6 hl6 cb b6 b2 hY hS hP
        have b2 := cell_box hy2.drop.hd
        have b9 := cell_box hy2.hd
        have c0 := hS2.c0
        have c1 := hS2.c1
        obtain ⟨ta, tc, mv, wide, F, hb1, hb2, -, -⟩ := HB.out.only hy2.only hbs
        have c3 := hb1.row hv16
        have hF := hb2.lt v
        have han := and_u32 L (F v) hLb hF
        have hab : (L &&& F v).testBit = fun u => Lf u && A v u := funext fun u => by rw [Nat.testBit_and, HLf.out, hb2.bit]
        have hal : L &&& F v < 65536 := Nat.lt_of_le_of_lt Nat.and_le_left hLb
        obtain ⟨Z, hZ⟩ : ∃ Z, L &&& F v = Z := ⟨_, rfl⟩
        rw [hZ] at han hab hal
        clear hZ hb1 hb2 hF
        (refine wp_region_chain 15 [14] (by kernel_rfl) (by kernel_rfl) (by decide) ?_; simp only [without, only, withNo, List.take_succ_cons, List.take_zero, List.drop_succ_cons, List.drop_zero, List.take_nil, List.drop_nil, Nat.reduceAdd, Nat.reduceSub, List.filter, List.contains_cons, List.contains_nil, Nat.reduceBEq, Bool.or_false, Bool.false_or, Bool.true_or, Bool.or_true, Bool.or_self, Bool.not_true, Bool.not_false, List.map_cons, List.map_nil]; (repeat (refine wpCalm_step (fun K hK => ?_); go_simp; first | (refine hK _ ?_; clear hK K) | (apply Exists.intro; refine ⟨fun n' x' => ?_, hK _ ?_⟩; (fail); clear hK K))); refine wpCalm_nil ?_)
        (refine wpChain_step (fun K hK nc xc => ?_); go_simp)
        refine (things_c _ Z).mono ?_
        rintro e W7 ⟨rfl, hW7⟩
        refine ⟨_, rfl, by rw [hW7]; (repeat (first | exact World.grows.refl _ | assumption | refine World.grows.alloc ?_ _ | refine World.grows.plus ?_ _ _ | refine World.grows.drew ?_)), hK _ _ ?_⟩
        clear hK K
        (refine wpChain_nil (fun nc xc => ?_))
        rename_i na xa
        obtain ⟨bx, hbx⟩ : ∃ bx, (V6.plus na xa).heap.size = bx := ⟨_, rfl⟩
        have g8 : V6.grows (W7.plus nc xc) := by rw [hW7]; (repeat (first | exact World.grows.refl _ | assumption | refine World.grows.alloc ?_ _ | refine World.grows.plus ?_ _ _ | refine World.grows.drew ?_))
        have y8 := hy2.fresh g8 (b := bx) (o := .cells #[.int .u32 (Z : Nat)] 75) (by rw [hW7]; exact World.grows.heap_of (by (repeat (first | exact World.grows.refl _ | assumption | refine World.grows.alloc ?_ _ | refine World.grows.plus ?_ _ _ | refine World.grows.drew ?_))) (World.heap_at _ _ _ hbx.symm)) (by rw [← hbx]; exact (World.grows_plus V6 na xa).size)
        have S8 := hS2.grow g8
        simp only [hbx]
        generalize W7.plus nc xc = W8 at y8 S8 ⊢
        obtain ⟨D, hD⟩ : ∃ D, W8.heap.size = D := ⟨_, rfl⟩
        have hv8 : vblk (.slice A2 MM (capw - 1)) ≠ some (D + 1) := fun e => by have := (y8.qu.blk e).2; omega
        have hD9 : w.heap.size ≤ D := by rw [← hD]; exact y8.only.size
        have HY8 := Lib.hid y8
        have HS8 := Lib.hid S8
        have HP8 := Lib.hid hP2
        clear hW7 hbx g8 y8 S8 hy2 hS2 hP2 b2 b9 c0 c1 c3 han
        go_wp2
        refine wp_rangeFunc_ownX (f := 79) (by rfl) (fun _ _ => rfl) (things_seq bx Z hal) (fun x hx => by obtain ⟨r, _, rfl⟩ := List.mem_map.1 hx; rfl)
          (fun k U => ∃ (p : Nat → Option Nat) (bs : Nat → Nat) (S' : Nat) (wt' : List Nat) (wv : Value), Hid (SrchAt U sb (.pointer (some ⟨bb, 0, none⟩)) L M p bs S') ∧ S' < 65536 ∧ Hid (WayP A Lf M r p bs S'.testBit wt' (UI wt' v ((filtL Z.testBit 16).drop k))) ∧ S'.testBit v = true ∧ wayM S'.testBit wt' ≤ wayM S.testBit wt ∧ Hid (WyS w sb (q + 1) ((D, .deferred (some [])) :: (bx, .cells #[.int .u32 (Z : Nat)] 75) :: (x9, .cells #[.int .i64 (v : Nat)] 3) :: (x2, .cells #[.pointer (some ⟨sb, 0, none⟩)] 120) :: (x2 + 1, .cells #[.int .i64 (r : Nat)] 3) :: (q + 1 + 1, .cells #[.func (Fn.func 86) #[.pointer (some ⟨sb, 0, none⟩)] #[]] 110) :: (q + 1 + 1 + 1, .cells #[.int .i64 (-1)] 3) :: []) ds wt' wv U) ∧ vblk wv ≠ some (D + 1))
          (fun c U => c = .exit 2 ∧ ∃ (p : Nat → Option Nat) (bs : Nat → Nat) (S' t : Nat) (l : List Nat), Hid (SrchAt U sb (.pointer (some ⟨bb, 0, none⟩)) L M p bs S') ∧ Hid (Only sb w U) ∧ Hid (Marks w.heap.size ds U) ∧ Hid (U.heap[q + 1 + 1 + 1]? = some (.cells #[.int .i64 (t : Nat)] 3)) ∧ Hid (p t = some v ∧ Alt M p v l r ∧ (t :: (l ++ [r])).Nodup ∧ (∀ y ∈ l, M y ≠ y) ∧ (∀ z w, p z = some w → A w z = true) ∧ M t = t ∧ Lf t = true))
          ?_ ?_ ?_ ?_ ?_ ?_ ?_ ?_ ?_
        · rintro k U U' ⟨p, bs, S', wt', wv, h1, h2, h3, h4, h5, h6, h7⟩ g
          exact ⟨p, bs, S', wt', wv, Lib.hid (h1.out.grow g), h2, h3, h4, h5, Lib.hid (h6.out.mono g), h7⟩
        · rintro c U U' ⟨h0, p, bs, S', t, l, h1, h2, h3, h4, h5⟩ g
          exact ⟨h0, p, bs, S', t, l, Lib.hid (h1.out.grow g), Lib.hid (h2.out.grow g), Lib.hid (h3.out.mono g), Lib.hid (g.heap_of h4.out), h5⟩
        · rintro k U lo lo' hL ⟨p, bs, S', wt', wv, h1, h2, h3, h4, h5, h6, h7⟩
          rw [hD] at hL ⊢
          refine ⟨p, bs, S', wt', wv, Lib.hid (h1.out.put (by omega)), h2, h3, h4, h5, Lib.hid (h6.out.putL hL (by omega) ?_), h7⟩
          intro y hy l
          simp only [List.mem_cons, List.not_mem_nil, or_false] at hy
          rcases hy with rfl | rfl | rfl | rfl | rfl | rfl | rfl <;> exact fun e => by cases e
        · rintro c U lo lo' hL ⟨h0, p, bs, S', t, l, h1, h2, h3, h4, h5⟩
          rw [hD] at hL ⊢
          exact ⟨h0, p, bs, S', t, l, Lib.hid (h1.out.put (by omega)), Lib.hid (h2.out.putB (by omega)), Lib.hid (h3.out.put (fun c e => by rw [hL] at e; cases e)), Lib.hid (by rw [World.putObj_heap_other (fun e => by rw [← e, h4.out] at hL; cases hL)]; exact h4.out), h5⟩
        · rintro k U ⟨p, bs, S', wt', wv, h1, h2, h3, h4, h5, h6, h7⟩
          exact cell_box h6.out.drop.hd
        · intro lo
          have g : W8.grows ((W8.alloc (.deferred (some []))).alloc lo) := by (repeat (first | exact World.grows.refl _ | assumption | refine World.grows.alloc ?_ _ | refine World.grows.plus ?_ _ _ | refine World.grows.drew ?_))
          exact ⟨p, bs, S, wt, _, Lib.hid (HS8.out.grow g), hS16, Lib.hid (by rw [List.drop_zero, hab]; exact HP8.out), hsv, Nat.le_refl _, Lib.hid (HY8.out.fresh g (World.grows.heap_of (by (repeat (first | exact World.grows.refl _ | assumption | refine World.grows.alloc ?_ _ | refine World.grows.plus ?_ _ _ | refine World.grows.drew ?_))) (World.heap_at _ _ _ hD.symm)) (by omega)), hv8⟩
        · rintro k y U hy ⟨p, bs, S', wt', wv, h1, h2, h3, h4, h5, h6, h7⟩ hDf ⟨lo, hLo⟩ K0 hK0
          rw [hD] at hDf hLo hK0 ⊢
          obtain ⟨t, rfl, ht⟩ : ∃ t, y = stepV t ∧ (filtL Z.testBit 16)[k]? = some t := by
            rw [List.getElem?_map] at hy
            cases ht : (filtL Z.testBit 16)[k]? with
            | none => rw [ht] at hy; cases hy
            | some t => rw [ht] at hy; exact ⟨t, (Option.some.inj hy).symm, rfl⟩
          have htm := List.mem_of_getElem? ht
          simp only [filtL, List.mem_filter, List.mem_range] at htm
          obtain ⟨ht16, htZ⟩ := htm
          rw [hab, Bool.and_eq_true] at htZ
          obtain ⟨htL, htA⟩ := htZ
          have hdrop : (filtL Z.testBit 16).drop k = t :: (filtL Z.testBit 16).drop (k + 1) := by
            obtain ⟨hk, he⟩ := List.getElem?_eq_some_iff.1 ht
            rw [List.drop_eq_getElem_cons hk, he]
          rw [hdrop] at h3
          have hLl := World.lt_of_block hLo
          dsimp only [stepV]
          rw [zip_one]
          simp only [List.setIfInBounds_toArray, List.set_cons_zero, List.set_cons_succ]
          gi_wp2
          refine hK0.out _ _ (by (repeat (first | exact World.grows.refl _ | assumption | refine World.grows.alloc ?_ _ | refine World.grows.plus ?_ _ _ | refine World.grows.drew ?_))) fun lo' K1 hK1 => ?_
          obtain ⟨U1, hU1⟩ : ∃ U1, U1 = U.putObj (D + 1) (.loop lo') := ⟨_, rfl⟩
          have y1 : WyS w sb (q + 1) ((D + 1, .loop lo') :: (D, .deferred (some [])) :: (bx, .cells #[.int .u32 (Z : Nat)] 75) :: (x9, .cells #[.int .i64 (v : Nat)] 3) :: (x2, .cells #[.pointer (some ⟨sb, 0, none⟩)] 120) :: (x2 + 1, .cells #[.int .i64 (r : Nat)] 3) :: (q + 1 + 1, .cells #[.func (Fn.func 86) #[.pointer (some ⟨sb, 0, none⟩)] #[]] 110) :: (q + 1 + 1 + 1, .cells #[.int .i64 (-1)] 3) :: []) ds wt' wv U1 := by
            have := h6.out.putL (lo' := lo') hLo (by omega) (by
              intro y hy l
              simp only [List.mem_cons, List.not_mem_nil, or_false] at hy
              rcases hy with rfl | rfl | rfl | rfl | rfl | rfl | rfl <;> exact fun e => by cases e)
            rw [hU1]
            refine this.add (World.putObj_heap_same hLl) (by omega) (fun e => ?_) h7
            rw [e, h6.out.x6h] at hLo; cases hLo
          have s1 : SrchAt U1 sb (.pointer (some ⟨bb, 0, none⟩)) L M p bs S' := by rw [hU1]; exact h1.out.put (by omega)
          have HFin : Hid (∀ (a' : Act) (U' : World) (p' : Nat → Option Nat) (bs' : Nat → Nat) (T : Nat) (wt'' : List Nat) (wv' : Value), SrchAt U' sb (.pointer (some ⟨bb, 0, none⟩)) L M p' bs' T → T < 65536 → WayP A Lf M r p' bs' T.testBit wt'' (UI wt'' v ((filtL Z.testBit 16).drop (k + 1))) → T.testBit v = true → wayM T.testBit wt'' ≤ wayM S'.testBit wt' → WyS w sb (q + 1) ((D + 1, .loop lo') :: (D, .deferred (some [])) :: (bx, .cells #[.int .u32 (Z : Nat)] 75) :: (x9, .cells #[.int .i64 (v : Nat)] 3) :: (x2, .cells #[.pointer (some ⟨sb, 0, none⟩)] 120) :: (x2 + 1, .cells #[.int .i64 (r : Nat)] 3) :: (q + 1 + 1, .cells #[.func (Fn.func 86) #[.pointer (some ⟨sb, 0, none⟩)] #[]] 110) :: (q + 1 + 1 + 1, .cells #[.int .i64 (-1)] 3) :: []) ds wt'' wv' U' → K1 .normal a' U') := Lib.hid fun a' U' p' bs' T wt'' wv' g1 g2 g3 g4 g5 g6 => hK1.out.1 a' U' ⟨p', bs', T, wt'', wv', Lib.hid g1, g2, Lib.hid g3, g4, by omega, Lib.hid g6.drop, g6.n2 _ (List.mem_cons_self ..)⟩ g6.drop.hd g6.hd
          have HX2 : Hid (∀ (U' : World) (p' : Nat → Option Nat) (T : Nat) (l : List Nat), SrchAt U' sb (.pointer (some ⟨bb, 0, none⟩)) L M p' bs T → Only sb w U' → Marks w.heap.size ds U' → U'.heap[q + 1 + 1 + 1]? = some (.cells #[.int .i64 (t : Nat)] 3) → (p' t = some v ∧ Alt M p' v l r ∧ (t :: (l ++ [r])).Nodup ∧ (∀ y ∈ l, M y ≠ y) ∧ (∀ z w, p' z = some w → A w z = true) ∧ M t = t ∧ Lf t = true) → U'.heap[D]? = some (.deferred (some [])) → U'.heap[D + 1]? = some (.loop lo') → ∀ a' : Act, K1 (.exit 2) a' U') := Lib.hid fun U' p' T l g1 g2 g3 g4 g5 g6 g7 a' => hK1.out.2.2 2 a' U' ⟨rfl, p', bs, T, t, l, Lib.hid g1, Lib.hid g2, Lib.hid g3, Lib.hid g4, Lib.hid g5⟩ g6 g7
          rw [← hU1]
          have HP := Lib.hid h3.out
          have HY := Lib.hid y1
          have HS := Lib.hid s1
          have hsv' := Lib.hid h4
          have hT' := Lib.hid (And.intro htL htA)
          obtain ⟨R, hR⟩ : ∃ R, (filtL Z.testBit 16).drop (k + 1) = R := ⟨_, rfl⟩
          rw [hR] at HFin HP
          have htest := Lib.hid (h3.out.test t)
          clear hK1 hK0 hU1 hDf hLo hLl h1 h3 h6 hdrop hy ht y1 s1 h4 htL htA hR
          have htI : (t : Int) < 16 := by omega
          have b2 := cell_box HY.out.drop.drop.drop.drop.hd
          have b3 := cell_box HY.out.drop.drop.drop.drop.drop.hd
          have b6 := cell_box HY.out.x6h
          have b7 := cell_box HY.out.drop.drop.drop.drop.drop.drop.hd
          have b9 := cell_box HY.out.drop.drop.drop.hd
          have cBv := HS.out.base hv16
          have cBt := HS.out.base ht16
          have cMv := HS.out.mate hv16
          have cMt := HS.out.mate ht16
          have cPt := HS.out.by_ ht16
          by_cases hbe : bs v = bs t
          · have HE := Lib.hid hbe
            rw [← hbe] at cBt
            clear hbe
            gi_wp2
            (refine wpIn_region_calm (Fence.free_round _ _) (by kernel_rfl) (by kernel_rfl) (by kernel_rfl) ?_; (repeat (refine wpCalm_step (fun K hK => ?_); go_simp; first | (refine hK _ ?_; clear hK K) | (apply Exists.intro; refine ⟨fun n' x' => ?_, hK _ ?_⟩; (fail); clear hK K))); refine wpCalm_nil ?_; intro nq xq)
            have gV : U1.grows (U1.plus nq xq) := by (repeat (first | exact World.grows.refl _ | assumption | refine World.grows.alloc ?_ _ | refine World.grows.plus ?_ _ _ | refine World.grows.drew ?_))
            generalize U1.plus nq xq = V9 at gV ⊢
            clear b2 b3 b6 b7 b9 cBv cBt cMv cMt cPt
            gi_wp2
            exact HFin.out _ _ p bs S' wt' wv (HS.out.grow gV) h2 (HP.out.same hsv'.out HE.out) hsv'.out (Nat.le_refl _) (HY.out.mono gV)
          · have HE := Lib.hid hbe
            have hbI : (((bs v : Nat) : Int) == ((bs t : Nat) : Int)) = false := by rw [beq_eq_false_iff_ne]; omega
            clear hbe
            by_cases hm : M v ≠ v ∧ M v = t
            · have HM1 := Lib.hid hm
              rw [mvI_some hm.1, hm.2] at cMv
              clear hm
              gi_wp2
              (refine wpIn_region_calm (Fence.free_round _ _) (by kernel_rfl) (by kernel_rfl) (by kernel_rfl) ?_; (repeat (refine wpCalm_step (fun K hK => ?_); go_simp; first | (refine hK _ ?_; clear hK K) | (apply Exists.intro; refine ⟨fun n' x' => ?_, hK _ ?_⟩; (fail); clear hK K))); refine wpCalm_nil ?_; intro nq xq)
              have gV : U1.grows (U1.plus nq xq) := by (repeat (first | exact World.grows.refl _ | assumption | refine World.grows.alloc ?_ _ | refine World.grows.plus ?_ _ _ | refine World.grows.drew ?_))
              generalize U1.plus nq xq = V9 at gV ⊢
              clear b2 b3 b6 b7 b9 cBv cBt cMv cMt cPt
              gi_wp2
              exact HFin.out _ _ p bs S' wt' wv (HS.out.grow gV) h2 (HP.out.mate hsv'.out HM1.out.1 HM1.out.2) hsv'.out (Nat.le_refl _) (HY.out.mono gV)
            · have hmI : ¬ mvI M v = ((t : Nat) : Int) := by
                unfold mvI
                split
                · omega
                · intro e; exact hm ⟨by assumption, by omega⟩
              obtain ⟨mz, hmz⟩ : ∃ mz, mvI M v = mz := ⟨_, rfl⟩
              rw [hmz] at cMv hmI
              have hmB : (mz == ((t : Nat) : Int)) = false := by rw [beq_eq_false_iff_ne]; exact hmI
              clear hm hmz hmI
              by_cases htr : t = r
              · have Hsnt : Hid (S'.testBit t = true) := Lib.hid (by rw [← htest.out, decide_eq_true htr]; rfl)
                rw [← htr] at b3
                clear htr
                gi_wp2
                (refine wpIn_region_calm (Fence.free_round _ _) (by kernel_rfl) (by kernel_rfl) (by kernel_rfl) ?_; (repeat (refine wpCalm_step (fun K hK => ?_); go_simp; first | (refine hK _ ?_; clear hK K) | (apply Exists.intro; refine ⟨fun n' x' => ?_, hK _ ?_⟩; (fail); clear hK K))); refine wpCalm_nil ?_; intro nq xq)
                have gA : U1.grows (U1.plus nq xq) := by (repeat (first | exact World.grows.refl _ | assumption | refine World.grows.alloc ?_ _ | refine World.grows.plus ?_ _ _ | refine World.grows.drew ?_))
                generalize U1.plus nq xq = V8 at gA ⊢
                replace b3 := gA.cell_of b3
                gi_wp2
                (refine wpIn_region_calm (Fence.free_round _ _) (by kernel_rfl) (by kernel_rfl) (by kernel_rfl) ?_; (repeat (refine wpCalm_step (fun K hK => ?_); go_simp; first | (refine hK _ ?_; clear hK K) | (apply Exists.intro; refine ⟨fun n' x' => ?_, hK _ ?_⟩; (fail); clear hK K))); refine wpCalm_nil ?_; intro nq xq)
                have gV : U1.grows (V8.plus nq xq) := gA.trans (by (repeat (first | exact World.grows.refl _ | assumption | refine World.grows.alloc ?_ _ | refine World.grows.plus ?_ _ _ | refine World.grows.drew ?_)))
                generalize V8.plus nq xq = V9 at gV ⊢
                have HY9 := Lib.hid (HY.out.mono gV)
                have HS9 := Lib.hid (HS.out.grow gV)
                clear b2 b3 b6 b7 b9 hbI hmB gA gV
                gi_wp2
                clear cBv cBt cMv cMt cPt; obtain ⟨I, hIe⟩ : ∃ I : World → Prop, I = fun w' => w'.heap[x2]? = some (.cells #[.pointer (some ⟨sb, 0, none⟩)] 120) ∧ w'.heap[q + 1]? = some (.cells #[wv] 26) ∧ w'.heap[q + 1 + 1]? = some (.cells #[.func (Fn.func 86) #[.pointer (some ⟨sb, 0, none⟩)] #[]] 110) ∧ w'.heap[x9]? = some (.cells #[.int .i64 (v : Nat)] 3) := ⟨_, rfl⟩; have hI : ∀ W W', I W → W.grows W' → I W' := (by rw [hIe]; rintro W W' ⟨a1, a2, a3, a4⟩ g; exact ⟨g.heap_of a1, g.heap_of a2, g.heap_of a3, g.heap_of a4⟩); have hIw : I V9 := (by rw [hIe]; exact ⟨HY9.out.drop.drop.drop.drop.hd, HY9.out.x6h, HY9.out.drop.drop.drop.drop.drop.drop.hd, HY9.out.drop.drop.drop.hd⟩); have HI : Hid (∀ U, I U → U.heap[x2]? = some (.cells #[.pointer (some ⟨sb, 0, none⟩)] 120) ∧ U.heap[q + 1]? = some (.cells #[wv] 26) ∧ U.heap[q + 1 + 1]? = some (.cells #[.func (Fn.func 86) #[.pointer (some ⟨sb, 0, none⟩)] #[]] 110) ∧ U.heap[x9]? = some (.cells #[.int .i64 (v : Nat)] 3)) := Lib.hid fun U h => (by rw [hIe] at h; exact h); have HIm : Hid (∀ U, (U.heap[x2]? = some (.cells #[.pointer (some ⟨sb, 0, none⟩)] 120) ∧ U.heap[q + 1]? = some (.cells #[wv] 26) ∧ U.heap[q + 1 + 1]? = some (.cells #[.func (Fn.func 86) #[.pointer (some ⟨sb, 0, none⟩)] #[]] 110) ∧ U.heap[x9]? = some (.cells #[.int .i64 (v : Nat)] 3)) → I U) := Lib.hid fun U h => (by rw [hIe]; exact h); clear hIe; (refine wpIn_region_chainJ (Fence.free_round _ _) 10 [7, 8, 9] (I) (hI) (hIw) (by kernel_rfl) (by kernel_rfl) (by kernel_rfl) (by decide) ?_; simp only [without, only, withNo, List.take_succ_cons, List.take_zero, List.drop_succ_cons, List.drop_zero, List.take_nil, List.drop_nil, Nat.reduceAdd, Nat.reduceSub, List.filter, List.contains_cons, List.contains_nil, Nat.reduceBEq, Bool.or_false, Bool.false_or, Bool.true_or, Bool.or_true, Bool.or_self, Bool.not_true, Bool.not_false, List.map_cons, List.map_nil]); refine wpCalmJ_go rfl wv (fun U hU => by have e1 := cell_box (HI.out U hU).2.1; go_simp) ?_; refine wpCalmJ_go rfl (.pointer (some ⟨sb, 0, none⟩)) (fun U hU => by have e1 := cell_box (HI.out U hU).1; go_simp) ?_; refine wpCalmJ_go rfl (.int .i64 (v : Nat)) (fun U hU => by have e1 := cell_box (HI.out U hU).2.2.2; go_simp) ?_; refine wpCalmJ_go rfl (.int .i64 (t : Nat)) (fun U hU => by go_simp) ?_; refine wpCalmJ_go rfl (.func (Fn.func 86) #[.pointer (some ⟨sb, 0, none⟩)] #[]) (fun U hU => by have e1 := cell_box (HI.out U hU).2.2.1; go_simp) ?_; refine wpCalmJ_go rfl (.int .i64 (v : Nat)) (fun U hU => by have e1 := cell_box (HI.out U hU).2.2.2; go_simp) ?_; refine wpCalmJ_go rfl (.int .i64 (t : Nat)) (fun U hU => by go_simp) ?_; refine wpCalm_nilJ ?_; simp only [Act.put, List.setIfInBounds_toArray, List.set_cons_zero, List.set_cons_succ]; refine wpChain_stepOJ (fun K hK nc xc hgc => ?_); go_simp; obtain ⟨d, hd⟩ := HP.out.srch; have Hd := Lib.hid hd; clear hd; refine (meets_c (V9.plus nc xc) sb _ L M p bs S' v t r A Lf _ d (HS9.out.grow (World.grows_plus _ _ _)) Hd.out HL16.out hsv'.out Hsnt.out).mono ?_; rintro e U2 ⟨⟨bm, rfl, C1, C2, hC1, hC2, hdis⟩, g2⟩; refine ⟨_, rfl, hI _ _ hgc g2, hK _ _ ?_⟩; clear hK K hgc; have gV2 : V9.grows U2 := World.grows.trans (World.grows_plus _ _ _) g2; obtain ⟨P1, z1, hB1⟩ := Hd.out.back hC1 hsv'.out; obtain ⟨P2, z2, hB2⟩ := Hd.out.back hC2 Hsnt.out; have HR : Hid (Ring M p bs S'.testBit r v t bm C1 C2 P1 P2 z1 z2) := Lib.hid ⟨hC1, hC2, hB1, hB2, hdis⟩; clear hC1 hC2 hB1 hB2 hdis g2; refine wpChain_stepOJ (fun K hK nd xd hgd => ?_); go_simp; refine (shrink_c (U2.plus nd xd) sb _ L M p bs S' v t bm r A Lf _ d C1 C2 P1 P2 z1 z2 (HS9.out.grow (gV2.trans (World.grows_plus _ _ _))) h2 rfl Hd.out HL16.out hsv'.out Hsnt.out HR.out).mono ?_; rintro e U3 ⟨uv, S3, rfl, hul, hs3, hS3, htb, hO3⟩; have y3 := (HY9.out.mono (gV2.trans (World.grows_plus _ nd xd))).step (HS9.out.grow (gV2.trans (World.grows_plus _ nd xd))) hO3; refine ⟨_, rfl, HIm.out _ ⟨y3.drop.drop.drop.drop.hd, y3.x6h, y3.drop.drop.drop.drop.drop.drop.hd, y3.drop.drop.drop.hd⟩, hK _ _ ?_⟩; clear hK K hgd hO3; obtain ⟨hP3, hpos⟩ := HP.out.ring hsv'.out Hsnt.out HA.out hT'.out.2 HE.out HL16.out HR.out; have hM3 := wayM_ring (sn := S'.testBit) (wt := wt') (I := inRing M bs S'.testBit (C1 ++ C2)); have hll := filtL_len (fun z => inRing M bs S'.testBit (C1 ++ C2) z && !S'.testBit z) 16; obtain ⟨Lr, hLr⟩ : ∃ Lr, filtL (fun z => inRing M bs S'.testBit (C1 ++ C2) z && !S'.testBit z) 16 = Lr := ⟨_, rfl⟩; rw [hLr] at hul hP3 hpos hM3 hll; rw [← htb] at hP3 hM3; have hwl : wt'.length ≤ 33 := (by have : wt'.length ≤ wayM S'.testBit wt' := Nat.le_add_left _ _; omega); have HY3 := Lib.hid y3; have HS3 := Lib.hid hs3; have HP3 := Lib.hid hP3; have HUL := Lib.hid hul; have hv3 : S3.testBit v = true := (by rw [htb]; show (S'.testBit v || _) = true; rw [hsv'.out]; rfl); clear y3 hs3 hP3 hul htb hLr gV2; refine wpChainJ_append_q rfl (.tmp 113) (.tmp 121) 26 (by rfl) w.heap.size 3 (.int .i64 0) 8 Try.underlying26 el3 (by rfl) wv (ilist wt') (by rfl) HY3.out.qu _ (by rfl) (ilist Lr) (fun W0 g => by rw [ilist_len]; exact (HUL.out.mono g).src) (by rw [ilist_len]; exact hpos) (ilist_one _) (by rw [ilist_len, ilist_len]; unfold maxLen; omega) (by rw [ilist_len, ilist_len]; omega) HY3.out.only.size ?_; rintro W0 v' w' hgW hI0 hq8 hg8 hv8 hk8; have y4 := HY3.out.mono hgW; have kp : ∀ (k : Nat) (o : Obj), W0.heap[k]? = some o → vblk wv ≠ some k → w'.heap[k]? = some o := fun k o ho hn => (hg8.block k (World.lt_of_block ho) (fun e => hn e.symm)).trans ho; refine ⟨HIm.out _ ⟨kp _ _ y4.drop.drop.drop.drop.hd y4.drop.drop.drop.drop.n2h, kp _ _ y4.x6h y4.q6, kp _ _ y4.drop.drop.drop.drop.drop.drop.hd y4.drop.drop.drop.drop.drop.drop.n2h, kp _ _ y4.drop.drop.drop.hd y4.drop.drop.drop.n2h⟩, ?_⟩; refine wpChain_nilJ (fun nc2 xc2 => ?_); have g9 : w'.grows (w'.plus nc2 xc2) := World.grows_plus _ _ _; rw [← ilist_app] at hq8; have y5 := y4.app ⟨_, _, HS3.out.grow hgW⟩ (hq8.mono g9) (hg8.trans ⟨g9.os, g9.tape, g9.output, g9.size, fun i hi _ => g9.block i hi⟩) (hv8.elim .inl fun h => .inr (.inr h)) (fun k o ho hn => g9.heap_of (hk8 k o ho hn)); have s5 : SrchAt (w'.plus nc2 xc2) sb (.pointer (some ⟨bb, 0, none⟩)) L M _ _ S3 := g9.heap_of (hk8 sb _ (HS3.out.grow hgW) (fun c fr e => by cases e)); have x5 : (w'.plus nc2 xc2).heap[q + 1]? = some (.cells #[wv] 26) := g9.heap_of (kp _ _ y4.x6h y4.q6); generalize w'.plus nc2 xc2 = W10 at y5 s5 x5 ⊢; have s6 := Lib.hid (s5.other (b' := q + 1) (i := 0) (v := v') (by omega)); have HY5 := Lib.hid y5; have c6 := cell_box x5; have f6 := frozen_of_heap x5 0; obtain ⟨A8, cap8, rfl, -, -⟩ := hq8.form; clear y4 kp hg8 hv8 hk8 hq8 hI0 hgW y5 s5 x5 g9 hIw hI HI HIm; gi_wp2; exact HFin.out _ _ _ _ S3 _ _ s6.out hS3 HP3.out hv3 hM3 HY5.out
              · have htrI : (((t : Nat) : Int) == ((r : Nat) : Int)) = false := by rw [beq_eq_false_iff_ne]; omega
                by_cases hMt : M t = t
                · have hnot : S'.testBit t = false := by rw [← htest.out, decide_eq_false htr, hMt]; simp
                  have hpn : p t = none := by
                    cases e : p t with
                    | none => rfl
                    | some x =>
                      obtain ⟨d, hd⟩ := HP.out.srch
                      exact absurd hMt (hd.tee t hnot (by rw [e]; rfl)).2.1
                  have HN := Lib.hid (And.intro hnot (And.intro hpn hMt))
                  rw [mvI_none hMt] at cMt
                  have cPm := cMt
                  clear hnot hpn hMt htr
                  gi_wp2; (refine wpIn_region_calm (Fence.free_round _ _) (by kernel_rfl) (by kernel_rfl) (by kernel_rfl) ?_; (repeat (refine wpCalm_step (fun K hK => ?_); go_simp; first | (refine hK _ ?_; clear hK K) | (apply Exists.intro; refine ⟨fun n' x' => ?_, hK _ ?_⟩; (fail); clear hK K))); refine wpCalm_nil ?_; intro nq xq); have gA : U1.grows (U1.plus nq xq) := (by (repeat (first | exact World.grows.refl _ | assumption | refine World.grows.alloc ?_ _ | refine World.grows.plus ?_ _ _ | refine World.grows.drew ?_))); generalize U1.plus nq xq = V8 at gA ⊢; replace b2 := gA.cell_of b2; replace b3 := gA.cell_of b3; replace cMt := gA.cell_of cMt; replace cPm := gA.cell_of cPm; gi_wp2; (refine wpIn_region_calm (Fence.free_round _ _) (by kernel_rfl) (by kernel_rfl) (by kernel_rfl) ?_; (repeat (refine wpCalm_step (fun K hK => ?_); go_simp; first | (refine hK _ ?_; clear hK K) | (apply Exists.intro; refine ⟨fun n' x' => ?_, hK _ ?_⟩; (fail); clear hK K))); refine wpCalm_nil ?_; intro nq xq); have gV : U1.grows (V8.plus nq xq) := gA.trans (by (repeat (first | exact World.grows.refl _ | assumption | refine World.grows.alloc ?_ _ | refine World.grows.plus ?_ _ _ | refine World.grows.drew ?_))); generalize V8.plus nq xq = V9 at gV ⊢; have HY9 := Lib.hid (HY.out.mono gV); have HS9 := Lib.hid (HS.out.grow gV); clear b2 b3 b6 b7 b9 hbI hmB gA gV cPm
                  clear htrI cBv cBt cMv cMt cPt
                  have b2 := cell_box HY9.out.drop.drop.drop.drop.hd
                  have b9 := cell_box HY9.out.drop.drop.drop.hd
                  have b8 := cell_box HY9.out.drop.drop.drop.drop.drop.drop.drop.hd
                  have cP := HS9.out.by_ ht16
                  rw [pvI_none HN.out.2.1] at cP
                  gi_wp2
                  (refine wpIn_region_tail (Fence.free_round _ _) 6 (by kernel_rfl) (by kernel_rfl) (by kernel_rfl) (by decide) ?_; simp only [List.take_succ_cons, List.take_zero, List.drop_succ_cons, List.drop_zero, List.take_nil, List.drop_nil, List.append_nil, List.nil_append, List.cons_append, Nat.reduceAdd, Nat.reduceSub]; (repeat (refine wpCalm_step (fun K hK => ?_); go_simp; first | (refine hK _ ?_; clear hK K) | (apply Exists.intro; refine ⟨fun n' x' => ?_, hK _ ?_⟩; (fail); clear hK K))); refine wpCalm_nil ?_; intro nq xq)
                  have gU : V9.grows (V9.plus nq xq) := by (repeat (first | exact World.grows.refl _ | assumption | refine World.grows.alloc ?_ _ | refine World.grows.plus ?_ _ _ | refine World.grows.drew ?_))
                  generalize V9.plus nq xq = V10 at gU ⊢
                  have y10 := HY9.out.mono gU
                  have s10 := HS9.out.grow gU
                  have c18 := s10.by_ ht16
                  have f18 := s10.fz (18 + t)
                  have s11 := s10.setP ht16 v
                  have y11 := y10.setS s10 (18 + t) (.int .i64 (v : Nat))
                  obtain ⟨V11, hV11⟩ : ∃ V11, V11 = V10.setCell ⟨sb, 18 + t, none⟩ (.int .i64 (v : Nat)) := ⟨_, rfl⟩
                  rw [← hV11] at s11 y11
                  iterate 3 gi_step
                  rw [← hV11]
                  clear hV11 gU y10 s10 c18 f18 b2 b8 b9 cP HY9 HS9
                  have hx8 := y11.drop.drop.drop.drop.drop.drop.drop.hd
                  have b2 := cell_box y11.drop.drop.drop.drop.hd
                  have b8 := cell_box hx8
                  have f8 := frozen_of_heap hx8 0
                  have cM := s11.mate ht16
                  rw [mvI_none HN.out.2.2] at cM
                  have ne1 : q + 1 + 1 + 1 ≠ D := fun e => by
                    have := y11.drop.hd
                    rw [← e, hx8] at this; cases this
                  have ne2 : q + 1 + 1 + 1 ≠ D + 1 := fun e => by
                    have := y11.hd
                    rw [← e, hx8] at this; cases this
                  obtain ⟨l, hl⟩ := HP.out.done hsv'.out hT'.out.2 HN.out.1 HN.out.2.2
                  have HE1 := Lib.hid (HX2.out (V11.setCell ⟨q + 1 + 1 + 1, 0, none⟩ (.int .i64 (t : Nat))) _ S' l (s11.other (by omega)) (y11.only.setx (by omega) _) (Marks.setCell y11.ms) (store_of_heap hx8 0 _) ⟨updP_self _ _ _, hl.1, hl.2.1, hl.2.2.1, hl.2.2.2, HN.out.2.2, hT'.out.1⟩ (by rw [World.heap_setCell_map _ _ _ _ ne1]; exact y11.drop.hd) (by rw [World.heap_setCell_map _ _ _ _ ne2]; exact y11.hd))
                  clear hx8 ne1 ne2 hl y11 s11
                  gi_wp2
                  exact HE1.out _
                · have hMt16 : M t < 16 := HL16.out _ (HM.out.in_ hMt)
                  have hMI : ((M t : Nat) : Int) < 16 := by omega
                  rw [mvI_some hMt] at cMt
                  have cPm := HS.out.by_ hMt16
                  cases hpm : p (M t) with
                  | some x =>
                    have Hsnt : Hid (S'.testBit t = true) := Lib.hid (by rw [← htest.out, decide_eq_false htr, hpm]; simp [hMt])
                    rw [pvI_some hpm] at cPm
                    clear hpm hMt htr
                    gi_wp2; (refine wpIn_region_calm (Fence.free_round _ _) (by kernel_rfl) (by kernel_rfl) (by kernel_rfl) ?_; (repeat (refine wpCalm_step (fun K hK => ?_); go_simp; first | (refine hK _ ?_; clear hK K) | (apply Exists.intro; refine ⟨fun n' x' => ?_, hK _ ?_⟩; (fail); clear hK K))); refine wpCalm_nil ?_; intro nq xq); have gA : U1.grows (U1.plus nq xq) := (by (repeat (first | exact World.grows.refl _ | assumption | refine World.grows.alloc ?_ _ | refine World.grows.plus ?_ _ _ | refine World.grows.drew ?_))); generalize U1.plus nq xq = V8 at gA ⊢; replace b2 := gA.cell_of b2; replace b3 := gA.cell_of b3; replace cMt := gA.cell_of cMt; replace cPm := gA.cell_of cPm; gi_wp2; (refine wpIn_region_calm (Fence.free_round _ _) (by kernel_rfl) (by kernel_rfl) (by kernel_rfl) ?_; (repeat (refine wpCalm_step (fun K hK => ?_); go_simp; first | (refine hK _ ?_; clear hK K) | (apply Exists.intro; refine ⟨fun n' x' => ?_, hK _ ?_⟩; (fail); clear hK K))); refine wpCalm_nil ?_; intro nq xq); have gV : U1.grows (V8.plus nq xq) := gA.trans (by (repeat (first | exact World.grows.refl _ | assumption | refine World.grows.alloc ?_ _ | refine World.grows.plus ?_ _ _ | refine World.grows.drew ?_))); generalize V8.plus nq xq = V9 at gV ⊢; have HY9 := Lib.hid (HY.out.mono gV); have HS9 := Lib.hid (HS.out.grow gV); clear b2 b3 b6 b7 b9 hbI hmB gA gV cPm
                    clear htrI
                    gi_wp2
                    clear cBv cBt cMv cMt cPt; obtain ⟨I, hIe⟩ : ∃ I : World → Prop, I = fun w' => w'.heap[x2]? = some (.cells #[.pointer (some ⟨sb, 0, none⟩)] 120) ∧ w'.heap[q + 1]? = some (.cells #[wv] 26) ∧ w'.heap[q + 1 + 1]? = some (.cells #[.func (Fn.func 86) #[.pointer (some ⟨sb, 0, none⟩)] #[]] 110) ∧ w'.heap[x9]? = some (.cells #[.int .i64 (v : Nat)] 3) := ⟨_, rfl⟩; have hI : ∀ W W', I W → W.grows W' → I W' := (by rw [hIe]; rintro W W' ⟨a1, a2, a3, a4⟩ g; exact ⟨g.heap_of a1, g.heap_of a2, g.heap_of a3, g.heap_of a4⟩); have hIw : I V9 := (by rw [hIe]; exact ⟨HY9.out.drop.drop.drop.drop.hd, HY9.out.x6h, HY9.out.drop.drop.drop.drop.drop.drop.hd, HY9.out.drop.drop.drop.hd⟩); have HI : Hid (∀ U, I U → U.heap[x2]? = some (.cells #[.pointer (some ⟨sb, 0, none⟩)] 120) ∧ U.heap[q + 1]? = some (.cells #[wv] 26) ∧ U.heap[q + 1 + 1]? = some (.cells #[.func (Fn.func 86) #[.pointer (some ⟨sb, 0, none⟩)] #[]] 110) ∧ U.heap[x9]? = some (.cells #[.int .i64 (v : Nat)] 3)) := Lib.hid fun U h => (by rw [hIe] at h; exact h); have HIm : Hid (∀ U, (U.heap[x2]? = some (.cells #[.pointer (some ⟨sb, 0, none⟩)] 120) ∧ U.heap[q + 1]? = some (.cells #[wv] 26) ∧ U.heap[q + 1 + 1]? = some (.cells #[.func (Fn.func 86) #[.pointer (some ⟨sb, 0, none⟩)] #[]] 110) ∧ U.heap[x9]? = some (.cells #[.int .i64 (v : Nat)] 3)) → I U) := Lib.hid fun U h => (by rw [hIe]; exact h); clear hIe; (refine wpIn_region_chainJ (Fence.free_round _ _) 10 [7, 8, 9] (I) (hI) (hIw) (by kernel_rfl) (by kernel_rfl) (by kernel_rfl) (by decide) ?_; simp only [without, only, withNo, List.take_succ_cons, List.take_zero, List.drop_succ_cons, List.drop_zero, List.take_nil, List.drop_nil, Nat.reduceAdd, Nat.reduceSub, List.filter, List.contains_cons, List.contains_nil, Nat.reduceBEq, Bool.or_false, Bool.false_or, Bool.true_or, Bool.or_true, Bool.or_self, Bool.not_true, Bool.not_false, List.map_cons, List.map_nil]); refine wpCalmJ_go rfl wv (fun U hU => by have e1 := cell_box (HI.out U hU).2.1; go_simp) ?_; refine wpCalmJ_go rfl (.pointer (some ⟨sb, 0, none⟩)) (fun U hU => by have e1 := cell_box (HI.out U hU).1; go_simp) ?_; refine wpCalmJ_go rfl (.int .i64 (v : Nat)) (fun U hU => by have e1 := cell_box (HI.out U hU).2.2.2; go_simp) ?_; refine wpCalmJ_go rfl (.int .i64 (t : Nat)) (fun U hU => by go_simp) ?_; refine wpCalmJ_go rfl (.func (Fn.func 86) #[.pointer (some ⟨sb, 0, none⟩)] #[]) (fun U hU => by have e1 := cell_box (HI.out U hU).2.2.1; go_simp) ?_; refine wpCalmJ_go rfl (.int .i64 (v : Nat)) (fun U hU => by have e1 := cell_box (HI.out U hU).2.2.2; go_simp) ?_; refine wpCalmJ_go rfl (.int .i64 (t : Nat)) (fun U hU => by go_simp) ?_; refine wpCalm_nilJ ?_; simp only [Act.put, List.setIfInBounds_toArray, List.set_cons_zero, List.set_cons_succ]; refine wpChain_stepOJ (fun K hK nc xc hgc => ?_); go_simp; obtain ⟨d, hd⟩ := HP.out.srch; have Hd := Lib.hid hd; clear hd; refine (meets_c (V9.plus nc xc) sb _ L M p bs S' v t r A Lf _ d (HS9.out.grow (World.grows_plus _ _ _)) Hd.out HL16.out hsv'.out Hsnt.out).mono ?_; rintro e U2 ⟨⟨bm, rfl, C1, C2, hC1, hC2, hdis⟩, g2⟩; refine ⟨_, rfl, hI _ _ hgc g2, hK _ _ ?_⟩; clear hK K hgc; have gV2 : V9.grows U2 := World.grows.trans (World.grows_plus _ _ _) g2; obtain ⟨P1, z1, hB1⟩ := Hd.out.back hC1 hsv'.out; obtain ⟨P2, z2, hB2⟩ := Hd.out.back hC2 Hsnt.out; have HR : Hid (Ring M p bs S'.testBit r v t bm C1 C2 P1 P2 z1 z2) := Lib.hid ⟨hC1, hC2, hB1, hB2, hdis⟩; clear hC1 hC2 hB1 hB2 hdis g2; refine wpChain_stepOJ (fun K hK nd xd hgd => ?_); go_simp; refine (shrink_c (U2.plus nd xd) sb _ L M p bs S' v t bm r A Lf _ d C1 C2 P1 P2 z1 z2 (HS9.out.grow (gV2.trans (World.grows_plus _ _ _))) h2 rfl Hd.out HL16.out hsv'.out Hsnt.out HR.out).mono ?_; rintro e U3 ⟨uv, S3, rfl, hul, hs3, hS3, htb, hO3⟩; have y3 := (HY9.out.mono (gV2.trans (World.grows_plus _ nd xd))).step (HS9.out.grow (gV2.trans (World.grows_plus _ nd xd))) hO3; refine ⟨_, rfl, HIm.out _ ⟨y3.drop.drop.drop.drop.hd, y3.x6h, y3.drop.drop.drop.drop.drop.drop.hd, y3.drop.drop.drop.hd⟩, hK _ _ ?_⟩; clear hK K hgd hO3; obtain ⟨hP3, hpos⟩ := HP.out.ring hsv'.out Hsnt.out HA.out hT'.out.2 HE.out HL16.out HR.out; have hM3 := wayM_ring (sn := S'.testBit) (wt := wt') (I := inRing M bs S'.testBit (C1 ++ C2)); have hll := filtL_len (fun z => inRing M bs S'.testBit (C1 ++ C2) z && !S'.testBit z) 16; obtain ⟨Lr, hLr⟩ : ∃ Lr, filtL (fun z => inRing M bs S'.testBit (C1 ++ C2) z && !S'.testBit z) 16 = Lr := ⟨_, rfl⟩; rw [hLr] at hul hP3 hpos hM3 hll; rw [← htb] at hP3 hM3; have hwl : wt'.length ≤ 33 := (by have : wt'.length ≤ wayM S'.testBit wt' := Nat.le_add_left _ _; omega); have HY3 := Lib.hid y3; have HS3 := Lib.hid hs3; have HP3 := Lib.hid hP3; have HUL := Lib.hid hul; have hv3 : S3.testBit v = true := (by rw [htb]; show (S'.testBit v || _) = true; rw [hsv'.out]; rfl); clear y3 hs3 hP3 hul htb hLr gV2; refine wpChainJ_append_q rfl (.tmp 113) (.tmp 121) 26 (by rfl) w.heap.size 3 (.int .i64 0) 8 Try.underlying26 el3 (by rfl) wv (ilist wt') (by rfl) HY3.out.qu _ (by rfl) (ilist Lr) (fun W0 g => by rw [ilist_len]; exact (HUL.out.mono g).src) (by rw [ilist_len]; exact hpos) (ilist_one _) (by rw [ilist_len, ilist_len]; unfold maxLen; omega) (by rw [ilist_len, ilist_len]; omega) HY3.out.only.size ?_; rintro W0 v' w' hgW hI0 hq8 hg8 hv8 hk8; have y4 := HY3.out.mono hgW; have kp : ∀ (k : Nat) (o : Obj), W0.heap[k]? = some o → vblk wv ≠ some k → w'.heap[k]? = some o := fun k o ho hn => (hg8.block k (World.lt_of_block ho) (fun e => hn e.symm)).trans ho; refine ⟨HIm.out _ ⟨kp _ _ y4.drop.drop.drop.drop.hd y4.drop.drop.drop.drop.n2h, kp _ _ y4.x6h y4.q6, kp _ _ y4.drop.drop.drop.drop.drop.drop.hd y4.drop.drop.drop.drop.drop.drop.n2h, kp _ _ y4.drop.drop.drop.hd y4.drop.drop.drop.n2h⟩, ?_⟩; refine wpChain_nilJ (fun nc2 xc2 => ?_); have g9 : w'.grows (w'.plus nc2 xc2) := World.grows_plus _ _ _; rw [← ilist_app] at hq8; have y5 := y4.app ⟨_, _, HS3.out.grow hgW⟩ (hq8.mono g9) (hg8.trans ⟨g9.os, g9.tape, g9.output, g9.size, fun i hi _ => g9.block i hi⟩) (hv8.elim .inl fun h => .inr (.inr h)) (fun k o ho hn => g9.heap_of (hk8 k o ho hn)); have s5 : SrchAt (w'.plus nc2 xc2) sb (.pointer (some ⟨bb, 0, none⟩)) L M _ _ S3 := g9.heap_of (hk8 sb _ (HS3.out.grow hgW) (fun c fr e => by cases e)); have x5 : (w'.plus nc2 xc2).heap[q + 1]? = some (.cells #[wv] 26) := g9.heap_of (kp _ _ y4.x6h y4.q6); generalize w'.plus nc2 xc2 = W10 at y5 s5 x5 ⊢; have s6 := Lib.hid (s5.other (b' := q + 1) (i := 0) (v := v') (by omega)); have HY5 := Lib.hid y5; have c6 := cell_box x5; have f6 := frozen_of_heap x5 0; obtain ⟨A8, cap8, rfl, -, -⟩ := hq8.form; clear y4 kp hg8 hv8 hk8 hq8 hI0 hgW y5 s5 x5 g9 hIw hI HI HIm; gi_wp2; exact HFin.out _ _ _ _ S3 _ _ s6.out hS3 HP3.out hv3 hM3 HY5.out
                  | none =>
                    have hnot : S'.testBit t = false := by rw [← htest.out, decide_eq_false htr, hpm]; simp [hMt]
                    have HN := Lib.hid (And.intro hnot hMt)
                    rw [pvI_none hpm] at cPm
                    clear hpm hMt htr hnot
                    gi_wp2; (refine wpIn_region_calm (Fence.free_round _ _) (by kernel_rfl) (by kernel_rfl) (by kernel_rfl) ?_; (repeat (refine wpCalm_step (fun K hK => ?_); go_simp; first | (refine hK _ ?_; clear hK K) | (apply Exists.intro; refine ⟨fun n' x' => ?_, hK _ ?_⟩; (fail); clear hK K))); refine wpCalm_nil ?_; intro nq xq); have gA : U1.grows (U1.plus nq xq) := (by (repeat (first | exact World.grows.refl _ | assumption | refine World.grows.alloc ?_ _ | refine World.grows.plus ?_ _ _ | refine World.grows.drew ?_))); generalize U1.plus nq xq = V8 at gA ⊢; replace b2 := gA.cell_of b2; replace b3 := gA.cell_of b3; replace cMt := gA.cell_of cMt; replace cPm := gA.cell_of cPm; gi_wp2; (refine wpIn_region_calm (Fence.free_round _ _) (by kernel_rfl) (by kernel_rfl) (by kernel_rfl) ?_; (repeat (refine wpCalm_step (fun K hK => ?_); go_simp; first | (refine hK _ ?_; clear hK K) | (apply Exists.intro; refine ⟨fun n' x' => ?_, hK _ ?_⟩; (fail); clear hK K))); refine wpCalm_nil ?_; intro nq xq); have gV : U1.grows (V8.plus nq xq) := gA.trans (by (repeat (first | exact World.grows.refl _ | assumption | refine World.grows.alloc ?_ _ | refine World.grows.plus ?_ _ _ | refine World.grows.drew ?_))); generalize V8.plus nq xq = V9 at gV ⊢; have HY9 := Lib.hid (HY.out.mono gV); have HS9 := Lib.hid (HS.out.grow gV); clear b2 b3 b6 b7 b9 hbI hmB gA gV cPm
                    clear htrI cBv cBt cMv cMt cPt
                    have b2 := cell_box HY9.out.drop.drop.drop.drop.hd
                    have b9 := cell_box HY9.out.drop.drop.drop.hd
                    have cP := HS9.out.by_ ht16
                    cases hpt : p t with
                    | some x =>
                      have HPT := Lib.hid hpt
                      rw [pvI_some hpt] at cP
                      clear hpt
                      gi_wp2
                      exact HFin.out _ _ p bs S' wt' wv HS9.out h2 (HP.out.old hsv'.out HN.out.1 (by rw [HPT.out]; rfl)) hsv'.out (Nat.le_refl _) HY9.out
                    | none =>
                      have HPT := Lib.hid hpt
                      rw [pvI_none hpt] at cP
                      clear hpt
                      gi_wp2
                      (refine wpIn_region_tail (Fence.free_round _ _) 6 (by kernel_rfl) (by kernel_rfl) (by kernel_rfl) (by decide) ?_; simp only [List.take_succ_cons, List.take_zero, List.drop_succ_cons, List.drop_zero, List.take_nil, List.drop_nil, List.append_nil, List.nil_append, List.cons_append, Nat.reduceAdd, Nat.reduceSub]; (repeat (refine wpCalm_step (fun K hK => ?_); go_simp; first | (refine hK _ ?_; clear hK K) | (apply Exists.intro; refine ⟨fun n' x' => ?_, hK _ ?_⟩; (fail); clear hK K))); refine wpCalm_nil ?_; intro nq xq)
                      have gU : V9.grows (V9.plus nq xq) := by (repeat (first | exact World.grows.refl _ | assumption | refine World.grows.alloc ?_ _ | refine World.grows.plus ?_ _ _ | refine World.grows.drew ?_))
                      generalize V9.plus nq xq = V10 at gU ⊢
                      have y10 := HY9.out.mono gU
                      have s10 := HS9.out.grow gU
                      have c18 := s10.by_ ht16
                      have f18 := s10.fz (18 + t)
                      have s11 := s10.setP ht16 v
                      have y11 := y10.setS s10 (18 + t) (.int .i64 (v : Nat))
                      obtain ⟨V11, hV11⟩ : ∃ V11, V11 = V10.setCell ⟨sb, 18 + t, none⟩ (.int .i64 (v : Nat)) := ⟨_, rfl⟩
                      rw [← hV11] at s11 y11
                      iterate 3 gi_step
                      rw [← hV11]
                      clear hV11 gU y10 s10 c18 f18 b2 b9 cP HY9 HS9
                      have b2 := cell_box y11.drop.drop.drop.drop.hd
                      have cM := s11.mate ht16
                      rw [mvI_some HN.out.2] at cM
                      have c50 := s11.seen
                      obtain ⟨S2, hor, hS2, hbit⟩ := or_bit h2 hMt16
                      have hsh := shlw_u32 hMt16
                      obtain ⟨N1, hN1⟩ : ∃ N1, 2 ^ (M t) = N1 := ⟨_, rfl⟩
                      rw [hN1] at hor hsh
                      have hSn : S2.testBit = fun z => S'.testBit z || decide (z = M t) := funext hbit
                      obtain ⟨hnm, hPg⟩ := HP.out.grow hsv'.out hT'.out.1 hT'.out.2 HN.out.1 HPT.out HN.out.2
                      have hMg := wayM_grow (wt := wt') hMt16 hnm
                      rw [← hSn] at hPg hMg
                      have hv2 : S2.testBit v = true := by rw [hSn]; show (S'.testBit v || _) = true; rw [hsv'.out]; rfl
                      have hwl : wt'.length ≤ 33 := by
                        have : wt'.length ≤ wayM S'.testBit wt' := Nat.le_add_left _ _
                        omega
                      have HPg := Lib.hid hPg
                      have HY11 := Lib.hid y11
                      have HS11 := Lib.hid s11
                      clear hN1 hbit hSn hnm hPg y11 s11
                      gi_wp2
                      (refine wpIn_region_tail (Fence.free_round _ _) 14 (by kernel_rfl) (by kernel_rfl) (by kernel_rfl) (by decide) ?_; simp only [List.take_succ_cons, List.take_zero, List.drop_succ_cons, List.drop_zero, List.take_nil, List.drop_nil, List.append_nil, List.nil_append, List.cons_append, Nat.reduceAdd, Nat.reduceSub]; (repeat (refine wpCalm_step (fun K hK => ?_); go_simp; first | (refine hK _ ?_; clear hK K) | (apply Exists.intro; refine ⟨fun n' x' => ?_, hK _ ?_⟩; (fail); clear hK K))); refine wpCalm_nil ?_; intro nq xq)
                      have gU : V11.grows (V11.plus nq xq) := by (repeat (first | exact World.grows.refl _ | assumption | refine World.grows.alloc ?_ _ | refine World.grows.plus ?_ _ _ | refine World.grows.drew ?_))
                      generalize V11.plus nq xq = V12 at gU ⊢
                      have y12 := HY11.out.mono gU
                      have s12 := HS11.out.grow gU
                      have f50 := s12.fz 50
                      have c50' := s12.seen
                      have s13 := s12.setS S2
                      have y13 := y12.setS s12 50 (.int .u32 (S2 : Nat))
                      obtain ⟨V13, hV13⟩ : ∃ V13, V13 = V12.setCell ⟨sb, 50, none⟩ (.int .u32 (S2 : Nat)) := ⟨_, rfl⟩
                      rw [← hV13] at s13 y13
                      iterate 3 gi_step
                      rw [← hV13]
                      clear hV13 gU y12 s12 f50 c50' c50 b2 cM hor hsh HY11 HS11
                      gi_wp2
                      obtain ⟨I, hIe⟩ : ∃ I : World → Prop, I = fun w' => w'.heap[x2]? = some (.cells #[.pointer (some ⟨sb, 0, none⟩)] 120) ∧ w'.heap[q + 1]? = some (.cells #[wv] 26) ∧ SrchAt w' sb (.pointer (some ⟨bb, 0, none⟩)) L M (updP p t (some v)) bs S2 := ⟨_, rfl⟩
                      have hI : ∀ W W', I W → W.grows W' → I W' := by
                        rw [hIe]
                        rintro W W' ⟨a1, a2, a3⟩ g
                        exact ⟨g.heap_of a1, g.heap_of a2, a3.grow g⟩
                      have hIw : I V13 := by rw [hIe]; exact ⟨y13.drop.drop.drop.drop.hd, y13.x6h, s13⟩
                      have HI : Hid (∀ U, I U → U.heap[x2]? = some (.cells #[.pointer (some ⟨sb, 0, none⟩)] 120) ∧ U.heap[q + 1]? = some (.cells #[wv] 26) ∧ SrchAt U sb (.pointer (some ⟨bb, 0, none⟩)) L M (updP p t (some v)) bs S2) := Lib.hid fun U h => by rw [hIe] at h; exact h
                      have HIm : Hid (∀ U, (U.heap[x2]? = some (.cells #[.pointer (some ⟨sb, 0, none⟩)] 120) ∧ U.heap[q + 1]? = some (.cells #[wv] 26) ∧ SrchAt U sb (.pointer (some ⟨bb, 0, none⟩)) L M (updP p t (some v)) bs S2) → I U) := Lib.hid fun U h => by rw [hIe]; exact h
                      clear hIe
                      have HY13 := Lib.hid y13
                      clear y13 s13
                      (refine wpIn_region_chainJ (Fence.free_round _ _) 9 [7, 8] (I) (hI) (hIw) (by kernel_rfl) (by kernel_rfl) (by kernel_rfl) (by decide) ?_; simp only [without, only, withNo, List.take_succ_cons, List.take_zero, List.drop_succ_cons, List.drop_zero, List.take_nil, List.drop_nil, Nat.reduceAdd, Nat.reduceSub, List.filter, List.contains_cons, List.contains_nil, Nat.reduceBEq, Bool.or_false, Bool.false_or, Bool.true_or, Bool.or_true, Bool.or_self, Bool.not_true, Bool.not_false, List.map_cons, List.map_nil])
                      refine wpCalmJ_go rfl wv (fun U hU => by have e1 := cell_box (HI.out U hU).2.1; go_simp) ?_
                      refine wpCalmJ_go rfl (.pointer (some ⟨sb, 0, none⟩)) (fun U hU => by have e1 := cell_box (HI.out U hU).1; go_simp) ?_
                      refine wpCalmJ_go rfl (.int .i64 (t : Nat)) (fun U hU => by go_simp) ?_
                      refine wpCalmJ_go rfl (.pointer (some ⟨sb, 0, none⟩)) (fun U hU => by go_simp) ?_
                      refine wpCalmJ_go rfl (.pointer (some ⟨sb, 2, none⟩)) (fun U hU => by go_simp) ?_
                      refine wpCalmJ_go rfl (.pointer (some ⟨sb, 2 + t, none⟩)) (fun U hU => by go_simp) ?_
                      refine wpCalmJ_go rfl (.int .i64 (M t : Nat)) (fun U hU => by
                        have e1 := (HI.out U hU).2.2.mate ht16
                        rw [mvI_some HN.out.2] at e1
                        go_simp) ?_
                      refine wpCalm_nilJ ?_
                      simp only [Act.put, List.setIfInBounds_toArray, List.set_cons_zero, List.set_cons_succ]
                      refine wpChain_stepOJ (fun K hK nc xc hgc => ?_)
                      go_simp
                      refine ⟨hI _ _ hgc (by (repeat (first | exact World.grows.refl _ | assumption | refine World.grows.alloc ?_ _ | refine World.grows.plus ?_ _ _ | refine World.grows.drew ?_))), hK _ _ ?_⟩
                      clear hK K hgc
                      have gA : V13.grows ((V13.plus nc xc).alloc (.cells #[.int .i64 (M t : Nat)] 3)) := by (repeat (first | exact World.grows.refl _ | assumption | refine World.grows.alloc ?_ _ | refine World.grows.plus ?_ _ _ | refine World.grows.drew ?_))
                      refine wpChainJ_append_q rfl (.tmp 159) (.tmp 166) 26 (by rfl) w.heap.size 3 (.int .i64 0) 8 Try.underlying26 el3 (by rfl) wv (ilist wt') (by rfl) (HY13.out.mono gA).qu _ (by rfl) [.int .i64 (M t : Nat)] (fun W0 g => SliceAt.src (by omega) (SliceAt.mono (one_slice (V13.plus nc xc) (.int .i64 (M t : Nat)) 3 _ (by simp)) g)) (by simp) (fun u hu => by rw [List.mem_singleton.1 hu]; rfl) (by rw [ilist_len]; simp only [List.length_singleton]; unfold maxLen; omega) (by rw [ilist_len]; simp only [List.length_singleton]; omega) (HY13.out.mono gA).only.size ?_
                      rintro W0 v' w' hgW hI0 hq8 hg8 hv8 hk8
                      have y4 := HY13.out.mono (gA.trans hgW)
                      have s4 := (HI.out _ hI0).2.2
                      have kp : ∀ (k : Nat) (o : Obj), W0.heap[k]? = some o → vblk wv ≠ some k → w'.heap[k]? = some o := fun k o ho hn => (hg8.block k (World.lt_of_block ho) (fun e => hn e.symm)).trans ho
                      have s4' : SrchAt w' sb (.pointer (some ⟨bb, 0, none⟩)) L M (updP p t (some v)) bs S2 := hk8 sb _ s4 (fun c fr e => by cases e)
                      refine ⟨HIm.out _ ⟨kp _ _ y4.drop.drop.drop.drop.hd y4.drop.drop.drop.drop.n2h, kp _ _ y4.x6h y4.q6, s4'⟩, ?_⟩
                      refine wpChain_nilJ (fun nc2 xc2 => ?_)
                      have g9 : w'.grows (w'.plus nc2 xc2) := World.grows_plus _ _ _
                      rw [← ilist_snoc] at hq8
                      have y5 := y4.app ⟨_, _, s4⟩ (hq8.mono g9) (hg8.trans ⟨g9.os, g9.tape, g9.output, g9.size, fun i hi _ => g9.block i hi⟩) (hv8.elim .inl fun h => .inr (.inr h)) (fun k o ho hn => g9.heap_of (hk8 k o ho hn))
                      have s5 := s4'.grow g9
                      have x5 : (w'.plus nc2 xc2).heap[q + 1]? = some (.cells #[wv] 26) := g9.heap_of (kp _ _ y4.x6h y4.q6)
                      generalize w'.plus nc2 xc2 = W10 at y5 s5 x5 ⊢
                      have s6 := Lib.hid (s5.other (b' := q + 1) (i := 0) (v := v') (by omega))
                      have HY5 := Lib.hid y5
                      have c6 := cell_box x5
                      have f6 := frozen_of_heap x5 0
                      obtain ⟨A8, cap8, rfl, -, -⟩ := hq8.form
                      clear y4 kp hg8 hv8 hk8 hq8 hI0 hgW y5 s5 x5 g9 hIw hI HI HIm s4 s4'
                      gi_wp2
                      exact HFin.out _ _ _ _ S2 _ _ s6.out hS2 HPg.out hv2 hMg HY5.out
        · rintro U ⟨p, bs, S', wt', wv, h1, h2, h3, h4, h5, h6, h7⟩ hDf
          rw [hD] at hDf ⊢
          have h3' : Hid (WayP A Lf M r p bs S'.testBit wt' (UW wt')) := Lib.hid (by
            have := h3.out
            rw [List.length_map, List.drop_eq_nil_of_le (Nat.le_refl _)] at this
            exact this.fin)
          have hDl := World.lt_of_block hDf
          have HMk : Hid (Marks w.heap.size ({ target := .collected D, args := #[] } :: ds) U) := Lib.hid ⟨⟨D, rfl, hD9, hDf, fun d' hd e => by
            have := (HY8.out.ms).lt d' hd _ e
            omega⟩, h6.out.ms⟩
          have hy := h6.out.drop.drop.drop
          have HYn : Hid (WyS w sb (q + 1) [(x2, .cells #[.pointer (some ⟨sb, 0, none⟩)] 120), (x2 + 1, .cells #[.int .i64 (r : Nat)] 3), (q + 1 + 1, .cells #[.func (Fn.func 86) #[.pointer (some ⟨sb, 0, none⟩)] #[]] 110), (q + 1 + 1 + 1, .cells #[.int .i64 (-1)] 3)] ({ target := .collected D, args := #[] } :: ds) wt' wv U) := Lib.hid ⟨hy.only, hy.x6b, hy.sbb, hy.x6h, hy.qu, hy.q6, hy.at_, hy.n1, hy.n2, HMk.out⟩
          have hme := wyM_eq HYn.out h1.out
          clear h3 h6 hy hDf
          go_wp2
          refine ⟨_, rfl, rfl, ⟨p, bs, S', wt', wv, h1, h2, h3', by omega, HYn⟩, ?_⟩
          rw [hme]
          omega
        · rintro c U ⟨rfl, p, bs, S', t, l, h1, h2, h3, h4, h5⟩ hDf
          rw [hD] at hDf ⊢
          have HMk : Hid (Marks w.heap.size ({ target := .collected D, args := #[] } :: ds) U) := Lib.hid ⟨⟨D, rfl, hD9, hDf, fun d' hd e => by
            have := (HY8.out.ms).lt d' hd _ e
            omega⟩, h3.out⟩
          have b8 := cell_box h4.out
          have b2 : (1 : Nat) = 1 := rfl
          clear hDf
          go_wp2
          try dsimp only [Exit.noGoto]
          refine Marks.leaves (B := w.heap.size) (fun W' => SrchAt W' sb (.pointer (some ⟨bb, 0, none⟩)) L M p bs S' ∧ Only sb w W') (fun W' D h hD hd => ⟨h.1.put (by omega), h.2.putB hD⟩) (fun W' h => ⟨_, by simp [results, Try.results78, go_sem] <;> rfl, p, bs, S', h.1, h.2, .inr ⟨t, v, l, rfl, h5.out⟩⟩) _ _ HMk.out ⟨h1.out, h2.out⟩
end Go.Proofs.Yteingahlmlndkaa

/-
  What is proved: blocks that stand while a search is changed; pairs are exchanged along a way.
-/
namespace Go.Proofs.Yteingahlmlndkaa
open Go.RowKit
structure BsS (w : World) (sb : Nat) (P : List (Nat × Obj)) (U : World) : Prop where
  g : w.grows U
  sbb : w.heap.size ≤ sb
  at_ : ∀ y ∈ P, U.heap[y.1]? = some y.2
  ne : ∀ y ∈ P, y.1 ≠ sb
section
variable {w U U' : World} {sb : Nat} {P : List (Nat × Obj)}
theorem BsS.mono (h : BsS w sb P U) (g : U.grows U') : BsS w sb P U' := ⟨h.g.trans g, h.sbb, fun y hy => g.heap_of (h.at_ y hy), h.ne⟩
theorem BsS.step (h : BsS w sb P U) (g : Only sb U U') : BsS w sb P U' := ⟨g.grows w h.g h.sbb, h.sbb, fun y hy => g.other _ _ (h.ne y hy) (h.at_ y hy), h.ne⟩
theorem BsS.setS (h : BsS w sb P U) (i : Nat) (v : Value) : BsS w sb P (U.setCell ⟨sb, i, none⟩ v) := h.step ((Only.refl sb U).set i v)
theorem BsS.hd {b : Nat} {o : Obj} (h : BsS w sb ((b, o) :: P) U) : U.heap[b]? = some o := h.at_ (b, o) (List.mem_cons_self ..)
theorem BsS.drop {y : Nat × Obj} (h : BsS w sb (y :: P) U) : BsS w sb P U := ⟨h.g, h.sbb, fun y hy => h.at_ y (List.mem_cons_of_mem _ hy), fun y hy => h.ne y (List.mem_cons_of_mem _ hy)⟩
theorem BsS.add (h : BsS w sb P U) {b : Nat} {o : Obj} (hb : U.heap[b]? = some o) (h1 : b ≠ sb) : BsS w sb ((b, o) :: P) U :=
  ⟨h.g, h.sbb, fun y hy => by rcases List.mem_cons.1 hy with rfl | hy; exact hb; exact h.at_ y hy, fun y hy => by rcases List.mem_cons.1 hy with rfl | hy; exact h1; exact h.ne y hy⟩
theorem BsS.putL (h : BsS w sb P U) {b : Nat} {lo lo' : Loop} (hL : U.heap[b]? = some (.loop lo)) (hb : w.heap.size ≤ b) (hP : ∀ y ∈ P, ∀ l : Loop, y.2 ≠ Obj.loop l) : BsS w sb P (U.putObj b (.loop lo')) :=
  ⟨World.putObj_grows h.g _ hb, h.sbb, fun y hy => by
    rw [World.putObj_heap_other (fun e => by have := h.at_ y hy; rw [e, hL] at this; exact hP y hy lo (Option.some.inj this).symm)]; exact h.at_ y hy, h.ne⟩
/-- the first box is written -/
theorem BsS.put0 {b : Nat} {x : Value} {t : TypeId} (h : BsS w sb ((b, .cells #[x] t) :: P) U) (hb : w.heap.size ≤ b) (hP : ∀ y ∈ P, y.1 ≠ b) (v : Value) : BsS w sb ((b, .cells #[v] t) :: P) (U.setCell ⟨b, 0, none⟩ v) :=
  ⟨h.g.setCell (p := ⟨b, 0, none⟩) hb v, h.sbb, fun y hy => by
    rcases List.mem_cons.1 hy with rfl | hy
    · exact store_of_heap h.hd 0 v
    · rw [World.heap_setCell_map _ _ _ _ (fun e => hP y hy e.symm)]; exact h.drop.at_ y hy, fun y hy => by
    rcases List.mem_cons.1 hy with rfl | hy
    · exact h.ne (b, .cells #[x] t) (List.mem_cons_self ..)
    · exact h.drop.ne y hy⟩
end
theorem aug_all {A : Nat → Nat → Bool} {Lf : Nat → Bool} {M : Nat → Nat} {p : Nat → Option Nat} {r t v : Nat} {q : List Nat} (hA : ∀ a b, A a b = A b a) (hL : ∀ u, Lf u = true → u < 16) (hM : IsM A Lf M) (hr : Lf r = true) (hr1 : M r = r)
    (h1 : p t = some v) (h2 : Alt M p v q r) (h3 : (t :: (q ++ [r])).Nodup) (h4 : ∀ y ∈ q, M y ≠ y) (h5 : ∀ z w, p z = some w → A w z = true) (h6 : M t = t) (h7 : Lf t = true) :
    IsM A Lf (augF M t q r) ∧ cov 16 (augF M t q r) = cov 16 M + 2 ∧ (∀ z, M z ≠ z → augF M t q r z ≠ z) ∧ augF M t q r r ≠ r := by
  have e1 : updM M t t = M := funext fun z => by
    unfold updM
    split
    · rename_i h; rw [h, h6]
    · rfl
  obtain ⟨k1, k2⟩ := aug_ok hA h5 hM.inv hr1 h2 M t h1 h3 (fun _ _ => rfl) (fun y hy => by
    rcases List.mem_append.1 hy with hy | hy
    · exact (hM.ok y (h4 y hy)).1
    · rw [List.mem_singleton.1 hy]; exact hr) h4 (by rw [e1]; exact hM) h7
  rw [e1] at k2
  have hne : t ≠ r := fun e => (List.nodup_cons.1 h3).1 (by simp [e])
  exact ⟨k1, cov_two (hL t h7) (hL r hr) hne h6 hr1 k2, fun z hz => (k2 z).2 (.inl hz), (k2 r).2 (.inr (.inr rfl))⟩
theorem calmAt_load_row {P : Program} {o : Oper} {a : Act} {W : World} (ty : TypeId) (x : Operand) (ho : o.op = .load ty x) (p v : Value) (hx : a.eval x = p) (hl : (Instr.loadAt ty p).run P W = .ok v W) : o.calmAt P a W v := by
  unfold Oper.calmAt execOp
  simp only [ho, hx, Sem.run_bind, Sem.run_pure, Result.andThen_ok, hl]
  exact ⟨rfl, rfl⟩
theorem wpChainJ_store_row {ops : Array Oper} {I : World → Prop} {rest : List Oper} {o : Oper} {a : Act} {Q : Act → World → Prop} {W : World} (hgd : o.guard = none) (ty : TypeId) (x y : Operand) (ho : o.op = .store ty x y) (b : Nat) (c c' : Array Value)
    (hb : W.heap[b]? = some (.cells c ty)) (hx : a.eval x = .pointer (some ⟨b, 0, none⟩)) (hy : a.eval y = .agg c') (hi : (Try.prog.info? ty).map (·.size) = some c'.size) (hs : c.size = c'.size) (h1 : c'.all (·.oneCell') = true)
    (h : ∀ W0, W.grows W0 → I W0 → I (W0.putObj b (.cells c' ty)) ∧ wpChainJ Try.prog ops I Q rest (a.put o.dst undef) (W0.putObj b (.cells c' ty))) : wpChainJ Try.prog ops I Q (o :: rest) a W := by
  intro W0 hg hI0
  rw [if_pos (by simp [Region.wanted, hgd])]
  have hb0 := hg.heap_of hb
  unfold Oper.goesOJ execOp
  simp only [ho, hx, hy, Instr.storeAt, Instr.sureAddr, Sem.run_bind, Sem.run_pure, Result.andThen_ok, run_storeVar_row (P := Try.prog) W0 b ty ty c c' hb0 hi hs h1, setRow_put hb0]
  exact h W0 hg hI0
theorem row16 (f : Nat → Int) : #[Value.int .i64 (f 0), .int .i64 (f 1), .int .i64 (f 2), .int .i64 (f 3), .int .i64 (f 4), .int .i64 (f 5), .int .i64 (f 6), .int .i64 (f 7), .int .i64 (f 8), .int .i64 (f 9), .int .i64 (f 10), .int .i64 (f 11), .int .i64 (f 12), .int .i64 (f 13), .int .i64 (f 14), .int .i64 (f 15)] = rowI 16 f := by kernel_rfl
theorem cells3 : Try.prog.cellsOf 3 = 1 := by kernel_rfl
theorem info_of {t : TypeId} {n : Nat} (hn : n ≠ 0) (h : Try.prog.cellsOf t = n) : ∃ i, Try.prog.info? t = some i := by
  cases e : Try.prog.info? t with
  | some i => exact ⟨i, rfl⟩
  | none => simp [Program.cellsOf, e] at h; omega
theorem part3 (n : Nat) (f : Nat → Int) {i : Nat} (h : i < n) (w : World) : (part 3 (rowI n f) (i * 1)).run Try.prog w = .ok (.int .i64 (f i)) w := by
  have h2 := rowI_get n f i h
  have hu : Try.prog.underlying 3 = some (.int .i64) := by kernel_rfl
  simp [part, isAgg, run_underlying hu, Result.andThen, h2]
theorem eqI3 (d : Nat) (x y : Int) (w : World) : (Op.equalIn (d + 1) 3 (.int .i64 x) (.int .i64 y)).run Try.prog w = .ok (decide (x = y)) w := by
  have hu : Try.prog.underlying 3 = some (.int .i64) := by kernel_rfl
  simp [Op.equalIn, run_underlying hu, Result.andThen]
  rfl
theorem eqRow3 (d n : Nat) (f g : Nat → Int) (w : World) : ∀ is : List Nat, (∀ i ∈ is, i < n) → (Op.eqItems (d + 1) 3 1 (rowI n f) (rowI n g) is).run Try.prog w = .ok (is.all fun i => decide (f i = g i)) w
  | [], _ => by simp [Op.eqItems]
  | i :: is, h => by
    have hi := h i (by simp)
    have ih := eqRow3 d n f g w is (fun j hj => h j (by simp [hj]))
    simp only [Op.eqItems, Sem.run_bind, part3 n f hi, part3 n g hi, eqI3, Result.andThen_ok, List.all_cons]
    by_cases he : f i = g i
    · simp [he, ih]
    · simp [he]
theorem eq99 (f g : Nat → Int) (w : World) : (Op.equalIn 10000 99 (.agg (rowI 16 f)) (.agg (rowI 16 g))).run Try.prog w = .ok ((List.range 16).all fun i => decide (f i = g i)) w := by
  obtain ⟨i, hi⟩ := info_of (by decide) cells3
  have h := run_equalIn_array (P := Try.prog) w 9999 (rowI 16 f) (rowI 16 g) Try.underlying99 hi
  rw [cells3, eqRow3 9998 16 f g w (List.range 16) (fun i hi => List.mem_range.1 hi)] at h
  exact h
theorem none_mates {M : Nat → Nat} : ((List.range 16).all fun i => decide (mvI M i = -1)) = decide (cov 16 M = 0) := by
  rw [Bool.eq_iff_iff, List.all_eq_true, decide_eq_true_eq]
  constructor
  · intro h
    refine cntB_zero fun i hi => cv_false.2 ?_
    have h1 := h i (List.mem_range.2 hi)
    rw [decide_eq_true_eq] at h1
    unfold mvI at h1
    split at h1
    · assumption
    · omega
  · intro h i hi
    rw [List.mem_range] at hi
    rw [decide_eq_true_eq]
    refine mvI_none (Classical.byContradiction fun hc => ?_)
    have := cntB_pos (n := 16) hi (cv_iff.2 hc)
    unfold cov at h
    omega
end Go.Proofs.Yteingahlmlndkaa

/-
  What is proved: the search as it is made.
-/
namespace Go.Proofs.Yteingahlmlndkaa
open Go.RowKit
theorem srch_lit (p : Value) (L : Nat) : Array.foldl (fun (cs : Array Value) (x : Value × Nat) => cs.setIfInBounds (2 + x.snd) x.fst) #[p, .int .u32 (L : Nat), .int .i64 0, .int .i64 0, .int .i64 0, .int .i64 0, .int .i64 0, .int .i64 0, .int .i64 0, .int .i64 0, .int .i64 0, .int .i64 0, .int .i64 0, .int .i64 0, .int .i64 0, .int .i64 0, .int .i64 0, .int .i64 0, .int .i64 0, .int .i64 0, .int .i64 0, .int .i64 0, .int .i64 0, .int .i64 0, .int .i64 0, .int .i64 0, .int .i64 0, .int .i64 0, .int .i64 0, .int .i64 0, .int .i64 0, .int .i64 0, .int .i64 0, .int .i64 0, .int .i64 0, .int .i64 0, .int .i64 0, .int .i64 0, .int .i64 0, .int .i64 0, .int .i64 0, .int .i64 0, .int .i64 0, .int .i64 0, .int .i64 0, .int .i64 0, .int .i64 0, .int .i64 0, .int .i64 0, .int .i64 0, .int .u32 0] ((rowI 16 fun _ => -1).zipIdx 0) 0 (rowI 16 fun _ => -1).size = rowV 51 (srchC p L id (fun _ => some 0) (fun _ => 0) 0) := by
  kernel_rfl
end Go.Proofs.Yteingahlmlndkaa

/-
  What is proved: a greatest matching (64).
-/
namespace Go.Proofs.Yteingahlmlndkaa
open Go.RowKit
attribute [local irreducible] Go.wpCalm rowV
attribute [local go_sem] Oper.semAt_some
set_option maxRecDepth 100000 in
set_option maxHeartbeats 4000000 in
theorem best_c (w : World) (bb n : Nat) (L : Nat) (A : Nat → Nat → Bool) (Lf : Nat → Bool)
    (hB : BenchOf w bb n A) (hLb : L < 65536) (hL : L.testBit = Lf) (hA : ∀ a b, A a b = A b a) :
    Calls Try.prog 64 #[.pointer (some ⟨bb, 0, none⟩), .int .u32 (L : Nat)] w fun e w' => ∃ (m : Nat → Nat) (k : Nat), e = .returned (.tuple #[.agg (rowI 16 (mvI m)), .int .i64 (k : Nat)]) ∧ Mx A Lf 16 m ∧ cov 16 m = 2 * k ∧ w.grows w' := by
  have hbl : bb < w.heap.size := by
    obtain ⟨ta, tc, mv, wide, F, h1, -⟩ := hB
    exact World.lt_of_block h1
  have HB := Lib.hid hB
  (refine (callsIn_wide (n := 0)).1 (callsIn_of_wp_marks Try.func64 rfl trivial ((wpIn_wide (n := 0)).2 ?_) rfl); simp only [Try.ntmps64, List.size_toArray, List.length_cons, List.length_nil, Nat.reduceAdd, Nat.reduceSub, Array.replicate_succ, Array.replicate_zero, List.push_toArray, List.append_toArray, List.nil_append, List.cons_append])
  go_upto_region 1 with fail
  rw [zero99]
  have e0 : (w.alloc (.cells (rowI 16 fun _ => 0) 99)).heap[w.heap.size]? = some (.cells (rowI 16 fun _ => 0) 99) := World.heap_at w _ _ rfl
  have g0 : w.grows (w.alloc (.cells (rowI 16 fun _ => 0) 99)) := by (repeat (first | exact World.grows.refl _ | assumption | refine World.grows.alloc ?_ _ | refine World.grows.plus ?_ _ _ | refine World.grows.drew ?_))
  generalize w.alloc (.cells (rowI 16 fun _ => 0) 99) = W0 at e0 g0 ⊢
  go_wp2_with (go_at_call 99; fail)
  refine (none_c _).mono ?_
  rintro e W1 ⟨rfl, g1⟩
  go_upto_region 2 with fail
  rw [srch_lit]
  obtain ⟨sb, hsb⟩ : ∃ sb, W1.heap.size = sb := ⟨_, rfl⟩
  obtain ⟨x4, hx4⟩ : ∃ x4, w.heap.size = x4 := ⟨_, rfl⟩
  have hs1 := g1.size
  have hlt0 := World.lt_of_block e0
  have S1 : SrchAt ((W1.alloc (.cells (rowV 51 (srchC (.pointer (some ⟨bb, 0, none⟩)) L id (fun _ => some 0) (fun _ => 0) 0)) 123)).alloc (.cells #[.pointer (some ⟨sb, 0, none⟩)] 120)) sb (.pointer (some ⟨bb, 0, none⟩)) L id (fun _ => some 0) (fun _ => 0) 0 := World.grows.heap_of (by (repeat (first | exact World.grows.refl _ | assumption | refine World.grows.alloc ?_ _ | refine World.grows.plus ?_ _ _ | refine World.grows.drew ?_))) (World.heap_at W1 _ _ hsb.symm)
  have e6 : ((W1.alloc (.cells (rowV 51 (srchC (.pointer (some ⟨bb, 0, none⟩)) L id (fun _ => some 0) (fun _ => 0) 0)) 123)).alloc (.cells #[.pointer (some ⟨sb, 0, none⟩)] 120)).heap[sb + 1]? = some (.cells #[.pointer (some ⟨sb, 0, none⟩)] 120) := World.heap_at _ _ _ (by simp [hsb])
  have g2 : W1.grows ((W1.alloc (.cells (rowV 51 (srchC (.pointer (some ⟨bb, 0, none⟩)) L id (fun _ => some 0) (fun _ => 0) 0)) 123)).alloc (.cells #[.pointer (some ⟨sb, 0, none⟩)] 120)) := by (repeat (first | exact World.grows.refl _ | assumption | refine World.grows.alloc ?_ _ | refine World.grows.plus ?_ _ _ | refine World.grows.drew ?_))
  replace e0 := (g1.trans g2).heap_of e0
  replace g0 := g0.trans (g1.trans g2)
  rw [hsb]
  generalize (W1.alloc (.cells (rowV 51 (srchC (.pointer (some ⟨bb, 0, none⟩)) L id (fun _ => some 0) (fun _ => 0) 0)) 123)).alloc (.cells #[.pointer (some ⟨sb, 0, none⟩)] 120) = W2 at S1 e6 e0 g0 ⊢
  obtain ⟨rv, hrv⟩ : ∃ x, rowV 51 (srchC (.pointer (some ⟨bb, 0, none⟩)) L id (fun _ => some 0) (fun _ => 0) 0) = x := ⟨_, rfl⟩
  rw [hrv]
  clear hrv
  simp only [hx4]
  have hx4s : x4 ≠ sb := by omega
  have B2 : BsS w sb [(x4, .cells (rowI 16 fun _ => 0) 99)] W2 := ⟨g0, by omega, fun y hy => by rw [List.mem_singleton.1 hy, ← hx4]; exact e0, fun y hy => by rw [List.mem_singleton.1 hy]; exact hx4s⟩
  replace B2 := B2.add e6 (by omega)
  have hb2l := World.lt_of_block e6
  have HA := Lib.hid hA
  have HLf := Lib.hid hL
  have hL16 : ∀ v, Lf v = true → v < 16 := fun v hv => by
    rw [← hL] at hv
    exact Nat.lt_of_not_le fun hle => by
      have h2 : 2 ^ 16 ≤ 2 ^ v := Nat.pow_le_pow_right (by omega) hle
      rw [Nat.testBit_lt_two_pow (x := L) (i := v) (Nat.lt_of_lt_of_le hLb h2)] at hv
      cases hv
  have HL16 := Lib.hid hL16
  clear g1 g2 hs1 hlt0 hsb e0 e6 g0 hA hL hL16 hB
  go_wp2_with (go_at_call 99; fail)
  refine (things_c _ L).mono ?_
  rintro e W3 ⟨rfl, hW3⟩
  go_wp2
  obtain ⟨x7, hx7⟩ : ∃ x7, W2.heap.size = x7 := ⟨_, rfl⟩
  obtain ⟨bx, hbx⟩ : ∃ bx, x7 + 1 = bx := ⟨_, rfl⟩
  have g3 : W2.grows W3 := by rw [hW3]; (repeat (first | exact World.grows.refl _ | assumption | refine World.grows.alloc ?_ _ | refine World.grows.plus ?_ _ _ | refine World.grows.drew ?_))
  have B3 := (B2.mono g3).add (b := bx) (o := .cells #[.int .u32 (L : Nat)] 75) (by rw [hW3, ← hbx, ← hx7]; exact World.heap_at _ _ _ (by simp)) (by omega)
  replace B3 := B3.add (b := x7) (o := .cells #[.int .i64 0] 3) (by rw [hW3, ← hx7]; exact World.grows.heap_of (by (repeat (first | exact World.grows.refl _ | assumption | refine World.grows.alloc ?_ _ | refine World.grows.plus ?_ _ _ | refine World.grows.drew ?_))) (World.heap_at W2 _ _ rfl)) (by omega)
  replace S1 := S1.grow g3
  have hx7w : w.heap.size ≤ x7 := by rw [← hx7]; exact B2.g.size
  have hsb7 : sb + 1 < x7 := by omega
  have hx67 : sb + 1 ≠ x7 := by omega
  have hx47 : x4 ≠ x7 := by
    have := World.lt_of_block (B2.drop.hd)
    omega
  rw [← hW3]
  simp only [hx7, hbx]
  clear hW3 g3 B2 hx7
  obtain ⟨D, hD⟩ : ∃ D, W3.heap.size = D := ⟨_, rfl⟩
  have hDw : w.heap.size ≤ D := by rw [← hD]; exact B3.g.size
  have hsD : sb < D := by rw [← hD]; exact World.lt_of_block S1
  have hxD : x7 < D := by rw [← hD]; exact World.lt_of_block B3.hd
  have HB3 := Lib.hid B3
  have HS3 := Lib.hid S1
  clear B3 S1
  refine wp_rangeFunc_own (f := 79) (by rfl) (fun _ _ => rfl) (things_seq bx L hLb) (fun x hx => by obtain ⟨r, _, rfl⟩ := List.mem_map.1 hx; rfl)
    (fun k U => ∃ (M : Nat → Nat) (p : Nat → Option Nat) (bs : Nat → Nat) (S c : Nat), Hid (SrchAt U sb (.pointer (some ⟨bb, 0, none⟩)) L M p bs S) ∧ Hid (IsM A Lf M) ∧ cov 16 M = 2 * c ∧ Hid (∀ j t, j < k → (filtL L.testBit 16)[j]? = some t → M t ≠ t ∨ NoCov A Lf M t) ∧ Hid (BsS w sb ((D, .deferred (some [])) :: (x7, .cells #[.int .i64 (c : Nat)] 3) :: (bx, .cells #[.int .u32 (L : Nat)] 75) :: (sb + 1, .cells #[.pointer (some ⟨sb, 0, none⟩)] 120) :: (x4, .cells (rowI 16 fun _ => 0) 99) :: []) U))
    ?_ ?_ ?_ ?_ ?_ ?_
  · rintro k U U' ⟨M, p, bs, S, c, h1, h2, h3, h4, h5⟩ g
    exact ⟨M, p, bs, S, c, Lib.hid (h1.out.grow g), h2, h3, h4, Lib.hid (h5.out.mono g)⟩
  · rintro k U lo lo' hL ⟨M, p, bs, S, c, h1, h2, h3, h4, h5⟩
    rw [hD] at hL ⊢
    refine ⟨M, p, bs, S, c, Lib.hid (h1.out.put (by omega)), h2, h3, h4, Lib.hid (h5.out.putL hL (by omega) ?_)⟩
    intro y hy l
    simp only [List.mem_cons, List.not_mem_nil, or_false] at hy
    rcases hy with rfl | rfl | rfl | rfl | rfl <;> exact fun e => by cases e
  · rintro k U ⟨M, p, bs, S, c, h1, h2, h3, h4, h5⟩
    exact cell_box h5.out.drop.drop.hd
  · intro lo
    have g : W3.grows ((W3.alloc (.deferred (some []))).alloc lo) := by (repeat (first | exact World.grows.refl _ | assumption | refine World.grows.alloc ?_ _ | refine World.grows.plus ?_ _ _ | refine World.grows.drew ?_))
    exact ⟨id, _, _, _, 0, Lib.hid (HS3.out.grow g), Lib.hid ⟨fun _ => rfl, fun t ht => absurd rfl ht⟩, by rw [show cov 16 id = 0 from cntB_zero fun i _ => cv_false.2 rfl], Lib.hid (fun j t hj => by omega), Lib.hid ((HB3.out.mono g).add (World.grows.heap_of (by (repeat (first | exact World.grows.refl _ | assumption | refine World.grows.alloc ?_ _ | refine World.grows.plus ?_ _ _ | refine World.grows.drew ?_))) (World.heap_at _ _ _ hD.symm)) (by omega))⟩
  · rintro k y U hy ⟨M, p, bs, S, c, h1, h2, h3, h4, h5⟩ hDf ⟨lo, hLo⟩ K0 hK0
    rw [hD] at hDf hLo hK0 ⊢
    obtain ⟨t, rfl, ht⟩ : ∃ t, y = stepV t ∧ (filtL L.testBit 16)[k]? = some t := by
      rw [List.getElem?_map] at hy
      cases ht : (filtL L.testBit 16)[k]? with
      | none => rw [ht] at hy; cases hy
      | some t => rw [ht] at hy; exact ⟨t, (Option.some.inj hy).symm, rfl⟩
    have htm := List.mem_of_getElem? ht
    simp only [filtL, List.mem_filter, List.mem_range] at htm
    obtain ⟨ht16, htL⟩ := htm
    rw [HLf.out] at htL
    have hLl := World.lt_of_block hLo
    dsimp only [stepV]
    rw [zip_one]
    simp only [List.setIfInBounds_toArray, List.set_cons_zero, List.set_cons_succ]
    gi_wp2
    refine hK0.out _ _ (by (repeat (first | exact World.grows.refl _ | assumption | refine World.grows.alloc ?_ _ | refine World.grows.plus ?_ _ _ | refine World.grows.drew ?_))) fun lo' K1 hK1 => ?_
    obtain ⟨U1, hU1⟩ : ∃ U1, U1 = U.putObj (D + 1) (.loop lo') := ⟨_, rfl⟩
    have y1 : BsS w sb ((D + 1, .loop lo') :: (D, .deferred (some [])) :: (x7, .cells #[.int .i64 (c : Nat)] 3) :: (bx, .cells #[.int .u32 (L : Nat)] 75) :: (sb + 1, .cells #[.pointer (some ⟨sb, 0, none⟩)] 120) :: (x4, .cells (rowI 16 fun _ => 0) 99) :: []) U1 := by
      have := h5.out.putL (lo' := lo') hLo (by omega) (by
        intro y hy l
        simp only [List.mem_cons, List.not_mem_nil, or_false] at hy
        rcases hy with rfl | rfl | rfl | rfl | rfl <;> exact fun e => by cases e)
      rw [hU1]
      exact this.add (World.putObj_heap_same hLl) (by omega)
    have s1 : SrchAt U1 sb (.pointer (some ⟨bb, 0, none⟩)) L M p bs S := by rw [hU1]; exact h1.out.put (by omega)
    have HFin : Hid (∀ (a' : Act) (U' : World) (M' : Nat → Nat) (p' : Nat → Option Nat) (bs' : Nat → Nat) (T c' : Nat), SrchAt U' sb (.pointer (some ⟨bb, 0, none⟩)) L M' p' bs' T → IsM A Lf M' → cov 16 M' = 2 * c' → (M' t ≠ t ∨ NoCov A Lf M' t) → (∀ z, M z ≠ z → M' z ≠ z) → BsS w sb ((D + 1, .loop lo') :: (D, .deferred (some [])) :: (x7, .cells #[.int .i64 (c' : Nat)] 3) :: (bx, .cells #[.int .u32 (L : Nat)] 75) :: (sb + 1, .cells #[.pointer (some ⟨sb, 0, none⟩)] 120) :: (x4, .cells (rowI 16 fun _ => 0) 99) :: []) U' → K1 .normal a' U') := Lib.hid fun a' U' M' p' bs' T c' g1 g2 g3 g4 g5 g6 => hK1.out a' U' ⟨M', p', bs', T, c', Lib.hid g1, Lib.hid g2, g3, Lib.hid (fun j z hj hz => by
      by_cases e : j = k
      · subst e
        rw [ht] at hz
        cases hz
        exact g4
      · rcases h4.out j z (by omega) hz with q | q
        · exact .inl (g5 z q)
        · exact .inr (q.mono g5)), Lib.hid g6.drop⟩ g6.drop.hd g6.hd
    rw [← hU1]
    have HY := Lib.hid y1
    have HS := Lib.hid s1
    have HtL := Lib.hid htL
    have hc16 := cntB_le (cv M) 16
    have hc8 : c ≤ 8 := by unfold cov at h3; omega
    clear hK1 hK0 hU1 hDf hLo hLl h1 h4 h5 hy ht y1 s1 htL hc16
    have htI : (t : Int) < 16 := by omega
    have b6 := cell_box HY.out.drop.drop.drop.drop.hd
    have cMt := HS.out.mate ht16
    by_cases hMt : M t = t
    · have HMt := Lib.hid hMt
      rw [mvI_none hMt] at cMt
      clear hMt
      gi_wp2_with (gi_at_call 99; fail)
      refine (Fence.free_round Try.prog _).calls _ _ _ _ _ ((way_c U1 sb bb n L M p bs S t A Lf HS.out (HB.out.grow HY.out.g) (by have := HY.out.sbb; omega) hLb HLf.out h2.out HA.out HtL.out HMt.out).mono ?_)
      rintro e U2 ⟨p', bs', S', s2, hO, hans⟩
      have y2 := Lib.hid (HY.out.step hO)
      replace s2 := Lib.hid s2
      clear hO b6 cMt
      rcases hans with ⟨rfl, hN⟩ | ⟨z, v, q, rfl, hans⟩
      · have HN := Lib.hid hN
        clear hN
        gi_wp2
        exact HFin.out _ _ M p' bs' S' c s2.out h2.out h3 (.inr HN.out) (fun z h => h) y2.out
      · have Hans := Lib.hid hans
        clear hans
        have hc7 := cell_box y2.out.drop.drop.hd
        have f7 := frozen_of_heap y2.out.drop.drop.hd 0
        have hcI : IntKind.i64.wrap ((c : Int) + 1) = ((c + 1 : Nat) : Int) := by rw [IntKind.wrap_i64]; omega
        have y3 : BsS w sb ((x7, .cells #[.int .i64 (c + 1 : Nat)] 3) :: (bx, .cells #[.int .u32 (L : Nat)] 75) :: (sb + 1, .cells #[.pointer (some ⟨sb, 0, none⟩)] 120) :: (x4, .cells (rowI 16 fun _ => 0) 99) :: []) (U2.setCell ⟨x7, 0, none⟩ (.int .i64 (c + 1 : Nat))) := y2.out.drop.drop.put0 hx7w (by
          intro y hy
          simp only [List.mem_cons, List.not_mem_nil, or_false] at hy
          rcases hy with rfl | rfl | rfl
          · show bx ≠ x7; omega
          · exact hx67
          · exact hx47) _
        have y4 := (y3.add (b := D) (o := .deferred (some [])) (by rw [World.heap_setCell_map _ _ _ _ (show x7 ≠ D by omega)]; exact y2.out.drop.hd) (by omega)).add (b := D + 1) (o := .loop lo') (by rw [World.heap_setCell_map _ _ _ _ (show x7 ≠ D + 1 by omega)]; exact y2.out.hd) (by omega)
        have s3 := s2.out.other (b' := x7) (i := 0) (v := .int .i64 (c + 1 : Nat)) (by omega)
        obtain ⟨U3, hU3⟩ : ∃ U3, U3 = U2.setCell ⟨x7, 0, none⟩ (.int .i64 (c + 1 : Nat)) := ⟨_, rfl⟩
        rw [← hU3] at y4 s3
        rw [show ((c + 1 : Nat) : Int) = (c : Int) + 1 by omega] at hU3
        have HY4 := Lib.hid y4
        have HS4 := Lib.hid s3
        obtain ⟨a1, a2, a3, a4, a5, a6, a7⟩ := Hans.out
        obtain ⟨n1, n2, n3, n4⟩ := aug_all HA.out HL16.out h2.out HtL.out HMt.out a1 a2 a3 a4 a5 a6 a7
        obtain ⟨MF, hMF⟩ : ∃ MF, augF M z q t = MF := ⟨_, rfl⟩
        rw [hMF] at n1 n2 n3 n4
        have HNew := Lib.hid (And.intro n1 (And.intro n2 (And.intro n3 n4)))
        have Hst : Hid (p' z = some v ∧ Alt M p' v q t ∧ augF M z q t = MF ∧ ∀ y ∈ q, M y ≠ y) := Lib.hid ⟨a1, a2, hMF, a4⟩
        obtain ⟨full, hfull⟩ : ∃ full, z :: (q ++ [t]) = full := ⟨_, rfl⟩
        have hz16 := HL16.out z a7
        have HF : Hid (full.Nodup ∧ ∀ y ∈ full, y < 16) := Lib.hid (by
          rw [← hfull]
          refine ⟨a3, fun y hy => ?_⟩
          · rcases List.mem_cons.1 hy with rfl | hy
            · exact hz16
            · rcases List.mem_append.1 hy with hy | hy
              · exact HL16.out y (h2.out.ok y (a4 y hy)).1
              · rw [List.mem_singleton.1 hy]; exact ht16)
        have Hfull := Lib.hid hfull
        clear a1 a2 a3 a4 a5 a6 a7 n1 n2 n3 n4 hMF y3 y4 s3 hfull Hans
        gi_wp2
        rw [← hU3]
        clear hU3 hc7 f7 hcI y2 s2
        gi_loopw [9] (fun i9 wr => ∃ x : Int, i9 = .int .i64 x ∧ Hid (BsS w sb ((D + 1, .loop lo') :: (D, .deferred (some [])) :: (x7, .cells #[.int .i64 (c + 1 : Nat)] 3) :: (bx, .cells #[.int .u32 (L : Nat)] 75) :: (sb + 1, .cells #[.pointer (some ⟨sb, 0, none⟩)] 120) :: (x4, .cells (rowI 16 fun _ => 0) 99) :: []) wr) ∧ Hid ((x = -1 ∧ SrchAt wr sb (.pointer (some ⟨bb, 0, none⟩)) L MF p' bs' S') ∨ ∃ (z v : Nat) (q DD : List Nat) (M' : Nat → Nat), x = (z : Nat) ∧ SrchAt wr sb (.pointer (some ⟨bb, 0, none⟩)) L M' p' bs' S' ∧ full = DD ++ z :: (q ++ [t]) ∧ p' z = some v ∧ Alt M p' v q t ∧ augF M' z q t = MF ∧ (∀ y ∈ q ++ [t], M' y = M y) ∧ ∀ y ∈ q, M y ≠ y)) (fun i9 _ => if intOf i9 < 0 then 0 else full.length + 1 - full.idxOf (intOf i9).toNat)
        case atStart => exact ⟨_, rfl, HY4, Lib.hid (.inr ⟨z, v, q, [], M, rfl, HS4.out, Hfull.out.symm, Hst.out.1, Hst.out.2.1, Hst.out.2.2.1, fun _ _ => rfl, Hst.out.2.2.2⟩)⟩
        case round =>
          clear HY4 HS4 Hfull Hst
          obtain ⟨x, rfl, hY, hX⟩ := hrel
          by_cases hx : x = -1
          · subst hx
            have HS5 : Hid (SrchAt wr sb (.pointer (some ⟨bb, 0, none⟩)) L MF p' bs' S') := Lib.hid (by
              rcases hX.out with ⟨-, h⟩ | ⟨z, _, _, _, _, h, -⟩
              · exact h
              · omega)
            clear hX
            gi_wp2
            exact HFin.out _ _ MF p' bs' S' (c + 1) HS5.out HNew.out.1 (by rw [HNew.out.2.1, h3]; omega) (.inl HNew.out.2.2.2) HNew.out.2.2.1 hY.out
          · obtain ⟨z, v, q, DD, M', rfl, hS, hfl, hpz, hal, hau, hMM, hqM⟩ : ∃ (z v : Nat) (q DD : List Nat) (M' : Nat → Nat), x = (z : Nat) ∧ SrchAt wr sb (.pointer (some ⟨bb, 0, none⟩)) L M' p' bs' S' ∧ full = DD ++ z :: (q ++ [t]) ∧ p' z = some v ∧ Alt M p' v q t ∧ augF M' z q t = MF ∧ (∀ y ∈ q ++ [t], M' y = M y) ∧ ∀ y ∈ q, M y ≠ y := by
              rcases hX.out with ⟨h, -⟩ | h
              · exact absurd h hx
              · exact h
            clear hX hx
            have hnd := HF.out.1
            rw [hfl] at hnd
            have hzD : z ∉ DD := fun h => (List.nodup_append.1 hnd).2.2 z h z (List.mem_cons_self ..) rfl
            have hn2 := (List.nodup_append.1 hnd).2.1
            have hvm : v ∈ q ++ [t] := by
              obtain ⟨rr, hrr⟩ := hal.head
              rw [hrr]; exact List.mem_cons_self ..
            have hzq := (List.nodup_cons.1 hn2).1
            have hvz : v ≠ z := fun e => hzq (by rw [← e]; exact hvm)
            have hz16 : z < 16 := HF.out.2 z (by rw [hfl]; simp)
            have hv16 : v < 16 := HF.out.2 v (by rw [hfl]; exact List.mem_append_right _ (List.mem_cons_of_mem _ hvm))
            have HX := Lib.hid (idx_mid (r := q ++ [t]) hzD)
            rw [← hfl] at HX
            have hfln : full.length = DD.length + (q.length + 2) := by rw [hfl]; simp
            obtain ⟨nx, hnx⟩ : ∃ nx, mvI M' v = nx := ⟨_, rfl⟩
            have HNX : Hid ((nx = -1 ∧ updM (updM M' z v) v z = MF) ∨ ∃ (z2 v2 : Nat) (q2 DD2 : List Nat), nx = (z2 : Nat) ∧ full = DD2 ++ z2 :: (q2 ++ [t]) ∧ p' z2 = some v2 ∧ Alt M p' v2 q2 t ∧ augF (updM (updM M' z v) v z) z2 q2 t = MF ∧ (∀ y ∈ q2 ++ [t], updM (updM M' z v) v z y = M y) ∧ (∀ y ∈ q2, M y ≠ y) ∧ full.idxOf z2 = DD.length + 2) := Lib.hid (by
              cases hal with
              | nil =>
                refine .inl ⟨?_, hau⟩
                rw [← hnx, mvI_none]
                rw [hMM _ (by simp)]; exact HMt.out
              | cons k1 k2 =>
                rename_i b l
                have hMv : M' v = M v := hMM v (by simp)
                have hMne : M v ≠ v := hqM v (by simp)
                have hfl2 : full = (DD ++ [z, v]) ++ M v :: (l ++ [t]) := by rw [hfl]; simp
                refine .inr ⟨M v, b, l, DD ++ [z, v], ?_, hfl2, k1, k2, hau, fun y hy => ?_, fun y hy => hqM y (by simp [hy]), ?_⟩
                · rw [← hnx, mvI_some (by rw [hMv]; exact hMne), hMv]
                · have hy2 : y ∈ v :: M v :: (l ++ [t]) := List.mem_cons_of_mem _ (List.mem_cons_of_mem _ hy)
                  have e1 : y ≠ z := fun e => hzq (by rw [← e]; exact hy2)
                  have e2 : y ≠ v := fun e => (List.nodup_cons.1 (List.nodup_cons.1 hn2).2).1 (by rw [← e]; exact List.mem_cons_of_mem _ hy)
                  rw [updM_ne e2, updM_ne e1]
                  exact hMM y hy2
                · have hnd2 := HF.out.1
                  rw [hfl2] at hnd2
                  have := idx_mid (r := l ++ [t]) (fun h => (List.nodup_append.1 hnd2).2.2 (M v) h (M v) (List.mem_cons_self ..) rfl)
                  rw [← hfl2] at this
                  rw [this]; simp)
            have HS := Lib.hid hS
            have b6 := cell_box hY.out.drop.drop.drop.drop.hd
            have cP := hS.by_ hz16
            rw [pvI_some hpz] at cP
            have cMv := hS.mate hv16
            rw [hnx] at cMv
            have hzI : (z : Int) < 16 := by omega
            have hvI : (v : Int) < 16 := by omega
            clear hnx hal hau hMM hqM hpz hfl hnd hn2 hvm hzq hzD hS
            gi_wp2
            clear cP cMv b6
            obtain ⟨I, hIe⟩ : ∃ I : World → Prop, I = fun w' => w'.heap[sb + 1]? = some (.cells #[.pointer (some ⟨sb, 0, none⟩)] 120) := ⟨_, rfl⟩
            have hI : ∀ W W', I W → W.grows W' → I W' := by
              rw [hIe]
              rintro W W' a1 g
              exact g.heap_of a1
            have hIw : I wr := by rw [hIe]; exact hY.out.drop.drop.drop.drop.hd
            have HI : Hid (∀ U, I U → U.heap[sb + 1]? = some (.cells #[.pointer (some ⟨sb, 0, none⟩)] 120)) := Lib.hid fun U h => by rw [hIe] at h; exact h
            have HIm : Hid (∀ U, U.heap[sb + 1]? = some (.cells #[.pointer (some ⟨sb, 0, none⟩)] 120) → I U) := Lib.hid fun U h => by rw [hIe]; exact h
            clear hIe
            (refine wpIn_region_chainJ (Fence.free_round _ _) 14 [9, 12, 13] (I) (hI) (hIw) (by kernel_rfl) (by kernel_rfl) (by kernel_rfl) (by decide) ?_; simp only [without, only, withNo, List.take_succ_cons, List.take_zero, List.drop_succ_cons, List.drop_zero, List.take_nil, List.drop_nil, Nat.reduceAdd, Nat.reduceSub, List.filter, List.contains_cons, List.contains_nil, Nat.reduceBEq, Bool.or_false, Bool.false_or, Bool.true_or, Bool.or_true, Bool.or_self, Bool.not_true, Bool.not_false, List.map_cons, List.map_nil])
            refine wpCalmJ_go rfl (.pointer (some ⟨sb, 0, none⟩)) (fun U hU => by have e1 := cell_box (HI.out U hU); go_simp) ?_
            refine wpCalmJ_go rfl (.int .i64 (z : Nat)) (fun U hU => by go_simp) ?_
            refine wpCalmJ_go rfl (.pointer (some ⟨sb, 0, none⟩)) (fun U hU => by have e1 := cell_box (HI.out U hU); go_simp) ?_
            refine wpCalmJ_go rfl (.int .i64 (v : Nat)) (fun U hU => by go_simp) ?_
            refine wpCalmJ_go rfl (.int .i64 (v : Nat)) (fun U hU => by go_simp) ?_
            refine wpCalmJ_go rfl (.int .i64 (z : Nat)) (fun U hU => by go_simp) ?_
            refine wpCalmJ_go rfl (.pointer (some ⟨sb, 0, none⟩)) (fun U hU => by go_simp) ?_
            refine wpCalmJ_go rfl (.pointer (some ⟨sb, 2, none⟩)) (fun U hU => by go_simp) ?_
            refine wpCalmJ_go rfl (.pointer (some ⟨sb, 2 + z, none⟩)) (fun U hU => by go_simp) ?_
            refine wpCalmJ_go rfl (.pointer (some ⟨sb, 0, none⟩)) (fun U hU => by go_simp) ?_
            refine wpCalmJ_go rfl (.pointer (some ⟨sb, 2, none⟩)) (fun U hU => by go_simp) ?_
            refine wpCalm_nilJ ?_
            simp only [Act.put, List.setIfInBounds_toArray, List.set_cons_zero, List.set_cons_succ]
            refine wpChain_stepOJ (fun K hK nc xc hgc => ?_)
            have c1 := HS.out.mate hz16
            have f1 := HS.out.fz (2 + z)
            go_simp
            obtain ⟨U4, hU4⟩ : ∃ U4, U4 = (wr.setCell ⟨sb, 2 + z, none⟩ (.int .i64 (v : Nat))).plus nc (wr.setIn nc xc ⟨sb, 2 + z, none⟩ (.int .i64 (v : Nat))) := ⟨_, rfl⟩
            have gU4 : (wr.setCell ⟨sb, 2 + z, none⟩ (.int .i64 (v : Nat))).grows U4 := by rw [hU4]; (repeat (first | exact World.grows.refl _ | assumption | refine World.grows.alloc ?_ _ | refine World.grows.plus ?_ _ _ | refine World.grows.drew ?_))
            have s4 := (HS.out.setM hz16 hvz).grow gU4
            have y4 := (hY.out.setS (2 + z) (.int .i64 (v : Nat))).mono gU4
            rw [← hU4]
            refine ⟨HIm.out _ y4.drop.drop.drop.drop.hd, hK _ _ ?_⟩
            clear hK K hgc hU4 gU4 c1 f1
            refine wpChain_stepOJ (fun K hK nc2 xc2 hgc2 => ?_)
            go_simp
            refine ⟨hI _ _ hgc2 (by (repeat (first | exact World.grows.refl _ | assumption | refine World.grows.alloc ?_ _ | refine World.grows.plus ?_ _ _ | refine World.grows.drew ?_))), hK _ _ ?_⟩
            clear hK K hgc2
            have g5 : U4.grows (U4.plus nc2 xc2) := by (repeat (first | exact World.grows.refl _ | assumption | refine World.grows.alloc ?_ _ | refine World.grows.plus ?_ _ _ | refine World.grows.drew ?_))
            generalize U4.plus nc2 xc2 = U5 at g5 ⊢
            have s5 := s4.grow g5
            have y5 := y4.mono g5
            have c1 := s5.mate hv16
            have f1 := s5.fz (2 + v)
            have HS5 := Lib.hid (s5.setM hv16 (Ne.symm hvz))
            have HY5 := Lib.hid (y5.setS (2 + v) (.int .i64 (z : Nat)))
            clear g5 s4 y4 s5 y5
            refine wpChain_stepOJ (fun K hK nc xc hgc => ?_)
            go_simp
            obtain ⟨U6, hU6⟩ : ∃ U6, U6 = (U5.setCell ⟨sb, 2 + v, none⟩ (.int .i64 (z : Nat))).plus nc (U5.setIn nc xc ⟨sb, 2 + v, none⟩ (.int .i64 (z : Nat))) := ⟨_, rfl⟩
            have gU6 : (U5.setCell ⟨sb, 2 + v, none⟩ (.int .i64 (z : Nat))).grows U6 := by rw [hU6]; (repeat (first | exact World.grows.refl _ | assumption | refine World.grows.alloc ?_ _ | refine World.grows.plus ?_ _ _ | refine World.grows.drew ?_))
            have s6 := HS5.out.grow gU6
            have y6 := HY5.out.mono gU6
            rw [← hU6]
            refine ⟨HIm.out _ y6.drop.drop.drop.drop.hd, hK _ _ ?_⟩
            clear hK K hgc hU6 gU6 c1 f1 HS5 HY5
            refine wpChain_nilJ (fun nc3 xc3 => ?_)
            have g7 : U6.grows (U6.plus nc3 xc3) := by (repeat (first | exact World.grows.refl _ | assumption | refine World.grows.alloc ?_ _ | refine World.grows.plus ?_ _ _ | refine World.grows.drew ?_))
            generalize U6.plus nc3 xc3 = U7 at g7 ⊢
            have HS7 := Lib.hid (s6.grow g7)
            have HY7 := Lib.hid (y6.mono g7)
            clear g7 s6 y6 hY HS hI hIw HI HIm
            gi_wp2
            case roundEnd =>
              refine ⟨⟨nx, by rfl, HY7, Lib.hid ?_⟩, ?_⟩
              · rcases HNX.out with ⟨e1, e2⟩ | ⟨z2, v2, q2, DD2, e1, e2, e3, e4, e5, e6, e7, -⟩
                · exact .inl ⟨e1, by rw [← e2]; exact HS7.out⟩
                · exact .inr ⟨z2, v2, q2, DD2, _, e1, HS7.out, e2, e3, e4, e5, e6, e7⟩
              · show (if nx < 0 then 0 else full.length + 1 - full.idxOf nx.toNat) < (if ((z : Nat) : Int) < 0 then 0 else full.length + 1 - full.idxOf ((z : Nat) : Int).toNat)
                have hx := HX.out
                rw [if_neg (show ¬ ((z : Nat) : Int) < 0 by omega), Int.toNat_natCast, hx]
                rcases HNX.out with ⟨e1, -⟩ | ⟨z2, v2, q2, DD2, e1, -, -, -, -, -, -, e8⟩
                · rw [if_pos (show nx < 0 by omega)]; omega
                · rw [e1, if_neg (show ¬ ((z2 : Nat) : Int) < 0 by omega), Int.toNat_natCast, e8]; omega
    · have HMt := Lib.hid hMt
      rw [mvI_some hMt] at cMt
      clear hMt
      gi_wp2
      exact HFin.out _ _ M p bs S c HS.out h2.out h3 (.inl HMt.out) (fun z h => h) HY.out
  · rintro U ⟨M, p, bs, S, c, h1, h2, h3, h4, h5⟩ hDf
    rw [hD] at hDf ⊢
    have HMx : Hid (Mx A Lf 16 M) := Lib.hid (Mx.of_noCov HL16.out h2.out fun t ht => by
      have hmem : t ∈ filtL L.testBit 16 := by
        simp only [filtL, List.mem_filter, List.mem_range]
        exact ⟨HL16.out t ht, by rw [HLf.out]; exact ht⟩
      obtain ⟨j, hj⟩ := List.mem_iff_getElem?.1 hmem
      exact h4.out j t (by rw [List.length_map]; exact (List.getElem?_eq_some_iff.1 hj).1) hj)
    have HMk : Hid (Marks w.heap.size [{ target := .collected D, args := #[] }] U) := Lib.hid ⟨⟨D, rfl, hDw, hDf, fun d' hd => by simp at hd⟩, trivial⟩
    have hy := h5.out.drop
    have HY : Hid (BsS w sb ((x7, .cells #[.int .i64 (c : Nat)] 3) :: (bx, .cells #[.int .u32 (L : Nat)] 75) :: (sb + 1, .cells #[.pointer (some ⟨sb, 0, none⟩)] 120) :: (x4, .cells (rowI 16 fun _ => 0) 99) :: []) U) := Lib.hid hy
    have b6 := cell_box hy.drop.drop.hd
    clear h4 h5 hDf hy
    obtain ⟨bz, hbz⟩ : ∃ b, decide (cov 16 M = 0) = b := ⟨_, rfl⟩
    have heq : ∀ W : World, (Op.equalIn 10000 99 (.agg (rowI 16 (mvI M))) (.agg (rowI 16 fun _ => -1))).run Try.prog W = .ok bz W := fun W => by
      rw [eq99, none_mates, hbz]
    have Hbz := Lib.hid hbz
    clear hbz
    obtain ⟨I, hIe⟩ : ∃ I : World → Prop, I = fun w' => w'.heap[sb + 1]? = some (.cells #[.pointer (some ⟨sb, 0, none⟩)] 120) ∧ SrchAt w' sb (.pointer (some ⟨bb, 0, none⟩)) L M p bs S := ⟨_, rfl⟩
    have hI : ∀ W W', I W → W.grows W' → I W' := by
      rw [hIe]
      rintro W W' ⟨a1, a2⟩ g
      exact ⟨g.heap_of a1, a2.grow g⟩
    have hIw : I U := by rw [hIe]; exact ⟨HY.out.drop.drop.hd, h1.out⟩
    have HI : Hid (∀ U, I U → U.heap[sb + 1]? = some (.cells #[.pointer (some ⟨sb, 0, none⟩)] 120) ∧ SrchAt U sb (.pointer (some ⟨bb, 0, none⟩)) L M p bs S) := Lib.hid fun U h => by rw [hIe] at h; exact h
    clear hIe
    go_upto_region 14 with fail
    clear b6
    (refine wp_region_chainJ 6 [4, 5] (I) (hI) (hIw) (by kernel_rfl) (by kernel_rfl) (by decide) ?_; simp only [without, only, withNo, List.take_succ_cons, List.take_zero, List.drop_succ_cons, List.drop_zero, List.take_nil, List.drop_nil, Nat.reduceAdd, Nat.reduceSub, List.filter, List.contains_cons, List.contains_nil, Nat.reduceBEq, Bool.or_false, Bool.false_or, Bool.true_or, Bool.or_true, Bool.or_self, Bool.not_true, Bool.not_false, List.map_cons, List.map_nil])
    refine wpCalmJ_go rfl (.pointer (some ⟨sb, 0, none⟩)) (fun U hU => by have e1 := cell_box (HI.out U hU).1; go_simp) ?_
    refine wpCalmJ_go rfl (.pointer (some ⟨sb, 0, none⟩)) (fun U hU => by go_simp) ?_
    refine wpCalmJ_go rfl (.pointer (some ⟨sb, 2, none⟩)) (fun U hU => by go_simp) ?_
    refine wpCalmJ_go rfl (.agg (rowI 16 (mvI M))) (fun U hU => calmAt_load_row 99 (.tmp 63) rfl _ _ (by rfl) (HI.out U hU).2.rowM_load) ?_
    refine wpCalm_nilJ ?_
    simp only [Act.put, List.setIfInBounds_toArray, List.set_cons_zero, List.set_cons_succ]
    refine wpChain_stepOJ (fun K hK nc xc hgc => ?_)
    go_simp
    refine (none_c _).mono ?_
    rintro e U2 ⟨rfl, g2⟩
    refine ⟨_, rfl, hI _ _ hgc g2, hK _ _ ?_⟩
    clear hK K
    have gU : U.grows U2 := World.grows.trans (World.grows_plus _ _ _) g2
    clear hgc g2
    refine wpChain_stepOJ (fun K hK nc xc hgc => ?_)
    go_simp
    refine ⟨hgc, hK _ _ ?_⟩
    clear hK K hgc
    refine wpChain_nilJ (fun nc2 xc2 => ?_)
    have gU3 : U.grows ((U2.plus nc xc).plus nc2 xc2) := gU.trans (by (repeat (first | exact World.grows.refl _ | assumption | refine World.grows.alloc ?_ _ | refine World.grows.plus ?_ _ _ | refine World.grows.drew ?_)))
    generalize (U2.plus nc xc).plus nc2 xc2 = U3 at gU3 ⊢
    have HY3 := Lib.hid (HY.out.mono gU3)
    have HS3 := Lib.hid (h1.out.grow gU3)
    have HMk3 := Lib.hid (HMk.out.mono gU3)
    have e4 := HY3.out.drop.drop.drop.hd
    have b6 := cell_box HY3.out.drop.drop.hd
    have b7 := cell_box HY3.out.hd
    clear gU gU3 heq HMk
    have hx4w : w.heap.size ≤ x4 := by omega
    have HMk7 : Hid (Marks w.heap.size [{ target := .collected D, args := #[] }] (U3.putObj x4 (.cells (rowI 16 (mvI M)) 99))) := Lib.hid (HMk3.out.put (fun c e => by rw [e4] at e; cases e))
    have HF7 : Hid (w.grows (U3.putObj x4 (.cells (rowI 16 (mvI M)) 99)) ∧ (U3.putObj x4 (.cells (rowI 16 (mvI M)) 99)).heap[x4]? = some (.cells (rowI 16 (mvI M)) 99)) := Lib.hid ⟨World.putObj_grows HY3.out.g _ hx4w, World.putObj_heap_same (World.lt_of_block e4)⟩
    cases bz with
    | true =>
      have HCZ : Hid (c = 0) := Lib.hid (by have := of_decide_eq_true Hbz.out; omega)
      go_upto_region 15 with fail
      iterate 10 go_step
      refine wpList_load_row rfl 99 (.tmp 69) rfl _ _ (by rfl) HS3.out.rowM_load ?_
      refine wpList_store_row rfl 99 (.tmp 4) (.tmp 70) rfl x4 (rowI 16 fun _ => 0) (rowI 16 (mvI M)) e4 (by rfl) (by rfl) (by rw [s99, rowI_size]) (by rw [rowI_size, rowI_size]) (rowI_one _ _) ?_
      generalize U3.putObj x4 (.cells (rowI 16 (mvI M)) 99) = U4 at HMk7 HF7 ⊢
      clear b6 b7 e4 hI hIw HI
      go_wp2
      refine Marks.leaves (B := w.heap.size) (fun W' => w.grows W' ∧ W'.heap[x4]? = some (.cells (rowI 16 (mvI M)) 99)) (fun W' D h hD hd => ⟨World.putObj_grows h.1 _ hD, by rw [World.putObj_heap_other (fun e => by rw [← e, h.2] at hd; cases hd)]; exact h.2⟩) (fun W' h => ?_) _ _ HMk7.out HF7.out
      have k0 := rowI_cell h.2 (i := 0) (by omega); have k1 := rowI_cell h.2 (i := 1) (by omega); have k2 := rowI_cell h.2 (i := 2) (by omega); have k3 := rowI_cell h.2 (i := 3) (by omega); have k4 := rowI_cell h.2 (i := 4) (by omega); have k5 := rowI_cell h.2 (i := 5) (by omega); have k6 := rowI_cell h.2 (i := 6) (by omega); have k7 := rowI_cell h.2 (i := 7) (by omega); have k8 := rowI_cell h.2 (i := 8) (by omega); have k9 := rowI_cell h.2 (i := 9) (by omega); have k10 := rowI_cell h.2 (i := 10) (by omega); have k11 := rowI_cell h.2 (i := 11) (by omega); have k12 := rowI_cell h.2 (i := 12) (by omega); have k13 := rowI_cell h.2 (i := 13) (by omega); have k14 := rowI_cell h.2 (i := 14) (by omega); have k15 := rowI_cell h.2 (i := 15) (by omega)
      refine ⟨.tuple #[.agg (rowI 16 (mvI M)), .int .i64 0], ?_, M, c, by rw [HCZ.out]; rfl, HMx.out, h3, h.1⟩
      simp [results, Try.results64, go_sem, k0, k1, k2, k3, k4, k5, k6, k7, k8, k9, k10, k11, k12, k13, k14, k15]
      exact row16 _
    | false =>
      go_upto_region 16 with fail
      obtain ⟨I, hIe⟩ : ∃ I : World → Prop, I = fun w' => w'.heap[sb + 1]? = some (.cells #[.pointer (some ⟨sb, 0, none⟩)] 120) ∧ SrchAt w' sb (.pointer (some ⟨bb, 0, none⟩)) L M p bs S ∧ w'.heap[x7]? = some (.cells #[.int .i64 (c : Nat)] 3) ∧ w.grows w' ∧ Marks w.heap.size [{ target := .collected D, args := #[] }] w' := ⟨_, rfl⟩
      have hI : ∀ W W', I W → W.grows W' → I W' := by
        rw [hIe]
        rintro W W' ⟨a1, a2, a3, a4, a5⟩ g
        exact ⟨g.heap_of a1, a2.grow g, g.heap_of a3, a4.trans g, a5.mono g⟩
      have hIw : I U3 := by rw [hIe]; exact ⟨HY3.out.drop.drop.hd, HS3.out, HY3.out.hd, HY3.out.g, HMk3.out⟩
      have HI : Hid (∀ U, I U → U.heap[sb + 1]? = some (.cells #[.pointer (some ⟨sb, 0, none⟩)] 120) ∧ SrchAt U sb (.pointer (some ⟨bb, 0, none⟩)) L M p bs S ∧ U.heap[x7]? = some (.cells #[.int .i64 (c : Nat)] 3) ∧ w.grows U ∧ Marks w.heap.size [{ target := .collected D, args := #[] }] U) := Lib.hid fun U h => by rw [hIe] at h; exact h
      have HIm : Hid (∀ U, (U.heap[sb + 1]? = some (.cells #[.pointer (some ⟨sb, 0, none⟩)] 120) ∧ SrchAt U sb (.pointer (some ⟨bb, 0, none⟩)) L M p bs S ∧ U.heap[x7]? = some (.cells #[.int .i64 (c : Nat)] 3) ∧ w.grows U ∧ Marks w.heap.size [{ target := .collected D, args := #[] }] U) → I U) := Lib.hid fun U h => by rw [hIe]; exact h
      clear hIe b6 b7 HMk7 HF7
      (refine wp_region_chainJ 7 [5, 6] (I) (hI) (hIw) (by kernel_rfl) (by kernel_rfl) (by decide) ?_; simp only [without, only, withNo, List.take_succ_cons, List.take_zero, List.drop_succ_cons, List.drop_zero, List.take_nil, List.drop_nil, Nat.reduceAdd, Nat.reduceSub, List.filter, List.contains_cons, List.contains_nil, Nat.reduceBEq, Bool.or_false, Bool.false_or, Bool.true_or, Bool.or_true, Bool.or_self, Bool.not_true, Bool.not_false, List.map_cons, List.map_nil])
      refine wpCalmJ_go rfl (.pointer (some ⟨sb, 0, none⟩)) (fun U hU => by have e1 := cell_box (HI.out U hU).1; go_simp) ?_
      refine wpCalmJ_go rfl (.pointer (some ⟨sb, 0, none⟩)) (fun U hU => by go_simp) ?_
      refine wpCalmJ_go rfl (.pointer (some ⟨sb, 2, none⟩)) (fun U hU => by go_simp) ?_
      refine wpCalmJ_go rfl (.agg (rowI 16 (mvI M))) (fun U hU => calmAt_load_row 99 (.tmp 73) rfl _ _ (by rfl) (HI.out U hU).2.1.rowM_load) ?_
      refine wpCalmJ_go rfl (.int .i64 (c : Nat)) (fun U hU => by have e1 := cell_box (HI.out U hU).2.2.1; go_simp) ?_
      refine wpCalm_nilJ ?_
      simp only [Act.put, List.setIfInBounds_toArray, List.set_cons_zero, List.set_cons_succ]
      refine wpChainJ_store_row rfl 99 (.tmp 4) (.tmp 74) rfl x4 (rowI 16 fun _ => 0) (rowI 16 (mvI M)) e4 (by rfl) (by rfl) (by rw [s99, rowI_size]) (by rw [rowI_size, rowI_size]) (rowI_one _ _) ?_
      intro W6 gW6 hI6
      obtain ⟨a1, a2, a3, a4, a5⟩ := HI.out _ hI6
      have e46 := gW6.heap_of e4
      have hne6 : sb + 1 ≠ x4 := fun e => by rw [e, e46] at a1; cases a1
      have hne7 : x7 ≠ x4 := Ne.symm hx47
      have h41 := World.lt_of_block e46
      have z1 : (W6.putObj x4 (.cells (rowI 16 (mvI M)) 99)).heap[x4]? = some (.cells (rowI 16 (mvI M)) 99) := World.putObj_heap_same h41
      have z2 : I (W6.putObj x4 (.cells (rowI 16 (mvI M)) 99)) := HIm.out _ ⟨by rw [World.putObj_heap_other hne6]; exact a1, a2.put (Ne.symm hx4s), by rw [World.putObj_heap_other hne7]; exact a3, World.putObj_grows a4 _ hx4w, a5.put (fun c e => by rw [e46] at e; cases e)⟩
      refine ⟨z2, ?_⟩
      generalize W6.putObj x4 (.cells (rowI 16 (mvI M)) 99) = W7 at z1 z2 ⊢
      refine wpChain_stepOJ (fun K hK nc xc hgc => ?_)
      go_simp
      refine ⟨hgc, hK _ _ ?_⟩
      clear hK K hgc
      refine wpChain_nilJ (fun nc2 xc2 => ?_)
      have g8 : W7.grows ((W7.plus nc xc).plus nc2 xc2) := by (repeat (first | exact World.grows.refl _ | assumption | refine World.grows.alloc ?_ _ | refine World.grows.plus ?_ _ _ | refine World.grows.drew ?_))
      generalize (W7.plus nc xc).plus nc2 xc2 = W8 at g8 ⊢
      obtain ⟨-, -, -, b4, b5⟩ := HI.out _ z2
      have HMk7 := Lib.hid (b5.mono g8)
      have HF7 : Hid (w.grows W8 ∧ W8.heap[x4]? = some (.cells (rowI 16 (mvI M)) 99)) := Lib.hid ⟨b4.trans g8, g8.heap_of z1⟩
      clear hI hIw HI HIm z1 z2 g8 a1 a2 a3 a4 a5 b4 b5 e46 hI6 gW6 e4
      go_wp2
      refine Marks.leaves (B := w.heap.size) (fun W' => w.grows W' ∧ W'.heap[x4]? = some (.cells (rowI 16 (mvI M)) 99)) (fun W' D h hD hd => ⟨World.putObj_grows h.1 _ hD, by rw [World.putObj_heap_other (fun e => by rw [← e, h.2] at hd; cases hd)]; exact h.2⟩) (fun W' h => ?_) _ _ HMk7.out HF7.out
      have k0 := rowI_cell h.2 (i := 0) (by omega); have k1 := rowI_cell h.2 (i := 1) (by omega); have k2 := rowI_cell h.2 (i := 2) (by omega); have k3 := rowI_cell h.2 (i := 3) (by omega); have k4 := rowI_cell h.2 (i := 4) (by omega); have k5 := rowI_cell h.2 (i := 5) (by omega); have k6 := rowI_cell h.2 (i := 6) (by omega); have k7 := rowI_cell h.2 (i := 7) (by omega); have k8 := rowI_cell h.2 (i := 8) (by omega); have k9 := rowI_cell h.2 (i := 9) (by omega); have k10 := rowI_cell h.2 (i := 10) (by omega); have k11 := rowI_cell h.2 (i := 11) (by omega); have k12 := rowI_cell h.2 (i := 12) (by omega); have k13 := rowI_cell h.2 (i := 13) (by omega); have k14 := rowI_cell h.2 (i := 14) (by omega); have k15 := rowI_cell h.2 (i := 15) (by omega)
      refine ⟨.tuple #[.agg (rowI 16 (mvI M)), .int .i64 (c : Nat)], ?_, M, c, rfl, HMx.out, h3, h.1⟩
      simp [results, Try.results64, go_sem, k0, k1, k2, k3, k4, k5, k6, k7, k8, k9, k10, k11, k12, k13, k14, k15]
      exact row16 _
end Go.Proofs.Yteingahlmlndkaa

