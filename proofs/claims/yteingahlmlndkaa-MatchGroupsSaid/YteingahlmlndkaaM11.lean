/-
  What is proved: a set that is not known is counted (67): the step.
-/
import Derived.Test.YteingahlmlndkaaM10
set_option linter.all false
namespace Go.Proofs.Yteingahlmlndkaa
open Go.RowKit
attribute [local irreducible] Go.wpCalm rowV
attribute [local go_sem] Oper.semAt_some
theorem first_bit {L : Nat} (h0 : L ≠ 0) (hL : L < 65536) : ∃ t, (filtL L.testBit 16)[0]? = some t ∧ t < 16 ∧ L.testBit t = true := by
  cases hf : filtL L.testBit 16 with
  | nil =>
    refine absurd (Nat.eq_of_testBit_eq fun i => ?_) h0
    rw [Nat.zero_testBit]
    by_cases hi : i < 16
    · cases hb : L.testBit i with
      | false => rfl
      | true =>
        have : i ∈ filtL L.testBit 16 := List.mem_filter.2 ⟨List.mem_range.2 hi, hb⟩
        rw [hf] at this
        cases this
    · exact bit_out hL (by omega)
  | cons t r =>
    have : t ∈ filtL L.testBit 16 := by rw [hf]; exact List.mem_cons_self ..
    obtain ⟨h1, h2⟩ := List.mem_filter.1 this
    exact ⟨t, rfl, List.mem_range.1 h1, h2⟩
/-- a tally just made -/
def kAt (base : Nat) (v : Value) (W : World) : Prop := ∃ b, v = .pointer (some ⟨b, 0, none⟩) ∧ base ≤ b ∧ W.heap[b]? = some (.cells #[.int .i64 0, .int .i64 0] 106)
/-- what is new stays -/
def gB (base : Nat) (W W' : World) : Prop := ∀ k o, base ≤ k → W.heap[k]? = some o → W'.heap[k]? = some o
theorem gB.of {base : Nat} {W W' : World} (g : W.grows W') : gB base W W' := fun _ _ _ h => g.heap_of h
set_option maxRecDepth 100000 in
set_option maxHeartbeats 4000000 in
theorem tally_new (d bb n mb : Nat) (A : Nat → Nat → Bool) (hA : ∀ a b, A a b = A b a) (hI : ∀ a, A a a = false) (ih : TalC d bb n mb A) (W : World) (L : Nat) (m : VU) (hB : BenchOf W bb n A) (hne : bb ≠ mb) (hm : W.heap[mb]? = some m.obj) (hK : Known A m) (hL : L < 65536) (hd : cntB L.testBit 16 ≤ d + 1)
    (h0 : L ≠ 0) (hg : m.get L = none) :
    Calls Try.prog 67 #[.pointer (some ⟨bb, 0, none⟩), .int .u32 (L : Nat), .map (some mb)] W fun e w' => ∃ m', e = .returned (talV (talS A L)) ∧ w'.heap[mb]? = some m'.obj ∧ Known A m' ∧ (W.putObj mb m'.obj).grows w' := by
  have hlk := fun w (g : W.grows w) => lk108 m mb w (g.heap_of hm) L
  simp only [hg, Option.getD_none, Option.isSome_none] at hlk
  have hL0 : (((L : Nat) : Int) == 0) = false := by rw [beq_eq_false_iff_ne]; omega
  have hl2 := hlk (((W.alloc (.cells #[.pointer (some ⟨bb, 0, none⟩)] 71)).alloc (.cells #[.map (some mb)] 108)).alloc (.cells #[.int .i64 0, .int .i64 0] 106)) (by (repeat (first | exact World.grows.refl _ | assumption | refine World.grows.alloc ?_ _ | refine World.grows.plus ?_ _ _ | refine World.grows.drew ?_)))
  obtain ⟨t, ht, ht16, htL⟩ := first_bit h0 hL
  have Hih := Lib.hid ih
  have HB := Lib.hid hB
  have Hm := Lib.hid hm
  have HK := Lib.hid hK
  have Ht := Lib.hid ht
  have HtL := Lib.hid htL
  have HA := Lib.hid hA
  have HI0 := Lib.hid hI
  have Hd := Lib.hid hd
  clear ih hB hm hK hlk ht htL hA hI hd hg
  (refine (callsIn_wide (n := 0)).1 (callsIn_of_wp_marks Try.func67 rfl trivial ((wpIn_wide (n := 0)).2 ?_) rfl); simp only [Try.ntmps67, List.size_toArray, List.length_cons, List.length_nil, Nat.reduceAdd, Nat.reduceSub, Array.replicate_succ, Array.replicate_zero, List.push_toArray, List.append_toArray, List.nil_append, List.cons_append])
  go_wp2_with (go_at_call 99; fail)
  refine (things_c _ L).mono ?_
  rintro e W1 ⟨rfl, hW1⟩
  obtain ⟨s, hs⟩ : ∃ s, W.heap.size = s := ⟨_, rfl⟩
  simp only [hs] at hW1
  have hmb : mb < W.heap.size := World.lt_of_block Hm.out
  have hsz : ∀ o, (W.putObj mb o).heap.size = s := fun o => by rw [← hs]; simp
  have k1 : KpS (W.putObj mb m.obj) [(s + 4, .cells #[.int .i64 0, .int .i64 0] 106), (s, .cells #[.pointer (some ⟨bb, 0, none⟩)] 71), (s + 1, .cells #[.map (some mb)] 108), (s + 5, .cells #[.func (.func 80) #[] #[.pointer (some ⟨s + 4, 0, none⟩)]] 126), (s + 2, .cells #[.int .i64 0, .int .i64 0] 106), (s + 6, .cells #[.int .u32 (L : Nat)] 75)] W1 := by
    rw [World.putObj_self Hm.out]
    refine ⟨by rw [hW1]; (repeat (first | exact World.grows.refl _ | assumption | refine World.grows.alloc ?_ _ | refine World.grows.plus ?_ _ _ | refine World.grows.drew ?_)), fun y hy => ?_⟩
    rw [hW1]
    simp only [List.mem_cons, List.not_mem_nil, or_false] at hy
    rcases hy with rfl | rfl | rfl | rfl | rfl | rfl <;> (repeat (first | (refine World.heap_at _ _ _ ?_; simp [hs]; done) | refine alloc_old ?_))
  have hW1s : W1.heap.size = s + 7 := by rw [hW1]; simp [hs]
  have HK1 := Lib.hid k1
  clear hW1 hl2 hL0 k1
  go_wp2_with (go_at_call 99; fail)
  simp only [Nat.add_assoc, Nat.reduceAdd]
  refine (first_c _ (s + 6) L t (cell_box HK1.out.drop.drop.drop.drop.drop.hd) (by simp only [hW1s]; omega) hL Ht.out).mono ?_
  rintro e W2 ⟨rfl, g2⟩
  go_wp2_with (go_at_call 99; fail)
  refine (less_c _ L t hL ht16).mono ?_
  rintro e W3 ⟨⟨Z1, rfl, hZ1, hZ1b⟩, g3⟩
  go_upto_region 10 with fail
  obtain ⟨x2, hx2⟩ : ∃ x, W3.heap.size = x := ⟨_, rfl⟩
  have hx2s : s + 7 ≤ x2 := by have := g2.size; have := g3.size; omega
  have hcz : cntB Z1.testBit 16 ≤ d := by
    have h1 := cntB_less ht16 HtL.out
    have h2 := Hd.out
    rw [hZ1b]
    unfold less1
    omega
  have k3 : KpS (W.putObj mb m.obj) [(s + 4, .cells #[.int .i64 0, .int .i64 0] 106), (x2, .cells #[.int .u32 (Z1 : Nat)] 75), (s, .cells #[.pointer (some ⟨bb, 0, none⟩)] 71), (s + 1, .cells #[.map (some mb)] 108), (s + 5, .cells #[.func (.func 80) #[] #[.pointer (some ⟨s + 4, 0, none⟩)]] 126), (s + 2, .cells #[.int .i64 0, .int .i64 0] 106)] (W3.alloc (.cells #[.int .u32 (Z1 : Nat)] 75)) := by
    have k := (HK1.out.mono (g2.trans g3)).mono (U' := W3.alloc (.cells #[.int .u32 (Z1 : Nat)] 75)) (by (repeat (first | exact World.grows.refl _ | assumption | refine World.grows.alloc ?_ _ | refine World.grows.plus ?_ _ _ | refine World.grows.drew ?_)))
    exact ((((((KpS.mk k.g (fun y hy => absurd hy List.not_mem_nil)).add k.drop.drop.drop.drop.hd).add k.drop.drop.drop.hd).add k.drop.drop.hd).add k.drop.hd).add (World.heap_at _ _ _ hx2.symm)).add k.hd
  simp only [hx2]
  have hns : ∀ (U : World) (o : Obj) (P : List (Nat × Obj)) (m' : VU) (U' : World), KpS (W.putObj mb m'.obj) P U → True := fun _ _ _ _ _ _ => trivial
  generalize W3.alloc (.cells #[.int .u32 (Z1 : Nat)] 75) = W4 at k3 ⊢
  have HK3 := Lib.hid k3
  clear k3 hx2 g2 g3 HK1 hW1s W1 W2 W3 hns
  obtain ⟨I, hIe⟩ : ∃ I : World → Prop, I = fun U => ∃ m' : VU, KpS (W.putObj mb m'.obj) [(x2, .cells #[.int .u32 (Z1 : Nat)] 75), (s, .cells #[.pointer (some ⟨bb, 0, none⟩)] 71), (s + 1, .cells #[.map (some mb)] 108), (s + 5, .cells #[.func (.func 80) #[] #[.pointer (some ⟨s + 4, 0, none⟩)]] 126), (s + 2, .cells #[.int .i64 0, .int .i64 0] 106)] U := ⟨_, rfl⟩
  have hI : ∀ U U', I U → U.grows U' → I U' := by
    rw [hIe]
    rintro U U' ⟨m', a1⟩ g
    exact ⟨m', a1.mono g⟩
  have hIw : I W4 := by rw [hIe]; exact ⟨m, HK3.out.drop⟩
  have HI : Hid (∀ U, I U → ∃ m' : VU, KpS (W.putObj mb m'.obj) [(x2, .cells #[.int .u32 (Z1 : Nat)] 75), (s, .cells #[.pointer (some ⟨bb, 0, none⟩)] 71), (s + 1, .cells #[.map (some mb)] 108), (s + 5, .cells #[.func (.func 80) #[] #[.pointer (some ⟨s + 4, 0, none⟩)]] 126), (s + 2, .cells #[.int .i64 0, .int .i64 0] 106)] U) := Lib.hid fun U h => by rw [hIe] at h; exact h
  have HIm : Hid (∀ U (m' : VU), KpS (W.putObj mb m'.obj) [(x2, .cells #[.int .u32 (Z1 : Nat)] 75), (s, .cells #[.pointer (some ⟨bb, 0, none⟩)] 71), (s + 1, .cells #[.map (some mb)] 108), (s + 5, .cells #[.func (.func 80) #[] #[.pointer (some ⟨s + 4, 0, none⟩)]] 126), (s + 2, .cells #[.int .i64 0, .int .i64 0] 106)] U → I U) := Lib.hid fun U m' h => by rw [hIe]; exact ⟨m', h⟩
  clear hIe
  (refine wp_region_chainJ 6 [4, 5] (I) (hI) (hIw) (by kernel_rfl) (by kernel_rfl) (by decide) ?_; simp only [without, only, withNo, List.take_succ_cons, List.take_zero, List.drop_succ_cons, List.drop_zero, List.take_nil, List.drop_nil, Nat.reduceAdd, Nat.reduceSub, List.filter, List.contains_cons, List.contains_nil, Nat.reduceBEq, Bool.or_false, Bool.false_or, Bool.true_or, Bool.or_true, Bool.or_self, Bool.not_true, Bool.not_false, List.map_cons, List.map_nil])
  refine wpCalmJ_go rfl (.func (.func 80) #[] #[.pointer (some ⟨s + 4, 0, none⟩)]) (fun U hU => by obtain ⟨m', a⟩ := HI.out U hU; have e1 := cell_box a.drop.drop.drop.hd; go_simp) ?_
  refine wpCalmJ_go rfl (.pointer (some ⟨bb, 0, none⟩)) (fun U hU => by obtain ⟨m', a⟩ := HI.out U hU; have e1 := cell_box a.drop.hd; go_simp) ?_
  refine wpCalmJ_go rfl (.int .u32 (Z1 : Nat)) (fun U hU => by obtain ⟨m', a⟩ := HI.out U hU; have e1 := cell_box a.hd; go_simp) ?_
  refine wpCalmJ_go rfl (.map (some mb)) (fun U hU => by obtain ⟨m', a⟩ := HI.out U hU; have e1 := cell_box a.drop.drop.hd; go_simp) ?_
  refine wpCalm_nilJ ?_
  simp only [Act.put, List.setIfInBounds_toArray, List.set_cons_zero, List.set_cons_succ]
  refine wpChain_stepOJ (fun K hK nc xc hgc => ?_)
  have kb := HK3.out.mono (World.grows_plus W4 nc xc)
  go_simp
  refine (Hih.out _ Z1 m (kb.bench HB.out hne) hne (kb.mapAt hmb) HK.out hZ1 hcz).mono ?_
  rintro e U2 ⟨m2, rfl, hm2, hK2, g2⟩
  have hP : ∀ y ∈ [(s + 4, Obj.cells #[.int .i64 0, .int .i64 0] 106), (x2, .cells #[.int .u32 (Z1 : Nat)] 75), (s, .cells #[.pointer (some ⟨bb, 0, none⟩)] 71), (s + 1, .cells #[.map (some mb)] 108), (s + 5, .cells #[.func (.func 80) #[] #[.pointer (some ⟨s + 4, 0, none⟩)]] 126), (s + 2, .cells #[.int .i64 0, .int .i64 0] 106)], y.1 ≠ mb := by
    intro y hy
    simp only [List.mem_cons, List.not_mem_nil, or_false] at hy
    rcases hy with rfl | rfl | rfl | rfl | rfl | rfl <;> simp only <;> omega
  have k2 := kb.map hmb hP g2
  refine ⟨_, rfl, HIm.out _ m2 k2.drop, hK _ _ ?_⟩
  clear hK K kb hgc g2
  refine wpChain_stepOJ (fun K hK nc xc hgc => ?_)
  have kb := k2.mono (World.grows_plus U2 nc xc)
  go_simp
  refine (add_c _ (s + 4) (0, 0) (talS A Z1) kb.hd (by have := cnt_le A Z1.testBit; show 0 + cnt A Z1.testBit 16 < _; omega)).mono ?_
  rintro e U3 ⟨rfl, t3, o3⟩
  have k3 := kb.drop.only o3 (by rw [hsz]; omega) (by
    intro y hy
    simp only [List.mem_cons, List.not_mem_nil, or_false] at hy
    rcases hy with rfl | rfl | rfl | rfl | rfl <;> simp only <;> omega)
  refine ⟨_, rfl, HIm.out _ m2 k3, hK _ _ ?_⟩
  clear hK K kb hgc k2 o3
  refine wpChain_nilJ (fun nc2 xc2 => ?_)
  have k4 := (k3.add t3).mono (World.grows_plus U3 nc2 xc2)
  generalize U3.plus nc2 xc2 = U4 at k4 ⊢
  clear k3 t3 hm2 hI hIw HI HIm HK3 hP I W4 U2 U3
  have HK4 := Lib.hid k4
  have HK2 := Lib.hid hK2
  clear k4 hK2
  obtain ⟨ta, tc, mv, wide, F, hb1, hb2, -, -⟩ := HK4.out.bench HB.out hne
  have htI : (t : Int) < 16 := by omega
  have c3 := hb1.row ht16
  have b12 := cell_box HK4.out.drop.hd
  have b3 := cell_box HK4.out.drop.drop.hd
  have hF := hb2.lt t
  have han := and_u32 Z1 (F t) hZ1 hF
  have hab : (Z1 &&& F t).testBit = fun u => less1 L.testBit t u && A t u := funext fun u => by rw [Nat.testBit_and, hZ1b, hb2.bit]
  have hal : Z1 &&& F t < 65536 := Nat.lt_of_le_of_lt Nat.and_le_left hZ1
  obtain ⟨Z2, hZ2⟩ : ∃ Z, Z1 &&& F t = Z := ⟨_, rfl⟩
  rw [hZ2] at han hab hal
  have k40 : KpS (W.putObj mb m2.obj) [(s + 4, .cells #[.int .i64 ((talF A L.testBit t Z2 0).1 : Nat), .int .i64 ((talF A L.testBit t Z2 0).2 : Nat)] 106), (x2, .cells #[.int .u32 (Z1 : Nat)] 75), (s, .cells #[.pointer (some ⟨bb, 0, none⟩)] 71), (s + 1, .cells #[.map (some mb)] 108), (s + 5, .cells #[.func (.func 80) #[] #[.pointer (some ⟨s + 4, 0, none⟩)]] 126), (s + 2, .cells #[.int .i64 0, .int .i64 0] 106)] U4 := by
    have e : talF A L.testBit t Z2 0 = addT (0, 0) (talS A Z1) := by unfold talS; rw [hZ1b]; rfl
    rw [e]
    exact HK4.out
  have HK40 := Lib.hid k40
  clear hZ2 hb1 hb2 hF k40 HK4
  go_upto_region 11 with fail
  (refine wp_region_chain 9 [8] (by kernel_rfl) (by kernel_rfl) (by decide) ?_; simp only [without, only, withNo, List.take_succ_cons, List.take_zero, List.drop_succ_cons, List.drop_zero, List.take_nil, List.drop_nil, Nat.reduceAdd, Nat.reduceSub, List.filter, List.contains_cons, List.contains_nil, Nat.reduceBEq, Bool.or_false, Bool.false_or, Bool.true_or, Bool.or_true, Bool.or_self, Bool.not_true, Bool.not_false, List.map_cons, List.map_nil]; (repeat (refine wpCalm_step (fun K hK => ?_); go_simp; first | (refine hK _ ?_; clear hK K) | (apply Exists.intro; refine ⟨fun n' x' => ?_, hK _ ?_⟩; (fail); clear hK K))); refine wpCalm_nil ?_)
  (refine wpChain_step (fun K hK nc xc => ?_); go_simp)
  refine (things_c _ Z2).mono ?_
  rintro e W7 ⟨rfl, hW7⟩
  refine ⟨_, rfl, by rw [hW7]; (repeat (first | exact World.grows.refl _ | assumption | refine World.grows.alloc ?_ _ | refine World.grows.plus ?_ _ _ | refine World.grows.drew ?_)), hK _ _ ?_⟩
  clear hK K
  (refine wpChain_nil (fun nc xc => ?_))
  rename_i na xa
  obtain ⟨bx, hbx⟩ : ∃ bx, (U4.plus na xa).heap.size = bx := ⟨_, rfl⟩
  have g8 : U4.grows (W7.plus nc xc) := by rw [hW7]; (repeat (first | exact World.grows.refl _ | assumption | refine World.grows.alloc ?_ _ | refine World.grows.plus ?_ _ _ | refine World.grows.drew ?_))
  have hs4 : s ≤ U4.heap.size := by have := HK40.out.g.size; rw [hsz] at this; exact this
  have hxb : x2 < bx := by
    have h1 := World.lt_of_block HK40.out.drop.hd
    have h2 := (World.grows_plus U4 na xa).size
    omega
  have k8 := (HK40.out.mono g8).add (b := bx) (o := .cells #[.int .u32 (Z2 : Nat)] 75) (by rw [hW7]; exact World.grows.heap_of (by (repeat (first | exact World.grows.refl _ | assumption | refine World.grows.alloc ?_ _ | refine World.grows.plus ?_ _ _ | refine World.grows.drew ?_))) (World.heap_at _ _ _ hbx.symm))
  simp only [hbx]
  generalize W7.plus nc xc = W8 at k8 ⊢
  obtain ⟨D, hD⟩ : ∃ D, W8.heap.size = D := ⟨_, rfl⟩
  have hbD : bx < D := by rw [← hD]; exact World.lt_of_block k8.hd
  have HK8 := Lib.hid k8
  clear hW7 hbx g8 k8 b12 b3 c3 han HK40 hs4
  go_wp2
  refine wp_rangeFunc_own (f := 79) (by rfl) (fun _ _ => rfl) (things_seq bx Z2 hal) (fun x hx => by obtain ⟨r, _, rfl⟩ := List.mem_map.1 hx; rfl)
    (fun k U => ∃ m' : VU, Hid (Known A m') ∧ Hid (KpS (W.putObj mb m'.obj) ((D, Obj.deferred (some [])) :: (bx, Obj.cells #[.int .u32 (Z2 : Nat)] 75) :: (s + 4, Obj.cells #[.int .i64 ((talF A L.testBit t Z2 (k)).1 : Nat), .int .i64 ((talF A L.testBit t Z2 (k)).2 : Nat)] 106) :: (x2, .cells #[.int .u32 (Z1 : Nat)] 75) :: (s, .cells #[.pointer (some ⟨bb, 0, none⟩)] 71) :: (s + 1, .cells #[.map (some mb)] 108) :: (s + 5, .cells #[.func (.func 80) #[] #[.pointer (some ⟨s + 4, 0, none⟩)]] 126) :: (s + 2, .cells #[.int .i64 0, .int .i64 0] 106) :: []) U))
    ?_ ?_ ?_ ?_ ?_ ?_
  · rintro k U U' ⟨m', h1, h2⟩ g
    exact ⟨m', h1, Lib.hid (h2.out.mono g)⟩
  · rintro k U lo lo' hl ⟨m', h1, h2⟩
    rw [hD] at hl ⊢
    refine ⟨m', h1, Lib.hid (h2.out.putL hl (by rw [hsz]; omega) ?_)⟩
    intro y hy l
    simp only [List.mem_cons, List.not_mem_nil, or_false] at hy
    rcases hy with rfl | rfl | rfl | rfl | rfl | rfl | rfl | rfl <;> exact fun e => by cases e
  · rintro k U ⟨m', h1, h2⟩
    exact cell_box h2.out.drop.hd
  · intro lo
    have g : W8.grows ((W8.alloc (.deferred (some []))).alloc lo) := by (repeat (first | exact World.grows.refl _ | assumption | refine World.grows.alloc ?_ _ | refine World.grows.plus ?_ _ _ | refine World.grows.drew ?_))
    exact ⟨m2, HK2, Lib.hid ((HK8.out.mono g).add (World.grows.heap_of (by (repeat (first | exact World.grows.refl _ | assumption | refine World.grows.alloc ?_ _ | refine World.grows.plus ?_ _ _ | refine World.grows.drew ?_))) (World.heap_at _ _ _ hD.symm)))⟩
  · rintro k y U hy ⟨m3, h1, h2⟩ hDf ⟨lo, hLo⟩ K0 hK0
    rw [hD] at hDf hLo hK0 ⊢
    obtain ⟨u, rfl, hu⟩ : ∃ u, y = stepV u ∧ (filtL Z2.testBit 16)[k]? = some u := by
      rw [List.getElem?_map] at hy
      cases ht : (filtL Z2.testBit 16)[k]? with
      | none => rw [ht] at hy; cases hy
      | some t => rw [ht] at hy; exact ⟨t, (Option.some.inj hy).symm, rfl⟩
    have hum := List.mem_of_getElem? hu
    simp only [filtL, List.mem_filter, List.mem_range] at hum
    obtain ⟨hu16, huZ⟩ := hum
    have hkl : k < (filtL Z2.testBit 16).length := (List.getElem?_eq_some_iff.1 hu).1
    have hLl := World.lt_of_block hLo
    dsimp only [stepV]
    rw [zip_one]
    simp only [List.setIfInBounds_toArray, List.set_cons_zero, List.set_cons_succ]
    gi_wp2
    refine hK0.out _ _ (by (repeat (first | exact World.grows.refl _ | assumption | refine World.grows.alloc ?_ _ | refine World.grows.plus ?_ _ _ | refine World.grows.drew ?_))) fun lo' K1 hK1 => ?_
    obtain ⟨U1, hU1⟩ : ∃ U1, U1 = U.putObj (D + 1) (.loop lo') := ⟨_, rfl⟩
    have y1 : KpS (W.putObj mb m3.obj) ((D + 1, .loop lo') :: (D, Obj.deferred (some [])) :: (bx, Obj.cells #[.int .u32 (Z2 : Nat)] 75) :: (s + 4, Obj.cells #[.int .i64 ((talF A L.testBit t Z2 (k)).1 : Nat), .int .i64 ((talF A L.testBit t Z2 (k)).2 : Nat)] 106) :: (x2, .cells #[.int .u32 (Z1 : Nat)] 75) :: (s, .cells #[.pointer (some ⟨bb, 0, none⟩)] 71) :: (s + 1, .cells #[.map (some mb)] 108) :: (s + 5, .cells #[.func (.func 80) #[] #[.pointer (some ⟨s + 4, 0, none⟩)]] 126) :: (s + 2, .cells #[.int .i64 0, .int .i64 0] 106) :: []) U1 := by
      have := h2.out.putL (lo' := lo') hLo (by rw [hsz]; omega) (by
        intro y hy l
        simp only [List.mem_cons, List.not_mem_nil, or_false] at hy
        rcases hy with rfl | rfl | rfl | rfl | rfl | rfl | rfl | rfl <;> exact fun e => by cases e)
      rw [hU1]
      exact this.add (World.putObj_heap_same hLl)
    have HFin : Hid (∀ (a' : Act) (U' : World) (m' : VU), Known A m' → KpS (W.putObj mb m'.obj) ((D + 1, .loop lo') :: (D, Obj.deferred (some [])) :: (bx, Obj.cells #[.int .u32 (Z2 : Nat)] 75) :: (s + 4, Obj.cells #[.int .i64 ((talF A L.testBit t Z2 (k + 1)).1 : Nat), .int .i64 ((talF A L.testBit t Z2 (k + 1)).2 : Nat)] 106) :: (x2, .cells #[.int .u32 (Z1 : Nat)] 75) :: (s, .cells #[.pointer (some ⟨bb, 0, none⟩)] 71) :: (s + 1, .cells #[.map (some mb)] 108) :: (s + 5, .cells #[.func (.func 80) #[] #[.pointer (some ⟨s + 4, 0, none⟩)]] 126) :: (s + 2, .cells #[.int .i64 0, .int .i64 0] 106) :: []) U' → K1 .normal a' U') := Lib.hid fun a' U' m' q1 q2 => hK1.out a' U' ⟨m', Lib.hid q1, Lib.hid q2.drop⟩ q2.drop.hd q2.hd
    rw [← hU1]
    have hstep := talF_step (A := A) (S := L.testBit) (t := t) hu
    have hbnd := talF_le (A := A) (S := L.testBit) (t := t) (Z := Z2) k (by omega)
    have hlen := filtL_len Z2.testBit 16
    have hcn := cnt_le A (less1 (less1 L.testBit t) u)
    have hnu : nu A (less1 (less1 L.testBit t) u) 16 ≤ 8 := nu16 HA.out (fun v hv => by
      rw [← hZ1b] at hv
      exact less1_bits hZ1 v hv)
    have htS : ∀ Y : Nat, Y.testBit = less1 Z1.testBit u → talS A Y = (nu A (less1 (less1 L.testBit t) u) 16, cnt A (less1 (less1 L.testBit t) u) 16) := fun Y h => by unfold talS; rw [h, hZ1b]
    obtain ⟨p, hp⟩ : ∃ p, nu A (less1 (less1 L.testBit t) u) 16 = p := ⟨_, rfl⟩
    obtain ⟨c, hc⟩ : ∃ p, cnt A (less1 (less1 L.testBit t) u) 16 = p := ⟨_, rfl⟩
    rw [hp, hc] at hstep
    rw [hp, hc] at htS
    rw [hp] at hnu
    rw [hc] at hcn
    have hadd : (talF A L.testBit t Z2 k).2 + c < 2 ^ 63 := by
      have : (k + 1) * 20922789888000 ≤ 17 * 20922789888000 := Nat.mul_le_mul_right _ (by omega)
      omega
    have HH := Lib.hid (show Known A m3 ∧ KpS (W.putObj mb m3.obj) ((D + 1, .loop lo') :: (D, Obj.deferred (some [])) :: (bx, Obj.cells #[.int .u32 (Z2 : Nat)] 75) :: (s + 4, Obj.cells #[.int .i64 ((talF A L.testBit t Z2 (k)).1 : Nat), .int .i64 ((talF A L.testBit t Z2 (k)).2 : Nat)] 106) :: (x2, .cells #[.int .u32 (Z1 : Nat)] 75) :: (s, .cells #[.pointer (some ⟨bb, 0, none⟩)] 71) :: (s + 1, .cells #[.map (some mb)] 108) :: (s + 5, .cells #[.func (.func 80) #[] #[.pointer (some ⟨s + 4, 0, none⟩)]] 126) :: (s + 2, .cells #[.int .i64 0, .int .i64 0] 106) :: []) U1 from ⟨h1.out, y1⟩)
    clear hK1 hK0 hU1 hDf hLo hLl h1 h2 hy hu y1 hp hc hbnd hlen hkl huZ
    have HtS := Lib.hid htS
    have Hstep := Lib.hid hstep
    have Hadd := Lib.hid hadd
    clear htS hstep hadd
    have huI : (u : Int) < 16 := by omega
    gi_wp2
    obtain ⟨I, hIe⟩ : ∃ I : World → Prop, I = fun V => U1.heap.size ≤ V.heap.size ∧ ∃ m' : VU, Known A m' ∧ KpS (W.putObj mb m'.obj) ((D + 1, .loop lo') :: (D, Obj.deferred (some [])) :: (bx, Obj.cells #[.int .u32 (Z2 : Nat)] 75) :: (s + 4, Obj.cells #[.int .i64 ((talF A L.testBit t Z2 (k)).1 : Nat), .int .i64 ((talF A L.testBit t Z2 (k)).2 : Nat)] 106) :: (x2, .cells #[.int .u32 (Z1 : Nat)] 75) :: (s, .cells #[.pointer (some ⟨bb, 0, none⟩)] 71) :: (s + 1, .cells #[.map (some mb)] 108) :: (s + 5, .cells #[.func (.func 80) #[] #[.pointer (some ⟨s + 4, 0, none⟩)]] 126) :: (s + 2, .cells #[.int .i64 0, .int .i64 0] 106) :: []) V := ⟨_, rfl⟩
    have hI : ∀ V V', I V → V.grows V' → I V' := by
      rw [hIe]
      rintro V V' ⟨q0, m', q1, q2⟩ g
      exact ⟨Nat.le_trans q0 g.size, m', q1, q2.mono g⟩
    have hIw : I U1 := by rw [hIe]; exact ⟨Nat.le_refl _, m3, HH.out⟩
    have HI : Hid (∀ V, I V → U1.heap.size ≤ V.heap.size ∧ ∃ m' : VU, Known A m' ∧ KpS (W.putObj mb m'.obj) ((D + 1, .loop lo') :: (D, Obj.deferred (some [])) :: (bx, Obj.cells #[.int .u32 (Z2 : Nat)] 75) :: (s + 4, Obj.cells #[.int .i64 ((talF A L.testBit t Z2 (k)).1 : Nat), .int .i64 ((talF A L.testBit t Z2 (k)).2 : Nat)] 106) :: (x2, .cells #[.int .u32 (Z1 : Nat)] 75) :: (s, .cells #[.pointer (some ⟨bb, 0, none⟩)] 71) :: (s + 1, .cells #[.map (some mb)] 108) :: (s + 5, .cells #[.func (.func 80) #[] #[.pointer (some ⟨s + 4, 0, none⟩)]] 126) :: (s + 2, .cells #[.int .i64 0, .int .i64 0] 106) :: []) V) := Lib.hid fun V h => by rw [hIe] at h; exact h
    have HIm : Hid (∀ V (m' : VU), U1.heap.size ≤ V.heap.size → Known A m' → KpS (W.putObj mb m'.obj) ((D + 1, .loop lo') :: (D, Obj.deferred (some [])) :: (bx, Obj.cells #[.int .u32 (Z2 : Nat)] 75) :: (s + 4, Obj.cells #[.int .i64 ((talF A L.testBit t Z2 (k)).1 : Nat), .int .i64 ((talF A L.testBit t Z2 (k)).2 : Nat)] 106) :: (x2, .cells #[.int .u32 (Z1 : Nat)] 75) :: (s, .cells #[.pointer (some ⟨bb, 0, none⟩)] 71) :: (s + 1, .cells #[.map (some mb)] 108) :: (s + 5, .cells #[.func (.func 80) #[] #[.pointer (some ⟨s + 4, 0, none⟩)]] 126) :: (s + 2, .cells #[.int .i64 0, .int .i64 0] 106) :: []) V → I V) := Lib.hid fun V m' q0 q1 q2 => by rw [hIe]; exact ⟨q0, m', q1, q2⟩
    clear hIe
    have hUs : D + 1 < U1.heap.size := World.lt_of_block HH.out.2.hd
    refine wpIn_region_invJ (Fence.free_round _ _) 7 [[], [], [], [1, 2], [], [0, 3, 4], []] [some 49, some 50, some 51, some 52, some 53, some 54, some 14] [kK (.pointer (some ⟨bb, 0, none⟩)), kK (.int .u32 (Z1 : Nat)), kK (.int .i64 (u : Nat)), kZ Z1 u, kK (.map (some mb)), kK (.agg #[.int .i64 (p : Nat), .int .i64 (c : Nat)]), kAt U1.heap.size] (gB U1.heap.size) I hI hIw (by kernel_rfl) (by kernel_rfl) (by kernel_rfl) (by decide) (by simp) (fun r hr v W W' h g => ?_) ?_ ?_
    · simp only [List.mem_cons, List.not_mem_nil, or_false] at hr
      rcases hr with rfl | rfl | rfl | rfl | rfl | rfl | rfl
      iterate 6 exact h
      obtain ⟨b, e1, e2, e3⟩ := h
      exact ⟨b, e1, e2, g _ _ e2 e3⟩
    · simp only [List.take_succ_cons, List.take_zero, zipQ, oblJ, depQ, List.getD_cons_zero, List.getD_cons_succ, and_true]
      refine ⟨?_, ?_, ?_, ?_, ?_, ?_, ?_⟩
      · intro V K hV hK
        obtain ⟨-, m', -, q⟩ := HI.out V hV
        have e1 := cell_box q.drop.drop.drop.drop.drop.hd
        go_simp
        exact ⟨hV, hK _ _ (gB.of (World.grows.refl _)) rfl⟩
      · intro V K hV hK
        obtain ⟨-, m', -, q⟩ := HI.out V hV
        have e1 := cell_box q.drop.drop.drop.drop.hd
        go_simp
        exact ⟨hV, hK _ _ (gB.of (World.grows.refl _)) rfl⟩
      · intro V K hV hK
        go_simp
        exact ⟨hV, hK _ _ (gB.of (World.grows.refl _)) rfl⟩
      · intro V K hV hK v1 e1 v2 e2
        obtain rfl : v1 = _ := e1
        obtain rfl : v2 = _ := e2
        go_simp
        refine (less_c _ Z1 u hZ1 hu16).mono ?_
        rintro e V2 ⟨⟨Y, rfl, y1, y2⟩, g⟩
        exact ⟨_, rfl, hI _ _ hV g, hK _ _ (gB.of g) ⟨Y, rfl, y1, y2⟩⟩
      · intro V K hV hK
        obtain ⟨-, m', -, q⟩ := HI.out V hV
        have e1 := cell_box q.drop.drop.drop.drop.drop.drop.hd
        go_simp
        exact ⟨hV, hK _ _ (gB.of (World.grows.refl _)) rfl⟩
      · intro V K hV hK v1 e1 v2 e2 v3 e3
        obtain rfl : v1 = _ := e1
        obtain ⟨Y, rfl, y1, y2⟩ := e2
        obtain rfl : v3 = _ := e3
        obtain ⟨q0, m', q1, q2⟩ := HI.out V hV
        go_simp
        have hcy : cntB Y.testBit 16 ≤ d := by
          refine Nat.le_trans (cntB_mono fun i _ h => ?_) hcz
          rw [y2] at h
          unfold less1 at h
          simp only [Bool.and_eq_true] at h
          exact h.1
        refine (Hih.out _ Y m' (q2.bench HB.out hne) hne (q2.mapAt hmb) q1 y1 hcy).mono ?_
        rintro e V2 ⟨m4, rfl, hm4, q4, g⟩
        have hP : ∀ y ∈ ((D + 1, Obj.loop lo') :: (D, Obj.deferred (some [])) :: (bx, Obj.cells #[.int .u32 (Z2 : Nat)] 75) :: (s + 4, Obj.cells #[.int .i64 ((talF A L.testBit t Z2 (k)).1 : Nat), .int .i64 ((talF A L.testBit t Z2 (k)).2 : Nat)] 106) :: (x2, .cells #[.int .u32 (Z1 : Nat)] 75) :: (s, .cells #[.pointer (some ⟨bb, 0, none⟩)] 71) :: (s + 1, .cells #[.map (some mb)] 108) :: (s + 5, .cells #[.func (.func 80) #[] #[.pointer (some ⟨s + 4, 0, none⟩)]] 126) :: (s + 2, .cells #[.int .i64 0, .int .i64 0] 106) :: []), y.1 ≠ mb := by
          intro y hy
          simp only [List.mem_cons, List.not_mem_nil, or_false] at hy
          rcases hy with rfl | rfl | rfl | rfl | rfl | rfl | rfl | rfl | rfl <;> simp only <;> omega
        refine ⟨_, rfl, HIm.out _ m4 (Nat.le_trans q0 (by have := g.size; simpa using this)) q4 (q2.map hmb hP g), hK _ _ (fun k o hk h => g.heap_of (by rw [World.putObj_heap_other (by omega)]; exact h)) ?_⟩
        rw [HtS.out Y y2]
        rfl
      · intro V K hV hK
        go_simp
        refine ⟨hI _ _ hV (by (repeat (first | exact World.grows.refl _ | assumption | refine World.grows.alloc ?_ _ | refine World.grows.plus ?_ _ _ | refine World.grows.drew ?_))), hK _ _ (gB.of (by (repeat (first | exact World.grows.refl _ | assumption | refine World.grows.alloc ?_ _ | refine World.grows.plus ?_ _ _ | refine World.grows.drew ?_)))) ⟨_, rfl, (HI.out V hV).1, World.heap_at _ _ _ rfl⟩⟩
    · intro val V hV hv
      have q0 : val 0 = .pointer (some ⟨bb, 0, none⟩) := hv 0 (by omega)
      have q1 : val 1 = .int .u32 (Z1 : Nat) := hv 1 (by omega)
      have q2 : val 2 = .int .i64 (u : Nat) := hv 2 (by omega)
      obtain ⟨Y, q3, -⟩ := hv 3 (by omega)
      have q4 : val 4 = .map (some mb) := hv 4 (by omega)
      have q5 : val 5 = .agg #[.int .i64 (p : Nat), .int .i64 (c : Nat)] := hv 5 (by omega)
      obtain ⟨b6, q6, hb6, hV6⟩ := hv 6 (by omega)
      rw [show List.range 7 = [0, 1, 2, 3, 4, 5, 6] from rfl]
      simp only [putL, List.getD_cons_zero, List.getD_cons_succ, q0, q1, q2, q3, q4, q5, q6, List.drop_succ_cons, List.drop_zero, Act.put, List.setIfInBounds_toArray, List.set_cons_zero, List.set_cons_succ]
      clear hv q0 q1 q2 q3 q4 q5 q6
      obtain ⟨-, m4, hk4, k4⟩ := HI.out V hV
      have hPb : ∀ y ∈ ((D + 1, Obj.loop lo') :: (D, Obj.deferred (some [])) :: (bx, Obj.cells #[.int .u32 (Z2 : Nat)] 75) :: (s + 4, Obj.cells #[.int .i64 ((talF A L.testBit t Z2 (k)).1 : Nat), .int .i64 ((talF A L.testBit t Z2 (k)).2 : Nat)] 106) :: (x2, .cells #[.int .u32 (Z1 : Nat)] 75) :: (s, .cells #[.pointer (some ⟨bb, 0, none⟩)] 71) :: (s + 1, .cells #[.map (some mb)] 108) :: (s + 5, .cells #[.func (.func 80) #[] #[.pointer (some ⟨s + 4, 0, none⟩)]] 126) :: (s + 2, .cells #[.int .i64 0, .int .i64 0] 106) :: []), y.1 ≠ b6 := by
        intro y hy
        simp only [List.mem_cons, List.not_mem_nil, or_false] at hy
        rcases hy with rfl | rfl | rfl | rfl | rfl | rfl | rfl | rfl | rfl <;> simp only <;> omega
      have hb6s : (W.putObj mb m4.obj).heap.size ≤ b6 := by rw [hsz]; omega
      have k5 := Lib.hid (((k4.set hb6s hPb 0 (.int .i64 (p : Nat))).set hb6s hPb 1 (.int .i64 (c : Nat))).set hb6s hPb 0 (.int .i64 ((p : Int) + 1)))
      have c0 := cell_of_heap hV6 (i := 0) rfl
      have c1 := cell_of_heap hV6 (i := 1) rfl
      have f0 := frozen_of_heap hV6 0
      have f1 := frozen_of_heap hV6 1
      have b5 := cell_box k4.drop.drop.drop.drop.drop.drop.drop.hd
      have ne5 : ¬ s + 5 = b6 := by omega
      have ne6 : ¬ b6 = s + 5 := by omega
      have hpI : (p : Int) ≤ 8 := by omega
      have hk4' := Lib.hid hk4
      have h80 := fun w h => add_c w (s + 4) (talF A L.testBit t Z2 k) (p + 1, c) h Hadd.out
      rw [← Hstep.out] at h80
      unfold talV at h80
      dsimp only at h80
      rw [show ((p + 1 : Nat) : Int) = (p : Int) + 1 by omega] at h80
      have H80 := Lib.hid h80
      clear hV6 k4 hk4 hV hI hIw HI HIm HH hPb h80 Hstep HtS
      gi_wp2_with (gi_at_call 99; fail)
      refine (Fence.free_round Try.prog _).calls _ _ _ _ _ ((H80.out _ k5.out.drop.drop.drop.hd).mono ?_)
      rintro e U5 ⟨rfl, t5, o5⟩
      have k6 : KpS (W.putObj mb m4.obj) ((D + 1, .loop lo') :: (D, Obj.deferred (some [])) :: (bx, Obj.cells #[.int .u32 (Z2 : Nat)] 75) :: (x2, .cells #[.int .u32 (Z1 : Nat)] 75) :: (s, .cells #[.pointer (some ⟨bb, 0, none⟩)] 71) :: (s + 1, .cells #[.map (some mb)] 108) :: (s + 5, .cells #[.func (.func 80) #[] #[.pointer (some ⟨s + 4, 0, none⟩)]] 126) :: (s + 2, .cells #[.int .i64 0, .int .i64 0] 106) :: []) U5 := by
        refine KpS.only (b := s + 4) ?_ o5 (by rw [hsz]; omega) ?_
        · exact (((KpS.add k5.out.drop.drop.drop.drop k5.out.drop.drop.hd).add k5.out.drop.hd).add k5.out.hd)
        · intro y hy
          simp only [List.mem_cons, List.not_mem_nil, or_false] at hy
          rcases hy with rfl | rfl | rfl | rfl | rfl | rfl | rfl | rfl <;> simp only <;> omega
      have k7 := Lib.hid ((((k6.drop.drop.drop.add t5).add k6.drop.drop.hd).add k6.drop.hd).add k6.hd)
      clear k6 k5 t5 o5 c0 c1 f0 f1 b5 H80
      gi_wp2
      exact HFin.out _ _ m4 hk4'.out k7.out
  · rintro U ⟨m5, h1, h2⟩ hDf
    rw [hD] at hDf ⊢
    obtain ⟨⟨P, C⟩, hT⟩ : ∃ x, talS A L = x := ⟨_, rfl⟩
    have hall := talF_all HA.out HI0.out hab ht16 HtL.out
    unfold talS at hT
    rw [hT] at hall
    have hT' : talS A L = (P, C) := hT
    rw [List.length_map, hall] at h2
    have k0 : KpS (W.putObj mb m5.obj) ((D, Obj.deferred (some [])) :: (bx, Obj.cells #[.int .u32 (Z2 : Nat)] 75) :: (s + 4, Obj.cells #[.int .i64 (P : Nat), .int .i64 (C : Nat)] 106) :: (x2, .cells #[.int .u32 (Z1 : Nat)] 75) :: (s, .cells #[.pointer (some ⟨bb, 0, none⟩)] 71) :: (s + 1, .cells #[.map (some mb)] 108) :: (s + 5, .cells #[.func (.func 80) #[] #[.pointer (some ⟨s + 4, 0, none⟩)]] 126) :: (s + 2, .cells #[.int .i64 0, .int .i64 0] 106) :: []) U := h2.out
    have b5 := cell_box k0.drop.drop.drop.drop.drop.hd
    have c0 : U.cell? ⟨s + 4, 0, none⟩ = some (.int .i64 (P : Nat)) := cell_of_heap k0.drop.drop.hd (i := 0) rfl
    have c1 : U.cell? ⟨s + 4, 1, none⟩ = some (.int .i64 (C : Nat)) := cell_of_heap k0.drop.drop.hd (i := 1) rfl
    have hup := up108 m5 mb U (k0.mapAt hmb) L (.agg #[.int .i64 (P : Nat), .int .i64 (C : Nat)])
    obtain ⟨m6, hm6⟩ : ∃ m6, m6 = m5.set L (.agg #[.int .i64 (P : Nat), .int .i64 (C : Nat)]) := ⟨_, rfl⟩
    rw [← hm6] at hup
    have hP : ∀ y ∈ ((D, Obj.deferred (some [])) :: (bx, Obj.cells #[.int .u32 (Z2 : Nat)] 75) :: (s + 4, Obj.cells #[.int .i64 (P : Nat), .int .i64 (C : Nat)] 106) :: (x2, .cells #[.int .u32 (Z1 : Nat)] 75) :: (s, .cells #[.pointer (some ⟨bb, 0, none⟩)] 71) :: (s + 1, .cells #[.map (some mb)] 108) :: (s + 5, .cells #[.func (.func 80) #[] #[.pointer (some ⟨s + 4, 0, none⟩)]] 126) :: (s + 2, .cells #[.int .i64 0, .int .i64 0] 106) :: []), y.1 ≠ mb := by
      intro y hy
      simp only [List.mem_cons, List.not_mem_nil, or_false] at hy
      rcases hy with rfl | rfl | rfl | rfl | rfl | rfl | rfl | rfl <;> simp only <;> omega
    have hk6 : Hid (Known A m6) := Lib.hid fun k v h => by
      rw [hm6, VU.get_set] at h
      split at h
      · rename_i e
        cases h
        rw [e, hT']
        rfl
      · exact h1.out k v h
    have k1 := Lib.hid (k0.map hmb hP (World.grows.refl (U.putObj mb m6.obj)))
    clear k0 h1 h2 hDf hP hall hT hm6
    go_upto_region 17 with fail
    generalize U.putObj mb m6.obj = U6 at k1 ⊢
    clear hup c0 c1 b5
    have c0 : U6.cell? ⟨s + 4, 0, none⟩ = some (.int .i64 (P : Nat)) := cell_of_heap k1.out.drop.drop.hd (i := 0) rfl
    have c1 : U6.cell? ⟨s + 4, 1, none⟩ = some (.int .i64 (C : Nat)) := cell_of_heap k1.out.drop.drop.hd (i := 1) rfl
    have hr := k1.out.drop.drop.drop.drop.drop.drop.drop.hd
    have d0 : U6.cell? ⟨s + 2, 0, none⟩ = some (.int .i64 0) := cell_of_heap hr (i := 0) rfl
    have d1 : U6.cell? ⟨s + 2, 1, none⟩ = some (.int .i64 0) := cell_of_heap hr (i := 1) rfl
    have f0 := frozen_of_heap hr 0
    have f1 := frozen_of_heap hr 1
    have hP2 : ∀ y ∈ ((D, Obj.deferred (some [])) :: (bx, Obj.cells #[.int .u32 (Z2 : Nat)] 75) :: []), y.1 ≠ s + 2 := by
      intro y hy
      simp only [List.mem_cons, List.not_mem_nil, or_false] at hy
      rcases hy with rfl | rfl <;> simp only <;> omega
    have k2 : KpS (W.putObj mb m6.obj) ((D, Obj.deferred (some [])) :: (bx, Obj.cells #[.int .u32 (Z2 : Nat)] 75) :: []) U6 := ((KpS.mk k1.out.g (fun y hy => absurd hy List.not_mem_nil)).add k1.out.drop.hd).add k1.out.hd
    have k3 := Lib.hid (((k2.set (by rw [hsz]; omega) hP2 0 (.int .i64 (P : Nat))).set (by rw [hsz]; omega) hP2 1 (.int .i64 (C : Nat))).add (store_of_heap (store_of_heap hr 0 (.int .i64 (P : Nat))) 1 (.int .i64 (C : Nat))))
    clear hr k1 k2 hP2
    go_wp2
    try dsimp only [Exit.noGoto]
    have hMk : Marks W.heap.size [{ target := .collected D, args := #[] }] ((U6.setCell ⟨s + 2, 0, none⟩ (.int .i64 (P : Nat))).setCell ⟨s + 2, 1, none⟩ (.int .i64 (C : Nat))) := ⟨⟨D, rfl, by omega, k3.out.drop.hd, fun d' hd => by simp at hd⟩, trivial⟩
    refine Marks.leaves (B := W.heap.size) (fun W' => (W.putObj mb m6.obj).grows W' ∧ W'.heap[s + 2]? = some (.cells #[.int .i64 (P : Nat), .int .i64 (C : Nat)] 106)) (fun W' D' h hD' hd => ⟨World.putObj_grows h.1 _ (by rw [hsz]; omega), by rw [World.putObj_heap_other (fun e => by rw [← e, h.2] at hd; cases hd)]; exact h.2⟩) (fun W' h => ?_) _ _ hMk ⟨k3.out.g, k3.out.hd⟩
    have r0 : W'.cell? ⟨s + 2, 0, none⟩ = some (.int .i64 (P : Nat)) := cell_of_heap h.2 (i := 0) rfl
    have r1 : W'.cell? ⟨s + 2, 1, none⟩ = some (.int .i64 (C : Nat)) := cell_of_heap h.2 (i := 1) rfl
    refine ⟨talV (P, C), by unfold talV; simp [results, Try.results67, go_sem, r0, r1], m6, by rw [hT'], h.1.heap_of (World.putObj_heap_same hmb), hk6.out, h.1⟩
theorem tally_c {bb n mb : Nat} {A : Nat → Nat → Bool} (hA : ∀ a b, A a b = A b a) (hI : ∀ a, A a a = false) : ∀ d, TalC d bb n mb A
  | 0 => fun W L m hB hne hm hK hL hd => by
    have h0 : L = 0 := Nat.eq_of_testBit_eq fun i => by
      rw [Nat.zero_testBit]
      cases hb : L.testBit i with
      | false => rfl
      | true =>
        have := cntB_pos (bit_lt hL hb) hb
        omega
    subst h0
    exact tally_zero W bb mb A m hA hm hK
  | d + 1 => fun W L m hB hne hm hK hL hd => by
    by_cases h0 : L = 0
    · subst h0
      exact tally_zero W bb mb A m hA hm hK
    · cases hg : m.get L with
      | some v => exact tally_known W bb mb L A m hm hK h0 v hg
      | none => exact tally_new d bb n mb A hA hI (tally_c hA hI d) W L m hB hne hm hK hL hd h0 hg
end Go.Proofs.Yteingahlmlndkaa

/-
  What is proved: how many best pairings there are (29).
-/
namespace Go.Proofs.Yteingahlmlndkaa
open Go.RowKit
attribute [local irreducible] Go.wpCalm rowV
@[local go_sem ↓] theorem field106 (a b : Nat) (w : World) : (Instr.field 106 (.agg #[.int .i64 (a : Nat), .int .i64 (b : Nat)]) 1).run Try.prog w = .ok (.int .i64 (b : Nat)) w := by
  simp [Instr.field, run_underlying Try.underlying106, Result.andThen, go_sem, asAgg]
@[local go_sem ↓] theorem mk108 (w : World) : (Instr.makeMap 108 none).run Try.prog w = .ok (.map (some w.heap.size)) (w.alloc VU.empty.obj) := rfl
set_option maxRecDepth 100000 in
set_option maxHeartbeats 4000000 in
theorem count_ok (w : World) (v : Value) (s : Stk) (ht : StkAt w v s) (hok : s.Ok) : Calls Try.prog 29 #[v] w fun e w' => e = .returned (.tuple #[.int .i64 (cnt s.adj (belowN s.nt) 16 : Nat), .int .i64 0]) ∧ w.grows w' := by
  have Ht := Lib.hid ht
  obtain ⟨tv, mv, rfl, ⟨sa, sc, rfl, s1, s2, -⟩, ⟨va, vc, rfl, -⟩⟩ := ht
  have h47 := fun W (g : w.grows W) => open_ok W _ s (Ht.out.mono g) hok
  have HAs := Lib.hid s.adj_symm
  have HAi := Lib.hid s.adj_irr
  have h16 := hok.n16
  obtain ⟨NT, hNT⟩ : ∃ N, s.nt = N := ⟨_, rfl⟩
  obtain ⟨A, hA⟩ : ∃ A, s.adj = A := ⟨_, rfl⟩
  obtain ⟨NM, hNM⟩ : ∃ N, s.nm = N := ⟨_, rfl⟩
  rw [hNT, hA, hNM] at h47
  rw [hNT, hA]
  rw [hNT] at h16 s1
  rw [hA] at HAs HAi
  rw [hNT, hNM] at Ht
  clear hNT hA hok
  rw [hNM]
  clear hNM
  go_enter Try.func29, Try.ntmps29
  go_wp2_with (go_at_call 99; fail)
  refine (h47 _ (by (repeat (first | exact World.grows.refl _ | assumption | refine World.grows.alloc ?_ _ | refine World.grows.plus ?_ _ _ | refine World.grows.drew ?_)))).mono ?_
  rintro e W1 ⟨b, rfl, g1, hlt, hB⟩
  have gW1 : w.grows W1 := World.grows.trans (by (repeat (first | exact World.grows.refl _ | assumption | refine World.grows.alloc ?_ _ | refine World.grows.plus ?_ _ _ | refine World.grows.drew ?_))) g1
  clear h47
  go_wp2_with (go_at_call 99; fail)
  refine (all_c _ b NT A hB h16).mono ?_
  rintro e W2 ⟨⟨L, rfl, hLb, hL⟩, g2⟩
  have hB2 := hB.grow g2
  have hbl : b < W2.heap.size := by
    obtain ⟨ta, tc, mv, wide, F, h1, -⟩ := hB2
    exact World.lt_of_block h1
  go_wp2_with (go_at_call 99; fail)
  refine (tally_c (mb := W2.heap.size) HAs.out HAi.out 16 _ L VU.empty (hB2.grow (by (repeat (first | exact World.grows.refl _ | assumption | refine World.grows.alloc ?_ _ | refine World.grows.plus ?_ _ _ | refine World.grows.drew ?_)))) (by omega) (World.heap_at _ _ _ rfl) (fun k v h => by cases h) hLb (cntB_le _ _)).mono ?_
  rintro e W3 ⟨m', rfl, -, -, g3⟩
  unfold talS talV
  rw [hL]
  have gW3 : w.grows W3 := by
    refine World.grows.trans (gW1.trans g2) (World.grows.trans (World.putObj_grows (w := W2) (W := W2.alloc VU.empty.obj) (b := W2.heap.size) (by (repeat (first | exact World.grows.refl _ | assumption | refine World.grows.alloc ?_ _ | refine World.grows.plus ?_ _ _ | refine World.grows.drew ?_))) m'.obj (Nat.le_refl _)) g3)
  clear g3 g2 g1 hB hB2 hlt hbl
  dsimp only
  go_wp2
  (refine bodyPost_ret (v := .tuple #[.int .i64 (cnt A (belowN NT) 16 : Nat), .int .i64 0]) (by simp [results, Try.results29, go_sem]) rfl ?_)
  exact ⟨rfl, gW3.trans (by (repeat (first | exact World.grows.refl _ | assumption | refine World.grows.alloc ?_ _ | refine World.grows.plus ?_ _ _ | refine World.grows.drew ?_)))⟩
end Go.Proofs.Yteingahlmlndkaa

