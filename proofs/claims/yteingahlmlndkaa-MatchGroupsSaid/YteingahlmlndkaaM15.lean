/-
  What is proved: the groups without some things, by the definition (52).
-/
import Derived.Test.YteingahlmlndkaaM14
import Derived.Test.YteingahlmlndkaaM13
import Derived.Test.YteingahlmlndkaaM12
import Derived.Test.YteingahlmlndkaaM11
set_option linter.all false
namespace Go.Proofs.Yteingahlmlndkaa
open Go.RowKit
attribute [local irreducible] Go.wpCalm rowV rowI
@[local go_sem ↓] theorem make26 (w : World) (n : Nat) (h : n ≤ 16) : (Instr.makeSlice 26 (.int .i64 (n : Nat)) (.int .i64 (n : Nat))).run Try.prog w = .ok (.slice (some ⟨w.heap.size, 0, none⟩) n n) (w.alloc (.cells (rowI n fun _ => 0) 3)) :=
  run_make_rowI w 26 3 8 Try.underlying26 el3 n (by omega) (by omega)
/-- the names at first -/
def nam1 (k : Nat) : Nat → Int := fun i => if i < k then (i : Nat) else 0
/-- the names when the first m things that are left out have been struck -/
def nam2 (f : Nat → Int) (k : Nat) : Nat → Int := fun i => if inF f k i = true then -1 else (i : Nat)
theorem nam1_succ (k : Nat) : updI (nam1 k) k (k : Nat) = nam1 (k + 1) := funext fun i => by
  unfold updI nam1
  by_cases e : i = k
  · subst e; rw [if_pos rfl, if_pos (by omega)]
  · rw [if_neg e]
    by_cases h : i < k
    · rw [if_pos h, if_pos (by omega)]
    · rw [if_neg h, if_neg (by omega)]
theorem nam2_succ (f : Nat → Int) (k t : Nat) (h : f k = (t : Nat)) : updI (nam2 f k) t (-1) = nam2 f (k + 1) := funext fun i => by
  unfold updI nam2
  rw [inF_succ, h]
  by_cases e : i = t
  · subst e; simp
  · rw [if_neg e]
    have : decide (((t : Nat) : Int) = ((i : Nat) : Int)) = false := decide_eq_false (by omega)
    rw [this, Bool.or_false]
theorem KpS.appE {w U U' : World} {P : List (Nat × Obj)} {v : Value} {e : TypeId} (h : KpS w P U) (hg : U.grownBy U' (vblk v)) (hk : ∀ (k : Nat) (o : Obj), U.heap[k]? = some o → (∀ c fr, o ≠ Obj.cells c e fr) → U'.heap[k]? = some o) (hb : ∀ b, vblk v = some b → w.heap.size ≤ b) (hP : ∀ y ∈ P, (∀ c fr, y.2 ≠ Obj.cells c e fr) ∨ vblk v ≠ some y.1) : KpS w P U' := by
  refine ⟨⟨hg.os.trans h.g.os, hg.tape.trans h.g.tape, hg.output.trans h.g.output, Nat.le_trans h.g.size hg.size, fun k hk' => ?_⟩, fun y hy => ?_⟩
  · rw [hg.block k (Nat.lt_of_lt_of_le hk' h.g.size) (fun e => by have := hb k e.symm; omega)]
    exact h.g.block k hk'
  · rcases hP y hy with h1 | h1
    · exact hk _ _ (h.at_ y hy) h1
    · exact (hg.block y.1 (World.lt_of_block (h.at_ y hy)) (fun e => h1 e.symm)).trans (h.at_ y hy)
/-- rows that lie in these blocks -/
def OutD (Q : List (Nat × Obj)) (vals : List Value) (rs : List (List Nat)) : Prop := (∀ y ∈ Q, ∃ c, y.2 = .cells c 3) ∧ vals.length = rs.length ∧ ∀ U : World, (∀ y ∈ Q, U.heap[y.1]? = some y.2) → ∀ (i : Nat) (x : Value), vals[i]? = some x → x.oneCell' = true ∧ ∃ r, rs[i]? = some r ∧ ListAt U x r
theorem OutD.nil : OutD [] [] [] := ⟨fun y hy => absurd hy List.not_mem_nil, rfl, fun U _ i x h => by simp at h⟩
theorem OutD.push {Q : List (Nat × Obj)} {vals : List Value} {rs : List (List Nat)} (h : OutD Q vals rs) {b o cap : Nat} {cur : Array Value} {L : List Nat} (h1 : L.length ≤ cap) (h2 : cap ≤ maxLen) (hc : ∀ i x, L[i]? = some x → cur[o + i]? = some (.int .i64 (x : Nat))) : OutD ((b, .cells cur 3) :: Q) (vals ++ [.slice (some ⟨b, o, none⟩) L.length cap]) (rs ++ [L]) := by
  refine ⟨fun y hy => ?_, by simp [h.2.1], fun U hU i x hx => ?_⟩
  · rcases List.mem_cons.1 hy with rfl | hy
    · exact ⟨_, rfl⟩
    · exact h.1 y hy
  · have hUb := hU _ (List.mem_cons_self ..)
    have hUQ : ∀ y ∈ Q, U.heap[y.1]? = some y.2 := fun y hy => hU y (List.mem_cons_of_mem _ hy)
    by_cases hi : i < vals.length
    · rw [List.getElem?_append_left hi] at hx
      obtain ⟨p1, r, p2, p3⟩ := h.2.2 U hUQ i x hx
      exact ⟨p1, r, by rw [List.getElem?_append_left (by rw [← h.2.1]; exact hi)]; exact p2, p3⟩
    · have hi2 := (List.getElem?_eq_some_iff.1 hx).1
      rw [List.length_append] at hi2
      simp at hi2
      have : i = vals.length := by omega
      subst this
      rw [List.getElem?_append_right (by omega)] at hx
      simp at hx
      subst hx
      exact ⟨rfl, L, by simp [h.2.1], list_block hUb h1 h2 hc⟩
theorem OutD.outR {Q : List (Nat × Obj)} {vals : List Value} {rs : List (List Nat)} {U : World} {base : Nat} {v : Value} (h : OutD Q vals rs) (hQ : ∀ y ∈ Q, U.heap[y.1]? = some y.2) (hq : QAt U base 26 v vals) : OutR U v rs vals := by
  obtain ⟨A, cap, rfl, h1, h2, h3, h4⟩ := hq
  rw [h.2.1] at h1 ⊢
  refine ⟨A, cap, rfl, h1, h2, ?_, h.2.1, ⟨A, cap, rfl, by rw [h.2.1]; simp, fun hm => ?_⟩, h.2.2 U hQ⟩
  · by_cases hc : 0 < cap
    · obtain ⟨b, o, cur, rfl, -⟩ := h4 hc
      exact ⟨fun h => absurd h (by simp), fun ad h _ => (by cases h; rfl)⟩
    · have h0 : rs.length = 0 := by omega
      exact ⟨fun _ => h0, fun ad h h1 => by omega⟩
  · obtain ⟨b, o, cur, rfl, -, h5, -, h6⟩ := h4 (by omega)
    exact ⟨_, rfl, fun j u hu => by rw [add_plain]; exact cell_of_heap h5 (h6 j u hu)⟩
set_option maxRecDepth 100000 in
set_option maxHeartbeats 4000000 in
theorem rgroups_c (w : World) (v : Value) (s : Stk) (ht : StkAt w v s) (hok : s.Ok) (lv : Value) (m : Nat) (f : Nat → Int) (hl : IntsAt w lv m f) (hg : grpOk s f m = true) : Calls Try.prog 52 #[v, lv] w fun e w' => ∃ u vals, e = .returned u ∧ OutR w' u (grpL s.adj (lessX (belowN s.nt) (inF f m)) 16) vals ∧ w.grows w' := by
  have Ht := Lib.hid ht
  have Hl := Lib.hid hl
  obtain ⟨tv, mv, rfl, ⟨sa, sc, rfl, s1, s2, -⟩, ⟨va, vc, rfl, -⟩⟩ := ht
  obtain ⟨la, lc, rfl, l1, l2, -⟩ := hl
  have h16 := hok.n16
  have HOk := Lib.hid hok
  have HIn : Hid (∀ j, j < m → ∃ t : Nat, f j = (t : Nat) ∧ t < s.nt) := Lib.hid fun j hj => by
    have h1 := List.all_eq_true.1 hg j (List.mem_range.2 hj)
    unfold incB at h1
    rw [Bool.and_eq_true] at h1
    exact Stk.isT_nat h1.1
  obtain ⟨S, hS⟩ : ∃ S, lessX (belowN s.nt) (inF f m) = S := ⟨_, rfl⟩
  have HSl : Hid (∀ t, S t = true → t < s.nt) := Lib.hid fun t h => by
    rw [← hS] at h
    exact belowN_lt (lessX_iff.1 h).1
  have HS0 : Hid (NmS s.adj S s.nt (fun j => if j < s.nt then nam2 f m j else -1) 0 0 0) := Lib.hid (NmS.start _ (fun j hj => by
    rw [← hS] at hj
    obtain ⟨h1, h2⟩ := lessX_iff.1 hj
    simp only [belowN_lt h1, if_true]
    unfold nam2
    rw [h2, if_neg Bool.false_ne_true]) (fun j hj => by
    by_cases hn : j < s.nt
    · have : inF f m j = true := by
        rw [← hS] at hj
        unfold lessX belowN at hj
        rw [decide_eq_true hn, Bool.true_and] at hj
        simpa using hj
      simp only [hn, if_true]
      unfold nam2
      rw [if_pos this]
      omega
    · simp only [hn, if_false]
      omega))
  unfold maxLen at l2
  rw [hS]
  clear hS hok hg
  go_enter Try.func52, Try.ntmps52
  go_wp2
  obtain ⟨x2, hx2⟩ : ∃ x, w.heap.size = x := ⟨_, rfl⟩
  have k1 : KpS w [(x2 + 1, Obj.cells (rowI s.nt (nam1 0)) 3), (x2, Obj.cells #[.slice sa s.nt sc, .slice va s.nm vc, .int .i64 s.wide] 25)] ((w.alloc (Obj.cells #[.slice sa s.nt sc, .slice va s.nm vc, .int .i64 s.wide] 25)).alloc (.cells (rowI s.nt fun _ => 0) 3)) := by
    refine ((KpS.mk (by (repeat (first | exact World.grows.refl _ | assumption | refine World.grows.alloc ?_ _ | refine World.grows.plus ?_ _ _ | refine World.grows.drew ?_))) (fun y hy => absurd hy List.not_mem_nil)).add (alloc_old (World.heap_at w _ _ hx2.symm))).add ?_
    refine World.heap_at _ _ _ ?_
    simp [hx2]
  simp only [hx2]
  generalize (w.alloc (Obj.cells #[.slice sa s.nt sc, .slice va s.nm vc, .int .i64 s.wide] 25)).alloc (.cells (rowI s.nt fun _ => 0) 3) = W1 at k1 ⊢
  have HK1 := Lib.hid k1
  clear k1
  go_loopw [7] (fun i7 wr => ∃ k : Nat, k ≤ s.nt ∧ i7 = .int .i64 (k : Nat) ∧ Hid (KpS w [(x2 + 1, Obj.cells (rowI s.nt (nam1 k)) 3), (x2, Obj.cells #[.slice sa s.nt sc, .slice va s.nm vc, .int .i64 s.wide] 25)] wr)) (fun i7 _ => s.nt - (intOf i7).toNat)
  case atStart => exact ⟨0, by omega, rfl, HK1⟩
  case round =>
    obtain ⟨k, hk, rfl, hKp⟩ := hrel
    by_cases hlt : k < s.nt
    · have hltI : (k : Int) < s.nt := by omega
      have c0 := rowI_cell hKp.out.hd hlt
      have f0 := rowI_frozen hKp.out.hd k
      have k2 := (hKp.out.drop.set (b := x2 + 1) (by omega) (fun y hy => by
        rw [List.mem_singleton] at hy
        subst hy
        simp only
        omega) k (.int .i64 (k : Nat))).add (rowI_store hKp.out.hd hlt (k : Nat))
      rw [nam1_succ] at k2
      have HK2 := Lib.hid k2
      clear k2
      go_wp2
      case roundEnd => exact ⟨⟨k + 1, by omega, by go_num, HK2⟩, by simp [intOf]; omega⟩
    · have hltI : ¬ (k : Int) < s.nt := by omega
      have k2 : KpS w [(x2 + 1, Obj.cells (rowI s.nt (nam2 f 0)) 3), (x2, Obj.cells #[.slice sa s.nt sc, .slice va s.nm vc, .int .i64 s.wide] 25)] wr := by
        have := hKp.out
        rw [rowI_congr (g := nam2 f 0) (fun i hi => by unfold nam1 nam2; rw [if_pos (by omega)]; rfl)] at this
        exact this
      have HK2 := Lib.hid k2
      clear k2 hKp hlt HK1
      obtain ⟨W2, rfl⟩ : ∃ W2, W2 = wr := ⟨_, rfl⟩
      go_wp2
      go_loopw [8] (fun i8 wr => ∃ k : Nat, k ≤ m ∧ i8 = .int .i64 (k : Nat) ∧ Hid (KpS w [(x2 + 1, Obj.cells (rowI s.nt (nam2 f k)) 3), (x2, Obj.cells #[.slice sa s.nt sc, .slice va s.nm vc, .int .i64 s.wide] 25)] wr)) (fun i8 _ => m - (intOf i8).toNat)
      case atStart => exact ⟨0, by omega, rfl, HK2⟩
      case round =>
        obtain ⟨k, hk, rfl, hKp⟩ := hrel
        by_cases hlt : k < m
        · have hltI : (k : Int) < m := by omega
          obtain ⟨t, ht, htn⟩ := HIn.out k hlt
          have htI : (t : Int) < s.nt := by omega
          obtain ⟨la', lc', he, -, -, hc⟩ := IntsAt.mono Hl.out hKp.out.g
          cases he
          obtain ⟨lb, lo, rfl, cx⟩ := hc k 0 hlt (by omega)
          simp only [Nat.mul_one, Nat.add_zero, ht] at cx
          have c0 := rowI_cell hKp.out.hd htn
          have f0 := rowI_frozen hKp.out.hd t
          have k2 := (hKp.out.drop.set (b := x2 + 1) (by omega) (fun y hy => by
            rw [List.mem_singleton] at hy
            subst hy
            simp only
            omega) t (.int .i64 (-1))).add (rowI_store hKp.out.hd htn (-1))
          rw [nam2_succ f k t ht] at k2
          have HK3 := Lib.hid k2
          clear k2 hc ht
          go_wp2
          case roundEnd => exact ⟨⟨k + 1, by omega, by go_num, HK3⟩, by simp [intOf]; omega⟩
        · have hltI : ¬ (k : Int) < m := by omega
          have k2 : KpS w [(x2 + 1, Obj.cells (rowI s.nt (fun j => if j < s.nt then nam2 f m j else -1)) 3), (x2, Obj.cells #[.slice sa s.nt sc, .slice va s.nm vc, .int .i64 s.wide] 25)] wr := by
            have := hKp.out
            rw [rowI_congr (g := fun j => if j < s.nt then nam2 f m j else -1) (fun i hi => by rw [if_pos hi, show k = m by omega])] at this
            exact this
          have HK3 := Lib.hid k2
          clear k2 hKp hlt HK2
          obtain ⟨W3, rfl⟩ : ∃ W3, W3 = wr := ⟨_, rfl⟩
          go_wp2
          go_loopw [9] (fun i9 wr => ∃ (r : Nat) (F : Nat → Int), r ≤ s.nt ∧ i9 = .int .i64 (r : Nat) ∧ Hid (NmS s.adj S s.nt F r 0 0) ∧ Hid (KpS w [(x2 + 1, Obj.cells (rowI s.nt F) 3), (x2, Obj.cells #[.slice sa s.nt sc, .slice va s.nm vc, .int .i64 s.wide] 25)] wr)) (fun i9 _ => s.nt - (intOf i9).toNat)
          case atStart => exact ⟨0, _, by omega, rfl, HS0, HK3⟩
          case round =>
            obtain ⟨r, F, hr, rfl, hN, hKp⟩ := hrel
            clear HS0 HK3
            by_cases hlt : r < s.nt
            · have hltI : (r : Int) < s.nt := by omega
              obtain ⟨W4, rfl⟩ : ∃ W4, W4 = wr := ⟨_, rfl⟩
              go_wp2
              go_loopw [10] (fun i10 wr => ∃ (i : Nat) (F : Nat → Int), i ≤ s.nt ∧ i10 = .int .i64 (i : Nat) ∧ Hid (NmS s.adj S s.nt F r i 0) ∧ Hid (KpS w [(x2 + 1, Obj.cells (rowI s.nt F) 3), (x2, Obj.cells #[.slice sa s.nt sc, .slice va s.nm vc, .int .i64 s.wide] 25)] wr)) (fun i10 _ => s.nt - (intOf i10).toNat)
              case atStart => exact ⟨0, F, by omega, rfl, hN, hKp⟩
              case round =>
                clear hN hKp F
                obtain ⟨i, F, hi, rfl, hN, hKp⟩ := hrel
                by_cases hlt2 : i < s.nt
                · have hltI2 : (i : Int) < s.nt := by omega
                  obtain ⟨W5, rfl⟩ : ∃ W5, W5 = wr := ⟨_, rfl⟩
                  go_wp2
                  go_loopw [11] (fun i11 wr => ∃ (k : Nat) (F : Nat → Int), k ≤ s.nt ∧ i11 = .int .i64 (k : Nat) ∧ Hid (NmS s.adj S s.nt F r i k) ∧ Hid (KpS w [(x2 + 1, Obj.cells (rowI s.nt F) 3), (x2, Obj.cells #[.slice sa s.nt sc, .slice va s.nm vc, .int .i64 s.wide] 25)] wr)) (fun i11 _ => s.nt - (intOf i11).toNat)
                  case atStart => exact ⟨0, F, by omega, rfl, hN, hKp⟩
                  case round =>
                    clear hN hKp F
                    obtain ⟨k, F, hk, rfl, hN, hKp⟩ := hrel
                    by_cases hlt3 : k < s.nt
                    · have hltI3 : (k : Int) < s.nt := by omega
                      have ci := rowI_cell hKp.out.hd hlt2
                      have ck := rowI_cell hKp.out.hd hlt3
                      have HNi : Hid ((0 ≤ F i ↔ S i = true) ∧ (0 ≤ F k ↔ S k = true)) := Lib.hid (by
                        have key : ∀ j, 0 ≤ F j ↔ S j = true := fun j => by
                          cases hj : S j with
                          | true =>
                            obtain ⟨u, hu, -⟩ := hN.out.nam j hj
                            simp; omega
                          | false =>
                            have := hN.out.out j hj
                            simp; omega
                        exact ⟨key i, key k⟩)
                      by_cases h1 : 0 ≤ F i
                      · by_cases h2 : 0 ≤ F k
                        · have c0 := cell_of_heap hKp.out.drop.hd (i := 0) rfl
                          have c1 := cell_of_heap hKp.out.drop.hd (i := 1) rfl
                          have c2 := cell_of_heap hKp.out.drop.hd (i := 2) rfl
                          have HSi := Lib.hid (HNi.out.1.1 h1)
                          have HSk := Lib.hid (HNi.out.2.1 h2)
                          clear HNi
                          go_wp2_with (go_at_call 99; fail)
                          refine (suits_c _ _ s (Ht.out.mono (hKp.out.g.trans (by (repeat (first | exact World.grows.refl _ | assumption | refine World.grows.alloc ?_ _ | refine World.grows.plus ?_ _ _ | refine World.grows.drew ?_))))) HOk.out i k hlt2 hlt3).mono ?_
                          rintro e W6 ⟨rfl, g6⟩
                          have k6 := hKp.out.mono (World.grows.trans (by (repeat (first | exact World.grows.refl _ | assumption | refine World.grows.alloc ?_ _ | refine World.grows.plus ?_ _ _ | refine World.grows.drew ?_))) g6)
                          have HK6 := Lib.hid k6
                          have Hadj := Lib.hid (s.adj_suits hlt2 hlt3)
                          clear k6 g6 hKp ci ck c0 c1 c2
                          cases ha : s.suits i k with
                          | false =>
                            have HN2 := Lib.hid (hN.out.skip s.adj_symm (fun h => by rw [Hadj.out, ha] at h; exact Bool.false_ne_true h.2.2))
                            clear ha hN
                            go_wp2
                            case roundEnd => exact ⟨⟨k + 1, F, by omega, by go_num, HN2, HK6⟩, by simp [intOf]; omega⟩
                          | true =>
                            have HN2 := Lib.hid (hN.out.join s.adj_symm HSi.out HSk.out (by rw [Hadj.out, ha]))
                            have ci := fun nc xc => (World.grows_plus W6 nc xc).cell_of (rowI_cell HK6.out.hd hlt2)
                            have ck := fun nc xc => (World.grows_plus W6 nc xc).cell_of (rowI_cell HK6.out.hd hlt3)
                            clear ha hN
                            go_upto_region 21 with fail
                            obtain ⟨p, hp⟩ : ∃ z, F i = z := ⟨_, rfl⟩
                            obtain ⟨q, hq⟩ : ∃ z, F k = z := ⟨_, rfl⟩
                            obtain ⟨mn, hmn⟩ : ∃ z, min p q = z := ⟨_, rfl⟩
                            rw [hp, hq, hmn] at HN2
                            simp only [hp] at ci
                            simp only [hq] at ck
                            have HK7 := fun W (g : W6.grows W) => Lib.hid (HK6.out.mono g)
                            simp only [hp, hq]
                            clear hp hq h1 h2
                            have ci0 := ci 0 W6
                            (refine wp_region_tail 12 (by kernel_rfl) (by kernel_rfl) (by decide) ?_; simp only [List.take_succ_cons, List.take_zero, List.drop_succ_cons, List.drop_zero, List.take_nil, List.drop_nil, List.append_nil, List.nil_append, List.cons_append, Nat.reduceAdd, Nat.reduceSub]; (repeat (refine wpCalm_step (fun K hK => ?_); go_simp; first | (refine hK _ ?_; clear hK K) | (apply Exists.intro; refine ⟨fun n' x' => ?_, hK _ ?_⟩; (fail); clear hK K))); refine wpCalm_nil ?_; intro nq xq)
                            clear hmn
                            have k7 := HK6.out.mono (World.grows_plus W6 nq xq); generalize W6.plus nq xq = W7 at k7 ⊢; have f0 := rowI_frozen k7.hd i; have c0' := rowI_cell k7.hd hlt2; have k8 := (k7.drop.set (b := x2 + 1) (by omega) (fun y hy => (by rw [List.mem_singleton] at hy; subst hy; simp only; omega)) i (.int .i64 mn)).add (rowI_store k7.hd hlt2 mn); have HK8 := Lib.hid k8; clear k7 k8 ci ck ci0 HK7 HK6; go_wp2
                            case roundEnd => exact ⟨⟨k + 1, _, by omega, by go_num, HN2, HK8⟩, by simp [intOf]; omega⟩
                        · have HN2 := Lib.hid (hN.out.skip s.adj_symm (fun h => h2 (HNi.out.2.2 h.2.1)))
                          clear HNi hN
                          go_wp2
                          case roundEnd => exact ⟨⟨k + 1, F, by omega, by go_num, HN2, hKp⟩, by simp [intOf]; omega⟩
                      · have HN2 := Lib.hid (hN.out.skip s.adj_symm (fun h => h1 (HNi.out.1.2 h.1)))
                        clear HNi hN
                        go_wp2
                        case roundEnd => exact ⟨⟨k + 1, F, by omega, by go_num, HN2, hKp⟩, by simp [intOf]; omega⟩
                    · have hltI3 : ¬ (k : Int) < s.nt := by omega
                      have hkn : k = s.nt := by omega
                      rw [hkn] at hN
                      have HN2 := Lib.hid hN.out.next
                      clear hN hkn
                      go_wp2
                      case roundEnd => exact ⟨⟨i + 1, F, by omega, by go_num, HN2, hKp⟩, by simp [intOf]; omega⟩
                · have hltI2 : ¬ (i : Int) < s.nt := by omega
                  have hin : i = s.nt := by omega
                  rw [hin] at hN
                  have HN2 := Lib.hid (hN.out.round HSl.out)
                  clear hN hin
                  go_wp2
                  case roundEnd => exact ⟨⟨r + 1, F, by omega, by go_num, HN2, hKp⟩, by simp [intOf]; omega⟩
            · have hltI : ¬ (r : Int) < s.nt := by omega
              have hrn : r = s.nt := by omega
              rw [hrn] at hN
              have HR := Lib.hid (rowsD_all s.adj_symm HSl.out hN.out)
              have HGn := Lib.hid (grpL_n s.adj_symm HSl.out h16)
              clear hN hrn
              obtain ⟨W4, rfl⟩ : ∃ W4, W4 = wr := ⟨_, rfl⟩
              go_wp2
              obtain ⟨B0, hB0⟩ : ∃ x, W4.heap.size = x := ⟨_, rfl⟩
              have HB0 : Hid (B0 ≤ W4.heap.size) := Lib.hid (by omega)
              have hB0l : x2 + 1 < B0 := by rw [← hB0]; exact World.lt_of_block hKp.out.hd
              have HK4 := Lib.hid hKp.out
              clear hKp hB0
              go_loopw [12, 13] (fun i12 i13 wr => ∃ (g : Nat) (vals : List Value) (Q : List (Nat × Obj)), g ≤ s.nt ∧ i13 = .int .i64 (g : Nat) ∧ Hid (OutD Q vals (rowsD F s.nt g)) ∧ Hid (QAt wr B0 26 i12 vals) ∧ Hid (B0 ≤ wr.heap.size) ∧ Hid (KpS w ((x2 + 1, Obj.cells (rowI s.nt F) 3) :: (x2, Obj.cells #[.slice sa s.nt sc, .slice va s.nm vc, .int .i64 s.wide] 25) :: Q) wr)) (fun _ i13 _ => s.nt - (intOf i13).toNat)
              case atStart => exact ⟨0, [], [], by omega, rfl, Lib.hid OutD.nil, Lib.hid (QAt.nil _ _ _), HB0, HK4⟩
              case round =>
                obtain ⟨g, vals, Q, hg, rfl, hO, hQ, hBw, hKp⟩ := hrel
                obtain ⟨ov, rfl⟩ : ∃ ov, ov = u12 := ⟨_, rfl⟩
                clear HK4 HB0
                by_cases hlt : g < s.nt
                · have hltI : (g : Int) < s.nt := by omega
                  obtain ⟨W5, rfl⟩ : ∃ W5, W5 = wr := ⟨_, rfl⟩
                  obtain ⟨c1, hc1⟩ : ∃ x, W5.heap.size = x := ⟨_, rfl⟩
                  have hB1 : B0 ≤ c1 := by rw [← hc1]; exact hBw.out
                  have hQ1 : Hid (∀ y ∈ Q, y.1 < c1) := Lib.hid fun y hy => by
                    rw [← hc1]
                    exact World.lt_of_block (hKp.out.at_ y (by simp [hy]))
                  have hO1 : Hid (∀ b, vblk ov = some b → b < c1) := Lib.hid fun b hb => by
                    rw [← hc1]
                    exact (hQ.out.blk hb).2
                  have HC1 : Hid (c1 ≤ W5.heap.size) := Lib.hid (by omega)
                  clear hc1
                  go_wp2
                  go_loopw [14, 15] (fun i14 i15 wr => ∃ (i : Nat), i ≤ s.nt ∧ i15 = .int .i64 (i : Nat) ∧ Hid (QAt wr c1 3 i14 (ilist (filtL (fun i => decide (F i = (g : Nat))) i))) ∧ Hid (QAt wr B0 26 ov vals) ∧ Hid (c1 ≤ wr.heap.size) ∧ Hid (KpS w ((x2 + 1, Obj.cells (rowI s.nt F) 3) :: (x2, Obj.cells #[.slice sa s.nt sc, .slice va s.nm vc, .int .i64 s.wide] 25) :: Q) wr)) (fun _ i15 _ => s.nt - (intOf i15).toNat)
                  case atStart => exact ⟨0, by omega, rfl, Lib.hid (QAt.nil _ _ _), hQ, HC1, hKp⟩
                  case round =>
                    clear hQ HC1 hKp hBw
                    obtain ⟨i, hi, rfl, hL, hQ, hCw, hKp⟩ := hrel
                    obtain ⟨lv, rfl⟩ : ∃ lv, lv = u14 := ⟨_, rfl⟩
                    have hl16 := filtL_len (fun i => decide (F i = (g : Nat))) i
                    by_cases hlt2 : i < s.nt
                    · have hltI2 : (i : Int) < s.nt := by omega
                      have ci := rowI_cell hKp.out.hd hlt2
                      by_cases hF : F i = (g : Nat)
                      · have hFB : (F i == ((g : Nat) : Int)) = true := beq_iff_eq.2 hF
                        have HS : Hid (filtL (fun i => decide (F i = (g : Nat))) (i + 1) = filtL (fun i => decide (F i = (g : Nat))) i ++ [i]) := Lib.hid (by rw [filtL_succ, if_pos (decide_eq_true hF)])
                        obtain ⟨L, hLL⟩ : ∃ L, filtL (fun i => decide (F i = (g : Nat))) i = L := ⟨_, rfl⟩
                        rw [hLL] at hL HS hl16
                        clear hLL hF
                        go_upto_region 31 with fail
                        (iterate 10 go_step)
                        have gA : wr.grows (wr.alloc (Obj.cells #[.int .i64 (i : Nat)] 3)) := by (repeat (first | exact World.grows.refl _ | assumption | refine World.grows.alloc ?_ _ | refine World.grows.plus ?_ _ _ | refine World.grows.drew ?_))
                        refine wpList_append_q _ rfl (.tmp 103) (.tmp 105) 26 (by rfl) c1 3 (.int .i64 0) 8 Try.underlying26 el3 (by rfl) lv (ilist L) (by rfl) (hL.out.mono gA) ⟨wr.heap.size, 0, none⟩ 1 (.int .i64 (i : Nat)) (by rfl) (by simp [go_sem]) rfl (by rfl) (by rw [ilist_len]; unfold maxLen; omega) (by rw [ilist_len]; omega) (by have := hCw.out; simp; omega) ?_
                        intro v' V8 hq8 hg8 hv8 hk8
                        rw [← ilist_snoc, ← HS.out] at hq8
                        have hlb : ∀ b, vblk lv = some b → c1 ≤ b := fun b hb => (hL.out.blk hb).1
                        have kA := (hKp.out.mono gA).app hg8 hk8 (fun b hb => by have := hlb b hb; omega) (by
                          intro y hy
                          simp only [List.mem_cons] at hy
                          rcases hy with rfl | rfl | hy
                          · exact .inr (fun e => by have := hlb _ e; simp only at this; omega)
                          · exact .inl (fun c fr e => by cases e)
                          · exact .inr (fun e => by have h1 := hlb _ e; have h2 := hQ1.out y hy; omega))
                        have qO : QAt V8 B0 26 ov vals := (hQ.out.mono gA).keep hg8.size fun b hb hlt' => hg8.block b hlt' (fun e => by have h1 := hlb b e.symm; have h2 := hO1.out b hb; omega)
                        have hCw8 : Hid (c1 ≤ V8.heap.size) := Lib.hid (Nat.le_trans hCw.out (Nat.le_trans gA.size hg8.size))
                        have HKA := Lib.hid kA
                        have HQA := Lib.hid hq8
                        have HQO := Lib.hid qO
                        clear hg8 hk8 hv8 kA qO hq8 hL hQ hCw hKp gA hlb
                        go_wp2
                        case roundEnd => exact ⟨⟨i + 1, by omega, by go_num, HQA, HQO, hCw8, HKA⟩, by simp [intOf]; omega⟩
                      · have hFB : (F i == ((g : Nat) : Int)) = false := beq_eq_false_iff_ne.2 hF
                        have HS : Hid (filtL (fun i => decide (F i = (g : Nat))) (i + 1) = filtL (fun i => decide (F i = (g : Nat))) i) := Lib.hid (by rw [filtL_succ, if_neg (by simpa using hF)])
                        clear hF
                        go_wp2
                        case roundEnd => exact ⟨⟨i + 1, by omega, by go_num, by rw [HS.out]; exact hL, hQ, hCw, hKp⟩, by simp [intOf]; omega⟩
                    · have hltI2 : ¬ (i : Int) < s.nt := by omega
                      have hin : i = s.nt := by omega
                      rw [hin] at hL hl16
                      obtain ⟨L, hLL⟩ : ∃ L, filtL (fun i => decide (F i = (g : Nat))) s.nt = L := ⟨_, rfl⟩
                      have HRs := Lib.hid (rowsD_succ F s.nt g)
                      rw [hLL] at hL hl16 HRs
                      clear hLL hin
                      have hvl : vals.length ≤ 16 := by
                        rw [hO.out.2.1]
                        unfold rowsD
                        rw [List.length_map]
                        refine Nat.le_trans (List.length_filter_le _ _) ?_
                        rw [List.length_range]
                        omega
                      obtain ⟨A, cp, rfl, hcp1, hcp2⟩ := hL.out.form
                      rw [ilist_len] at hL hcp1
                      rw [ilist_len]
                      by_cases hl0 : L = []
                      · have hR0 : Hid (rowsD F s.nt (g + 1) = rowsD F s.nt g) := Lib.hid (by rw [HRs.out, if_pos hl0])
                        subst hl0
                        clear HRs hL
                        have hBw2 : Hid (B0 ≤ wr.heap.size) := Lib.hid (by have := hCw.out; omega)
                        go_wp2
                        case roundEnd => exact ⟨⟨g + 1, vals, Q, by omega, by go_num, by rw [hR0.out]; exact hO, hQ, hBw2, hKp⟩, by simp [intOf]; omega⟩
                      · have hR0 : Hid (rowsD F s.nt (g + 1) = rowsD F s.nt g ++ [L]) := Lib.hid (by rw [HRs.out, if_neg hl0])
                        have hlp := List.length_pos_iff.2 hl0
                        have hlI : (0 : Int) < L.length := by omega
                        obtain ⟨ob, oo, cur, rfl, hob, hwb, hcur⟩ : ∃ ob oo cur, A = some ⟨ob, oo, none⟩ ∧ c1 ≤ ob ∧ wr.heap[ob]? = some (.cells cur 3) ∧ ∀ i x, L[i]? = some x → cur[oo + i]? = some (.int .i64 (x : Nat)) := by
                          obtain ⟨A9, cp9, he9, hl9, -, -, h9⟩ := hL.out
                          rw [ilist_len] at he9 hl9
                          cases he9
                          obtain ⟨b9, o9, cur9, e1, e2, e3, -, e5⟩ := h9 (by omega)
                          exact ⟨b9, o9, cur9, e1, e2, e3, fun i x hx => e5 i _ (by unfold ilist; rw [List.getElem?_map, hx]; rfl)⟩
                        have HO2 := Lib.hid (hO.out.push (b := ob) hcp1 hcp2 hcur)
                        have kB := hKp.out
                        clear HRs hl0
                        go_upto_region 33 with fail
                        (iterate 10 go_step)
                        have gA : wr.grows (wr.alloc (Obj.cells #[.slice (some ⟨ob, oo, none⟩) L.length cp] 26)) := by (repeat (first | exact World.grows.refl _ | assumption | refine World.grows.alloc ?_ _ | refine World.grows.plus ?_ _ _ | refine World.grows.drew ?_))
                        refine wpList_append_q _ rfl (.tmp 110) (.tmp 112) 32 (by rfl) B0 26 (.slice none 0 0) 24 Try.underlying32 el26 (by rfl) ov vals (by rfl) (hQ.out.mono gA) ⟨wr.heap.size, 0, none⟩ 1 (.slice (some ⟨ob, oo, none⟩) L.length cp) (by rfl) (by simp [go_sem]) rfl (by rfl) (by unfold maxLen; omega) (by omega) (by have := hCw.out; simp; omega) ?_
                        intro v' V8 hq8 hg8 hv8 hk8
                        have k2 : KpS w ((x2 + 1, Obj.cells (rowI s.nt F) 3) :: (x2, Obj.cells #[.slice sa s.nt sc, .slice va s.nm vc, .int .i64 s.wide] 25) :: (ob, Obj.cells cur 3) :: Q) wr := ((KpS.add (kB.drop.drop) hwb).add kB.drop.hd).add kB.hd
                        have kA := (k2.mono gA).appE (e := 26) hg8 hk8 (fun b hb => by have := (hQ.out.blk hb).1; omega) (by
                          intro y hy
                          refine .inl ?_
                          simp only [List.mem_cons] at hy
                          rcases hy with rfl | rfl | rfl | hy
                          iterate 3 exact fun c fr e => by cases e
                          obtain ⟨c9, he9⟩ := hO.out.1 y hy
                          rw [he9]
                          exact fun c fr e => by cases e)
                        have HKA := Lib.hid kA
                        have HQA := Lib.hid hq8
                        have hBw2 : Hid (B0 ≤ V8.heap.size) := Lib.hid (by have h1 := hCw.out; have h2 := gA.size; have h3 := hg8.size; omega)
                        clear hg8 hk8 hv8 kA k2 kB hq8 hL hQ hCw hKp gA hwb hcur hO
                        go_wp2
                        case roundEnd => exact ⟨⟨g + 1, _, _, by omega, by go_num, by rw [hR0.out]; exact HO2, HQA, hBw2, HKA⟩, by simp [intOf]; omega⟩
                · have hltI : ¬ (g : Int) < s.nt := by omega
                  have hgn : g = s.nt := by omega
                  rw [hgn, HR.out, HGn.out] at hO
                  have hRR := hO.out.outR (fun y hy => hKp.out.at_ y (by simp [hy])) hQ.out
                  have HRR := Lib.hid hRR
                  obtain ⟨A9, c9, rfl, -⟩ := hRR
                  have gW := hKp.out.g
                  clear hgn hO hQ hKp
                  go_wp2
                  (refine bodyPost_ret (v := .slice A9 (grpL s.adj S 16).length c9) (by simp [results, Try.results52, go_sem]) rfl ?_)
                  exact ⟨_, rfl, ⟨vals, HRR.out.grow (by (repeat (first | exact World.grows.refl _ | assumption | refine World.grows.alloc ?_ _ | refine World.grows.plus ?_ _ _ | refine World.grows.drew ?_)))⟩, gW.trans (by (repeat (first | exact World.grows.refl _ | assumption | refine World.grows.alloc ?_ _ | refine World.grows.plus ?_ _ _ | refine World.grows.drew ?_)))⟩
end Go.Proofs.Yteingahlmlndkaa

/-
  What is proved: by the definition: the groups (18), and the bound of a cut (22), or the error.
-/
namespace Go.Proofs.Yteingahlmlndkaa
open Go.RowKit
attribute [local irreducible] Go.wpCalm rowV rowI
set_option maxRecDepth 100000 in
set_option maxHeartbeats 4000000 in
theorem rgrp_ok (w : World) (v : Value) (s : Stk) (ht : StkAt w v s) (hok : s.Ok) (lv : Value) (m : Nat) (f : Nat → Int) (hl : IntsAt w lv m f) : Calls Try.prog 18 #[v, lv] w fun e w' => GrpIs s f m w e w' := by
  have Ht := Lib.hid ht
  have Hl := Lib.hid hl
  obtain ⟨tv, mv, rfl, ⟨sa, sc, rfl, -⟩, ⟨va, vc, rfl, -⟩⟩ := ht
  obtain ⟨la, lc, rfl, l1, l2, -⟩ := hl
  have h24 := fun W (g : w.grows W) => rcheck_c W _ s (Ht.out.mono g)
  simp only [(Stk.ok_iff s).2 hok] at h24
  have h43 := fun W (g : w.grows W) => rlist_c W _ s (Ht.out.mono g) _ m f (IntsAt.mono Hl.out g)
  have HB := Lib.hid (World.heap_at w (.cells #[.slice sa s.nt sc, .slice va s.nm vc, .int .i64 s.wide] 25) _ rfl)
  have HOk := Lib.hid hok
  have HG : Hid (grpOk s f m = (List.range m).all (incB s f)) := Lib.hid rfl
  clear hok
  go_enter Try.func18, Try.ntmps18
  go_wp2_with (go_at_call 99; fail)
  refine (h24 _ (by (repeat (first | exact World.grows.refl _ | assumption | refine World.grows.alloc ?_ _ | refine World.grows.plus ?_ _ _ | refine World.grows.drew ?_)))).mono ?_
  rintro e W ⟨rfl, g⟩
  have gW : w.grows W := World.grows.trans (by (repeat (first | exact World.grows.refl _ | assumption | refine World.grows.alloc ?_ _ | refine World.grows.plus ?_ _ _ | refine World.grows.drew ?_))) g
  have B1 := g.heap_of HB.out
  have c0 := cell_of_heap B1 (i := 0) rfl; have c1 := cell_of_heap B1 (i := 1) rfl; have c2 := cell_of_heap B1 (i := 2) rfl
  go_wp2_with (go_at_call 99; fail)
  refine (h43 _ (gW.trans (by (repeat (first | exact World.grows.refl _ | assumption | refine World.grows.alloc ?_ _ | refine World.grows.plus ?_ _ _ | refine World.grows.drew ?_))))).mono ?_
  rintro e W2 ⟨rfl, g2⟩
  have gW2 : w.grows W2 := gW.trans (World.grows.trans (by (repeat (first | exact World.grows.refl _ | assumption | refine World.grows.alloc ?_ _ | refine World.grows.plus ?_ _ _ | refine World.grows.drew ?_))) g2)
  have B2 := g2.heap_of (World.grows.heap_of (show W.grows _ by (repeat (first | exact World.grows.refl _ | assumption | refine World.grows.alloc ?_ _ | refine World.grows.plus ?_ _ _ | refine World.grows.drew ?_))) B1)
  clear g g2 B1 c0 c1 c2 h24 h43 gW
  cases hg : (List.range m).all (incB s f) with
  | false =>
    have HX := Lib.hid (HG.out.trans hg)
    clear hg
    go_wp2
    (refine bodyPost_ret (v := .tuple #[.slice none 0 0, .int .i64 3]) (by simp [results, Try.results18, go_sem]) rfl ?_)
    exact GrpIs.bad HX.out (gW2.trans (by (repeat (first | exact World.grows.refl _ | assumption | refine World.grows.alloc ?_ _ | refine World.grows.plus ?_ _ _ | refine World.grows.drew ?_))))
  | true =>
    have HX := Lib.hid (HG.out.trans hg)
    have B1 := B2
    have c0 := cell_of_heap B1 (i := 0) rfl; have c1 := cell_of_heap B1 (i := 1) rfl; have c2 := cell_of_heap B1 (i := 2) rfl
    clear hg
    go_wp2_with (go_at_call 99; fail)
    refine (rgroups_c _ _ s (Ht.out.mono (gW2.trans (by (repeat (first | exact World.grows.refl _ | assumption | refine World.grows.alloc ?_ _ | refine World.grows.plus ?_ _ _ | refine World.grows.drew ?_))))) HOk.out _ m f (IntsAt.mono Hl.out (gW2.trans (by (repeat (first | exact World.grows.refl _ | assumption | refine World.grows.alloc ?_ _ | refine World.grows.plus ?_ _ _ | refine World.grows.drew ?_))))) HX.out).mono ?_
    rintro e V ⟨u, vals, rfl, hr, gV⟩
    have gVw : w.grows V := gW2.trans (World.grows.trans (by (repeat (first | exact World.grows.refl _ | assumption | refine World.grows.alloc ?_ _ | refine World.grows.plus ?_ _ _ | refine World.grows.drew ?_))) gV)
    have HR := Lib.hid hr
    obtain ⟨A9, c9, rfl, -⟩ := hr
    clear gV
    go_wp2
    (refine bodyPost_ret (v := .tuple #[.slice A9 (grpL s.adj (lessX (belowN s.nt) (inF f m)) 16).length c9, .int .i64 0]) (by simp [results, Try.results18, go_sem]) rfl ?_)
    exact GrpIs.ok HX.out (HR.out.grow (by (repeat (first | exact World.grows.refl _ | assumption | refine World.grows.alloc ?_ _ | refine World.grows.plus ?_ _ _ | refine World.grows.drew ?_)))) (gVw.trans (by (repeat (first | exact World.grows.refl _ | assumption | refine World.grows.alloc ?_ _ | refine World.grows.plus ?_ _ _ | refine World.grows.drew ?_))))
set_option maxRecDepth 100000 in
set_option maxHeartbeats 4000000 in
theorem rcut_ok (w : World) (v : Value) (s : Stk) (ht : StkAt w v s) (hok : s.Ok) (lv : Value) (m : Nat) (f : Nat → Int) (hl : IntsAt w lv m f) (hm : m ≤ 100) : Calls Try.prog 22 #[v, lv] w fun e w' => CutIs s f m w e w' := by
  have Ht := Lib.hid ht
  have Hl := Lib.hid hl
  obtain ⟨tv, mv, rfl, ⟨sa, sc, rfl, s1, s2, -⟩, ⟨va, vc, rfl, -⟩⟩ := ht
  obtain ⟨la, lc, rfl, l1, l2, -⟩ := hl
  have h18 := fun W (g : w.grows W) => rgrp_ok W _ s (Ht.out.mono g) hok _ m f (IntsAt.mono Hl.out g)
  have h16 := hok.n16
  have Ho := Lib.hid (odd_nt s h16 (inF f m))
  have HC : Hid (cutN s f m = (s.nt + m - oddN (grpL s.adj (lessX (belowN s.nt) (inF f m)) 16)) / 2) := Lib.hid rfl
  clear hok
  unfold maxLen at l2
  go_enter Try.func22, Try.ntmps22
  go_wp2_with (go_at_call 99; fail)
  refine (h18 _ (by (repeat (first | exact World.grows.refl _ | assumption | refine World.grows.alloc ?_ _ | refine World.grows.plus ?_ _ _ | refine World.grows.drew ?_)))).mono ?_
  rintro e W1 ⟨g1, h1⟩
  have bx := g1.heap_of (World.heap_at w (.cells #[.slice sa s.nt sc, .slice va s.nm vc, .int .i64 s.wide] 25) _ rfl)
  have gW1 : w.grows W1 := World.grows.trans (by (repeat (first | exact World.grows.refl _ | assumption | refine World.grows.alloc ?_ _ | refine World.grows.plus ?_ _ _ | refine World.grows.drew ?_))) g1
  clear h18 g1
  cases hok : grpOk s f m with
  | false =>
    rw [hok, if_neg Bool.false_ne_true] at h1
    subst h1
    have HX := Lib.hid hok
    clear hok
    go_wp2
    (refine bodyPost_ret (v := .tuple #[.int .i64 0, .int .i64 3]) (by simp [results, Try.results22, go_sem]) rfl ?_)
    exact CutIs.bad HX.out (gW1.trans (by (repeat (first | exact World.grows.refl _ | assumption | refine World.grows.alloc ?_ _ | refine World.grows.plus ?_ _ _ | refine World.grows.drew ?_))))
  | true =>
    rw [hok, if_pos rfl] at h1
    obtain ⟨u, vals, rfl, hr⟩ := h1
    have HX := Lib.hid hok
    clear hok
    obtain ⟨RS, hRS⟩ : ∃ R, grpL s.adj (lessX (belowN s.nt) (inF f m)) 16 = R := ⟨_, rfl⟩
    rw [hRS] at hr Ho HC
    clear hRS
    have HR := Lib.hid hr
    obtain ⟨A9, c9, rfl, q1, q2, -⟩ := hr
    unfold maxLen at q2
    obtain ⟨n, hn⟩ : ∃ n, RS.length = n := ⟨_, rfl⟩
    rw [hn] at q1 HR ⊢
    have hoL : ∀ k, oddN (RS.take k) ≤ s.nt := fun k => by
      refine Nat.le_trans ?_ Ho.out
      have : oddN RS = oddN (RS.take k) + oddN (RS.drop k) := by
        conv => lhs; rw [← List.take_append_drop k RS]
        unfold oddN
        rw [List.map_append, List.sum_append]
      omega
    have HoL := Lib.hid hoL
    have c0 := cell_of_heap bx (i := 0) rfl
    clear hoL bx
    go_wp2
    go_loopw [8, 9] (fun i8 i9 wr => ∃ k : Nat, k ≤ n ∧ i9 = .int .i64 (k : Nat) ∧ i8 = .int .i64 ((s.nt + m : Nat) - (oddN (RS.take k) : Nat) : Int) ∧ Hid (W1.grows wr)) (fun _ i9 _ => n - (intOf i9).toNat)
    case atStart => exact ⟨0, by omega, rfl, by simp [oddN], Lib.hid (World.grows.refl _)⟩
    case round =>
      obtain ⟨k, hk, rfl, rfl, hg⟩ := hrel
      by_cases hlt : k < n
      · have hltI : (k : Int) < n := by omega
        obtain ⟨-, rb, ro, x, r, rfl, cx, hrr, hrl⟩ := HR.out.row hlt
        replace cx := hg.out.cell_of cx
        obtain ⟨ra, rc, rfl, -, -⟩ := hrl
        have htk : RS.take (k + 1) = RS.take k ++ [r] := by rw [List.take_add_one, hrr]; rfl
        have h1 := HoL.out (k + 1)
        rw [htk, oddN_snoc] at h1
        have HN : Hid (oddN (RS.take (k + 1)) = oddN (RS.take k) + r.length % 2) := Lib.hid (by rw [htk, oddN_snoc])
        obtain ⟨od, hod⟩ : ∃ o, oddN (RS.take k) = o := ⟨_, rfl⟩
        rw [hod] at h1 HN ⊢
        obtain ⟨rl, hrlen⟩ : ∃ o, r.length = o := ⟨_, rfl⟩
        rw [hrlen] at h1 HN cx
        have hmod : Int.tmod (rl : Int) 2 = ((rl % 2 : Nat) : Int) := by rw [Int.tmod_eq_emod_of_nonneg (by omega)]; omega
        obtain ⟨rm, hrm⟩ : ∃ o, rl % 2 = o := ⟨_, rfl⟩
        rw [hrm] at h1 HN hmod
        obtain ⟨X, hX⟩ : ∃ X : Nat, (s.nt + m : Nat) - od = X := ⟨_, rfl⟩
        have hXI : (((s.nt + m : Nat) : Int) - (od : Nat) : Int) = ((X : Nat) : Int) := by omega
        have hX2 : Hid ((((s.nt + m : Nat) : Int) - ((od + rm : Nat) : Int) : Int) = ((X : Nat) : Int) - (rm : Nat)) := Lib.hid (by omega)
        have hXb : X ≤ 200 ∧ rm ≤ X := by omega
        rw [hXI]
        clear htk hod hrlen hrr hrm hX hXI
        go_wp2
        case roundEnd =>
          exact ⟨⟨k + 1, by omega, by go_num, by rw [HN.out, hX2.out], hg⟩, by simp [intOf]; omega⟩
      · have hltI : ¬ (k : Int) < n := by omega
        have e1 : RS.take k = RS := List.take_of_length_le (by omega)
        rw [e1]
        obtain ⟨od, hod⟩ : ∃ o, oddN RS = o := ⟨_, rfl⟩
        rw [hod] at Ho HC ⊢
        have ho := Ho.out
        have hdiv : Int.tdiv (((s.nt + m : Nat) : Int) - (od : Int)) 2 = (((s.nt + m - od) / 2 : Nat) : Int) := by
          rw [Int.tdiv_eq_ediv_of_nonneg (by omega)]; omega
        obtain ⟨CN, hCN⟩ : ∃ o, (s.nt + m - od) / 2 = o := ⟨_, rfl⟩
        rw [hCN] at hdiv HC
        have hcn : CN ≤ 200 := by omega
        obtain ⟨X, hX⟩ : ∃ X : Int, ((s.nt + m : Nat) : Int) - (od : Int) = X := ⟨_, rfl⟩
        rw [hX] at hdiv ⊢
        clear hod e1 hCN hX
        go_wp2
        (refine bodyPost_ret (v := .tuple #[.int .i64 (CN : Nat), .int .i64 0]) (by simp [results, Try.results22, go_sem]) rfl ?_)
        rw [← HC.out]
        exact CutIs.ok HX.out (gW1.trans (hg.out.trans (by (repeat (first | exact World.grows.refl _ | assumption | refine World.grows.alloc ?_ _ | refine World.grows.plus ?_ _ _ | refine World.grows.drew ?_)))))
end Go.Proofs.Yteingahlmlndkaa

/-
  What is proved: Works (14) answers true.
-/
namespace Go.Proofs.Yteingahlmlndkaa
open Go.RowKit
attribute [local irreducible] Go.wpCalm rowV
theorem row_lit {W : World} {b : Nat} {c : List Int} (h : W.heap[b]? = some (.cells (c.map (Value.int .i64)).toArray 3)) (hc : c.length ≤ 1000) : IntsAt W (.slice (some ⟨b, 0, none⟩) c.length c.length) c.length (lst c) := by
  refine ⟨_, _, rfl, Nat.le_refl _, by unfold maxLen; omega, fun i j hi hj => ⟨b, 0, rfl, ?_⟩⟩
  refine cell_of_heap h ?_
  rw [show 0 + i * 1 + j = i by omega, List.getElem?_toArray, List.getElem?_map, List.getElem?_eq_getElem hi]
  show _ = some (Value.int .i64 (c.getD i 0))
  rw [List.getD_eq_getElem?_getD, List.getElem?_eq_getElem hi]
  rfl
theorem OutR.rowsN {U : World} {v : Value} {rs : List (List Nat)} {vals : List Value} (h : OutR U v rs vals) : RowsN U v rs.length (fun i => (rs.getD i []).length) (fun i => lstN (rs.getD i [])) := by
  obtain ⟨A, cap, rfl, h1, h2, -⟩ := id h
  refine ⟨fun i => vals.getD i undef, ⟨A, cap, rfl, h1, h2, fun i j hi hj => ?_⟩, fun i hi => ?_⟩
  · obtain ⟨-, b, o, x, r, hA, hc, -, -⟩ := h.row hi
    refine ⟨b, o, hA, ?_⟩
    rw [show o + i * 1 + j = o + i by omega, hc]
    obtain ⟨A', cap', he, -, -, -, h4, ⟨A2, c2, he2, -, h6⟩, -⟩ := h
    cases he
    cases he2
    obtain ⟨ad, rfl, h8⟩ := h6 (by omega)
    cases hA
    have h9 := h8 i _ (List.getElem?_eq_getElem (by omega))
    rw [add_plain, hc] at h9
    show _ = some (vals.getD i undef)
    rw [List.getD_eq_getElem?_getD, List.getElem?_eq_getElem (show i < vals.length by omega)]
    exact h9
  · obtain ⟨A', cap', he, -, -, -, h4, -, h7⟩ := h
    obtain ⟨-, r, h8, h9⟩ := h7 i _ (List.getElem?_eq_getElem (by omega))
    show IntsAt U (vals.getD i undef) (rs.getD i []).length (lstN (rs.getD i []))
    rw [List.getD_eq_getElem?_getD, List.getElem?_eq_getElem (show i < vals.length by omega), List.getD_eq_getElem?_getD, h8]
    exact h9
section
variable {X : World} {tv : Value}
theorem w_suit1 (h : StkAt X tv exS) : Calls Try.prog 15 #[tv, .int .i64 1, .int .i64 0] X fun e w' => e = .returned (.tuple #[.bool true, .int .i64 0]) ∧ X.grows w' := by
  have := suit_c X tv exS h 1 0
  rw [ex_s1, ex_e1] at this
  exact this
theorem w_suit2 (h : StkAt X tv exS) : Calls Try.prog 15 #[tv, .int .i64 3, .int .i64 6] X fun e w' => e = .returned (.tuple #[.bool false, .int .i64 0]) ∧ X.grows w' := by
  have := suit_c X tv exS h 3 6
  rw [ex_s2, ex_e2] at this
  exact this
theorem w_groups (h : StkAt X tv exS) {lv : Value} {l : List Int} {m : Nat} {R : List (List Nat)} (hl : IntsAt X lv m (lst l)) (h1 : grpOk exS (lst l) m = true) (h2 : grpL exS.adj (exF l m) 16 = R) : Calls Try.prog 17 #[tv, lv] X fun e w' => ∃ a c vals, e = .returned (.tuple #[.slice a R.length c, .int .i64 0]) ∧ OutR w' (.slice a R.length c) R vals ∧ X.grows w' := by
  refine (groups_ok X tv exS h ex_Ok lv m (lst l) hl).mono ?_
  rintro e w' ⟨g, hp⟩
  rw [if_pos h1] at hp
  obtain ⟨u, vals, rfl, hr⟩ := hp
  unfold exF at h2
  rw [h2] at hr
  obtain ⟨A, cap, rfl, -⟩ := id hr
  exact ⟨A, cap, vals, rfl, hr, g⟩
theorem w_pair (h : StkAt X tv exS) {lv : Value} {l : List Int} {E N : Nat} (hl : IntsAt X lv 7 (lst l)) (h1 : pErr exS (lst l) 7 = E ∧ pNum exS (lst l) 7 = N) : Calls Try.prog 19 #[tv, lv] X fun e w' => e = .returned (.tuple #[.int .i64 (N : Nat), .int .i64 (E : Nat)]) ∧ X.grows w' := by
  have := pairing_ok X tv exS h ex_Ok lv 7 (lst l) hl
  rw [h1.1, h1.2] at this
  exact this
theorem w_best (h : StkAt X tv exS) : Calls Try.prog 27 #[tv] X fun e w' => ∃ a c m, e = .returned (.tuple #[.slice a 7 c, .int .i64 3, .int .i64 0]) ∧ Mx exS.adj (belowN exS.nt) 16 m ∧ IntsAt w' (.slice a 7 c) 7 (mvI m) ∧ X.grows w' := by
  refine (bestF_ok X tv exS h ex_Ok).mono ?_
  rintro e w' ⟨u, m, rfl, hm, hu, g⟩
  rw [ex_nu]
  obtain ⟨a, c, rfl, -⟩ := id hu
  exact ⟨a, c, m, rfl, hm, hu, g⟩
theorem w_ccut (h : StkAt X tv exS) {lv : Value} {l : List Int} {m N : Nat} (hl : IntsAt X lv m (lst l)) (hm : m ≤ 100) (h1 : grpOk exS (lst l) m = true) (h2 : cutN exS (lst l) m = N) : Calls Try.prog 21 #[tv, lv] X fun e w' => e = .returned (.tuple #[.int .i64 (N : Nat), .int .i64 0]) ∧ X.grows w' := by
  refine (ccut_ok X tv exS h ex_Ok lv m (lst l) hl hm).mono ?_
  rintro e w' ⟨g, hp⟩
  rw [if_pos h1, h2] at hp
  exact ⟨hp, g⟩
theorem w_cut (h : StkAt X tv exS) : Calls Try.prog 28 #[tv] X fun e w' => ∃ a c Y, e = .returned (.tuple #[.slice a (filtL Y 16).length c, .int .i64 0]) ∧ IntsAt w' (.slice a (filtL Y 16).length c) (filtL Y 16).length (lstN (filtL Y 16)) ∧ (grpOk exS (lstN (filtL Y 16)) (filtL Y 16).length = true ∧ cutN exS (lstN (filtL Y 16)) (filtL Y 16).length = 3) ∧ X.grows w' := by
  refine (cut_ok X tv exS h ex_Ok).mono ?_
  rintro e w' ⟨u, Y, rfl, hu, hY, g⟩
  have h2 := cut_best (s := exS) (by decide) hY
  rw [ex_nu] at h2
  obtain ⟨a, c, rfl, -⟩ := id hu
  exact ⟨a, c, Y, rfl, hu, h2, g⟩
theorem w_rcut (h : StkAt X tv exS) {lv : Value} {L : List Nat} (hl : IntsAt X lv L.length (lstN L)) (hL : L.length ≤ 100) (h1 : grpOk exS (lstN L) L.length = true ∧ cutN exS (lstN L) L.length = 3) : Calls Try.prog 22 #[tv, lv] X fun e w' => e = .returned (.tuple #[.int .i64 3, .int .i64 0]) ∧ X.grows w' := by
  refine (rcut_ok X tv exS h ex_Ok lv _ _ hl hL).mono ?_
  rintro e w' ⟨g, hp⟩
  rw [if_pos h1.1, h1.2] at hp
  exact ⟨hp, g⟩
theorem w_rpair (h : StkAt X tv exS) {lv : Value} {m : Nat → Nat} (hl : IntsAt X lv 7 (mvI m)) (hm : Mx exS.adj (belowN exS.nt) 16 m) : Calls Try.prog 20 #[tv, lv] X fun e w' => e = .returned (.tuple #[.int .i64 3, .int .i64 0]) ∧ X.grows w' := by
  have := rpairing_ok X tv exS h ex_Ok lv 7 (mvI m) hl
  rw [show (7 : Nat) = exS.nt from rfl, hm.isM.pErr, hm.pNum (by decide), ex_nu] at this
  exact this
theorem w_kinds (h : StkAt X tv exS) : Calls Try.prog 32 #[tv] X fun e w' => ∃ a c, e = .returned (.tuple #[.slice a 7 c, .int .i64 0]) ∧ IntsAt w' (.slice a 7 c) 7 (lst [2, 1, 1, 2, 2, 2, 2]) ∧ X.grows w' := by
  refine (kinds_ok X tv exS h ex_Ok).mono ?_
  rintro e w' ⟨u, rfl, hu, g⟩
  rw [ex_kinds] at hu
  obtain ⟨a, c, rfl, h1, h2, h3⟩ := id hu
  refine ⟨a, c, rfl, ⟨a, c, rfl, h1, h2, fun i j hi hj => ?_⟩, g⟩
  obtain ⟨b, o, e1, e2⟩ := h3 i j hi hj
  refine ⟨b, o, e1, ?_⟩
  rw [e2]
  rcases (show i = 0 ∨ i = 1 ∨ i = 2 ∨ i = 3 ∨ i = 4 ∨ i = 5 ∨ i = 6 by omega) with rfl | rfl | rfl | rfl | rfl | rfl | rfl <;> rfl
theorem w_kpair (h : StkAt X tv exS) {x y : Nat} {N : Nat} (h1 : twoE exS (x : Nat) (y : Nat) = 0) (h2 : pairN exS.adj exS.nt x y = N) : Calls Try.prog 33 #[tv, .int .i64 (x : Nat), .int .i64 (y : Nat)] X fun e w' => e = .returned (.tuple #[.int .i64 (N : Nat), .int .i64 0]) ∧ X.grows w' := by
  have := pair_c X tv exS h (x : Nat) (y : Nat)
  rw [h1, if_pos rfl] at this
  simp only [Int.toNat_natCast, h2] at this
  exact this
theorem w_count (h : StkAt X tv exS) : Calls Try.prog 29 #[tv] X fun e w' => e = .returned (.tuple #[.int .i64 2, .int .i64 0]) ∧ X.grows w' := by
  have := count_ok X tv exS h ex_Ok
  rw [ex_cnt] at this
  exact this
theorem w_ints {av bv : Value} {n : Nat} {f : Nat → Int} (ha : IntsAt X av n f) (hb : IntsAt X bv n f) : Calls Try.prog 34 #[av, bv] X fun e w' => e = .returned (.bool true) ∧ X.grows w' := by
  have := ints_c X av bv n n f f ha hb
  rw [decide_eq_true rfl, show eqL f f n = true from decide_eq_true fun _ _ => rfl] at this
  exact this
theorem w_lists {av bv : Value} {R : List (List Nat)} {vals vals' : List Value} (ha : OutR X av R vals) (hb : OutR X bv R vals') : Calls Try.prog 25 #[av, bv] X fun e w' => e = .returned (.bool true) ∧ X.grows w' := by
  have := lists_c X av bv _ _ _ _ _ _ ha.rowsN hb.rowsN
  rw [decide_eq_true rfl, show (List.range R.length).all (eqR (fun i => (R.getD i []).length) (fun i => (R.getD i []).length) (fun i => lstN (R.getD i [])) (fun i => lstN (R.getD i []))) = true from List.all_eq_true.2 fun i _ => by unfold eqR eqL; simp] at this
  exact this
end
/-- rows that were written down -/
theorem rows_lit {U : World} {b : Nat} {vs : List Value} {R : List (List Nat)} (h : U.heap[b]? = some (.cells vs.toArray 26)) (hl : vs.length = R.length) (hc : R.length ≤ 1000) (hr : ∀ (i : Nat) (x : Value), vs[i]? = some x → x.oneCell' = true ∧ ∃ r, R[i]? = some r ∧ ListAt U x r) : OutR U (.slice (some ⟨b, 0, none⟩) R.length R.length) R vs :=
  ⟨_, _, rfl, Nat.le_refl _, by unfold maxLen; omega, ⟨fun h => absurd h (by simp), fun ad h _ => (by cases h; rfl)⟩, hl, ⟨_, _, rfl, by rw [hl]; simp, fun _ => ⟨_, rfl, fun j u hu => by
    rw [add_plain, Nat.zero_add]
    exact cell_of_heap h (by rw [List.getElem?_toArray]; exact hu)⟩⟩, hr⟩
theorem list_lit {W : World} {b : Nat} {L : List Nat} (h : W.heap[b]? = some (.cells (ilist L).toArray 3)) (hc : L.length ≤ 1000) : ListAt W (.slice (some ⟨b, 0, none⟩) L.length L.length) L :=
  list_block (o := 0) h (Nat.le_refl _) (by unfold maxLen; omega) fun i x hx => by
    rw [Nat.zero_add, List.getElem?_toArray]
    unfold ilist
    rw [List.getElem?_map, hx]
    rfl
theorem four_rows (U : World) : OutR (((((U.alloc (Obj.cells #[.int .i64 1] 3)).alloc (Obj.cells #[.int .i64 2] 3)).alloc (Obj.cells #[.int .i64 3, .int .i64 4] 3)).alloc (Obj.cells #[.int .i64 6] 3)).alloc
      (Obj.cells #[.slice (some ⟨U.heap.size, 0, none⟩) 1 1, .slice (some ⟨U.heap.size + 1, 0, none⟩) 1 1, .slice (some ⟨U.heap.size + 1 + 1, 0, none⟩) 2 2, .slice (some ⟨U.heap.size + 1 + 1 + 1, 0, none⟩) 1 1] 26))
    (.slice (some ⟨U.heap.size + 1 + 1 + 1 + 1, 0, none⟩) 4 4) [[1], [2], [3, 4], [6]] [.slice (some ⟨U.heap.size, 0, none⟩) 1 1, .slice (some ⟨U.heap.size + 1, 0, none⟩) 1 1, .slice (some ⟨U.heap.size + 1 + 1, 0, none⟩) 2 2, .slice (some ⟨U.heap.size + 1 + 1 + 1, 0, none⟩) 1 1] := by
  refine rows_lit (R := [[1], [2], [3, 4], [6]]) (World.heap_at _ _ _ (by simp)) rfl (by decide) fun i x hx => ?_
  rcases (show i = 0 ∨ i = 1 ∨ i = 2 ∨ i = 3 ∨ 4 ≤ i by omega) with rfl | rfl | rfl | rfl | h4
  · cases hx
    exact ⟨rfl, [1], rfl, list_lit (L := [1]) (alloc_old (alloc_old (alloc_old (alloc_old (World.heap_at U _ _ rfl))))) (by decide)⟩
  · cases hx
    exact ⟨rfl, [2], rfl, list_lit (L := [2]) (alloc_old (alloc_old (alloc_old (World.heap_at _ _ _ (by simp))))) (by decide)⟩
  · cases hx
    exact ⟨rfl, [3, 4], rfl, list_lit (L := [3, 4]) (alloc_old (alloc_old (World.heap_at _ _ _ (by simp)))) (by decide)⟩
  · cases hx
    exact ⟨rfl, [6], rfl, list_lit (L := [6]) (alloc_old (World.heap_at _ _ _ (by simp))) (by decide)⟩
  · have := (List.getElem?_eq_some_iff.1 hx).1
    simp at this
    omega
set_option maxRecDepth 100000 in
set_option maxHeartbeats 16000000 in
theorem works_c (w : World) : Calls Try.prog 14 #[] w fun e w' => e = .returned (.bool true) ∧ w.grows w' := by
  go_enter Try.func14, Try.ntmps14
  go_wp2_with (go_at_call 99; fail)
  refine (stock_c _).mono ?_
  rintro e W1 ⟨tv, rfl, hT, g⟩
  have G : Hid (w.grows W1) := Lib.hid (World.grows.trans (by (repeat (first | exact World.grows.refl _ | assumption | refine World.grows.alloc ?_ _ | refine World.grows.plus ?_ _ _ | refine World.grows.drew ?_))) g)
  have HT := Lib.hid hT
  obtain ⟨sv, vv, rfl, ⟨sa, sc, rfl, -⟩, ⟨va, vc, rfl, -⟩⟩ := hT
  obtain ⟨N1, hN1⟩ : ∃ N, exS.nt = N := ⟨_, rfl⟩
  obtain ⟨N2, hN2⟩ : ∃ N, exS.nm = N := ⟨_, rfl⟩
  obtain ⟨P, hP⟩ : ∃ P, exS.wide = P := ⟨_, rfl⟩
  rw [hP, hN1, hN2] at HT ⊢
  clear g hP hN1 hN2
  go_wp2_with (go_at_call 99; fail)
  have HB : Hid ((W1.alloc (.cells #[.slice sa N1 sc, .slice va N2 vc, .int .i64 P] 25)).heap[W1.heap.size]? = some (.cells #[.slice sa N1 sc, .slice va N2 vc, .int .i64 P] 25)) := Lib.hid (World.heap_at _ _ _ rfl)
  have HW : Hid (W1.grows (W1.alloc (.cells #[.slice sa N1 sc, .slice va N2 vc, .int .i64 P] 25))) := Lib.hid (by (repeat (first | exact World.grows.refl _ | assumption | refine World.grows.alloc ?_ _ | refine World.grows.plus ?_ _ _ | refine World.grows.drew ?_)))
  have q0 := cell_of_heap (i := 0) HB.out rfl
  have q1 := cell_of_heap (i := 1) HB.out rfl
  have q2 := cell_of_heap (i := 2) HB.out rfl
  refine (w_suit1 (HT.out.mono (HW.out.trans (by (repeat (first | exact World.grows.refl _ | assumption | refine World.grows.alloc ?_ _ | refine World.grows.plus ?_ _ _ | refine World.grows.drew ?_)))))).mono ?_
  rintro e U ⟨rfl, g⟩
  replace HW := Lib.hid (HW.out.trans (World.grows.trans (by (repeat (first | exact World.grows.refl _ | assumption | refine World.grows.alloc ?_ _ | refine World.grows.plus ?_ _ _ | refine World.grows.drew ?_))) g)); replace HB := Lib.hid (g.heap_of (World.grows.heap_of (by (repeat (first | exact World.grows.refl _ | assumption | refine World.grows.alloc ?_ _ | refine World.grows.plus ?_ _ _ | refine World.grows.drew ?_))) HB.out)); replace q0 := cell_of_heap (i := 0) HB.out rfl; replace q1 := cell_of_heap (i := 1) HB.out rfl; replace q2 := cell_of_heap (i := 2) HB.out rfl
  clear g
  go_wp2_with (go_at_call 99; fail)
  refine (w_suit2 (HT.out.mono (HW.out.trans (by (repeat (first | exact World.grows.refl _ | assumption | refine World.grows.alloc ?_ _ | refine World.grows.plus ?_ _ _ | refine World.grows.drew ?_)))))).mono ?_
  rintro e U1 ⟨rfl, g⟩
  replace HW := Lib.hid (HW.out.trans (World.grows.trans (by (repeat (first | exact World.grows.refl _ | assumption | refine World.grows.alloc ?_ _ | refine World.grows.plus ?_ _ _ | refine World.grows.drew ?_))) g)); replace HB := Lib.hid (g.heap_of (World.grows.heap_of (by (repeat (first | exact World.grows.refl _ | assumption | refine World.grows.alloc ?_ _ | refine World.grows.plus ?_ _ _ | refine World.grows.drew ?_))) HB.out)); replace q0 := cell_of_heap (i := 0) HB.out rfl; replace q1 := cell_of_heap (i := 1) HB.out rfl; replace q2 := cell_of_heap (i := 2) HB.out rfl
  clear g
  go_wp2_with (go_at_call 99; fail)
  refine (w_groups (HT.out.mono (HW.out.trans (by (repeat (first | exact World.grows.refl _ | assumption | refine World.grows.alloc ?_ _ | refine World.grows.plus ?_ _ _ | refine World.grows.drew ?_))))) (m := 2) (l := [0, 5]) (row_lit (c := [0, 5]) (World.heap_at U1 _ _ rfl) (by decide)) ex_ok05 ex_g05).mono ?_
  rintro e U2 ⟨ga, gc, gv, rfl, hR, g⟩
  have HR := Lib.hid hR
  replace HW := Lib.hid (HW.out.trans (World.grows.trans (by (repeat (first | exact World.grows.refl _ | assumption | refine World.grows.alloc ?_ _ | refine World.grows.plus ?_ _ _ | refine World.grows.drew ?_))) g)); replace HB := Lib.hid (g.heap_of (World.grows.heap_of (by (repeat (first | exact World.grows.refl _ | assumption | refine World.grows.alloc ?_ _ | refine World.grows.plus ?_ _ _ | refine World.grows.drew ?_))) HB.out)); replace q0 := cell_of_heap (i := 0) HB.out rfl; replace q1 := cell_of_heap (i := 1) HB.out rfl; replace q2 := cell_of_heap (i := 2) HB.out rfl
  clear g hR
  go_wp2_with (go_at_call 99; fail)
  refine (w_pair (HT.out.mono (HW.out.trans (by (repeat (first | exact World.grows.refl _ | assumption | refine World.grows.alloc ?_ _ | refine World.grows.plus ?_ _ _ | refine World.grows.drew ?_))))) (l := [1, 0, -1, 4, 3, 6, 5]) (row_lit (c := [1, 0, -1, 4, 3, 6, 5]) (World.heap_at U2 _ _ rfl) (by decide)) ex_p1).mono ?_
  rintro e U3 ⟨rfl, g⟩
  replace HR := Lib.hid (HR.out.grow (World.grows.trans (by (repeat (first | exact World.grows.refl _ | assumption | refine World.grows.alloc ?_ _ | refine World.grows.plus ?_ _ _ | refine World.grows.drew ?_))) g))
  replace HW := Lib.hid (HW.out.trans (World.grows.trans (by (repeat (first | exact World.grows.refl _ | assumption | refine World.grows.alloc ?_ _ | refine World.grows.plus ?_ _ _ | refine World.grows.drew ?_))) g)); replace HB := Lib.hid (g.heap_of (World.grows.heap_of (by (repeat (first | exact World.grows.refl _ | assumption | refine World.grows.alloc ?_ _ | refine World.grows.plus ?_ _ _ | refine World.grows.drew ?_))) HB.out)); replace q0 := cell_of_heap (i := 0) HB.out rfl; replace q1 := cell_of_heap (i := 1) HB.out rfl; replace q2 := cell_of_heap (i := 2) HB.out rfl
  clear g
  go_wp2_with (go_at_call 99; fail)
  refine (w_pair (HT.out.mono (HW.out.trans (by (repeat (first | exact World.grows.refl _ | assumption | refine World.grows.alloc ?_ _ | refine World.grows.plus ?_ _ _ | refine World.grows.drew ?_))))) (l := [1, 2, 0, -1, -1, -1, -1]) (row_lit (c := [1, 2, 0, -1, -1, -1, -1]) (World.heap_at U3 _ _ rfl) (by decide)) ex_p2).mono ?_
  rintro e U4 ⟨rfl, g⟩
  replace HR := Lib.hid (HR.out.grow (World.grows.trans (by (repeat (first | exact World.grows.refl _ | assumption | refine World.grows.alloc ?_ _ | refine World.grows.plus ?_ _ _ | refine World.grows.drew ?_))) g))
  replace HW := Lib.hid (HW.out.trans (World.grows.trans (by (repeat (first | exact World.grows.refl _ | assumption | refine World.grows.alloc ?_ _ | refine World.grows.plus ?_ _ _ | refine World.grows.drew ?_))) g)); replace HB := Lib.hid (g.heap_of (World.grows.heap_of (by (repeat (first | exact World.grows.refl _ | assumption | refine World.grows.alloc ?_ _ | refine World.grows.plus ?_ _ _ | refine World.grows.drew ?_))) HB.out)); replace q0 := cell_of_heap (i := 0) HB.out rfl; replace q1 := cell_of_heap (i := 1) HB.out rfl; replace q2 := cell_of_heap (i := 2) HB.out rfl
  clear g
  go_wp2_with (go_at_call 99; fail)
  refine (w_best (HT.out.mono (HW.out.trans (by (repeat (first | exact World.grows.refl _ | assumption | refine World.grows.alloc ?_ _ | refine World.grows.plus ?_ _ _ | refine World.grows.drew ?_)))))).mono ?_
  rintro e U5 ⟨ba, bc, bm, rfl, hM, hP, g⟩
  have HM := Lib.hid hM
  have HP := Lib.hid hP
  replace HR := Lib.hid (HR.out.grow (World.grows.trans (by (repeat (first | exact World.grows.refl _ | assumption | refine World.grows.alloc ?_ _ | refine World.grows.plus ?_ _ _ | refine World.grows.drew ?_))) g))
  replace HW := Lib.hid (HW.out.trans (World.grows.trans (by (repeat (first | exact World.grows.refl _ | assumption | refine World.grows.alloc ?_ _ | refine World.grows.plus ?_ _ _ | refine World.grows.drew ?_))) g)); replace HB := Lib.hid (g.heap_of (World.grows.heap_of (by (repeat (first | exact World.grows.refl _ | assumption | refine World.grows.alloc ?_ _ | refine World.grows.plus ?_ _ _ | refine World.grows.drew ?_))) HB.out)); replace q0 := cell_of_heap (i := 0) HB.out rfl; replace q1 := cell_of_heap (i := 1) HB.out rfl; replace q2 := cell_of_heap (i := 2) HB.out rfl
  clear g hM hP
  go_wp2_with (go_at_call 99; fail)
  refine (w_ccut (HT.out.mono (HW.out.trans (by (repeat (first | exact World.grows.refl _ | assumption | refine World.grows.alloc ?_ _ | refine World.grows.plus ?_ _ _ | refine World.grows.drew ?_))))) (l := [1]) (row_lit (c := [1]) (World.heap_at U5 _ _ rfl) (by decide)) (by decide) ex_ok1 ex_c1).mono ?_
  rintro e U6 ⟨rfl, g⟩
  replace HR := Lib.hid (HR.out.grow (World.grows.trans (by (repeat (first | exact World.grows.refl _ | assumption | refine World.grows.alloc ?_ _ | refine World.grows.plus ?_ _ _ | refine World.grows.drew ?_))) g))
  replace HP := Lib.hid (IntsAt.mono HP.out (World.grows.trans (by (repeat (first | exact World.grows.refl _ | assumption | refine World.grows.alloc ?_ _ | refine World.grows.plus ?_ _ _ | refine World.grows.drew ?_))) g))
  replace HW := Lib.hid (HW.out.trans (World.grows.trans (by (repeat (first | exact World.grows.refl _ | assumption | refine World.grows.alloc ?_ _ | refine World.grows.plus ?_ _ _ | refine World.grows.drew ?_))) g)); replace HB := Lib.hid (g.heap_of (World.grows.heap_of (by (repeat (first | exact World.grows.refl _ | assumption | refine World.grows.alloc ?_ _ | refine World.grows.plus ?_ _ _ | refine World.grows.drew ?_))) HB.out)); replace q0 := cell_of_heap (i := 0) HB.out rfl; replace q1 := cell_of_heap (i := 1) HB.out rfl; replace q2 := cell_of_heap (i := 2) HB.out rfl
  clear g
  go_wp2_with (go_at_call 99; fail)
  refine (w_ccut (HT.out.mono (HW.out.trans (by (repeat (first | exact World.grows.refl _ | assumption | refine World.grows.alloc ?_ _ | refine World.grows.plus ?_ _ _ | refine World.grows.drew ?_))))) (l := [0, 5]) (row_lit (c := [0, 5]) (World.heap_at U6 _ _ rfl) (by decide)) (by decide) ex_ok05 ex_c05).mono ?_
  rintro e U7 ⟨rfl, g⟩
  replace HR := Lib.hid (HR.out.grow (World.grows.trans (by (repeat (first | exact World.grows.refl _ | assumption | refine World.grows.alloc ?_ _ | refine World.grows.plus ?_ _ _ | refine World.grows.drew ?_))) g))
  replace HP := Lib.hid (IntsAt.mono HP.out (World.grows.trans (by (repeat (first | exact World.grows.refl _ | assumption | refine World.grows.alloc ?_ _ | refine World.grows.plus ?_ _ _ | refine World.grows.drew ?_))) g))
  replace HW := Lib.hid (HW.out.trans (World.grows.trans (by (repeat (first | exact World.grows.refl _ | assumption | refine World.grows.alloc ?_ _ | refine World.grows.plus ?_ _ _ | refine World.grows.drew ?_))) g)); replace HB := Lib.hid (g.heap_of (World.grows.heap_of (by (repeat (first | exact World.grows.refl _ | assumption | refine World.grows.alloc ?_ _ | refine World.grows.plus ?_ _ _ | refine World.grows.drew ?_))) HB.out)); replace q0 := cell_of_heap (i := 0) HB.out rfl; replace q1 := cell_of_heap (i := 1) HB.out rfl; replace q2 := cell_of_heap (i := 2) HB.out rfl
  clear g
  go_wp2_with (go_at_call 99; fail)
  refine (w_cut (HT.out.mono (HW.out.trans (by (repeat (first | exact World.grows.refl _ | assumption | refine World.grows.alloc ?_ _ | refine World.grows.plus ?_ _ _ | refine World.grows.drew ?_)))))).mono ?_
  rintro e U8 ⟨ca, cc, Y, rfl, hC, hY, g⟩
  have HY := Lib.hid hY
  have HC := Lib.hid hC
  obtain ⟨YL, hYL⟩ : ∃ L, filtL Y 16 = L := ⟨_, rfl⟩
  have hYlen : Hid (YL.length ≤ 100) := Lib.hid (by rw [← hYL]; exact Nat.le_trans (filtL_len Y 16) (by omega))
  rw [hYL] at HY HC ⊢
  replace HR := Lib.hid (HR.out.grow (World.grows.trans (by (repeat (first | exact World.grows.refl _ | assumption | refine World.grows.alloc ?_ _ | refine World.grows.plus ?_ _ _ | refine World.grows.drew ?_))) g))
  replace HP := Lib.hid (IntsAt.mono HP.out (World.grows.trans (by (repeat (first | exact World.grows.refl _ | assumption | refine World.grows.alloc ?_ _ | refine World.grows.plus ?_ _ _ | refine World.grows.drew ?_))) g))
  replace HW := Lib.hid (HW.out.trans (World.grows.trans (by (repeat (first | exact World.grows.refl _ | assumption | refine World.grows.alloc ?_ _ | refine World.grows.plus ?_ _ _ | refine World.grows.drew ?_))) g)); replace HB := Lib.hid (g.heap_of (World.grows.heap_of (by (repeat (first | exact World.grows.refl _ | assumption | refine World.grows.alloc ?_ _ | refine World.grows.plus ?_ _ _ | refine World.grows.drew ?_))) HB.out)); replace q0 := cell_of_heap (i := 0) HB.out rfl; replace q1 := cell_of_heap (i := 1) HB.out rfl; replace q2 := cell_of_heap (i := 2) HB.out rfl
  clear g hC hY hYL
  go_wp2_with (go_at_call 99; fail)
  refine (w_kinds (HT.out.mono (HW.out.trans (by (repeat (first | exact World.grows.refl _ | assumption | refine World.grows.alloc ?_ _ | refine World.grows.plus ?_ _ _ | refine World.grows.drew ?_)))))).mono ?_
  rintro e U9 ⟨ka, kc, rfl, hK, g⟩
  have HK := Lib.hid hK
  replace HR := Lib.hid (HR.out.grow (World.grows.trans (by (repeat (first | exact World.grows.refl _ | assumption | refine World.grows.alloc ?_ _ | refine World.grows.plus ?_ _ _ | refine World.grows.drew ?_))) g))
  replace HP := Lib.hid (IntsAt.mono HP.out (World.grows.trans (by (repeat (first | exact World.grows.refl _ | assumption | refine World.grows.alloc ?_ _ | refine World.grows.plus ?_ _ _ | refine World.grows.drew ?_))) g))
  replace HC := Lib.hid (IntsAt.mono HC.out (World.grows.trans (by (repeat (first | exact World.grows.refl _ | assumption | refine World.grows.alloc ?_ _ | refine World.grows.plus ?_ _ _ | refine World.grows.drew ?_))) g))
  replace HW := Lib.hid (HW.out.trans (World.grows.trans (by (repeat (first | exact World.grows.refl _ | assumption | refine World.grows.alloc ?_ _ | refine World.grows.plus ?_ _ _ | refine World.grows.drew ?_))) g)); replace HB := Lib.hid (g.heap_of (World.grows.heap_of (by (repeat (first | exact World.grows.refl _ | assumption | refine World.grows.alloc ?_ _ | refine World.grows.plus ?_ _ _ | refine World.grows.drew ?_))) HB.out)); replace q0 := cell_of_heap (i := 0) HB.out rfl; replace q1 := cell_of_heap (i := 1) HB.out rfl; replace q2 := cell_of_heap (i := 2) HB.out rfl
  clear g hK
  go_wp2_with (go_at_call 99; fail)
  refine (w_kpair (HT.out.mono (HW.out.trans (by (repeat (first | exact World.grows.refl _ | assumption | refine World.grows.alloc ?_ _ | refine World.grows.plus ?_ _ _ | refine World.grows.drew ?_))))) (x := 0) (y := 1) (by decide +kernel) ex_pair1).mono ?_
  rintro e U10 ⟨rfl, g⟩
  replace HR := Lib.hid (HR.out.grow (World.grows.trans (by (repeat (first | exact World.grows.refl _ | assumption | refine World.grows.alloc ?_ _ | refine World.grows.plus ?_ _ _ | refine World.grows.drew ?_))) g))
  replace HP := Lib.hid (IntsAt.mono HP.out (World.grows.trans (by (repeat (first | exact World.grows.refl _ | assumption | refine World.grows.alloc ?_ _ | refine World.grows.plus ?_ _ _ | refine World.grows.drew ?_))) g))
  replace HC := Lib.hid (IntsAt.mono HC.out (World.grows.trans (by (repeat (first | exact World.grows.refl _ | assumption | refine World.grows.alloc ?_ _ | refine World.grows.plus ?_ _ _ | refine World.grows.drew ?_))) g))
  replace HK := Lib.hid (IntsAt.mono HK.out (World.grows.trans (by (repeat (first | exact World.grows.refl _ | assumption | refine World.grows.alloc ?_ _ | refine World.grows.plus ?_ _ _ | refine World.grows.drew ?_))) g))
  replace HW := Lib.hid (HW.out.trans (World.grows.trans (by (repeat (first | exact World.grows.refl _ | assumption | refine World.grows.alloc ?_ _ | refine World.grows.plus ?_ _ _ | refine World.grows.drew ?_))) g)); replace HB := Lib.hid (g.heap_of (World.grows.heap_of (by (repeat (first | exact World.grows.refl _ | assumption | refine World.grows.alloc ?_ _ | refine World.grows.plus ?_ _ _ | refine World.grows.drew ?_))) HB.out)); replace q0 := cell_of_heap (i := 0) HB.out rfl; replace q1 := cell_of_heap (i := 1) HB.out rfl; replace q2 := cell_of_heap (i := 2) HB.out rfl
  clear g
  go_wp2_with (go_at_call 99; fail)
  refine (w_kpair (HT.out.mono (HW.out.trans (by (repeat (first | exact World.grows.refl _ | assumption | refine World.grows.alloc ?_ _ | refine World.grows.plus ?_ _ _ | refine World.grows.drew ?_))))) (x := 3) (y := 4) (by decide +kernel) ex_pair2).mono ?_
  rintro e U11 ⟨rfl, g⟩
  replace HR := Lib.hid (HR.out.grow (World.grows.trans (by (repeat (first | exact World.grows.refl _ | assumption | refine World.grows.alloc ?_ _ | refine World.grows.plus ?_ _ _ | refine World.grows.drew ?_))) g))
  replace HP := Lib.hid (IntsAt.mono HP.out (World.grows.trans (by (repeat (first | exact World.grows.refl _ | assumption | refine World.grows.alloc ?_ _ | refine World.grows.plus ?_ _ _ | refine World.grows.drew ?_))) g))
  replace HC := Lib.hid (IntsAt.mono HC.out (World.grows.trans (by (repeat (first | exact World.grows.refl _ | assumption | refine World.grows.alloc ?_ _ | refine World.grows.plus ?_ _ _ | refine World.grows.drew ?_))) g))
  replace HK := Lib.hid (IntsAt.mono HK.out (World.grows.trans (by (repeat (first | exact World.grows.refl _ | assumption | refine World.grows.alloc ?_ _ | refine World.grows.plus ?_ _ _ | refine World.grows.drew ?_))) g))
  replace HW := Lib.hid (HW.out.trans (World.grows.trans (by (repeat (first | exact World.grows.refl _ | assumption | refine World.grows.alloc ?_ _ | refine World.grows.plus ?_ _ _ | refine World.grows.drew ?_))) g)); replace HB := Lib.hid (g.heap_of (World.grows.heap_of (by (repeat (first | exact World.grows.refl _ | assumption | refine World.grows.alloc ?_ _ | refine World.grows.plus ?_ _ _ | refine World.grows.drew ?_))) HB.out)); replace q0 := cell_of_heap (i := 0) HB.out rfl; replace q1 := cell_of_heap (i := 1) HB.out rfl; replace q2 := cell_of_heap (i := 2) HB.out rfl
  clear g
  go_wp2_with (go_at_call 99; fail)
  refine (w_count (HT.out.mono (HW.out.trans (by (repeat (first | exact World.grows.refl _ | assumption | refine World.grows.alloc ?_ _ | refine World.grows.plus ?_ _ _ | refine World.grows.drew ?_)))))).mono ?_
  rintro e U12 ⟨rfl, g⟩
  replace HR := Lib.hid (HR.out.grow (World.grows.trans (by (repeat (first | exact World.grows.refl _ | assumption | refine World.grows.alloc ?_ _ | refine World.grows.plus ?_ _ _ | refine World.grows.drew ?_))) g))
  replace HP := Lib.hid (IntsAt.mono HP.out (World.grows.trans (by (repeat (first | exact World.grows.refl _ | assumption | refine World.grows.alloc ?_ _ | refine World.grows.plus ?_ _ _ | refine World.grows.drew ?_))) g))
  replace HC := Lib.hid (IntsAt.mono HC.out (World.grows.trans (by (repeat (first | exact World.grows.refl _ | assumption | refine World.grows.alloc ?_ _ | refine World.grows.plus ?_ _ _ | refine World.grows.drew ?_))) g))
  replace HK := Lib.hid (IntsAt.mono HK.out (World.grows.trans (by (repeat (first | exact World.grows.refl _ | assumption | refine World.grows.alloc ?_ _ | refine World.grows.plus ?_ _ _ | refine World.grows.drew ?_))) g))
  replace HW := Lib.hid (HW.out.trans (World.grows.trans (by (repeat (first | exact World.grows.refl _ | assumption | refine World.grows.alloc ?_ _ | refine World.grows.plus ?_ _ _ | refine World.grows.drew ?_))) g)); replace HB := Lib.hid (g.heap_of (World.grows.heap_of (by (repeat (first | exact World.grows.refl _ | assumption | refine World.grows.alloc ?_ _ | refine World.grows.plus ?_ _ _ | refine World.grows.drew ?_))) HB.out)); replace q0 := cell_of_heap (i := 0) HB.out rfl; replace q1 := cell_of_heap (i := 1) HB.out rfl; replace q2 := cell_of_heap (i := 2) HB.out rfl
  clear g
  go_wp2_with (go_at_call 99; fail)
  refine (w_rpair (HT.out.mono (HW.out.trans (by (repeat (first | exact World.grows.refl _ | assumption | refine World.grows.alloc ?_ _ | refine World.grows.plus ?_ _ _ | refine World.grows.drew ?_))))) (IntsAt.mono HP.out (by (repeat (first | exact World.grows.refl _ | assumption | refine World.grows.alloc ?_ _ | refine World.grows.plus ?_ _ _ | refine World.grows.drew ?_)))) HM.out).mono ?_
  rintro e U13 ⟨rfl, g⟩
  replace HR := Lib.hid (HR.out.grow (World.grows.trans (by (repeat (first | exact World.grows.refl _ | assumption | refine World.grows.alloc ?_ _ | refine World.grows.plus ?_ _ _ | refine World.grows.drew ?_))) g))
  replace HC := Lib.hid (IntsAt.mono HC.out (World.grows.trans (by (repeat (first | exact World.grows.refl _ | assumption | refine World.grows.alloc ?_ _ | refine World.grows.plus ?_ _ _ | refine World.grows.drew ?_))) g))
  replace HK := Lib.hid (IntsAt.mono HK.out (World.grows.trans (by (repeat (first | exact World.grows.refl _ | assumption | refine World.grows.alloc ?_ _ | refine World.grows.plus ?_ _ _ | refine World.grows.drew ?_))) g))
  replace HW := Lib.hid (HW.out.trans (World.grows.trans (by (repeat (first | exact World.grows.refl _ | assumption | refine World.grows.alloc ?_ _ | refine World.grows.plus ?_ _ _ | refine World.grows.drew ?_))) g)); replace HB := Lib.hid (g.heap_of (World.grows.heap_of (by (repeat (first | exact World.grows.refl _ | assumption | refine World.grows.alloc ?_ _ | refine World.grows.plus ?_ _ _ | refine World.grows.drew ?_))) HB.out)); replace q0 := cell_of_heap (i := 0) HB.out rfl; replace q1 := cell_of_heap (i := 1) HB.out rfl; replace q2 := cell_of_heap (i := 2) HB.out rfl
  clear g HP HM
  go_wp2_with (go_at_call 99; fail)
  refine (w_rcut (HT.out.mono (HW.out.trans (by (repeat (first | exact World.grows.refl _ | assumption | refine World.grows.alloc ?_ _ | refine World.grows.plus ?_ _ _ | refine World.grows.drew ?_))))) (IntsAt.mono HC.out (by (repeat (first | exact World.grows.refl _ | assumption | refine World.grows.alloc ?_ _ | refine World.grows.plus ?_ _ _ | refine World.grows.drew ?_)))) hYlen.out HY.out).mono ?_
  rintro e U14 ⟨rfl, g⟩
  replace HR := Lib.hid (HR.out.grow (World.grows.trans (by (repeat (first | exact World.grows.refl _ | assumption | refine World.grows.alloc ?_ _ | refine World.grows.plus ?_ _ _ | refine World.grows.drew ?_))) g))
  replace HK := Lib.hid (IntsAt.mono HK.out (World.grows.trans (by (repeat (first | exact World.grows.refl _ | assumption | refine World.grows.alloc ?_ _ | refine World.grows.plus ?_ _ _ | refine World.grows.drew ?_))) g))
  replace HW := Lib.hid (HW.out.trans (World.grows.trans (by (repeat (first | exact World.grows.refl _ | assumption | refine World.grows.alloc ?_ _ | refine World.grows.plus ?_ _ _ | refine World.grows.drew ?_))) g)); replace HB := Lib.hid (g.heap_of (World.grows.heap_of (by (repeat (first | exact World.grows.refl _ | assumption | refine World.grows.alloc ?_ _ | refine World.grows.plus ?_ _ _ | refine World.grows.drew ?_))) HB.out)); replace q0 := cell_of_heap (i := 0) HB.out rfl; replace q1 := cell_of_heap (i := 1) HB.out rfl; replace q2 := cell_of_heap (i := 2) HB.out rfl
  clear g HC HY hYlen
  go_wp2_with (go_at_call 99; fail)
  refine (w_lists (HR.out.grow (by (repeat (first | exact World.grows.refl _ | assumption | refine World.grows.alloc ?_ _ | refine World.grows.plus ?_ _ _ | refine World.grows.drew ?_)))) (four_rows U14)).mono ?_
  rintro e U15 ⟨rfl, g⟩
  replace HK := Lib.hid (IntsAt.mono HK.out (World.grows.trans (by (repeat (first | exact World.grows.refl _ | assumption | refine World.grows.alloc ?_ _ | refine World.grows.plus ?_ _ _ | refine World.grows.drew ?_))) g))
  replace G := Lib.hid (G.out.trans (HW.out.trans (World.grows.trans (by (repeat (first | exact World.grows.refl _ | assumption | refine World.grows.alloc ?_ _ | refine World.grows.plus ?_ _ _ | refine World.grows.drew ?_))) g)))
  clear g HR HW HB HT q0 q1 q2
  go_wp2_with (go_at_call 99; fail)
  refine (w_ints (IntsAt.mono HK.out (by (repeat (first | exact World.grows.refl _ | assumption | refine World.grows.alloc ?_ _ | refine World.grows.plus ?_ _ _ | refine World.grows.drew ?_)))) (row_lit (c := [2, 1, 1, 2, 2, 2, 2]) (World.heap_at U15 _ _ rfl) (by decide))).mono ?_
  rintro e U16 ⟨rfl, g⟩
  have G9 : w.grows U16 := G.out.trans (World.grows.trans (by (repeat (first | exact World.grows.refl _ | assumption | refine World.grows.alloc ?_ _ | refine World.grows.plus ?_ _ _ | refine World.grows.drew ?_))) g)
  clear g HK G
  go_wp2
  (refine bodyPost_ret (v := .bool true) (by simp [results, Try.results14, go_sem]) rfl ?_)
  exact ⟨rfl, G9.trans (by (repeat (first | exact World.grows.refl _ | assumption | refine World.grows.alloc ?_ _ | refine World.grows.plus ?_ _ _ | refine World.grows.drew ?_)))⟩
end Go.Proofs.Yteingahlmlndkaa

