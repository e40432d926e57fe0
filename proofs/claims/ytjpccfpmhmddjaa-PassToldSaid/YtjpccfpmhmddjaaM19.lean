/-
  What is proved: plain words for PassTold.
-/
import Derived.Test.YtjpccfpmhmddjaaM15
import Derived.Test.YtjpccfpmhmddjaaM5
import Derived.Test.YtjpccfpmhmddjaaM4
import Derived.Test.YtjpccfpmhmddjaaM8
import Derived.Test.YtjpccfpmhmddjaaM18
import Derived.Test.YtjpccfpmhmddjaaM14
set_option linter.all false
namespace Go.Proofs.Ytjpccfpmhmddjaa
open Go.RowKit

theorem least_or (q : Nat → Bool) (m : Nat) : (∀ i, i < m → q i = false) ∨ ∃ k, k < m ∧ q k = true ∧ ∀ i, i < k → q i = false := by
  induction m with
  | zero => exact .inl fun i hi => absurd hi (by omega)
  | succ m ih =>
    rcases ih with h | ⟨k, hk, h1, h2⟩
    · by_cases hm : q m = true
      · exact .inr ⟨m, by omega, hm, h⟩
      · left
        intro i hi
        rcases Nat.lt_or_ge i m with h3 | h3
        · exact h i h3
        · have : i = m := by omega
          subst this
          simpa using hm
    · exact .inr ⟨k, by omega, h1, h2⟩
/-- what Blue answers for an order that is right -/
theorem Job.blue_told {J : Job} {m : Nat} {f : Nat → Int} {l : Int} (h : J.followErr m f = 0) :
    (J.blueErr m f l = 5 ∧ J.blueAns m f l = 0 ∧ ∀ i, i < m → J.hotAt (natOf f) i ≤ l) ∨
    ∃ k : Nat, k < m ∧ J.blueErr m f l = 0 ∧ J.blueAns m f l = k ∧ l < J.hotAt (natOf f) k ∧ ∀ i, i < k → J.hotAt (natOf f) i ≤ l := by
  rcases least_or (J.blueQ f l) m with h1 | ⟨k, hk, h1, h2⟩
  · left
    have hi : J.blueIdx m f l = -1 := fstIdx_none _ _ h1
    obtain ⟨e1, e2⟩ := Job.blue_none (l := l) h (by rw [hi]; omega)
    refine ⟨e1, e2, fun i hi => ?_⟩
    have := h1 i hi
    unfold Job.blueQ at this
    simpa using this
  · right
    have hi : J.blueIdx m f l = k := fstIdx_at _ _ _ hk h2 h1
    obtain ⟨e1, e2⟩ := Job.blue_ok (l := l) h (by rw [hi]; omega)
    refine ⟨k, hk, e1, by rw [e2, hi], ?_, fun i hik => ?_⟩
    · unfold Job.blueQ at h1; simpa using h1
    · have := h2 i hik
      unfold Job.blueQ at this
      simpa using this
/-- the heat of a place that is handed over as numbers -/
theorem Job.heat_at {J : Job} (hc : J.check = 0) {p : Nat → Nat} (hp : J.In p) : J.heatErr J.n (fun i => (p i : Nat)) = 0 ∧ J.heatAns J.n (fun i => (p i : Nat)) = J.heat p := by
  have e0 : J.posErr J.n (fun i => (p i : Nat)) = 0 := Job.posErr_ok fun i hi => by have := hp.le i hi; omega
  have e1 : J.heatErr J.n (fun i => (p i : Nat)) = 0 := by unfold Job.heatErr; rw [if_pos hc, e0]
  refine ⟨e1, ?_⟩
  have e2 : J.posP J.n (fun i => (p i : Nat)) = p := by
    obtain ⟨h1, h2, h3⟩ := Job.posP_In e0
    funext i
    rcases Nat.lt_or_ge i J.n with hi | hi
    · have := h3 i hi; omega
    · rw [h2 i hi, hp.out i hi]
  unfold Job.heatAns
  rw [if_pos e1, e2]
/-- the greatest of the first heats as the law keeps it -/
def mostN (h : Nat → Int) : Nat → Int
  | 0 => 0
  | k + 1 => if k = 0 ∨ mostN h k < h k then h k else mostN h k
theorem mostN_max (h : Nat → Int) : ∀ m, 1 ≤ m → mostN h m = maxN h m
  | 0, hm => by omega
  | m + 1, _ => by
    by_cases h0 : m = 0
    · subst h0; simp [mostN, maxN]
    · have ih := mostN_max h m (by omega)
      simp only [mostN, maxN]
      rw [ih]
      split
      · rename_i hc; omega
      · rename_i hc; omega
theorem Job.OrdOk.walkIn {J : Job} {m : Nat} {g : Nat → Nat} (h : J.OrdOk m g) {k : Nat} (hk : k ≤ m) : J.In (walkP g k) :=
  ⟨fun r hr => by rw [← h.all r hr]; exact walkP_mono r m k hk, fun r hr => walkP_out k (fun i hi => h.lt i (by omega)) r hr⟩
end Go.Proofs.Ytjpccfpmhmddjaa

/-
  What is proved: PassTold returns true (the walk).
-/
namespace Go.Proofs.Ytjpccfpmhmddjaa
open Go.RowKit
attribute [local irreducible] Go.wpCalm

set_option maxRecDepth 100000 in
set_option maxHeartbeats 16000000 in
theorem told_w (w : World) (v : Value) (J : Job) (hv : RawAt w v J) (bv : Value) (mb : Nat) (fb : Nat → Int) (hb : NumsAt .u8 w bv mb fb) (hfb0 : ∀ i, i < mb → 0 ≤ fb i ∧ fb i ≤ 255) (l : Int) :
    Calls Try.prog 9 #[v, bv, .int .i64 l] w fun e w' => e = .returned (.bool true) ∧ w.grows w' := by
  obtain ⟨rv, row, rfl, hs, hr⟩ := hv
  have Hv := Lib.hid (show RawAt w (.agg #[.int .i64 J.start, rv]) J from ⟨rv, row, rfl, hs, hr⟩)
  have HX := Lib.hid (BoxAt.start (w := w) (rv := rv) (J := J) ⟨rv, row, rfl, hs, hr⟩)
  have hg0 : w.grows (w.alloc (.cells #[.int .i64 J.start, rv] 24)) := by (repeat (first | exact World.grows.refl _ | assumption | refine World.grows.alloc ?_ _ | refine World.grows.plus ?_ _ _ | refine World.grows.drew ?_))
  have HB := Lib.hid (hb.mono hg0)
  have hfb := Lib.hid hfb0
  obtain ⟨ba, bcap, rfl, hb1, hb2, -⟩ := hb
  unfold maxLen at hb2
  clear hs hr hfb0 hg0
  have c0 := HX.out.2.2.1; have c1 := HX.out.2.2.2
  have h38 := fun W h => fine_c W (.agg #[.int .i64 J.start, rv]) J h
  go_enter Try.func9, Try.ntmps9
  by_cases hc : J.check = 0
  · rw [decide_eq_true hc] at h38
    have Hc := Lib.hid hc
    have HJ := Lib.hid ((Job.Ok_iff J).2 hc)
    clear hc
    obtain ⟨jb, jo, jcap, rb, ro, rc, hrv, hjc, hjc2, hR⟩ := Hv.out.job HJ.out
    obtain ⟨rfl⟩ : rv = .slice (some ⟨jb, jo, none⟩) J.n jcap := by simpa using hrv
    have HR := Lib.hid hR
    unfold maxLen at hjc2
    have hn4 := HJ.out.n4
    have hn9 : J.n ≤ 1000000000 := by omega
    clear hR
    by_cases hmb : 40 < mb
    · go_wp2_with (first
        | (go_at_call 38; refine (h38 _ (HX.out.1.mono (by (repeat (first | exact World.grows.refl _ | assumption | refine World.grows.alloc ?_ _ | refine World.grows.plus ?_ _ _ | refine World.grows.drew ?_))))).mono ?_; rintro e W2 ⟨rfl, hg⟩; replace HB := Lib.hid (HB.out.mono (World.grows.trans (by (repeat (first | exact World.grows.refl _ | assumption | refine World.grows.alloc ?_ _ | refine World.grows.plus ?_ _ _ | refine World.grows.drew ?_))) hg)); replace HX := Lib.hid (HX.out.mono (World.grows.trans (by (repeat (first | exact World.grows.refl _ | assumption | refine World.grows.alloc ?_ _ | refine World.grows.plus ?_ _ _ | refine World.grows.drew ?_))) hg)); replace c0 := HX.out.2.2.1; replace c1 := HX.out.2.2.2; clear hg)
        | (go_at_call 15; refine (works_c _).mono ?_; rintro e W2 ⟨rfl, hg⟩; replace HX := Lib.hid (HX.out.mono (World.grows.trans (by (repeat (first | exact World.grows.refl _ | assumption | refine World.grows.alloc ?_ _ | refine World.grows.plus ?_ _ _ | refine World.grows.drew ?_))) hg)); clear hg))
      go_ret
      exact ⟨rfl, HX.out.2.1.trans (by (repeat (first | exact World.grows.refl _ | assumption | refine World.grows.alloc ?_ _ | refine World.grows.plus ?_ _ _ | refine World.grows.drew ?_)))⟩
    go_wp2_with (first
      | (go_at_call 38; refine (h38 _ (HX.out.1.mono (by (repeat (first | exact World.grows.refl _ | assumption | refine World.grows.alloc ?_ _ | refine World.grows.plus ?_ _ _ | refine World.grows.drew ?_))))).mono ?_; rintro e W2 ⟨rfl, hg⟩; replace HB := Lib.hid (HB.out.mono (World.grows.trans (by (repeat (first | exact World.grows.refl _ | assumption | refine World.grows.alloc ?_ _ | refine World.grows.plus ?_ _ _ | refine World.grows.drew ?_))) hg)); replace HX := Lib.hid (HX.out.mono (World.grows.trans (by (repeat (first | exact World.grows.refl _ | assumption | refine World.grows.alloc ?_ _ | refine World.grows.plus ?_ _ _ | refine World.grows.drew ?_))) hg)); replace c0 := HX.out.2.2.1; replace c1 := HX.out.2.2.2; clear hg)
      | (go_at_call 39; refine (order_c _ _ J (HX.out.1.mono (by (repeat (first | exact World.grows.refl _ | assumption | refine World.grows.alloc ?_ _ | refine World.grows.plus ?_ _ _ | refine World.grows.drew ?_)))) HJ.out _ mb fb (HB.out.mono (by (repeat (first | exact World.grows.refl _ | assumption | refine World.grows.alloc ?_ _ | refine World.grows.plus ?_ _ _ | refine World.grows.drew ?_)))) hfb.out).mono ?_; rintro e W2 ⟨ov, m, g, rfl, hg, ho, hok⟩; have HO := Lib.hid ho; have HQ := Lib.hid hok; obtain ⟨oa, ocap, rfl, ho1, ho2, -⟩ := ho; unfold maxLen at ho2; clear hok HB; replace HX := Lib.hid (HX.out.mono (World.grows.trans (by (repeat (first | exact World.grows.refl _ | assumption | refine World.grows.alloc ?_ _ | refine World.grows.plus ?_ _ _ | refine World.grows.drew ?_))) hg)); replace c0 := HX.out.2.2.1; replace c1 := HX.out.2.2.2; clear hg)
      | (go_at_call 44; fail))
    have hf0 := HQ.out.follow Hc.out
    have hmb2 := HQ.out.m_bd HJ.out
    have hnat : natOf (fun i => ((g i : Nat) : Int)) = g := rfl
    have hans := Job.ordAns_ok hf0
    rw [hnat] at hans
    have hmx := mostN_max (J.hotAt g) m hmb2.1
    have hle := Lib.hid (maxN_le_iff (h := J.hotAt g) (l := l) m hmb2.1)
    have hbl := Job.blue_told (l := l) hf0
    rw [hnat] at hbl
    have h18 := Lib.hid (fun W (hW : RawAt W (.agg #[.int .i64 J.start, .slice (some ⟨jb, jo, none⟩) J.n jcap]) J) ov (hl : IntsAt W ov m (fun i => (g i : Nat))) => checkOrd_c W (.agg #[.int .i64 J.start, .slice (some ⟨jb, jo, none⟩) J.n jcap]) J hW ov m _ hl)
    have h20 := Lib.hid (fun W (hW : RawAt W (.agg #[.int .i64 J.start, .slice (some ⟨jb, jo, none⟩) J.n jcap]) J) ov (hl : IntsAt W ov m (fun i => (g i : Nat))) => blue_c W (.agg #[.int .i64 J.start, .slice (some ⟨jb, jo, none⟩) J.n jcap]) J hW ov m _ hl l)
    simp only [hf0, hans] at h18
    obtain ⟨E, hE⟩ : ∃ E, J.blueErr m (fun i => ((g i : Nat) : Int)) l = E := ⟨_, rfl⟩
    obtain ⟨A, hA⟩ : ∃ A, J.blueAns m (fun i => ((g i : Nat) : Int)) l = A := ⟨_, rfl⟩
    simp only [hE, hA] at h20 hbl
    have Hmx := Lib.hid hmx
    obtain ⟨N, hN⟩ : ∃ N, maxN (J.hotAt g) m = N := ⟨_, rfl⟩
    rw [hN] at h18 Hmx hle
    obtain ⟨hm1, hm2⟩ := hmb2
    clear hf0 hnat hans hE hA hN hmx
    (refine (h18.out _ (HX.out.1.mono (by (repeat (first | exact World.grows.refl _ | assumption | refine World.grows.alloc ?_ _ | refine World.grows.plus ?_ _ _ | refine World.grows.drew ?_)))) _ (HO.out.mono (by (repeat (first | exact World.grows.refl _ | assumption | refine World.grows.alloc ?_ _ | refine World.grows.plus ?_ _ _ | refine World.grows.drew ?_))))).mono ?_; rintro e W2 ⟨rfl, hg⟩; replace HO := Lib.hid (HO.out.mono (World.grows.trans (by (repeat (first | exact World.grows.refl _ | assumption | refine World.grows.alloc ?_ _ | refine World.grows.plus ?_ _ _ | refine World.grows.drew ?_))) hg)); replace HX := Lib.hid (HX.out.mono (World.grows.trans (by (repeat (first | exact World.grows.refl _ | assumption | refine World.grows.alloc ?_ _ | refine World.grows.plus ?_ _ _ | refine World.grows.drew ?_))) hg)); replace c0 := HX.out.2.2.1; replace c1 := HX.out.2.2.2; clear hg)
    go_wp2_with (go_at_call 44; fail)
    (refine (h20.out _ (HX.out.1.mono (by (repeat (first | exact World.grows.refl _ | assumption | refine World.grows.alloc ?_ _ | refine World.grows.plus ?_ _ _ | refine World.grows.drew ?_)))) _ (HO.out.mono (by (repeat (first | exact World.grows.refl _ | assumption | refine World.grows.alloc ?_ _ | refine World.grows.plus ?_ _ _ | refine World.grows.drew ?_))))).mono ?_; rintro e W2 ⟨rfl, hg⟩; replace HO := Lib.hid (HO.out.mono (World.grows.trans (by (repeat (first | exact World.grows.refl _ | assumption | refine World.grows.alloc ?_ _ | refine World.grows.plus ?_ _ _ | refine World.grows.drew ?_))) hg)); replace HX := Lib.hid (HX.out.mono (World.grows.trans (by (repeat (first | exact World.grows.refl _ | assumption | refine World.grows.alloc ?_ _ | refine World.grows.plus ?_ _ _ | refine World.grows.drew ?_))) hg)); replace c0 := HX.out.2.2.1; replace c1 := HX.out.2.2.2; clear hg)
    clear h18 h20
    have hcase : Hid ((E = 5 ∧ A = 0 ∧ ¬ l < N) ∨ ∃ k : Nat, E = 0 ∧ A = k ∧ k < m ∧ l < N ∧ l < J.hotAt g k ∧ ∀ i, i < k → J.hotAt g i ≤ l) := Lib.hid (by
      rcases hbl with ⟨h1, h2, h3⟩ | ⟨k, h1, h2, h3, h4, h5⟩
      · exact .inl ⟨h1, h2, by have := hle.out.2 h3; omega⟩
      · right
        refine ⟨k, h2, h3, h1, ?_, h4, h5⟩
        rcases Int.lt_or_le l N with h6 | h6
        · exact h6
        · have := hle.out.1 h6 k h1; omega)
    clear hbl hle
    have key : ∀ i, i < m → (E = 5 ∨ ∃ k : Nat, E = 0 ∧ A = k ∧ k < m ∧ ((i < k ∧ J.hotAt g i ≤ l) ∨ (i = k ∧ l < J.hotAt g i) ∨ k < i)) := fun i hi => by
      rcases hcase.out with ⟨h1, _⟩ | ⟨k, h1, h2, h3, h4, h5, h6⟩
      · exact .inl h1
      · refine .inr ⟨k, h1, h2, h3, ?_⟩
        rcases Nat.lt_trichotomy i k with h | h | h
        · exact .inl ⟨h, h6 i h⟩
        · subst h; exact .inr (.inl ⟨rfl, h5⟩)
        · exact .inr (.inr h)
    have Key := Lib.hid key
    clear key
    obtain ⟨W1, rfl⟩ : ∃ W1, W1 = W2 := ⟨_, rfl⟩
    have fin : Hid (∀ W, W1.grows W → BoxAt w W w.heap.size (.slice (some ⟨jb, jo, none⟩) J.n jcap) J) := Lib.hid fun W hW => HX.out.mono hW
    have hall : E = 5 ∧ A = 0 ∧ ¬ l < N ∨ ∃ k : Nat, E = 0 ∧ A = k ∧ k < m ∧ l < N := by
      rcases hcase.out with h | ⟨k, h1, h2, h3, h4, _⟩
      · exact .inl h
      · exact .inr ⟨k, h1, h2, h3, h4⟩
    have Hstep : True := trivial
    obtain ⟨_, _, heo, _, _, hoc⟩ := HO.out
    cases heo
    obtain ⟨ob, oo, rfl, -⟩ := hoc 0 0 (by omega) (by omega)
    have Hoc : Hid (∀ i : Nat, i < m → W1.cell? ⟨ob, oo + i, none⟩ = some (.int .i64 (g i : Nat))) := Lib.hid fun i hi => by
      obtain ⟨b', o', he, hc⟩ := hoc i 0 hi (by omega)
      cases he
      simpa using hc
    clear hoc
    have hA1 : (W1.alloc (.cells (rowA J.n fun _ => 0) 3)).heap[W1.heap.size]? = some (.cells (rowA J.n (walkP g 0)) 3) := heap_alloc_new _ _
    have hgA : W1.grows (W1.alloc (.cells (rowA J.n fun _ => 0) 3)) := by (repeat (first | exact World.grows.refl _ | assumption | refine World.grows.alloc ?_ _ | refine World.grows.plus ?_ _ _ | refine World.grows.drew ?_))
    rcases hall with ⟨rfl, rfl, hnl⟩ | ⟨k, rfl, hAk, hkm, hnl⟩
    · have hd : decide (l < N) = false := decide_eq_false hnl
      go_wp2
      clear c0 c1
      go_loopw [13, 14] (fun s i wr => ∃ q : Nat, q ≤ m ∧ i = .int .i64 q ∧ s = .int .i64 (mostN (J.hotAt g) q) ∧ Hid (wr.heap[W1.heap.size]? = some (.cells (rowA J.n (walkP g q)) 3)) ∧ Hid (W1.grows wr)) (fun _ i _ => m - (intOf i).toNat)
      case atStart => exact ⟨0, by omega, rfl, rfl, Lib.hid hA1, Lib.hid hgA⟩
      case round =>
        obtain ⟨i, hi, rfl, rfl, RA, hg⟩ := hrel
        clear hA1 hgA
        have HXr := Lib.hid (fin.out _ hg.out)
        have c0 := HXr.out.2.2.1
        have c1 := HXr.out.2.2.2
        by_cases hlt : i < m
        · have hR1 := HQ.out.lt i hlt
          have hrl := HQ.out.lt_len hlt
          have hin := HQ.out.walkIn (k := i) (by omega)
          have hh := Lib.hid (Job.heat_at Hc.out hin)
          have o0 := hg.out.cell_of (Hoc.out i hlt)
          have hX : J.hotAt g i = J.heat (walkP g i) + J.pk (g i) (walkP g i (g i)) := rfl
          have hmost : mostN (J.hotAt g) (i + 1) = if i = 0 ∨ mostN (J.hotAt g) i < J.hotAt g i then J.hotAt g i else mostN (J.hotAt g) i := rfl
          have hwalk : walkP g (i + 1) = upd (walkP g i) (g i) (walkP g i (g i) + 1) := rfl
          have hkey := Key.out i hlt
          have Hmost := Lib.hid hmost
          have Hwalk := Lib.hid hwalk
          clear hmost hwalk
          obtain ⟨R, hR⟩ : ∃ R, g i = R := ⟨_, rfl⟩
          obtain ⟨P, hP⟩ : ∃ P, walkP g i = P := ⟨_, rfl⟩
          obtain ⟨X, hXX⟩ : ∃ X, J.hotAt g i = X := ⟨_, rfl⟩
          obtain ⟨M, hM⟩ : ∃ M, mostN (J.hotAt g) i = M := ⟨_, rfl⟩
          rw [hR] at hR1 hrl o0 hX Hwalk
          rw [hP] at hrl hin hh hX Hwalk RA
          rw [hXX] at hX Hmost hkey
          rw [hM] at Hmost
          simp only [hM]
          clear hR hP hXX hM
          have hl6 := HJ.out.l6 R hR1
          have z0 := HXr.out.2.1.cell_of (HR.out.row R hR1)
          have hrc := HR.out.cap R hR1
          unfold maxLen at hrc
          have p0 := HXr.out.2.1.cell_of (HR.out.pk R (P R) hR1 hrl)
          have hhb := HJ.out.heat_bd hin.le
          have hpb := HJ.out.pk R (P R) hR1 hrl
          have hwrap : IntKind.i64.wrap (J.heat P + J.pk R (P R)) = X := by rw [hX]; exact wrapI (by omega)
          have a0 := rowA_cell RA.out hR1
          have f0 := rowA_frozen RA.out R
          have hblk : W1.heap.size < wr.heap.size := World.lt_of_block RA.out
          have h16 : Hid (∀ W, wr.grows W → Calls Try.prog 16 #[.agg #[.int .i64 J.start, .slice (some ⟨jb, jo, none⟩) J.n jcap], .slice (some ⟨W1.heap.size, 0, none⟩) J.n J.n] W fun e w' => e = .returned (.tuple #[.int .i64 (J.heat P), .int .i64 0]) ∧ W.grows w') := Lib.hid fun W hW => by
            have := Heat_c W _ J (HXr.out.1.mono hW) _ J.n _ (rowA_ints' (hW.heap_of RA.out) (by unfold maxLen; omega))
            rwa [hh.out.1, hh.out.2] at this
          have hRi : (R : Int) < J.n := by omega
          have hrli : (P R : Int) < J.len R := by omega
          have hlti : (i : Int) < m := by omega
          clear hhb hpb hin hh hX
          clear hkey
          rcases Nat.eq_zero_or_pos i with hi0 | hi0
          · subst hi0; simp only [Nat.add_zero] at o0
            have hmo := Lib.hid (show mostN (J.hotAt g) (0 + 1) = X from Hmost.out.trans (if_pos (.inl rfl)))
            clear Hmost
            go_wp2_with (go_at_call 16; go_loud (refine (h16.out _ (by (repeat (first | exact World.grows.refl _ | assumption | refine World.grows.alloc ?_ _ | refine World.grows.plus ?_ _ _ | refine World.grows.drew ?_)))).mono ?_; rintro e w6 ⟨rfl, hg6⟩; have Hg6 := Lib.hid (show wr.grows w6 from World.grows.trans (by (repeat (first | exact World.grows.refl _ | assumption | refine World.grows.alloc ?_ _ | refine World.grows.plus ?_ _ _ | refine World.grows.drew ?_))) hg6); replace c0 := hg6.cell_of c0; replace c1 := hg6.cell_of c1; replace z0 := hg6.cell_of z0; replace p0 := hg6.cell_of p0; replace o0 := hg6.cell_of o0; replace a0 := hg6.cell_of a0; replace f0 := (Below.frozen (p := ⟨W1.heap.size, R, none⟩) hg6 hblk).trans f0; replace RA := Lib.hid (hg6.heap_of RA.out); clear hg6 h16))
            (refine wp_region_calm (by kernel_rfl) (by kernel_rfl) ?_; (repeat (refine wpCalm_step (fun K hK => ?_); go_simp; first | (refine hK _ ?_; clear hK K) | (apply Exists.intro; refine ⟨fun n' x' => ?_, hK _ ?_⟩; (fail); clear hK K))); refine wpCalm_nil ?_; intro nq xq)
            (try simp only [hwrap])
            go_wp2
            all_goals
              go_roundw
              case rel =>
                refine ⟨0 + 1, by omega, by go_num, by rw [hmo.out], Lib.hid ?_, Lib.hid ?_⟩
                · rw [Hwalk.out, ← upd_updN]
                  exact World.grows.heap_of (World.grows_plus _ _ _) (rowA_store RA.out hR1 (P R + 1))
                · exact ((hg.out.trans Hg6.out).setCell (Nat.le_refl _) _).trans (by (repeat (first | exact World.grows.refl _ | assumption | refine World.grows.alloc ?_ _ | refine World.grows.plus ?_ _ _ | refine World.grows.drew ?_)))
              case measure => simp [intOf] <;> omega
          · have hi1 : ¬ (i : Int) = 0 := by omega
            have hi2 : ¬ i = 0 := by omega
            have hi3 : ((i : Int) == 0) = false := by simpa using hi2
            by_cases hup : M < X
            · skip
              have hmo := Lib.hid (show mostN (J.hotAt g) (i + 1) = X from Hmost.out.trans (if_pos (.inr hup)))
              clear Hmost
              go_wp2_with (go_at_call 16; go_loud (refine (h16.out _ (by (repeat (first | exact World.grows.refl _ | assumption | refine World.grows.alloc ?_ _ | refine World.grows.plus ?_ _ _ | refine World.grows.drew ?_)))).mono ?_; rintro e w6 ⟨rfl, hg6⟩; have Hg6 := Lib.hid (show wr.grows w6 from World.grows.trans (by (repeat (first | exact World.grows.refl _ | assumption | refine World.grows.alloc ?_ _ | refine World.grows.plus ?_ _ _ | refine World.grows.drew ?_))) hg6); replace c0 := hg6.cell_of c0; replace c1 := hg6.cell_of c1; replace z0 := hg6.cell_of z0; replace p0 := hg6.cell_of p0; replace o0 := hg6.cell_of o0; replace a0 := hg6.cell_of a0; replace f0 := (Below.frozen (p := ⟨W1.heap.size, R, none⟩) hg6 hblk).trans f0; replace RA := Lib.hid (hg6.heap_of RA.out); clear hg6 h16))
              (refine wp_region_calm (by kernel_rfl) (by kernel_rfl) ?_; (repeat (refine wpCalm_step (fun K hK => ?_); go_simp; first | (refine hK _ ?_; clear hK K) | (apply Exists.intro; refine ⟨fun n' x' => ?_, hK _ ?_⟩; (fail); clear hK K))); refine wpCalm_nil ?_; intro nq xq)
              (try simp only [hwrap])
              go_wp2
              all_goals
                go_roundw
                case rel =>
                  refine ⟨i + 1, by omega, by go_num, by rw [hmo.out], Lib.hid ?_, Lib.hid ?_⟩
                  · rw [Hwalk.out, ← upd_updN]
                    exact World.grows.heap_of (World.grows_plus _ _ _) (rowA_store RA.out hR1 (P R + 1))
                  · exact ((hg.out.trans Hg6.out).setCell (Nat.le_refl _) _).trans (by (repeat (first | exact World.grows.refl _ | assumption | refine World.grows.alloc ?_ _ | refine World.grows.plus ?_ _ _ | refine World.grows.drew ?_)))
                case measure => simp [intOf] <;> omega
            · skip
              have hmo := Lib.hid (show mostN (J.hotAt g) (i + 1) = M from Hmost.out.trans (if_neg (by omega)))
              clear Hmost
              go_wp2_with (go_at_call 16; go_loud (refine (h16.out _ (by (repeat (first | exact World.grows.refl _ | assumption | refine World.grows.alloc ?_ _ | refine World.grows.plus ?_ _ _ | refine World.grows.drew ?_)))).mono ?_; rintro e w6 ⟨rfl, hg6⟩; have Hg6 := Lib.hid (show wr.grows w6 from World.grows.trans (by (repeat (first | exact World.grows.refl _ | assumption | refine World.grows.alloc ?_ _ | refine World.grows.plus ?_ _ _ | refine World.grows.drew ?_))) hg6); replace c0 := hg6.cell_of c0; replace c1 := hg6.cell_of c1; replace z0 := hg6.cell_of z0; replace p0 := hg6.cell_of p0; replace o0 := hg6.cell_of o0; replace a0 := hg6.cell_of a0; replace f0 := (Below.frozen (p := ⟨W1.heap.size, R, none⟩) hg6 hblk).trans f0; replace RA := Lib.hid (hg6.heap_of RA.out); clear hg6 h16))
              (refine wp_region_calm (by kernel_rfl) (by kernel_rfl) ?_; (repeat (refine wpCalm_step (fun K hK => ?_); go_simp; first | (refine hK _ ?_; clear hK K) | (apply Exists.intro; refine ⟨fun n' x' => ?_, hK _ ?_⟩; (fail); clear hK K))); refine wpCalm_nil ?_; intro nq xq)
              (try simp only [hwrap])
              go_wp2
              all_goals
                go_roundw
                case rel =>
                  refine ⟨i + 1, by omega, by go_num, by rw [hmo.out], Lib.hid ?_, Lib.hid ?_⟩
                  · rw [Hwalk.out, ← upd_updN]
                    exact World.grows.heap_of (World.grows_plus _ _ _) (rowA_store RA.out hR1 (P R + 1))
                  · exact ((hg.out.trans Hg6.out).setCell (Nat.le_refl _) _).trans (by (repeat (first | exact World.grows.refl _ | assumption | refine World.grows.alloc ?_ _ | refine World.grows.plus ?_ _ _ | refine World.grows.drew ?_)))
                case measure => simp [intOf] <;> omega
        · have hie : i = m := by omega
          subst hie
          rw [Hmx.out]
          go_wp2_with (go_at_call 15; refine (works_c _).mono ?_; rintro e W2 ⟨rfl, hgz⟩; obtain ⟨nz, xz, rfl⟩ := World.plus_of hgz)
          go_ret
          exact ⟨rfl, HXr.out.2.1.trans (by (repeat (first | exact World.grows.refl _ | assumption | refine World.grows.alloc ?_ _ | refine World.grows.plus ?_ _ _ | refine World.grows.drew ?_)))⟩
    · have hAz0 : ¬ A < 0 := by omega
      have hAz1 : ¬ (m : Int) ≤ A := by omega
      have Key2 : Hid (∀ i, i < m → ((i : Int) < A ∧ J.hotAt g i ≤ l) ∨ ((i : Int) = A ∧ l < J.hotAt g i) ∨ A < (i : Int)) := Lib.hid fun i hi => by
        rcases Key.out i hi with h | ⟨k', _, h2, _, h3⟩
        · cases h
        · rcases h3 with h3 | h3 | h3
          · exact .inl ⟨by omega, h3.2⟩
          · exact .inr (.inl ⟨by omega, h3.2⟩)
          · exact .inr (.inr (by omega))
      clear Key hAk hkm hcase
      have hd : decide (l < N) = true := decide_eq_true hnl
      go_wp2
      clear c0 c1
      generalize hq1 : decide (A < 0) = q1
      generalize hq2 : decide ((m : Int) ≤ A) = q2
      clear hq1 hq2
      have HA0 := Lib.hid hAz0
      have HA1 := Lib.hid hAz1
      clear hAz0 hAz1
      go_loopw [13, 14] (fun s i wr => ∃ q : Nat, q ≤ m ∧ i = .int .i64 q ∧ s = .int .i64 (mostN (J.hotAt g) q) ∧ Hid (wr.heap[W1.heap.size]? = some (.cells (rowA J.n (walkP g q)) 3)) ∧ Hid (W1.grows wr)) (fun _ i _ => m - (intOf i).toNat)
      case atStart => exact ⟨0, by omega, rfl, rfl, Lib.hid hA1, Lib.hid hgA⟩
      case round =>
        obtain ⟨i, hi, rfl, rfl, RA, hg⟩ := hrel
        clear hA1 hgA
        have HXr := Lib.hid (fin.out _ hg.out)
        have c0 := HXr.out.2.2.1
        have c1 := HXr.out.2.2.2
        by_cases hlt : i < m
        · have hR1 := HQ.out.lt i hlt
          have hrl := HQ.out.lt_len hlt
          have hin := HQ.out.walkIn (k := i) (by omega)
          have hh := Lib.hid (Job.heat_at Hc.out hin)
          have o0 := hg.out.cell_of (Hoc.out i hlt)
          have hX : J.hotAt g i = J.heat (walkP g i) + J.pk (g i) (walkP g i (g i)) := rfl
          have hmost : mostN (J.hotAt g) (i + 1) = if i = 0 ∨ mostN (J.hotAt g) i < J.hotAt g i then J.hotAt g i else mostN (J.hotAt g) i := rfl
          have hwalk : walkP g (i + 1) = upd (walkP g i) (g i) (walkP g i (g i) + 1) := rfl
          have hcs := Key2.out i hlt
          have Hmost := Lib.hid hmost
          have Hwalk := Lib.hid hwalk
          clear hmost hwalk
          obtain ⟨R, hR⟩ : ∃ R, g i = R := ⟨_, rfl⟩
          obtain ⟨P, hP⟩ : ∃ P, walkP g i = P := ⟨_, rfl⟩
          obtain ⟨X, hXX⟩ : ∃ X, J.hotAt g i = X := ⟨_, rfl⟩
          obtain ⟨M, hM⟩ : ∃ M, mostN (J.hotAt g) i = M := ⟨_, rfl⟩
          rw [hR] at hR1 hrl o0 hX Hwalk
          rw [hP] at hrl hin hh hX Hwalk RA
          rw [hXX] at hX Hmost hcs
          rw [hM] at Hmost
          simp only [hM]
          clear hR hP hXX hM
          have hl6 := HJ.out.l6 R hR1
          have z0 := HXr.out.2.1.cell_of (HR.out.row R hR1)
          have hrc := HR.out.cap R hR1
          unfold maxLen at hrc
          have p0 := HXr.out.2.1.cell_of (HR.out.pk R (P R) hR1 hrl)
          have hhb := HJ.out.heat_bd hin.le
          have hpb := HJ.out.pk R (P R) hR1 hrl
          have hwrap : IntKind.i64.wrap (J.heat P + J.pk R (P R)) = X := by rw [hX]; exact wrapI (by omega)
          have a0 := rowA_cell RA.out hR1
          have f0 := rowA_frozen RA.out R
          have hblk : W1.heap.size < wr.heap.size := World.lt_of_block RA.out
          have h16 : Hid (∀ W, wr.grows W → Calls Try.prog 16 #[.agg #[.int .i64 J.start, .slice (some ⟨jb, jo, none⟩) J.n jcap], .slice (some ⟨W1.heap.size, 0, none⟩) J.n J.n] W fun e w' => e = .returned (.tuple #[.int .i64 (J.heat P), .int .i64 0]) ∧ W.grows w') := Lib.hid fun W hW => by
            have := Heat_c W _ J (HXr.out.1.mono hW) _ J.n _ (rowA_ints' (hW.heap_of RA.out) (by unfold maxLen; omega))
            rwa [hh.out.1, hh.out.2] at this
          have hRi : (R : Int) < J.n := by omega
          have hrli : (P R : Int) < J.len R := by omega
          have hlti : (i : Int) < m := by omega
          clear hhb hpb hin hh hX
          rcases hcs with ⟨hik, hxl⟩ | ⟨hik, hxl⟩ | hik
          · have e2 : ¬ l < X := by omega
            have e3 : ((i : Int) == A) = false := by simp; omega
            rcases Nat.eq_zero_or_pos i with hi0 | hi0
            · subst hi0; simp only [Nat.add_zero] at o0
              have hmo := Lib.hid (show mostN (J.hotAt g) (0 + 1) = X from Hmost.out.trans (if_pos (.inl rfl)))
              clear Hmost
              go_wp2_with (go_at_call 16; go_loud (refine (h16.out _ (by (repeat (first | exact World.grows.refl _ | assumption | refine World.grows.alloc ?_ _ | refine World.grows.plus ?_ _ _ | refine World.grows.drew ?_)))).mono ?_; rintro e w6 ⟨rfl, hg6⟩; have Hg6 := Lib.hid (show wr.grows w6 from World.grows.trans (by (repeat (first | exact World.grows.refl _ | assumption | refine World.grows.alloc ?_ _ | refine World.grows.plus ?_ _ _ | refine World.grows.drew ?_))) hg6); replace c0 := hg6.cell_of c0; replace c1 := hg6.cell_of c1; replace z0 := hg6.cell_of z0; replace p0 := hg6.cell_of p0; replace o0 := hg6.cell_of o0; replace a0 := hg6.cell_of a0; replace f0 := (Below.frozen (p := ⟨W1.heap.size, R, none⟩) hg6 hblk).trans f0; replace RA := Lib.hid (hg6.heap_of RA.out); clear hg6 h16))
              (refine wp_region_calm (by kernel_rfl) (by kernel_rfl) ?_; (repeat (refine wpCalm_step (fun K hK => ?_); go_simp; first | (refine hK _ ?_; clear hK K) | (apply Exists.intro; refine ⟨fun n' x' => ?_, hK _ ?_⟩; (fail); clear hK K))); refine wpCalm_nil ?_; intro nq xq)
              (try simp only [hwrap])
              go_wp2
              all_goals
                go_roundw
                case rel =>
                  refine ⟨0 + 1, by omega, by go_num, by rw [hmo.out], Lib.hid ?_, Lib.hid ?_⟩
                  · rw [Hwalk.out, ← upd_updN]
                    exact World.grows.heap_of (World.grows_plus _ _ _) (rowA_store RA.out hR1 (P R + 1))
                  · exact ((hg.out.trans Hg6.out).setCell (Nat.le_refl _) _).trans (by (repeat (first | exact World.grows.refl _ | assumption | refine World.grows.alloc ?_ _ | refine World.grows.plus ?_ _ _ | refine World.grows.drew ?_)))
                case measure => simp [intOf] <;> omega
            · have hi1 : ¬ (i : Int) = 0 := by omega
              have hi2 : ¬ i = 0 := by omega
              have hi3 : ((i : Int) == 0) = false := by simpa using hi2
              by_cases hup : M < X
              · skip
                have hmo := Lib.hid (show mostN (J.hotAt g) (i + 1) = X from Hmost.out.trans (if_pos (.inr hup)))
                clear Hmost
                go_wp2_with (go_at_call 16; go_loud (refine (h16.out _ (by (repeat (first | exact World.grows.refl _ | assumption | refine World.grows.alloc ?_ _ | refine World.grows.plus ?_ _ _ | refine World.grows.drew ?_)))).mono ?_; rintro e w6 ⟨rfl, hg6⟩; have Hg6 := Lib.hid (show wr.grows w6 from World.grows.trans (by (repeat (first | exact World.grows.refl _ | assumption | refine World.grows.alloc ?_ _ | refine World.grows.plus ?_ _ _ | refine World.grows.drew ?_))) hg6); replace c0 := hg6.cell_of c0; replace c1 := hg6.cell_of c1; replace z0 := hg6.cell_of z0; replace p0 := hg6.cell_of p0; replace o0 := hg6.cell_of o0; replace a0 := hg6.cell_of a0; replace f0 := (Below.frozen (p := ⟨W1.heap.size, R, none⟩) hg6 hblk).trans f0; replace RA := Lib.hid (hg6.heap_of RA.out); clear hg6 h16))
                (refine wp_region_calm (by kernel_rfl) (by kernel_rfl) ?_; (repeat (refine wpCalm_step (fun K hK => ?_); go_simp; first | (refine hK _ ?_; clear hK K) | (apply Exists.intro; refine ⟨fun n' x' => ?_, hK _ ?_⟩; (fail); clear hK K))); refine wpCalm_nil ?_; intro nq xq)
                (try simp only [hwrap])
                go_wp2
                all_goals
                  go_roundw
                  case rel =>
                    refine ⟨i + 1, by omega, by go_num, by rw [hmo.out], Lib.hid ?_, Lib.hid ?_⟩
                    · rw [Hwalk.out, ← upd_updN]
                      exact World.grows.heap_of (World.grows_plus _ _ _) (rowA_store RA.out hR1 (P R + 1))
                    · exact ((hg.out.trans Hg6.out).setCell (Nat.le_refl _) _).trans (by (repeat (first | exact World.grows.refl _ | assumption | refine World.grows.alloc ?_ _ | refine World.grows.plus ?_ _ _ | refine World.grows.drew ?_)))
                  case measure => simp [intOf] <;> omega
              · skip
                have hmo := Lib.hid (show mostN (J.hotAt g) (i + 1) = M from Hmost.out.trans (if_neg (by omega)))
                clear Hmost
                go_wp2_with (go_at_call 16; go_loud (refine (h16.out _ (by (repeat (first | exact World.grows.refl _ | assumption | refine World.grows.alloc ?_ _ | refine World.grows.plus ?_ _ _ | refine World.grows.drew ?_)))).mono ?_; rintro e w6 ⟨rfl, hg6⟩; have Hg6 := Lib.hid (show wr.grows w6 from World.grows.trans (by (repeat (first | exact World.grows.refl _ | assumption | refine World.grows.alloc ?_ _ | refine World.grows.plus ?_ _ _ | refine World.grows.drew ?_))) hg6); replace c0 := hg6.cell_of c0; replace c1 := hg6.cell_of c1; replace z0 := hg6.cell_of z0; replace p0 := hg6.cell_of p0; replace o0 := hg6.cell_of o0; replace a0 := hg6.cell_of a0; replace f0 := (Below.frozen (p := ⟨W1.heap.size, R, none⟩) hg6 hblk).trans f0; replace RA := Lib.hid (hg6.heap_of RA.out); clear hg6 h16))
                (refine wp_region_calm (by kernel_rfl) (by kernel_rfl) ?_; (repeat (refine wpCalm_step (fun K hK => ?_); go_simp; first | (refine hK _ ?_; clear hK K) | (apply Exists.intro; refine ⟨fun n' x' => ?_, hK _ ?_⟩; (fail); clear hK K))); refine wpCalm_nil ?_; intro nq xq)
                (try simp only [hwrap])
                go_wp2
                all_goals
                  go_roundw
                  case rel =>
                    refine ⟨i + 1, by omega, by go_num, by rw [hmo.out], Lib.hid ?_, Lib.hid ?_⟩
                    · rw [Hwalk.out, ← upd_updN]
                      exact World.grows.heap_of (World.grows_plus _ _ _) (rowA_store RA.out hR1 (P R + 1))
                    · exact ((hg.out.trans Hg6.out).setCell (Nat.le_refl _) _).trans (by (repeat (first | exact World.grows.refl _ | assumption | refine World.grows.alloc ?_ _ | refine World.grows.plus ?_ _ _ | refine World.grows.drew ?_)))
                  case measure => simp [intOf] <;> omega
          · have e2 : ¬ X ≤ l := by omega
            rcases Nat.eq_zero_or_pos i with hi0 | hi0
            · subst hi0; simp only [Nat.add_zero] at o0
              obtain rfl : A = 0 := by omega
              clear hik
              have hmo := Lib.hid (show mostN (J.hotAt g) (0 + 1) = X from Hmost.out.trans (if_pos (.inl rfl)))
              clear Hmost
              go_wp2_with (go_at_call 16; go_loud (refine (h16.out _ (by (repeat (first | exact World.grows.refl _ | assumption | refine World.grows.alloc ?_ _ | refine World.grows.plus ?_ _ _ | refine World.grows.drew ?_)))).mono ?_; rintro e w6 ⟨rfl, hg6⟩; have Hg6 := Lib.hid (show wr.grows w6 from World.grows.trans (by (repeat (first | exact World.grows.refl _ | assumption | refine World.grows.alloc ?_ _ | refine World.grows.plus ?_ _ _ | refine World.grows.drew ?_))) hg6); replace c0 := hg6.cell_of c0; replace c1 := hg6.cell_of c1; replace z0 := hg6.cell_of z0; replace p0 := hg6.cell_of p0; replace o0 := hg6.cell_of o0; replace a0 := hg6.cell_of a0; replace f0 := (Below.frozen (p := ⟨W1.heap.size, R, none⟩) hg6 hblk).trans f0; replace RA := Lib.hid (hg6.heap_of RA.out); clear hg6 h16))
              (refine wp_region_calm (by kernel_rfl) (by kernel_rfl) ?_; (repeat (refine wpCalm_step (fun K hK => ?_); go_simp; first | (refine hK _ ?_; clear hK K) | (apply Exists.intro; refine ⟨fun n' x' => ?_, hK _ ?_⟩; (fail); clear hK K))); refine wpCalm_nil ?_; intro nq xq)
              (try simp only [hwrap])
              go_wp2
              all_goals
                go_roundw
                case rel =>
                  refine ⟨0 + 1, by omega, by go_num, by rw [hmo.out], Lib.hid ?_, Lib.hid ?_⟩
                  · rw [Hwalk.out, ← upd_updN]
                    exact World.grows.heap_of (World.grows_plus _ _ _) (rowA_store RA.out hR1 (P R + 1))
                  · exact ((hg.out.trans Hg6.out).setCell (Nat.le_refl _) _).trans (by (repeat (first | exact World.grows.refl _ | assumption | refine World.grows.alloc ?_ _ | refine World.grows.plus ?_ _ _ | refine World.grows.drew ?_)))
                case measure => simp [intOf] <;> omega
            · subst hik
              have e1 : ¬ (i : Int) < i := by omega
              have hi1 : ¬ (i : Int) = 0 := by omega
              have hi2 : ¬ i = 0 := by omega
              have hi3 : ((i : Int) == 0) = false := by simpa using hi2
              by_cases hup : M < X
              · skip
                have hmo := Lib.hid (show mostN (J.hotAt g) (i + 1) = X from Hmost.out.trans (if_pos (.inr hup)))
                clear Hmost
                go_wp2_with (go_at_call 16; go_loud (refine (h16.out _ (by (repeat (first | exact World.grows.refl _ | assumption | refine World.grows.alloc ?_ _ | refine World.grows.plus ?_ _ _ | refine World.grows.drew ?_)))).mono ?_; rintro e w6 ⟨rfl, hg6⟩; have Hg6 := Lib.hid (show wr.grows w6 from World.grows.trans (by (repeat (first | exact World.grows.refl _ | assumption | refine World.grows.alloc ?_ _ | refine World.grows.plus ?_ _ _ | refine World.grows.drew ?_))) hg6); replace c0 := hg6.cell_of c0; replace c1 := hg6.cell_of c1; replace z0 := hg6.cell_of z0; replace p0 := hg6.cell_of p0; replace o0 := hg6.cell_of o0; replace a0 := hg6.cell_of a0; replace f0 := (Below.frozen (p := ⟨W1.heap.size, R, none⟩) hg6 hblk).trans f0; replace RA := Lib.hid (hg6.heap_of RA.out); clear hg6 h16))
                (refine wp_region_calm (by kernel_rfl) (by kernel_rfl) ?_; (repeat (refine wpCalm_step (fun K hK => ?_); go_simp; first | (refine hK _ ?_; clear hK K) | (apply Exists.intro; refine ⟨fun n' x' => ?_, hK _ ?_⟩; (fail); clear hK K))); refine wpCalm_nil ?_; intro nq xq)
                (try simp only [hwrap])
                go_wp2
                all_goals
                  go_roundw
                  case rel =>
                    refine ⟨i + 1, by omega, by go_num, by rw [hmo.out], Lib.hid ?_, Lib.hid ?_⟩
                    · rw [Hwalk.out, ← upd_updN]
                      exact World.grows.heap_of (World.grows_plus _ _ _) (rowA_store RA.out hR1 (P R + 1))
                    · exact ((hg.out.trans Hg6.out).setCell (Nat.le_refl _) _).trans (by (repeat (first | exact World.grows.refl _ | assumption | refine World.grows.alloc ?_ _ | refine World.grows.plus ?_ _ _ | refine World.grows.drew ?_)))
                  case measure => simp [intOf] <;> omega
              · skip
                have hmo := Lib.hid (show mostN (J.hotAt g) (i + 1) = M from Hmost.out.trans (if_neg (by omega)))
                clear Hmost
                go_wp2_with (go_at_call 16; go_loud (refine (h16.out _ (by (repeat (first | exact World.grows.refl _ | assumption | refine World.grows.alloc ?_ _ | refine World.grows.plus ?_ _ _ | refine World.grows.drew ?_)))).mono ?_; rintro e w6 ⟨rfl, hg6⟩; have Hg6 := Lib.hid (show wr.grows w6 from World.grows.trans (by (repeat (first | exact World.grows.refl _ | assumption | refine World.grows.alloc ?_ _ | refine World.grows.plus ?_ _ _ | refine World.grows.drew ?_))) hg6); replace c0 := hg6.cell_of c0; replace c1 := hg6.cell_of c1; replace z0 := hg6.cell_of z0; replace p0 := hg6.cell_of p0; replace o0 := hg6.cell_of o0; replace a0 := hg6.cell_of a0; replace f0 := (Below.frozen (p := ⟨W1.heap.size, R, none⟩) hg6 hblk).trans f0; replace RA := Lib.hid (hg6.heap_of RA.out); clear hg6 h16))
                (refine wp_region_calm (by kernel_rfl) (by kernel_rfl) ?_; (repeat (refine wpCalm_step (fun K hK => ?_); go_simp; first | (refine hK _ ?_; clear hK K) | (apply Exists.intro; refine ⟨fun n' x' => ?_, hK _ ?_⟩; (fail); clear hK K))); refine wpCalm_nil ?_; intro nq xq)
                (try simp only [hwrap])
                go_wp2
                all_goals
                  go_roundw
                  case rel =>
                    refine ⟨i + 1, by omega, by go_num, by rw [hmo.out], Lib.hid ?_, Lib.hid ?_⟩
                    · rw [Hwalk.out, ← upd_updN]
                      exact World.grows.heap_of (World.grows_plus _ _ _) (rowA_store RA.out hR1 (P R + 1))
                    · exact ((hg.out.trans Hg6.out).setCell (Nat.le_refl _) _).trans (by (repeat (first | exact World.grows.refl _ | assumption | refine World.grows.alloc ?_ _ | refine World.grows.plus ?_ _ _ | refine World.grows.drew ?_)))
                  case measure => simp [intOf] <;> omega
          · have e1 : ¬ (i : Int) < A := by omega
            have e3 : ((i : Int) == A) = false := by simp; omega
            rcases Nat.eq_zero_or_pos i with hi0 | hi0
            · exact absurd hi0 (by have := HA0.out; omega)
            · have hi1 : ¬ (i : Int) = 0 := by omega
              have hi2 : ¬ i = 0 := by omega
              have hi3 : ((i : Int) == 0) = false := by simpa using hi2
              by_cases hup : M < X
              · skip
                have hmo := Lib.hid (show mostN (J.hotAt g) (i + 1) = X from Hmost.out.trans (if_pos (.inr hup)))
                clear Hmost
                go_wp2_with (go_at_call 16; go_loud (refine (h16.out _ (by (repeat (first | exact World.grows.refl _ | assumption | refine World.grows.alloc ?_ _ | refine World.grows.plus ?_ _ _ | refine World.grows.drew ?_)))).mono ?_; rintro e w6 ⟨rfl, hg6⟩; have Hg6 := Lib.hid (show wr.grows w6 from World.grows.trans (by (repeat (first | exact World.grows.refl _ | assumption | refine World.grows.alloc ?_ _ | refine World.grows.plus ?_ _ _ | refine World.grows.drew ?_))) hg6); replace c0 := hg6.cell_of c0; replace c1 := hg6.cell_of c1; replace z0 := hg6.cell_of z0; replace p0 := hg6.cell_of p0; replace o0 := hg6.cell_of o0; replace a0 := hg6.cell_of a0; replace f0 := (Below.frozen (p := ⟨W1.heap.size, R, none⟩) hg6 hblk).trans f0; replace RA := Lib.hid (hg6.heap_of RA.out); clear hg6 h16))
                (refine wp_region_calm (by kernel_rfl) (by kernel_rfl) ?_; (repeat (refine wpCalm_step (fun K hK => ?_); go_simp; first | (refine hK _ ?_; clear hK K) | (apply Exists.intro; refine ⟨fun n' x' => ?_, hK _ ?_⟩; (fail); clear hK K))); refine wpCalm_nil ?_; intro nq xq)
                (try simp only [hwrap])
                go_wp2
                all_goals
                  go_roundw
                  case rel =>
                    refine ⟨i + 1, by omega, by go_num, by rw [hmo.out], Lib.hid ?_, Lib.hid ?_⟩
                    · rw [Hwalk.out, ← upd_updN]
                      exact World.grows.heap_of (World.grows_plus _ _ _) (rowA_store RA.out hR1 (P R + 1))
                    · exact ((hg.out.trans Hg6.out).setCell (Nat.le_refl _) _).trans (by (repeat (first | exact World.grows.refl _ | assumption | refine World.grows.alloc ?_ _ | refine World.grows.plus ?_ _ _ | refine World.grows.drew ?_)))
                  case measure => simp [intOf] <;> omega
              · skip
                have hmo := Lib.hid (show mostN (J.hotAt g) (i + 1) = M from Hmost.out.trans (if_neg (by omega)))
                clear Hmost
                go_wp2_with (go_at_call 16; go_loud (refine (h16.out _ (by (repeat (first | exact World.grows.refl _ | assumption | refine World.grows.alloc ?_ _ | refine World.grows.plus ?_ _ _ | refine World.grows.drew ?_)))).mono ?_; rintro e w6 ⟨rfl, hg6⟩; have Hg6 := Lib.hid (show wr.grows w6 from World.grows.trans (by (repeat (first | exact World.grows.refl _ | assumption | refine World.grows.alloc ?_ _ | refine World.grows.plus ?_ _ _ | refine World.grows.drew ?_))) hg6); replace c0 := hg6.cell_of c0; replace c1 := hg6.cell_of c1; replace z0 := hg6.cell_of z0; replace p0 := hg6.cell_of p0; replace o0 := hg6.cell_of o0; replace a0 := hg6.cell_of a0; replace f0 := (Below.frozen (p := ⟨W1.heap.size, R, none⟩) hg6 hblk).trans f0; replace RA := Lib.hid (hg6.heap_of RA.out); clear hg6 h16))
                (refine wp_region_calm (by kernel_rfl) (by kernel_rfl) ?_; (repeat (refine wpCalm_step (fun K hK => ?_); go_simp; first | (refine hK _ ?_; clear hK K) | (apply Exists.intro; refine ⟨fun n' x' => ?_, hK _ ?_⟩; (fail); clear hK K))); refine wpCalm_nil ?_; intro nq xq)
                (try simp only [hwrap])
                go_wp2
                all_goals
                  go_roundw
                  case rel =>
                    refine ⟨i + 1, by omega, by go_num, by rw [hmo.out], Lib.hid ?_, Lib.hid ?_⟩
                    · rw [Hwalk.out, ← upd_updN]
                      exact World.grows.heap_of (World.grows_plus _ _ _) (rowA_store RA.out hR1 (P R + 1))
                    · exact ((hg.out.trans Hg6.out).setCell (Nat.le_refl _) _).trans (by (repeat (first | exact World.grows.refl _ | assumption | refine World.grows.alloc ?_ _ | refine World.grows.plus ?_ _ _ | refine World.grows.drew ?_)))
                  case measure => simp [intOf] <;> omega
        · have hie : i = m := by omega
          subst hie
          rw [Hmx.out]
          go_wp2_with (go_at_call 15; refine (works_c _).mono ?_; rintro e W2 ⟨rfl, hgz⟩; obtain ⟨nz, xz, rfl⟩ := World.plus_of hgz)
          go_ret
          exact ⟨rfl, HXr.out.2.1.trans (by (repeat (first | exact World.grows.refl _ | assumption | refine World.grows.alloc ?_ _ | refine World.grows.plus ?_ _ _ | refine World.grows.drew ?_)))⟩
  · rw [decide_eq_false hc] at h38
    go_wp2_with (first
      | (go_at_call 38; refine (h38 _ (HX.out.1.mono (by (repeat (first | exact World.grows.refl _ | assumption | refine World.grows.alloc ?_ _ | refine World.grows.plus ?_ _ _ | refine World.grows.drew ?_))))).mono ?_; rintro e W2 ⟨rfl, hg⟩; replace HB := Lib.hid (HB.out.mono (World.grows.trans (by (repeat (first | exact World.grows.refl _ | assumption | refine World.grows.alloc ?_ _ | refine World.grows.plus ?_ _ _ | refine World.grows.drew ?_))) hg)); replace HX := Lib.hid (HX.out.mono (World.grows.trans (by (repeat (first | exact World.grows.refl _ | assumption | refine World.grows.alloc ?_ _ | refine World.grows.plus ?_ _ _ | refine World.grows.drew ?_))) hg)); replace c0 := HX.out.2.2.1; replace c1 := HX.out.2.2.2; clear hg)
      | (go_at_call 15; refine (works_c _).mono ?_; rintro e W2 ⟨rfl, hg⟩; replace HX := Lib.hid (HX.out.mono (World.grows.trans (by (repeat (first | exact World.grows.refl _ | assumption | refine World.grows.alloc ?_ _ | refine World.grows.plus ?_ _ _ | refine World.grows.drew ?_))) hg)); clear hg))
    go_ret
    exact ⟨rfl, HX.out.2.1.trans (by (repeat (first | exact World.grows.refl _ | assumption | refine World.grows.alloc ?_ _ | refine World.grows.plus ?_ _ _ | refine World.grows.drew ?_)))⟩
end Go.Proofs.Ytjpccfpmhmddjaa

/-
  What is proved: the statement PassTold, at every input.
-/
namespace Go.Proofs.Ytjpccfpmhmddjaa
open Go.ChangeShapes Go.WideShapes Go.ChangeAt Go.RowKit

set_option maxRecDepth 100000 in
theorem passTold_lifted (os : Os) (started : os.Started) (H : Type) (enc : TypeId × Value → H) :
    ReturnsInHanded {} Try.checked os 9 .any (Rows.passToldSpec.pre6 enc Try.prog Try.f9 Rows.passToldRow.domain false) (Rows.passToldSpec.post enc Try.prog Try.f9 false true false false) := by
  refine law_lifted (C := Try.checked) (tb := 4) started own_c laid_c (by kernel_rfl) Try.func9 (of_decide_eq_true (by kernel_rfl))
    (ChangeSpec.witness6 (enc := enc) (C := Try.checked) false ⟨#[], #[.agg #[.int .i64 0, .slice none 0 0], .slice none 0 0, .int .i64 0], []⟩ 8 (by kernel_rfl) (by kernel_rfl) (by kernel_rfl) (by kernel_rfl))
    rfl Try.underlying4 rfl (fun ds hl => ?_) (fun W base args ds ps hval hA => ?_)
  · match ds, hl with
    | [d1, d2, d3], _ => exact ⟨rfl, rfl, rfl⟩
  · have hA' : DataW.TrodAll enc Try.prog W 0 (fun _ => true) true Try.f9.params.toList args.toList ds ps := hA
    have hval' : ∀ (j : Nat) t v, Try.f9.params[j]? = some t → args[j]? = some v → Value.okWide Try.prog W .any base t v := hval
    rw [Try.params9] at hA' hval'
    obtain ⟨v1, v2, v3, d1, d2, d3, p1, p2, p3, rfl, rfl, rfl, h1, h2, h3⟩ := trodAll_three hA'
    obtain ⟨J1, hJ1, hF1⟩ := job_of (hval' 0 24 v1 rfl rfl) h1
    obtain ⟨m2, f2, hf2, hb2⟩ := bytes_of (hval' 1 55 v2 rfl rfl) h2
    obtain ⟨z3, rfl, -, -, hw3⟩ := open_int Try.underlying2 (hval' 2 2 v3 rfl rfl) h3; have hz3 := lit_i64 hw3
    exact told_w W v1 J1 hJ1 v2 m2 f2 hf2 hb2 z3

theorem passTold_holds : Rows.PassToldSaid :=
  OpenClaim.holds_of_wide 9 Try.f9 rfl rfl rfl rfl rfl rfl rfl ⟨rfl, rfl, rfl, rfl, rfl⟩ rfl rfl rfl rfl rfl (by kernel_rfl) Try.func9 (by kernel_rfl)
    (of_decide_eq_true (by kernel_rfl)) (by unfold Func.isWrapper; first | (rw [if_pos (by decide +kernel)]; kernel_rfl) | (rw [if_neg (by decide +kernel)]; exact ⟨rfl, rfl⟩))
    (fun os started H enc _ => passTold_lifted os started H enc)
end Go.Proofs.Ytjpccfpmhmddjaa

