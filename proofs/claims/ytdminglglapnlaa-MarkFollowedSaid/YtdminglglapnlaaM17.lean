/-
  What is proved: a feature that parts some marks (85), in the law package.
-/
import Derived.Test.YtdminglglapnlaaM11
import Derived.Test.YtdminglglapnlaaM15
import Derived.Test.YtdminglglapnlaaM14
import Derived.Test.YtdminglglapnlaaM16
import Derived.Test.YtdminglglapnlaaM6
set_option linter.all false
namespace Go.Proofs.Ytdminglglapnlaa
open Go.RowKit
attribute [local irreducible] Go.wpCalm

/-- f parts some marks of a list, or it is -1, and nothing does -/
def Reg.featIs (r : Reg) (L : List Nat) (f : Int) : Prop :=
  (f = -1 ∧ ∀ x ∈ L, ∀ g, g < r.nc → r.val x g = r.val (L.getD 0 0) g) ∨ ∃ g : Nat, f = g ∧ g < r.nc ∧ ∃ x ∈ L, r.val x g ≠ r.val (L.getD 0 0) g
theorem rot_hits (s n g : Nat) (hg : g < n) : ∃ i, i < n ∧ (s + i) % n = g := by
  have hs : s % n < n := Nat.mod_lt _ (by omega)
  by_cases h : s % n ≤ g
  · refine ⟨g - s % n, by omega, ?_⟩
    rw [Nat.add_mod, Nat.mod_eq_of_lt (show g - s % n < n by omega), show s % n + (g - s % n) = g by omega, Nat.mod_eq_of_lt hg]
  · refine ⟨g + n - s % n, by omega, ?_⟩
    rw [Nat.add_mod, Nat.mod_eq_of_lt (show g + n - s % n < n by omega), show s % n + (g + n - s % n) = g + n by omega, Nat.add_mod_right, Nat.mod_eq_of_lt hg]
theorem Reg.feat_none {r : Reg} {L : List Nat} {s : Nat} (h : ∀ i, i < r.nc → ∀ k, k < L.length → r.val (L.getD k 0) ((s + i) % r.nc) = r.val (L.getD 0 0) ((s + i) % r.nc)) : r.featIs L (-1) := by
  refine .inl ⟨rfl, fun x hx g hg => ?_⟩
  obtain ⟨i, hi, he⟩ := rot_hits s r.nc g hg
  obtain ⟨k, hk, rfl⟩ := List.getElem_of_mem hx
  have := h i hi k hk
  rw [he] at this
  rw [← this]
  simp [hk]
set_option maxHeartbeats 2000000 in
theorem feat_c (w : World) (v : Value) (r : Reg) (hv : RegOk w v r) (hr : r.Ok) (lv : Value) (L : List Nat) (hL : ListAt w lv L) (hl : ∀ m ∈ L, m < r.nm) (h0 : 0 < L.length) (bv : Value) (nb : Nat) (b : Nat → Int) (hb : NumsAt .u8 w bv nb b)
    (hbb : ∀ i, i < nb → 0 ≤ b i ∧ b i ≤ 255) (q : Nat) (hq : q ≤ 1000) (hn40 : nb ≤ 40) :
    Calls Try.prog 85 #[v, lv, bv, .int .i64 q] w fun e w' => ∃ f, e = .returned (.int .i64 f) ∧ r.featIs L f ∧ w.grows w' := by
  obtain ⟨mb, mo, mc, cb, co, cc, rb, ro, rc, rfl, hm1, hm2, hc1, hc2, hR⟩ := hv
  obtain ⟨la, lc, rfl, l1, l2, hL⟩ := hL
  obtain ⟨ba, bc, rfl, b1, b2, hB⟩ := hb
  have HR := Lib.hid hR
  have HL := Lib.hid hL
  have Hl := Lib.hid hl
  have hc8 := hr.c8
  have hc0 := hr.c1
  unfold maxLen at hm2 hc2 l2 b2
  clear hR hL hl hr
  go_enter Try.func85, Try.ntmps85
  by_cases hnb : nb = 0
  · subst hnb
    clear hB hbb b1
    go_wp2
    go_loopw [10] (fun i wr => ∃ k : Nat, k ≤ r.nc ∧ i = .int .i64 k ∧ Hid (∀ j, j < k → ∀ x, x < L.length → r.val (L.getD x 0) ((0 + j) % r.nc) = r.val (L.getD 0 0) ((0 + j) % r.nc)) ∧ (w.alloc (.cells #[.slice (some ⟨mb, mo, none⟩) r.nm mc, .slice (some ⟨cb, co, none⟩) r.nc cc] 25)).grows wr) (fun i _ => r.nc - (intOf i).toNat)
    case atStart => exact ⟨0, by omega, rfl, Lib.hid fun j hj => by omega, by (repeat (first | exact World.grows.refl _ | assumption | refine World.grows.alloc ?_ _ | refine World.grows.plus ?_ _ _ | refine World.grows.drew ?_))⟩
    case round =>
      obtain ⟨k, hk, rfl, hk2, hg⟩ := hrel
      obtain ⟨n1, x1, rfl⟩ := World.plus_of hg
      by_cases hlt : k < r.nc
      · have hG : (0 + k) % r.nc < r.nc := Nat.mod_lt _ (by omega)
        have e2 : ((0 + k : Nat) : Int) % (r.nc : Int) = ((0 + k) % r.nc : Nat) := by omega
        have hnx := fun h => Lib.hid (upto_succ hk2.out h)
        obtain ⟨S, hS⟩ : ∃ S : Nat, 0 + k = S := ⟨_, rfl⟩
        obtain ⟨G, hGe⟩ : ∃ G, (0 + k) % r.nc = G := ⟨_, rfl⟩
        simp only [hGe] at hnx
        rw [hGe] at hG
        rw [hGe, hS] at e2
        have e1 : IntKind.i64.wrap ((k : Int)) = S := wrapI (by omega) (by omega)
        have e4 : (S : Int).tmod (r.nc : Int) = G := by rw [Int.tmod_eq_emod_of_nonneg (Int.natCast_nonneg _)]; exact e2
        have hnI : ¬ (r.nc : Int) = 0 := by omega
        have hn0 : ¬ r.nc = 0 := by omega
        have hGI : (G : Int) < r.nc := by omega
        have H2 := Lib.hid hnx
        clear hnx hS hGe hk2
        go_wp2
        clear e1 e2 e4 hnI hn0
        go_loopw [12] (fun i wr => ∃ x : Nat, x ≤ L.length ∧ i = .int .i64 x ∧ Hid (∀ j, j < x → r.val (L.getD j 0) G = r.val (L.getD 0 0) G) ∧ (w.alloc (.cells #[.slice (some ⟨mb, mo, none⟩) r.nm mc, .slice (some ⟨cb, co, none⟩) r.nc cc] 25)).grows wr) (fun i _ => L.length - (intOf i).toNat)
        case atStart => exact ⟨0, by omega, rfl, Lib.hid fun j hj => by omega, by (repeat (first | exact World.grows.refl _ | assumption | refine World.grows.alloc ?_ _ | refine World.grows.plus ?_ _ _ | refine World.grows.drew ?_))⟩
        case round =>
          obtain ⟨x, hx, rfl, hx2, hg2⟩ := hrel
          obtain ⟨n2, x2, rfl⟩ := World.plus_of hg2
          by_cases hlx : x < L.length
          · obtain ⟨b9, o9, rfl, d1⟩ := HL.out x 0 hlx (by omega)
            obtain ⟨_, _, he, d2⟩ := HL.out 0 0 (by omega) (by omega)
            cases he
            simp only [Nat.mul_one, Nat.add_zero, Nat.zero_mul] at d1 d2
            have m1 := Hl.out _ (getD_mem hlx)
            have m2 := Hl.out _ (getD_mem h0)
            have hnx := fun h => Lib.hid (upto_succ hx2.out h)
            have hno : r.val (L.getD x 0) G ≠ r.val (L.getD 0 0) G → Hid (r.featIs L (G : Int)) := fun h => Lib.hid (.inr ⟨G, rfl, hG, _, getD_mem hlx, h⟩)
            obtain ⟨y, hy⟩ : ∃ y, L.getD x 0 = y := ⟨_, rfl⟩
            obtain ⟨z, hz⟩ : ∃ z, L.getD 0 0 = z := ⟨_, rfl⟩
            simp only [hy, hz] at d1 d2 m1 m2 hnx hno
            have c1 := HR.out.row y m1
            have c2 := HR.out.row z m2
            have c3 := HR.out.val y G m1 hG
            have c4 := HR.out.val z G m2 hG
            obtain ⟨q1, q2⟩ := HR.out.cap y m1
            obtain ⟨q3, q4⟩ := HR.out.cap z m2
            unfold maxLen at q2 q4
            by_cases hw : r.val y G = r.val z G
            · have hnn := hnx hw
              rw [hw] at c3
              have HZ := Lib.hid hz
              clear hnx hno hy hz hw
              go_wp2
              (refine wp_region_calm (by kernel_rfl) (by kernel_rfl) ?_; (repeat (refine wpCalm_step (fun K hK => ?_); go_simp; first | (refine hK _ ?_; clear hK K) | (apply Exists.intro; refine ⟨fun n' x' => ?_, hK _ ?_⟩; (fail); clear hK K))); refine wpCalm_nil ?_; intro nq xq)
              go_wp2
              go_roundw
              case rel => exact ⟨x + 1, by omega, by go_num, by rw [HZ.out]; exact hnn, by (repeat (first | exact World.grows.refl _ | assumption | refine World.grows.alloc ?_ _ | refine World.grows.plus ?_ _ _ | refine World.grows.drew ?_))⟩
              case measure => simp [intOf]; omega
            · have hmx := hno hw
              have hwb : (r.val y G == r.val z G) = false := beq_eq_false_iff_ne.2 hw
              clear hnx hno hy hz
              go_wp2
              (refine wp_region_calm (by kernel_rfl) (by kernel_rfl) ?_; (repeat (refine wpCalm_step (fun K hK => ?_); go_simp; first | (refine hK _ ?_; clear hK K) | (apply Exists.intro; refine ⟨fun n' x' => ?_, hK _ ?_⟩; (fail); clear hK K))); refine wpCalm_nil ?_; intro nq xq)
              go_wp2
              (refine bodyPost_ret (v := .int .i64 (G : Nat)) (by simp [results, Try.results85, go_sem]) rfl ?_)
              exact ⟨_, rfl, hmx.out, by (repeat (first | exact World.grows.refl _ | assumption | refine World.grows.alloc ?_ _ | refine World.grows.plus ?_ _ _ | refine World.grows.drew ?_))⟩
          · have hxe : x = L.length := by omega
            have hnn := H2.out (fun j hj => hx2.out j (by omega))
            subst hxe
            go_wp2
            go_roundw
            case rel => exact ⟨k + 1, by omega, by go_num, hnn, by (repeat (first | exact World.grows.refl _ | assumption | refine World.grows.alloc ?_ _ | refine World.grows.plus ?_ _ _ | refine World.grows.drew ?_))⟩
            case measure => simp [intOf]; omega
      · have hke : k = r.nc := by omega
        have hmx : Hid (r.featIs L (-1)) := Lib.hid (Reg.feat_none (s := 0) fun i hi k' hk' => hk2.out i (by omega) k' hk')
        subst hke
        go_wp2
        (refine bodyPost_ret (v := .int .i64 (-1)) (by simp [results, Try.results85, go_sem]) rfl ?_)
        exact ⟨_, rfl, hmx.out, by (repeat (first | exact World.grows.refl _ | assumption | refine World.grows.alloc ?_ _ | refine World.grows.plus ?_ _ _ | refine World.grows.drew ?_))⟩
  · have hi : q % nb < nb := Nat.mod_lt _ (by omega)
    obtain ⟨bb, bo, rfl, e1⟩ := hB (q % nb) 0 hi (by omega)
    obtain ⟨F, hF⟩ : ∃ F : Nat, b (q % nb) = (F : Nat) := ⟨(b (q % nb)).toNat, by have := (hbb _ hi).1; omega⟩
    have hF255 : F ≤ 255 := by have := (hbb _ hi).2; omega
    dsimp only at e1
    rw [hF] at e1
    have e2 : (q : Int) % (nb : Int) = (q % nb : Nat) := by omega
    obtain ⟨T, hT⟩ : ∃ T, q % nb = T := ⟨_, rfl⟩
    rw [hT] at hi e1 e2
    have e3 : (q : Int).tmod (nb : Int) = T := by rw [Int.tmod_eq_emod_of_nonneg (Int.natCast_nonneg _)]; exact e2
    have hnbI : ¬ (nb : Int) = 0 := by omega
    have hnb0 : 0 < nb := by omega
    have hTI : (T : Int) < nb := by omega
    simp only [Nat.mul_one, Nat.add_zero] at e1
    clear hB hbb hF hT
    go_wp2
    go_loopw [10] (fun i wr => ∃ k : Nat, k ≤ r.nc ∧ i = .int .i64 k ∧ Hid (∀ j, j < k → ∀ x, x < L.length → r.val (L.getD x 0) ((F + j) % r.nc) = r.val (L.getD 0 0) ((F + j) % r.nc)) ∧ (w.alloc (.cells #[.slice (some ⟨mb, mo, none⟩) r.nm mc, .slice (some ⟨cb, co, none⟩) r.nc cc] 25)).grows wr) (fun i _ => r.nc - (intOf i).toNat)
    case atStart => exact ⟨0, by omega, rfl, Lib.hid fun j hj => by omega, by (repeat (first | exact World.grows.refl _ | assumption | refine World.grows.alloc ?_ _ | refine World.grows.plus ?_ _ _ | refine World.grows.drew ?_))⟩
    case round =>
      obtain ⟨k, hk, rfl, hk2, hg⟩ := hrel
      obtain ⟨n1, x1, rfl⟩ := World.plus_of hg
      by_cases hlt : k < r.nc
      · have hG : (F + k) % r.nc < r.nc := Nat.mod_lt _ (by omega)
        have e2 : ((F + k : Nat) : Int) % (r.nc : Int) = ((F + k) % r.nc : Nat) := by omega
        have hnx := fun h => Lib.hid (upto_succ hk2.out h)
        obtain ⟨S, hS⟩ : ∃ S : Nat, F + k = S := ⟨_, rfl⟩
        obtain ⟨G, hGe⟩ : ∃ G, (F + k) % r.nc = G := ⟨_, rfl⟩
        simp only [hGe] at hnx
        rw [hGe] at hG
        rw [hGe, hS] at e2
        have e1 : IntKind.i64.wrap ((F : Int) + k) = S := wrapI (by omega) (by omega)
        have e4 : (S : Int).tmod (r.nc : Int) = G := by rw [Int.tmod_eq_emod_of_nonneg (Int.natCast_nonneg _)]; exact e2
        have hnI : ¬ (r.nc : Int) = 0 := by omega
        have hn0 : ¬ r.nc = 0 := by omega
        have hGI : (G : Int) < r.nc := by omega
        have H2 := Lib.hid hnx
        clear hnx hS hGe hk2
        go_wp2
        clear e1 e2 e4 hnI hn0
        go_loopw [12] (fun i wr => ∃ x : Nat, x ≤ L.length ∧ i = .int .i64 x ∧ Hid (∀ j, j < x → r.val (L.getD j 0) G = r.val (L.getD 0 0) G) ∧ (w.alloc (.cells #[.slice (some ⟨mb, mo, none⟩) r.nm mc, .slice (some ⟨cb, co, none⟩) r.nc cc] 25)).grows wr) (fun i _ => L.length - (intOf i).toNat)
        case atStart => exact ⟨0, by omega, rfl, Lib.hid fun j hj => by omega, by (repeat (first | exact World.grows.refl _ | assumption | refine World.grows.alloc ?_ _ | refine World.grows.plus ?_ _ _ | refine World.grows.drew ?_))⟩
        case round =>
          obtain ⟨x, hx, rfl, hx2, hg2⟩ := hrel
          obtain ⟨n2, x2, rfl⟩ := World.plus_of hg2
          by_cases hlx : x < L.length
          · obtain ⟨b9, o9, rfl, d1⟩ := HL.out x 0 hlx (by omega)
            obtain ⟨_, _, he, d2⟩ := HL.out 0 0 (by omega) (by omega)
            cases he
            simp only [Nat.mul_one, Nat.add_zero, Nat.zero_mul] at d1 d2
            have m1 := Hl.out _ (getD_mem hlx)
            have m2 := Hl.out _ (getD_mem h0)
            have hnx := fun h => Lib.hid (upto_succ hx2.out h)
            have hno : r.val (L.getD x 0) G ≠ r.val (L.getD 0 0) G → Hid (r.featIs L (G : Int)) := fun h => Lib.hid (.inr ⟨G, rfl, hG, _, getD_mem hlx, h⟩)
            obtain ⟨y, hy⟩ : ∃ y, L.getD x 0 = y := ⟨_, rfl⟩
            obtain ⟨z, hz⟩ : ∃ z, L.getD 0 0 = z := ⟨_, rfl⟩
            simp only [hy, hz] at d1 d2 m1 m2 hnx hno
            have c1 := HR.out.row y m1
            have c2 := HR.out.row z m2
            have c3 := HR.out.val y G m1 hG
            have c4 := HR.out.val z G m2 hG
            obtain ⟨q1, q2⟩ := HR.out.cap y m1
            obtain ⟨q3, q4⟩ := HR.out.cap z m2
            unfold maxLen at q2 q4
            by_cases hw : r.val y G = r.val z G
            · have hnn := hnx hw
              rw [hw] at c3
              have HZ := Lib.hid hz
              clear hnx hno hy hz hw
              go_wp2
              (refine wp_region_calm (by kernel_rfl) (by kernel_rfl) ?_; (repeat (refine wpCalm_step (fun K hK => ?_); go_simp; first | (refine hK _ ?_; clear hK K) | (apply Exists.intro; refine ⟨fun n' x' => ?_, hK _ ?_⟩; (fail); clear hK K))); refine wpCalm_nil ?_; intro nq xq)
              go_wp2
              go_roundw
              case rel => exact ⟨x + 1, by omega, by go_num, by rw [HZ.out]; exact hnn, by (repeat (first | exact World.grows.refl _ | assumption | refine World.grows.alloc ?_ _ | refine World.grows.plus ?_ _ _ | refine World.grows.drew ?_))⟩
              case measure => simp [intOf]; omega
            · have hmx := hno hw
              have hwb : (r.val y G == r.val z G) = false := beq_eq_false_iff_ne.2 hw
              clear hnx hno hy hz
              go_wp2
              (refine wp_region_calm (by kernel_rfl) (by kernel_rfl) ?_; (repeat (refine wpCalm_step (fun K hK => ?_); go_simp; first | (refine hK _ ?_; clear hK K) | (apply Exists.intro; refine ⟨fun n' x' => ?_, hK _ ?_⟩; (fail); clear hK K))); refine wpCalm_nil ?_; intro nq xq)
              go_wp2
              (refine bodyPost_ret (v := .int .i64 (G : Nat)) (by simp [results, Try.results85, go_sem]) rfl ?_)
              exact ⟨_, rfl, hmx.out, by (repeat (first | exact World.grows.refl _ | assumption | refine World.grows.alloc ?_ _ | refine World.grows.plus ?_ _ _ | refine World.grows.drew ?_))⟩
          · have hxe : x = L.length := by omega
            have hnn := H2.out (fun j hj => hx2.out j (by omega))
            subst hxe
            go_wp2
            go_roundw
            case rel => exact ⟨k + 1, by omega, by go_num, hnn, by (repeat (first | exact World.grows.refl _ | assumption | refine World.grows.alloc ?_ _ | refine World.grows.plus ?_ _ _ | refine World.grows.drew ?_))⟩
            case measure => simp [intOf]; omega
      · have hke : k = r.nc := by omega
        have hmx : Hid (r.featIs L (-1)) := Lib.hid (Reg.feat_none (s := F) fun i hi k' hk' => hk2.out i (by omega) k' hk')
        subst hke
        go_wp2
        (refine bodyPost_ret (v := .int .i64 (-1)) (by simp [results, Try.results85, go_sem]) rfl ?_)
        exact ⟨_, rfl, hmx.out, by (repeat (first | exact World.grows.refl _ | assumption | refine World.grows.alloc ?_ _ | refine World.grows.plus ?_ _ _ | refine World.grows.drew ?_))⟩
end Go.Proofs.Ytdminglglapnlaa

/-
  What is proved: plain words on the tree that the law package builds list by list: each node's marks, a feature that parts them, and where its branches lead.
-/
namespace Go.Proofs.Ytdminglglapnlaa

def potS (Q : List (List Nat)) : Nat := (Q.map fun q => q.length - 1).sum
theorem potS_app (Q R : List (List Nat)) : potS (Q ++ R) = potS Q + potS R := by unfold potS; simp
theorem potS_one (q : List Nat) : potS [q] = q.length - 1 := by unfold potS; simp
/-- some marks of a list have different makers -/
def Reg.mixL (r : Reg) (q : List Nat) : Prop := (∀ m ∈ q, m < r.nm) ∧ ∃ a ∈ q, ∃ b ∈ q, r.who a ≠ r.who b
theorem Reg.mixL.two {r : Reg} {q : List Nat} (h : r.mixL q) : 2 ≤ q.length := by
  obtain ⟨-, a, ha, b, hb, hne⟩ := h
  match q, ha, hb with
  | [], ha, _ => cases ha
  | [x], ha, hb =>
    rw [List.mem_singleton] at ha hb
    subst ha; subst hb
    exact absurd rfl hne
  | _ :: _ :: _, _, _ => simp
theorem Reg.sameB_iff {r : Reg} {q : List Nat} : r.sameB q = true ↔ ∀ m ∈ q, r.who m = r.who (q.getD 0 0) := by
  unfold Reg.sameB
  simp only [List.all_eq_true, List.mem_range, decide_eq_true_eq]
  constructor
  · intro h m hm
    obtain ⟨k, hk, rfl⟩ := List.getElem_of_mem hm
    have := h k hk
    simpa [hk] using this
  · intro h i hi
    exact h _ (getD_mem hi)
theorem Reg.mixL_of {r : Reg} {q : List Nat} (hm : ∀ m ∈ q, m < r.nm) (h0 : 0 < q.length) (h : r.sameB q = false) : r.mixL q := by
  refine ⟨hm, ?_⟩
  have : ¬ ∀ m ∈ q, r.who m = r.who (q.getD 0 0) := fun hh => by rw [Reg.sameB_iff.2 hh] at h; cases h
  simp only [Classical.not_forall] at this
  obtain ⟨m, hmq, hne⟩ := this
  exact ⟨m, hmq, _, getD_mem h0, hne⟩
/-- those of a list that have a value -/
def Reg.pt (r : Reg) (q : List Nat) (f v : Nat) : List Nat := q.filter fun m => decide (r.val m f = (v : Nat))
def Reg.below (r : Reg) (q : List Nat) (f v : Nat) : Nat := (q.filter fun m => decide (r.val m f < (v : Nat))).length
theorem Reg.below_succ (r : Reg) (q : List Nat) (f v : Nat) : r.below q f (v + 1) = r.below q f v + (r.pt q f v).length := by
  unfold Reg.below Reg.pt
  induction q with
  | nil => rfl
  | cons m q ih =>
    simp only [List.filter_cons]
    by_cases h1 : r.val m f < (v : Nat)
    · have h2 : r.val m f < ((v + 1 : Nat) : Int) := by omega
      have h3 : ¬ r.val m f = (v : Nat) := by omega
      simp only [h1, h2, h3, decide_true, decide_false, if_true, Bool.false_eq_true, if_false, List.length_cons, ih]
      omega
    · by_cases h3 : r.val m f = (v : Nat)
      · have h2 : r.val m f < ((v + 1 : Nat) : Int) := by omega
        simp only [h1, h2, h3, decide_true, decide_false, if_true, Bool.false_eq_true, if_false, List.length_cons, ih]
        have h4 : ((v : Nat) : Int) < ((v + 1 : Nat) : Int) := by omega
        have h5 : ¬ ((v : Nat) : Int) < (v : Nat) := by omega
        simp only [h4, h5, decide_true, decide_false, if_true, Bool.false_eq_true, if_false, List.length_cons, ih]
        omega
      · have h2 : ¬ r.val m f < ((v + 1 : Nat) : Int) := by omega
        simp only [h1, h2, h3, decide_false, Bool.false_eq_true, if_false, ih]
theorem Reg.below_le (r : Reg) (q : List Nat) (f v : Nat) : r.below q f v ≤ q.length := List.length_filter_le _ _

/-- the branches and lists for the values below v of the marks q -/
structure Reg.BV (r : Reg) (base : Nat) (q : List Nat) (f v : Nat) (Qx : List (List Nat)) (nx : List (Int × Int)) : Prop where
  mix : ∀ p ∈ Qx, r.mixL p
  nval : ∀ (b : Nat) (y : Int × Int), nx[b]? = some y → 0 ≤ y.1 ∧ y.1 < v
  nup : ∀ (b : Nat) (y : Int × Int) (b' : Nat) (y' : Int × Int), nx[b]? = some y → b' < b → nx[b']? = some y' → y'.1 < y.1
  nto : ∀ (b : Nat) (y : Int × Int), nx[b]? = some y → (-1001 ≤ y.2 ∧ y.2 ≤ -1) ∨ ((base : Int) ≤ y.2 ∧ y.2 < ((base + Qx.length : Nat) : Int))
  way : ∀ m ∈ q, r.val m f < (v : Nat) → ∃ (b : Nat) (y : Int × Int), nx[b]? = some y ∧ y.1 = r.val m f ∧ (y.2 = -1 - r.who m ∨ ∃ k : Nat, y.2 = ((base + k : Nat) : Int) ∧ k < Qx.length ∧ m ∈ Qx.getD k [])
  cnt : potS Qx + nx.length ≤ r.below q f v
theorem Reg.BV.zero {r : Reg} (hr : r.Ok) {base : Nat} {q : List Nat} (hq : ∀ m ∈ q, m < r.nm) {f : Nat} (hf : f < r.nc) : r.BV base q f 0 [] [] where
  mix := fun p h => by cases h
  nval := fun b y h => by simp at h
  nup := fun b y b' y' h => by simp at h
  nto := fun b y h => by simp at h
  way := fun m hm h => by have := (hr.val m f (hq m hm) hf).1; omega
  cnt := by simp [potS]
theorem Reg.BV.skip {r : Reg} {base : Nat} {q : List Nat} {f v : Nat} {Qx : List (List Nat)} {nx : List (Int × Int)} (h : r.BV base q f v Qx nx) (hp : r.pt q f v = []) : r.BV base q f (v + 1) Qx nx where
  mix := h.mix
  nval := fun b y hb => by have := h.nval b y hb; omega
  nup := h.nup
  nto := h.nto
  way := fun m hm hv => by
    refine h.way m hm ?_
    rcases Classical.em (r.val m f = (v : Nat)) with e | e
    · have : m ∈ r.pt q f v := List.mem_filter.2 ⟨hm, by simpa using e⟩
      rw [hp] at this; cases this
    · omega
  cnt := by rw [r.below_succ, hp]; exact h.cnt
theorem get_snoc {α : Type} {l : List α} {x y : α} {b : Nat} (h : (l ++ [x])[b]? = some y) : l[b]? = some y ∨ (b = l.length ∧ y = x) := by
  rcases Nat.lt_or_ge b l.length with hl | hl
  · rw [List.getElem?_append_left hl] at h; exact .inl h
  · rw [List.getElem?_append_right hl] at h
    rcases Nat.eq_or_lt_of_le hl with e | e
    · rw [← e, Nat.sub_self] at h
      exact .inr ⟨e.symm, (Option.some.inj h).symm⟩
    · rw [List.getElem?_eq_none (by simp; omega)] at h; cases h
theorem get_snoc_old {α : Type} {l : List α} {x y : α} {b : Nat} (h : l[b]? = some y) : (l ++ [x])[b]? = some y := by
  rw [List.getElem?_append_left (List.getElem?_eq_some_iff.1 h).1]; exact h
theorem get_snoc_new {α : Type} {l : List α} {x : α} : (l ++ [x])[l.length]? = some x := by simp
/-- one branch more -/
theorem Reg.BV.add {r : Reg} {base : Nat} {q : List Nat} {f v : Nat} {Qx R : List (List Nat)} {nx : List (Int × Int)} (h : r.BV base q f v Qx nx) {z : Int} (hR : ∀ p ∈ R, r.mixL p)
    (hto : (-1001 ≤ z ∧ z ≤ -1) ∨ ((base : Int) ≤ z ∧ z < ((base + (Qx ++ R).length : Nat) : Int)))
    (hw : ∀ m ∈ r.pt q f v, z = -1 - r.who m ∨ ∃ k : Nat, z = ((base + k : Nat) : Int) ∧ k < (Qx ++ R).length ∧ m ∈ (Qx ++ R).getD k []) (hc : potS R + 1 ≤ (r.pt q f v).length) : r.BV base q f (v + 1) (Qx ++ R) (nx ++ [((v : Int), z)]) where
  mix := fun p hp => by rcases List.mem_append.1 hp with hp | hp; exact h.mix p hp; exact hR p hp
  nval := fun b y hb => by
    rcases get_snoc hb with hb | ⟨-, rfl⟩
    · have := h.nval b y hb; omega
    · constructor <;> dsimp only <;> omega
  nup := fun b y b' y' hb hlt hb' => by
    rcases get_snoc hb with hb | ⟨e, rfl⟩
    · have hlt2 : b' < nx.length := by have := (List.getElem?_eq_some_iff.1 hb).1; omega
      rw [List.getElem?_append_left hlt2] at hb'
      exact h.nup b y b' y' hb hlt hb'
    · rw [List.getElem?_append_left (by omega)] at hb'
      exact (h.nval b' y' hb').2
  nto := fun b y hb => by
    rcases get_snoc hb with hb | ⟨-, rfl⟩
    · have := h.nto b y hb
      rw [List.length_append]
      omega
    · exact hto
  way := fun m hm hv => by
    by_cases e : r.val m f = (v : Nat)
    · exact ⟨nx.length, _, get_snoc_new, e.symm, hw m (List.mem_filter.2 ⟨hm, by simpa using e⟩)⟩
    · obtain ⟨b, y, h1, h2, h3⟩ := h.way m hm (by omega)
      refine ⟨b, y, get_snoc_old h1, h2, ?_⟩
      rcases h3 with h3 | ⟨k, h3, h4, h5⟩
      · exact .inl h3
      · refine .inr ⟨k, h3, by rw [List.length_append]; omega, ?_⟩
        rw [List.getD_eq_getElem?_getD, List.getElem?_append_left h4, ← List.getD_eq_getElem?_getD]
        exact h5
  cnt := by
    have := h.cnt
    rw [potS_app, r.below_succ, List.length_append, List.length_singleton]
    omega
theorem Reg.BV.same {r : Reg} (hr : r.Ok) {base : Nat} {q : List Nat} (hq : ∀ m ∈ q, m < r.nm) {f v : Nat} {Qx : List (List Nat)} {nx : List (Int × Int)} (h : r.BV base q f v Qx nx) (hp : 0 < (r.pt q f v).length) (hs : r.sameB (r.pt q f v) = true) :
    r.BV base q f (v + 1) Qx (nx ++ [((v : Int), -1 - r.who ((r.pt q f v).getD 0 0))]) := by
  have := h.add (R := []) (z := -1 - r.who ((r.pt q f v).getD 0 0)) (fun p hp => by cases hp) (.inl (by
    have h1 := getD_mem hp
    have := hr.who _ (hq _ (List.mem_filter.1 h1).1)
    omega)) (fun m hm => .inl (by rw [Reg.sameB_iff.1 hs m hm])) (by simp [potS]; omega)
  rwa [List.append_nil] at this
theorem Reg.BV.mixed {r : Reg} {base : Nat} {q : List Nat} (hq : ∀ m ∈ q, m < r.nm) {f v : Nat} {Qx : List (List Nat)} {nx : List (Int × Int)} (h : r.BV base q f v Qx nx) (hp : 0 < (r.pt q f v).length) (hs : r.sameB (r.pt q f v) = false) :
    r.BV base q f (v + 1) (Qx ++ [r.pt q f v]) (nx ++ [((v : Int), ((base + Qx.length : Nat) : Int))]) := by
  have hm := Reg.mixL_of (fun m hm => hq m (List.mem_filter.1 hm).1) hp hs
  refine h.add (fun p hp => by rw [List.mem_singleton] at hp; subst hp; exact hm) (.inr ⟨by omega, by rw [List.length_append, List.length_singleton]; omega⟩) (fun m hmm => .inr ⟨Qx.length, rfl, by simp, by simpa using hmm⟩) ?_
  rw [potS_one]
  have := hm.two
  omega
/-- a feature that parts the marks has two branches -/
theorem Reg.BV.two {r : Reg} (hr : r.Ok) {base : Nat} {q : List Nat} (hq : ∀ m ∈ q, m < r.nm) (h0 : 0 < q.length) {f : Nat} (hf : f < r.nc) {Qx : List (List Nat)} {nx : List (Int × Int)} (h : r.BV base q f 10 Qx nx) (hp : ∃ x ∈ q, r.val x f ≠ r.val (q.getD 0 0) f) : 2 ≤ nx.length := by
  obtain ⟨x, hx, hne⟩ := hp
  have hz := getD_mem h0
  obtain ⟨b, y, h1, h2, -⟩ := h.way x hx (by have := (hr.val x f (hq x hx) hf).2; omega)
  obtain ⟨b', y', h1', h2', -⟩ := h.way _ hz (by have := (hr.val _ f (hq _ hz) hf).2; omega)
  have e : b ≠ b' := by
    rintro rfl
    rw [h1] at h1'
    cases Option.some.inj h1'
    exact hne (h2.symm.trans h2')
  have l1 := (List.getElem?_eq_some_iff.1 h1).1
  have l2 := (List.getElem?_eq_some_iff.1 h1').1
  omega

/-- the tree when i nodes are done -/
structure Reg.BF (r : Reg) (N : List Nd) (Q : List (List Nat)) (i : Nat) : Prop where
  len : N.length = Q.length
  le : i ≤ N.length
  pos : 0 < N.length
  mix : ∀ j, j < Q.length → r.mixL (Q.getD j [])
  root : ∀ m, m < r.nm → m ∈ Q.getD 0 []
  new : ∀ j, i ≤ j → ndF N j = 0 ∧ ndB N j = []
  feat : ∀ j, j < i → 0 ≤ ndF N j ∧ ndF N j < r.nc
  val : ∀ (j b : Nat) (y : Int × Int), (ndB N j)[b]? = some y → 0 ≤ y.1 ∧ y.1 ≤ 9
  up : ∀ (j b : Nat) (y : Int × Int) (b' : Nat) (y' : Int × Int), (ndB N j)[b]? = some y → b' < b → (ndB N j)[b']? = some y' → y'.1 < y.1
  goes : ∀ (j b : Nat) (y : Int × Int), (ndB N j)[b]? = some y → (-1001 ≤ y.2 ∧ y.2 ≤ -1) ∨ ((j : Int) < y.2 ∧ y.2 < N.length)
  way : ∀ j, j < i → ∀ m ∈ Q.getD j [], ∃ (b : Nat) (y : Int × Int), (ndB N j)[b]? = some y ∧ y.1 = r.val m (ndF N j).toNat ∧ (y.2 = -1 - r.who m ∨ ∃ k : Nat, y.2 = (k : Nat) ∧ j < k ∧ k < Q.length ∧ m ∈ Q.getD k [])
  pot : i + potS (Q.drop i) + 1 ≤ r.nm
theorem potS_len : ∀ (Q : List (List Nat)), (∀ q ∈ Q, 2 ≤ q.length) → Q.length ≤ potS Q
  | [], _ => Nat.zero_le _
  | q :: Q, h => by
    have h1 := potS_len Q fun p hp => h p (List.mem_cons_of_mem _ hp)
    have h2 := h q (List.mem_cons_self ..)
    unfold potS at h1 ⊢
    simp only [List.map_cons, List.sum_cons, List.length_cons]
    omega
theorem Reg.BF.bound {r : Reg} {N : List Nd} {Q : List (List Nat)} {i : Nat} (h : r.BF N Q i) : Q.length + 1 ≤ r.nm := by
  have h1 := potS_len (Q.drop i) fun q hq => by
    obtain ⟨k, hk, rfl⟩ := List.getElem_of_mem hq
    rw [List.getElem_drop]
    rw [List.length_drop] at hk
    have h2 := (h.mix (i + k) (by omega)).two
    rw [List.getD_eq_getElem?_getD, List.getElem?_eq_getElem (show i + k < Q.length by omega)] at h2
    exact h2
  have h2 := h.pot
  rw [List.length_drop] at h1
  have := h.le
  have := h.len
  omega
theorem Reg.BF.qlen {r : Reg} {N : List Nd} {Q : List (List Nat)} {i : Nat} (h : r.BF N Q i) (hi : i < Q.length) : (Q.getD i []).length ≤ r.nm := by
  have h1 := h.pot
  have h4 : Q.drop i = Q.getD i [] :: Q.drop (i + 1) := by
    rw [List.drop_eq_getElem_cons hi, List.getD_eq_getElem?_getD, List.getElem?_eq_getElem hi]; rfl
  rw [h4] at h1
  have h5 : potS (Q.getD i [] :: Q.drop (i + 1)) = ((Q.getD i []).length - 1) + potS (Q.drop (i + 1)) := by unfold potS; simp
  have h6 := (h.mix i hi).two
  omega
theorem Reg.BV.few {r : Reg} {base : Nat} {q : List Nat} {f v : Nat} {Qx : List (List Nat)} {nx : List (Int × Int)} (h : r.BV base q f v Qx nx) : Qx.length + nx.length ≤ q.length := by
  have h1 := h.cnt
  have h2 := r.below_le q f v
  have h3 := potS_len Qx fun p hp => (h.mix p hp).two
  omega
theorem ndF_nil (j : Nat) : ndF [(0, [])] j = 0 := by
  cases j <;> rfl
theorem ndB_nil (j : Nat) : ndB [(0, [])] j = [] := by
  cases j <;> rfl
theorem Reg.BF.start {r : Reg} (h1 : 1 ≤ r.nm) (h : r.sameB (List.range r.nm) = false) : r.BF [(0, [])] [List.range r.nm] 0 where
  len := rfl
  le := Nat.zero_le _
  pos := by simp
  mix := fun j hj => by
    have : j = 0 := by simpa using hj
    subst this
    exact Reg.mixL_of (fun m hm => List.mem_range.1 hm) (by simp; omega) h
  root := fun m hm => List.mem_range.2 hm
  new := fun j _ => ⟨ndF_nil j, ndB_nil j⟩
  feat := fun j hj => absurd hj (by omega)
  val := fun j b y hb => by rw [ndB_nil] at hb; simp at hb
  up := fun j b y b' y' hb => by rw [ndB_nil] at hb; simp at hb
  goes := fun j b y hb => by rw [ndB_nil] at hb; simp at hb
  way := fun j hj => absurd hj (by omega)
  pot := by simp [potS]; omega
theorem getD_app_left {α : Type} {l l' : List α} {i : Nat} {d : α} (h : i < l.length) : (l ++ l').getD i d = l.getD i d := by
  rw [List.getD_eq_getElem?_getD, List.getElem?_append_left h, ← List.getD_eq_getElem?_getD]
theorem getD_app_right {α : Type} {l l' : List α} {i : Nat} {d : α} : (l ++ l').getD (l.length + i) d = l'.getD i d := by
  rw [List.getD_eq_getElem?_getD, List.getElem?_append_right (by omega), ← List.getD_eq_getElem?_getD, Nat.add_sub_cancel_left]
theorem getD_app_new {N : List Nd} (k : Nat) {j : Nat} (h : N.length ≤ j) : (N ++ List.replicate k (0, [])).getD j (0, []) = ((0, []) : Nd) := by
  obtain ⟨i, rfl⟩ : ∃ i, j = N.length + i := ⟨j - N.length, by omega⟩
  rw [getD_app_right, List.getD_eq_getElem?_getD, List.getElem?_replicate]
  split <;> rfl
theorem Reg.BF.step {r : Reg} (hr : r.Ok) {N : List Nd} {Q : List (List Nat)} {i : Nat} (h : r.BF N Q i) (hi : i < N.length) {f : Nat} (hf : f < r.nc) (hp : ∃ x ∈ Q.getD i [], r.val x f ≠ r.val ((Q.getD i []).getD 0 0) f)
    {Qx : List (List Nat)} {nx : List (Int × Int)} (hx : r.BV N.length (Q.getD i []) f 10 Qx nx) : r.BF ((N ++ List.replicate Qx.length (0, [])).set i ((f : Int), nx)) (Q ++ Qx) (i + 1) := by
  have hlen := h.len
  have hmi := h.mix i (by omega)
  have htwo := hx.two hr hmi.1 (by have := hmi.two; omega) hf hp
  have hset : ∀ j, ((N ++ List.replicate Qx.length (0, [])).set i ((f : Int), nx)).getD j (0, []) = if j = i then ((f : Int), nx) else N.getD j (0, []) := fun j => by
    rw [List.getD_eq_getElem?_getD, List.getElem?_set]
    by_cases e : j = i
    · subst e
      rw [if_pos rfl, if_pos rfl, if_pos (by simp; omega)]; rfl
    · rw [if_neg (Ne.symm e), if_neg e, ← List.getD_eq_getElem?_getD]
      rcases Nat.lt_or_ge j N.length with hj | hj
      · exact getD_app_left hj
      · rw [getD_app_new _ hj, List.getD_eq_getElem?_getD, List.getElem?_eq_none hj]; rfl
  have hF : ∀ j, ndF ((N ++ List.replicate Qx.length (0, [])).set i ((f : Int), nx)) j = if j = i then (f : Int) else ndF N j := fun j => by
    unfold ndF; rw [hset]; split <;> rfl
  have hB : ∀ j, ndB ((N ++ List.replicate Qx.length (0, [])).set i ((f : Int), nx)) j = if j = i then nx else ndB N j := fun j => by
    unfold ndB; rw [hset]; split <;> rfl
  refine ⟨by simp; omega, by simp; omega, by simp; omega, fun j hj => ?_, fun m hm => ?_, fun j hj => ?_, fun j hj => ?_, fun j b y hb => ?_, fun j b y b' y' hb hlt hb' => ?_, fun j b y hb => ?_, fun j hj m hm => ?_, ?_⟩
  · rcases Nat.lt_or_ge j Q.length with hj' | hj'
    · rw [getD_app_left hj']; exact h.mix j hj'
    · obtain ⟨k, rfl⟩ : ∃ k, j = Q.length + k := ⟨j - Q.length, by omega⟩
      rw [getD_app_right]
      rw [List.length_append] at hj
      exact hx.mix _ (by rw [List.getD_eq_getElem?_getD, List.getElem?_eq_getElem (show k < Qx.length by omega)]; exact List.getElem_mem _)
  · rw [getD_app_left (by omega)]; exact h.root m hm
  · rw [hF, hB, if_neg (by omega), if_neg (by omega)]; exact h.new j (by omega)
  · rw [hF]
    split
    · omega
    · exact h.feat j (by omega)
  · rw [hB] at hb
    split at hb
    · have := hx.nval b y hb; omega
    · exact h.val j b y hb
  · rw [hB] at hb hb'
    split at hb
    · rename_i e
      rw [if_pos e] at hb'
      exact hx.nup b y b' y' hb hlt hb'
    · rename_i e
      rw [if_neg e] at hb'
      exact h.up j b y b' y' hb hlt hb'
  · rw [hB] at hb
    simp only [List.length_set, List.length_append, List.length_replicate]
    split at hb
    · have := hx.nto b y hb
      omega
    · have := h.goes j b y hb
      omega
  · have hjl : j < Q.length := by omega
    rw [getD_app_left hjl] at hm
    rw [hF, hB]
    by_cases e : j = i
    · subst e
      rw [if_pos rfl, if_pos rfl]
      obtain ⟨b, y, h1, h2, h3⟩ := hx.way m hm (by have := (hr.val m f (hmi.1 m hm) hf).2; omega)
      refine ⟨b, y, h1, h2, ?_⟩
      rcases h3 with h3 | ⟨k, h3, h4, h5⟩
      · exact .inl h3
      · refine .inr ⟨N.length + k, h3, by omega, by rw [List.length_append]; omega, ?_⟩
        rw [hlen, getD_app_right]
        exact h5
    · rw [if_neg e, if_neg e]
      obtain ⟨b, y, h1, h2, h3⟩ := h.way j (by omega) m hm
      refine ⟨b, y, h1, h2, ?_⟩
      rcases h3 with h3 | ⟨k, h3, h4, h5, h6⟩
      · exact .inl h3
      · refine .inr ⟨k, h3, h4, by rw [List.length_append]; omega, ?_⟩
        rw [getD_app_left h5]; exact h6
  · have h1 := h.pot
    have h2 := hx.cnt
    have h3 := r.below_le (Q.getD i []) f 10
    have h4 : Q.drop i = Q.getD i [] :: Q.drop (i + 1) := by
      rw [List.drop_eq_getElem_cons (by omega), List.getD_eq_getElem?_getD, List.getElem?_eq_getElem (by omega)]; rfl
    rw [List.drop_append_of_le_length (by omega), potS_app]
    rw [h4] at h1
    have h5 : potS (Q.getD i [] :: Q.drop (i + 1)) = ((Q.getD i []).length - 1) + potS (Q.drop (i + 1)) := by unfold potS; simp
    rw [h5] at h1
    omega
theorem Reg.BF.ok {r : Reg} {N : List Nd} {Q : List (List Nat)} (h : r.BF N Q N.length) (hr : r.Ok) : (Tr.ofL 0 N).Ok r.nc where
  n := by
    have := h.bound
    have := hr.m10
    have := h.len
    show N.length ≤ 100
    omega
  feat := fun i hi => h.feat i hi
  bv := fun i b hi hb => by
    have hb : b < (ndB N i).length := hb
    have := h.val i b _ (List.getElem?_eq_getElem hb)
    show 0 ≤ fstL (ndB N i) b ∧ fstL (ndB N i) b ≤ 9
    rw [fst_at (List.getElem?_eq_getElem hb)]
    exact this
  up := fun i b hi hb => by
    have hb : b + 1 < (ndB N i).length := hb
    show fstL (ndB N i) b < fstL (ndB N i) (b + 1)
    rw [fst_at (List.getElem?_eq_getElem hb), fst_at (List.getElem?_eq_getElem (show b < (ndB N i).length by omega))]
    exact h.up i (b + 1) _ b _ (List.getElem?_eq_getElem hb) (by omega) (List.getElem?_eq_getElem (by omega))
  bt := fun i b hi hb => by
    have hb : b < (ndB N i).length := hb
    show ((i : Int) < sndL (ndB N i) b ∧ sndL (ndB N i) b < N.length) ∨ (-1001 ≤ sndL (ndB N i) b ∧ sndL (ndB N i) b ≤ -1)
    rw [snd_at (List.getElem?_eq_getElem hb)]
    have := h.goes i b _ (List.getElem?_eq_getElem hb)
    omega
  root := .inl ⟨Int.le_refl _, by have := h.pos; show (0 : Int) < N.length; omega⟩
theorem Reg.BF.says {r : Reg} {N : List Nd} {Q : List (List Nat)} (h : r.BF N Q N.length) (hr : r.Ok) : ∀ (k j m : Nat), j < N.length → N.length ≤ k + j → m ∈ Q.getD j [] → ∃ c, (Tr.ofL 0 N).go r.cost (r.val m) k (j : Nat) = some (-1 - r.who m, c) := by
  intro k
  induction k with
  | zero => intro j m hj hk; omega
  | succ k ih =>
    intro j m hj hk hm
    obtain ⟨b, y, h1, h2, h3⟩ := h.way j hj m hm
    have hb : b < (ndB N j).length := (List.getElem?_eq_some_iff.1 h1).1
    have hok := h.ok hr
    have hbr : (Tr.ofL 0 N).branch j (r.val m (ndF N j).toNat) = some b := by
      refine Tr.branch_is hb ?_ fun a ha => ?_
      · show fstL (ndB N j) b = _
        rw [fst_at h1]; exact h2
      · show fstL (ndB N j) a ≠ _
        have ha' : a < (ndB N j).length := by omega
        rw [fst_at (List.getElem?_eq_getElem ha'), ← h2]
        have := h.up j b y a _ h1 ha (List.getElem?_eq_getElem ha')
        omega
    have hbt : (Tr.ofL 0 N).bt j b = y.2 := by show sndL (ndB N j) b = _; exact snd_at h1
    have hq := (h.mix j (by have := h.len; omega)).1 m hm
    have hgo : ∃ c, (Tr.ofL 0 N).go r.cost (r.val m) k y.2 = some (-1 - r.who m, c) := by
      rcases h3 with h3 | ⟨k', h3, h4, h5, h6⟩
      · have := hr.who m hq
        exact ⟨0, by rw [h3]; exact Tr.go_end _ _ _ _ (by omega)⟩
      · rw [h3]
        exact ih k' m (by have := h.len; omega) (by omega) h6
    obtain ⟨c, hc⟩ := hgo
    refine ⟨r.cost (ndF N j).toNat + c, ?_⟩
    simp only [Tr.go]
    rw [if_neg (by omega), Int.toNat_natCast]
    show (match (Tr.ofL 0 N).branch j (r.val m (ndF N j).toNat) with
      | none => none
      | some b => ((Tr.ofL 0 N).go r.cost (r.val m) k ((Tr.ofL 0 N).bt j b)).map fun (x : Int × Int) => (x.1, r.cost (ndF N j).toNat + x.2)) = _
    rw [hbr]
    dsimp only
    rw [hbt, hc]
    rfl
theorem Reg.BF.done {r : Reg} (hr : r.Ok) {N : List Nd} {Q : List (List Nat)} (h : r.BF N Q N.length) : (Tr.ofL 0 N).treeE r = 0 := by
  unfold Tr.treeE
  rw [if_pos ((Tr.ok_iff _ r).2 ⟨hr.check, h.ok hr⟩), if_pos]
  rw [List.all_eq_true]
  intro m hm
  obtain ⟨c, hc⟩ := h.says hr (N.length + 1) 0 m h.pos (by omega) (h.root m (List.mem_range.1 hm))
  have hs : (Tr.ofL 0 N).say r (r.val m) = some (-1 - r.who m, c) := hc
  unfold Tr.tellsB
  rw [hs]
  simp
  omega
/-- marks of one maker alone: the tree is a maker -/
theorem Reg.one_tree {r : Reg} (hr : r.Ok) (h : r.sameB (List.range r.nm) = true) : (Tr.ofL (-1 - r.who 0) []).treeE r = 0 := by
  have h0 := hr.who 0 hr.m1
  have hok : (Tr.ofL (-1 - r.who 0) []).Ok r.nc := ⟨Nat.zero_le _, fun i hi => absurd hi (Nat.not_lt_zero _), fun i b hi => absurd hi (Nat.not_lt_zero _), fun i b hi => absurd hi (Nat.not_lt_zero _), fun i b hi => absurd hi (Nat.not_lt_zero _),
    .inr (by show -1001 ≤ -1 - r.who 0 ∧ -1 - r.who 0 ≤ -1; omega)⟩
  unfold Tr.treeE
  rw [if_pos ((Tr.ok_iff _ r).2 ⟨hr.check, hok⟩), if_pos]
  rw [List.all_eq_true]
  intro m hm
  have he := Reg.sameB_iff.1 h m hm
  have e0 : (List.range r.nm).getD 0 0 = 0 := by
    have := hr.m1
    cases hn : r.nm with
    | zero => omega
    | succ n => rw [List.range_succ_eq_map]; rfl
  rw [e0] at he
  have hs : (Tr.ofL (-1 - r.who 0) []).say r (r.val m) = some (-1 - r.who 0, 0) := Tr.go_end _ _ _ _ (by show -1 - r.who 0 < 0; omega)
  unfold Tr.tellsB
  rw [hs]
  simp
  omega
/-- nothing parts marks of different makers: there are twins -/
theorem Reg.feat_twins {r : Reg} {q : List Nat} (hm : r.mixL q) (h : ∀ x ∈ q, ∀ g, g < r.nc → r.val x g = r.val (q.getD 0 0) g) : ¬ r.NoTwins := by
  obtain ⟨hq, a, ha, b, hb, hne⟩ := hm
  intro hn
  have ht : r.twin a b = true := (r.twin_iff a b).2 ⟨hne, fun f hf => (h a ha f hf).trans (h b hb f hf).symm⟩
  rcases Nat.lt_trichotomy a b with hl | hl | hl
  · rw [hn a b hl (hq b hb)] at ht; cases ht
  · exact hne (by rw [hl])
  · rw [r.twin_comm, hn b a hl (hq a ha)] at ht; cases ht
/-- no tree tells twins -/
theorem Reg.twins_tree {r : Reg} (h : ¬ r.NoTwins) (t : Tr) : t.treeE r ≠ 0 := by
  intro he
  have hc : t.check r = 0 := by
    unfold Tr.treeE at he
    by_cases hc : t.check r = 0
    · exact hc
    · rw [if_neg hc] at he; exact he
  obtain ⟨hr0, ho⟩ := (Tr.ok_iff _ r).1 hc
  have hr := Reg.ok_of hr0
  have h1 := Reg.twins_cst hr h
  have h2 := Reg.cst_le_treeA he
  have h3 : t.treeA r ≤ 100000 := by
    unfold Tr.treeA
    rw [if_pos he]
    refine (mx_le _ _ _).2 ⟨by omega, fun m hm => ?_⟩
    unfold Tr.costAt
    rw [ho.say_eq]
    have hbd := costSum_bd hr.cost _ (ho.look_lt (r.val m))
    have hl := ho.look_len (r.val m)
    by_cases e : (t.look (r.val m) t.root).2 = 0
    · rw [if_pos e]; dsimp only; omega
    · rw [if_neg e]; dsimp only; omega
  omega
end Go.Proofs.Ytdminglglapnlaa

/-
  What is proved: the law's own tree in memory: its box, its nodes, their branches, and the list of lists of marks; what appending and storing leave.
-/
namespace Go.Proofs.Ytdminglglapnlaa
open Go.RowKit

theorem el29 : Try.prog.knows 29 (.slice none 0 0) 1 24 := Program.knows_of (by kernel_rfl)
theorem heap_by {W W' : World} {k : Nat} {c : Array Value} {t : TypeId} (h : W.heap[k]? = some (.cells c t)) {base e size : Nat} {v : Value} {n : Nat} {xs : List Value} (ho : W.ownsRow base e size v n xs) (he : e ≠ t) (g : W.grownBy W' v.ownBlock) : W'.heap[k]? = some (.cells c t) := by
  rw [g.block k (World.lt_of_block h) (fun e' => row_block ho h he k e'.symm rfl)]
  exact h
section
variable {P : Program} (w : World)
/-- append, which tells where the row lies behind it -/
theorem wpList_append_h {ops : Array Oper} {rest : List Oper} {o : Oper} {a : Act} {Q : Exit → Act → World → Prop} (hgd : o.guard = none) (s x : Operand) (t : TypeId)
    (ho : o.op = .call { callee := .builtin .append, args := #[s, x], argTypes := #[t, t] })
    (base : Nat) (e : TypeId) (z : Value) (size bytes : Nat) (ht : P.underlying t = some (.slice e)) (hi : P.knows e z size bytes) (hzs : z.cells.size = size) (hsz : 0 < size)
    (v : Value) (n : Nat) (xs : List Value) (hs : a.eval s = v) (hown : w.ownsRow base e size v n xs)
    (xv : Value) (hx : a.eval x = xv) (m : Nat) (news : List Value) (hm : 0 < m) (hsrc : SrcAt w xv m size news) (h1 : ∀ u ∈ news, u.oneCell' = true)
    (h63 : n + m ≤ maxLen) (hbytes : (n + m) * bytes ≤ 140737488355328) (hbase : base ≤ w.heap.size)
    (h : ∀ v' w', w'.ownsRow base e size v' (n + m) (xs ++ news) → w.grownBy w' v.ownBlock → (v'.ownBlock = v.ownBlock ∨ v'.ownBlock = some w.heap.size) → wpList P ops Q rest (a.put o.dst v') w') :
    wpList P ops Q (o :: rest) a w := by
  obtain ⟨i, hi, hz, hsize, hby⟩ := hi
  obtain ⟨A, c, rfl, hl, hA⟩ := hsrc
  obtain ⟨ad, rfl, hc⟩ := hA hm
  exact wpList_append_own_at (w := w) hgd s x t ho base e i z size bytes ht hi hz hsize hby hzs hsz v n xs hs hown ad m c news hx hl hc h1 h63 hbytes hbase fun v' w' h2 h3 _ h5 => h v' w' h2 h3 h5
end

theorem Reg.pt_take (r : Reg) (q : List Nat) (g v : Nat) {k : Nat} (hk : k < q.length) : r.pt (q.take (k + 1)) g v = r.pt (q.take k) g v ++ if r.val (q.getD k 0) g = (v : Nat) then [q.getD k 0] else [] := by
  unfold Reg.pt
  rw [List.take_succ, List.getElem?_eq_getElem hk]
  have e : q.getD k 0 = q[k] := by simp [hk]
  rw [e]
  simp only [Option.toList_some, List.filter_append, List.filter_cons, List.filter_nil]
  by_cases h : r.val q[k] g = (v : Nat)
  · simp [h]
  · simp [h]
/-- the tree that is being built -/
structure LT (base : Nat) (W : World) (tb : Nat) (nv lv : Value) (N : List Nd) (us : Nat → Value) (Q : List (List Nat)) (ls : Nat → Value) : Prop where
  box : W.heap[tb]? = some (.cells #[.int .i64 0, nv] 28)
  row : W.ownsRow base 83 2 nv N.length (tableL N.length 2 (ncell (ndF N) us))
  sub : ∀ i, i < N.length → W.ownsRow base 129 2 (us i) (ndB N i).length (pcells (ndB N i))
  lft : W.ownsRow base 29 1 lv Q.length (tableL Q.length 1 (fun j _ => ls j))
  lst : ∀ j, j < Q.length → W.ownsRow base 3 1 (ls j) (Q.getD j []).length (ilist (Q.getD j []))
section
variable {base : Nat} {W W' : World} {tb : Nat} {nv lv : Value} {N : List Nd} {us : Nat → Value} {Q : List (List Nat)} {ls : Nat → Value}
theorem LT.mono (h : LT base W tb nv lv N us Q ls) (g : W.grows W') : LT base W' tb nv lv N us Q ls :=
  ⟨g.heap_of h.box, h.row.grow g, fun i hi => (h.sub i hi).grow g, h.lft.grow g, fun j hj => (h.lst j hj).grow g⟩
theorem LT.at' (h : LT base W tb nv lv N us Q ls) (root : Int) : NodesAt W nv (Tr.ofL root N) :=
  ⟨us, h.row.sliceAt fun i j hi hj => tableL_get _ hi hj, fun i hi => (h.sub i hi).pairsAt rfl⟩
/-- a node more -/
theorem LT.node (h : LT base W tb nv lv N us Q ls) {v : Value} (hown : W'.ownsRow base 83 2 v (N.length + 1) (tableL N.length 2 (ncell (ndF N) us) ++ tableL 1 2 (ncell (fun _ => 0) (fun _ => .slice none 0 0)))) (g : W.grownBy W' nv.ownBlock) :
    LT base (W'.setCell ⟨tb, 1, none⟩ v) tb v lv (N ++ [(0, [])]) (fun i => if i < N.length then us i else .slice none 0 0) Q ls := by
  have hb := heap_by h.box h.row (by decide) g
  have hs := fun i hi => (h.sub i hi).other h.row (by decide) g
  have hl := h.lft.other h.row (by decide) g
  have hq := fun j hj => (h.lst j hj).other h.row (by decide) g
  refine ⟨?_, ?_, fun i hi => ?_, ?_, fun j hj => ?_⟩
  · rw [store_of_heap hb]; rfl
  · rw [node_table, List.length_append, List.length_singleton]
    exact ownsRow_setCell_other hown (fun e => row_block hown hb (by decide) _ e rfl) _
  · rw [List.length_append, List.length_singleton] at hi
    try dsimp only
    by_cases h' : i = N.length
    · subst h'
      rw [if_neg (by omega), ndB_last]
      exact World.ownsRow_nil _ _ _ _
    · rw [if_pos (by omega), ndB_snoc N _ (by omega)]
      have := hs i (by omega)
      exact ownsRow_setCell_other this (fun e => row_block this hb (by decide) _ e rfl) _
  · exact ownsRow_setCell_other hl (fun e => row_block hl hb (by decide) _ e rfl) _
  · exact ownsRow_setCell_other (hq j hj) (fun e => row_block (hq j hj) hb (by decide) _ e rfl) _
/-- a list more -/
theorem LT.left (h : LT base W tb nv lv N us Q ls) {v u : Value} {p : List Nat} (hown : W'.ownsRow base 29 1 v (Q.length + 1) (tableL Q.length 1 (fun j _ => ls j) ++ tableL 1 1 (fun _ _ => u))) (g : W.grownBy W' lv.ownBlock) (hu : W.ownsRow base 3 1 u p.length (ilist p)) :
    LT base W' tb nv v N us (Q ++ [p]) (fun j => if j < Q.length then ls j else u) := by
  refine ⟨heap_by h.box h.lft (by decide) g, h.row.other h.lft (by decide) g, fun i hi => (h.sub i hi).other h.lft (by decide) g, ?_, fun j hj => ?_⟩
  · rw [List.length_append, List.length_singleton]
    have e : tableL (Q.length + 1) 1 (fun j _ => if j < Q.length then ls j else u) = tableL Q.length 1 (fun j _ => ls j) ++ tableL 1 1 (fun _ _ => u) := by
      rw [tableL_snoc]
      congr 1
      · exact tableL_congr (fun i j hi hj => by rw [if_pos hi]) (by omega)
      · show [if Q.length < Q.length then ls Q.length else u] = [u]
        rw [if_neg (by omega)]
    rw [e]
    exact hown
  · rw [List.length_append, List.length_singleton] at hj
    try dsimp only
    by_cases h' : j = Q.length
    · subst h'
      rw [if_neg (by omega), List.getD_eq_getElem?_getD, List.getElem?_append_right (by omega), Nat.sub_self]
      exact hu.other h.lft (by decide) g
    · rw [if_pos (by omega), getD_app_left (by omega)]
      exact (h.lst j (by omega)).other h.lft (by decide) g
/-- branches of the node that is being made -/
theorem LT.next (h : LT base W tb nv lv N us Q ls) {b2 m n : Nat} {u : Value} {xs : List Value} (hu : W.ownsRow b2 129 2 u n xs) (hm : m ≤ b2) (hd : ∀ j, j < N.length → ∀ k, (us j).ownBlock = some k → k < m) (g : W.grownBy W' u.ownBlock) : LT base W' tb nv lv N us Q ls := by
  refine ⟨heap_by h.box hu (by decide) g, h.row.other hu (by decide) g, fun i hi => (h.sub i hi).kept g ?_, h.lft.other hu (by decide) g, fun j hj => (h.lst j hj).other hu (by decide) g⟩
  cases hk : u.ownBlock with
  | none =>
    cases hi2 : (us i).ownBlock with
    | none => exact .inl rfl
    | some k => exact .inr (by simp)
  | some k =>
    refine .inr fun e => ?_
    have h1 := hd i hi k e
    have h2 := (hu.lt k hk).1
    omega
/-- the box of the node that is being made is written -/
theorem LT.setN (h : LT base W tb nv lv N us Q ls) {nb : Nat} {c : Array Value} (hb : W.heap[nb]? = some (.cells c 83)) (hne : nv.ownBlock ≠ some nb) (i : Nat) (x : Value) : LT base (W.setCell ⟨nb, i, none⟩ x) tb nv lv N us Q ls := by
  have htb : tb ≠ nb := by
    rintro rfl
    have := h.box.symm.trans hb
    cases this
  refine ⟨?_, ownsRow_setCell_other h.row hne _, fun i hi => ownsRow_setCell_other (h.sub i hi) (fun e => row_block (h.sub i hi) hb (by decide) _ e rfl) _, ownsRow_setCell_other h.lft (fun e => row_block h.lft hb (by decide) _ e rfl) _,
    fun j hj => ownsRow_setCell_other (h.lst j hj) (fun e => row_block (h.lst j hj) hb (by decide) _ e rfl) _⟩
  rw [World.heap_setCell_map _ _ _ _ (Ne.symm htb)]
  exact h.box
/-- another box is written -/
theorem LT.setO (h : LT base W tb nv lv N us Q ls) {ob : Nat} {c : Array Value} (hb : W.heap[ob]? = some (.cells c 28)) (hne : tb ≠ ob) (i : Nat) (x : Value) : LT base (W.setCell ⟨ob, i, none⟩ x) tb nv lv N us Q ls := by
  refine ⟨?_, ownsRow_setCell_other h.row (fun e => row_block h.row hb (by decide) _ e rfl) _, fun i hi => ownsRow_setCell_other (h.sub i hi) (fun e => row_block (h.sub i hi) hb (by decide) _ e rfl) _, ownsRow_setCell_other h.lft (fun e => row_block h.lft hb (by decide) _ e rfl) _,
    fun j hj => ownsRow_setCell_other (h.lst j hj) (fun e => row_block (h.lst j hj) hb (by decide) _ e rfl) _⟩
  rw [World.heap_setCell_map _ _ _ _ (Ne.symm hne)]
  exact h.box
theorem node_set0 (n : Nat) (F : Nat → Int) (us : Nat → Value) {a : Nat} (ha : a < n) (x : Int) : (tableL n 2 (ncell F us)).set (a * 2) (.int .i64 x) = tableL n 2 (ncell (fun i => if i = a then x else F i) us) := by
  unfold tableL
  apply List.ext_getElem?
  intro k
  rw [List.getElem?_set]
  simp only [List.getElem?_map, List.length_map, List.length_range]
  by_cases hk : k < n * 2
  · rw [List.getElem?_range hk]
    simp only [Option.map_some]
    by_cases h : a * 2 = k
    · subst h
      have h1 : (a * 2) / 2 = a := by omega
      have h2 : (a * 2) % 2 = 0 := by omega
      rw [if_pos rfl, if_pos hk, h1, h2]
      simp [ncell]
    · rw [if_neg h]
      unfold ncell
      by_cases h0 : k % 2 = 0
      · rw [if_pos h0, if_pos h0]
        try dsimp only
        rw [if_neg (show ¬ k / 2 = a by omega)]
      · rw [if_neg h0, if_neg h0]
  · rw [List.getElem?_eq_none (by simp; omega)]
    by_cases h : a * 2 = k
    · omega
    · rw [if_neg h]; rfl
/-- the node is put into its place -/
theorem LT.put (h : LT base W tb nv lv N us Q ls) {i : Nat} (hi : i < N.length) {u : Value} {f : Int} {nx : List (Int × Int)} (hu : W.ownsRow base 129 2 u nx.length (pcells nx)) : ∃ g cap, nv = .slice (some ⟨g, 0, none⟩) N.length cap ∧ N.length ≤ cap ∧ cap ≤ maxLen ∧
    (∀ j, j < N.length * 2 → (W.cell? ⟨g, j, none⟩).isSome = true) ∧ (∀ j, W.frozen? ⟨g, j, none⟩ = false) ∧ base ≤ g ∧ (∀ c t, W.heap[tb]? = some (.cells c t) → True) ∧
    (∀ (k : Nat) (c : Array Value) (t : TypeId), W.heap[k]? = some (.cells c t) → t ≠ 83 → k ≠ g) ∧
    LT base ((W.setCell ⟨g, i * 2, none⟩ (.int .i64 f)).setCell ⟨g, i * 2 + 1, none⟩ u) tb nv lv (N.set i (f, nx)) (fun j => if j = i then u else us j) Q ls := by
  obtain ⟨g, cap, rfl⟩ := Joins.ownsRow_form h.row (by omega)
  have hlt := h.row.lt g rfl
  have hc : N.length ≤ cap ∧ cap ≤ maxLen := by
    rcases h.row.2 with ⟨he, _⟩ | ⟨b, cap', cur, he, _, _, k1, k2, _⟩
    · cases he
    · cases he; exact ⟨k1, k2⟩
  have hne : g ≠ tb := row_block h.row h.box (by decide) g rfl
  have hgb : ∃ c, W.heap[g]? = some (.cells c 83) := by
    rcases h.row.2 with ⟨he, _⟩ | ⟨b, cap', cur, he, _, hh, _⟩
    · cases he
    · cases he; exact ⟨_, hh⟩
  obtain ⟨gc, hg⟩ := hgb
  have hg2 := store_of_heap hg (i * 2) (.int .i64 f)
  refine ⟨g, cap, rfl, hc.1, hc.2, fun j hj => ?_, fun j => h.row.frozenAt _, hlt.1, fun _ _ _ => trivial, fun k c t hk ht => ?_, ?_, ?_, fun j hj => ?_, ?_, fun j hj => ?_⟩
  · rw [h.row.cellAt _ hj]
    have : j < (tableL N.length 2 (ncell (ndF N) us)).length := by rw [tableL_length]; exact hj
    rw [List.getElem?_eq_getElem this]; rfl
  · rintro rfl
    rw [hg] at hk
    cases hk
    exact ht rfl
  · rw [World.heap_setCell_map _ _ _ _ hne, World.heap_setCell_map _ _ _ _ hne]
    exact h.box
  · have h1 := (h.row.stored (i * 2) (.int .i64 f)).1
    rw [node_set0 _ _ _ hi] at h1
    have h2 := (h1.stored (i * 2 + 1) u).1
    rw [node_set _ _ _ hi] at h2
    rw [List.length_set]
    rw [tableL_congr (d := ncell (ndF (N.set i (f, nx))) (fun j => if j = i then u else us j)) (fun a j ha _ => by
      unfold ncell
      try dsimp only
      have : ndF (N.set i (f, nx)) a = if a = i then f else ndF N a := by
        unfold ndF
        rw [List.getD_eq_getElem?_getD, List.getElem?_set]
        by_cases e : a = i
        · subst e; simp [hi]
        · rw [if_neg (Ne.symm e), if_neg e, List.getD_eq_getElem?_getD]
      rw [this]) (by omega)] at h2
    exact h2
  · rw [List.length_set] at hj
    rw [ndB_set N _ j hi]
    by_cases e : j = i
    · subst e
      try dsimp only
      rw [if_pos rfl, if_pos rfl]
      have a1 := ownsRow_setCell_other (a := ⟨g, j * 2, none⟩) hu (fun e => row_block hu hg (by decide) _ e rfl) (.int .i64 f)
      exact ownsRow_setCell_other a1 (fun e => row_block a1 hg2 (by decide) _ e rfl) _
    · dsimp only
      rw [if_neg e, if_neg e]
      have a0 := h.sub j hj
      have a1 := ownsRow_setCell_other (a := ⟨g, i * 2, none⟩) a0 (fun e => row_block a0 hg (by decide) _ e rfl) (.int .i64 f)
      exact ownsRow_setCell_other a1 (fun e => row_block a1 hg2 (by decide) _ e rfl) _
  · have a0 := h.lft
    have a1 := ownsRow_setCell_other (a := ⟨g, i * 2, none⟩) a0 (fun e => row_block a0 hg (by decide) _ e rfl) (.int .i64 f)
    exact ownsRow_setCell_other a1 (fun e => row_block a1 hg2 (by decide) _ e rfl) _
  · have a0 := h.lst j hj
    have a1 := ownsRow_setCell_other (a := ⟨g, i * 2, none⟩) a0 (fun e => row_block a0 hg (by decide) _ e rfl) (.int .i64 f)
    exact ownsRow_setCell_other a1 (fun e => row_block a1 hg2 (by decide) _ e rfl) _
/-- a list of the tree, opened -/
theorem LT.list (h : LT base W tb nv lv N us Q ls) {j : Nat} (hj : j < Q.length) (h0 : 0 < (Q.getD j []).length) : ∃ lb lc gb gc, lv = .slice (some ⟨lb, 0, none⟩) Q.length lc ∧ Q.length ≤ lc ∧ lc ≤ maxLen ∧ ls j = .slice (some ⟨gb, 0, none⟩) (Q.getD j []).length gc ∧
    W.cell? ⟨lb, j, none⟩ = some (.slice (some ⟨gb, 0, none⟩) (Q.getD j []).length gc) ∧ (Q.getD j []).length ≤ gc ∧ gc ≤ maxLen ∧ ∀ k, k < (Q.getD j []).length → W.cell? ⟨gb, k, none⟩ = some (.int .i64 (((Q.getD j []).getD k 0 : Nat) : Int)) := by
  obtain ⟨lb, lc, rfl⟩ := Joins.ownsRow_form h.lft (by omega)
  obtain ⟨_, _, e1, c1, c2⟩ := row_form h.lft
  cases e1
  obtain ⟨gb, gc, hg⟩ := Joins.ownsRow_form (h.lst j hj) h0
  obtain ⟨_, _, e2, c3, c4⟩ := row_form (h.lst j hj)
  rw [hg] at e2
  cases e2
  refine ⟨lb, lc, gb, gc, rfl, c1, c2, hg, ?_, c3, c4, fun k hk => ?_⟩
  · have := tableL_get (fun j (_ : Nat) => ls j) hj (show 0 < 1 by omega)
    rw [h.lft.cellAt j (by omega), ← hg]
    simpa using this
  · have h2 := h.lst j hj
    rw [hg] at h2
    rw [h2.cellAt k (by omega)]
    exact ilist_get _ hk
end
end Go.Proofs.Ytdminglglapnlaa

/-
  What is proved: the law's own tree while a node is made: the boxes beside it, and what the steps of a round leave.
-/
namespace Go.Proofs.Ytdminglglapnlaa
open Go.RowKit

structure LS (w : World) (base nb tb : Nat) (c0 c1 : Array Value) (W : World) (nv lv : Value) (N : List Nd) (us : Nat → Value) (Q : List (List Nat)) (ls : Nat → Value) (f : Int) (nxv : Value) (nx : List (Int × Int)) : Prop where
  lt : LT base W tb nv lv N us Q ls
  o : W.heap[w.heap.size + 1]? = some (.cells c1 28)
  r : W.heap[w.heap.size]? = some (.cells c0 25)
  g : w.grows W
  b : W.heap[nb]? = some (.cells #[.int .i64 f, nxv] 83)
  x : W.ownsRow (nb + 1) 129 2 nxv nx.length (pcells nx)
  nb' : nv.ownBlock ≠ some nb
  us' : ∀ j, j < N.length → ∀ k, (us j).ownBlock = some k → k < nb
  sz : nb + 1 ≤ W.heap.size
  n1 : w.heap.size + 2 ≤ base
  n2 : base ≤ nb
  n3 : w.heap.size + 1 ≠ tb
  n4 : base ≤ tb
section
variable {w : World} {base nb tb : Nat} {c0 c1 : Array Value} {W W' : World} {nv lv : Value} {N : List Nd} {us : Nat → Value} {Q : List (List Nat)} {ls : Nat → Value} {f : Int} {nxv : Value} {nx : List (Int × Int)}
theorem LS.mono (h : LS w base nb tb c0 c1 W nv lv N us Q ls f nxv nx) (g : W.grows W') : LS w base nb tb c0 c1 W' nv lv N us Q ls f nxv nx :=
  ⟨h.lt.mono g, g.heap_of h.o, g.heap_of h.r, h.g.trans g, g.heap_of h.b, h.x.grow g, h.nb', h.us', Nat.le_trans h.sz g.size, h.n1, h.n2, h.n3, h.n4⟩
theorem LS.net (h : LS w base nb tb c0 c1 W nv lv N us Q ls f nxv nx) : nb ≠ tb := fun e => by
  have h1 := h.b
  rw [e, h.lt.box] at h1
  cases h1
/-- a branch more -/
theorem LS.next (h : LS w base nb tb c0 c1 W nv lv N us Q ls f nxv nx) {v : Value} {a b : Int} (hown : W'.ownsRow (nb + 1) 129 2 v (nx.length + 1) (pcells nx ++ tableL 1 2 (kcell (fun _ => a) (fun _ => b)))) (g : W.grownBy W' nxv.ownBlock) :
    LS w base nb tb c0 c1 (W'.setCell ⟨nb, 1, none⟩ v) nv lv N us Q ls f v (nx ++ [(a, b)]) ∧ W'.heap[nb]? = some (.cells #[.int .i64 f, nxv] 83) := by
  have n1 := h.n1
  have n2 := h.n2
  have hb := heap_by h.b h.x (by decide) g
  have ho := heap_by h.o h.x (by decide) g
  have hr := heap_by h.r h.x (by decide) g
  have hl := h.lt.next h.x (Nat.le_succ nb) h.us' g
  have hg := g.grows h.x h.g (by omega)
  refine ⟨⟨hl.setN hb h.nb' 1 v, ?_, ?_, hg.setCell (by dsimp only; omega) _, ?_, ?_, h.nb', h.us', ?_, h.n1, h.n2, h.n3, h.n4⟩, hb⟩
  · rw [World.heap_setCell_map _ _ _ _ (by dsimp only; omega)]; exact ho
  · rw [World.heap_setCell_map _ _ _ _ (by dsimp only; omega)]; exact hr
  · rw [store_of_heap hb]; rfl
  · rw [List.length_append, List.length_singleton, pcells_snoc]
    exact ownsRow_setCell_other hown (fun e => row_block hown hb (by decide) _ e rfl) _
  · have := g.size
    have := h.sz
    simp only [World.size_setCell]
    omega
/-- a node more -/
theorem LS.node (h : LS w base nb tb c0 c1 W nv lv N us Q ls f nxv nx) {v : Value} (hown : W'.ownsRow base 83 2 v (N.length + 1) (tableL N.length 2 (ncell (ndF N) us) ++ tableL 1 2 (ncell (fun _ => 0) (fun _ => .slice none 0 0)))) (g : W.grownBy W' nv.ownBlock)
    (hob : v.ownBlock = nv.ownBlock ∨ v.ownBlock = some W.heap.size) {p : List Nat} {pv : Value} {pb pn : Nat} (hp : W.ownsRow pb 3 1 pv pn (ilist p)) :
    LS w base nb tb c0 c1 (W'.setCell ⟨tb, 1, none⟩ v) v lv (N ++ [(0, [])]) (fun i => if i < N.length then us i else .slice none 0 0) Q ls f nxv nx ∧ W'.heap[tb]? = some (.cells #[.int .i64 0, nv] 28) ∧ (W'.setCell ⟨tb, 1, none⟩ v).ownsRow pb 3 1 pv pn (ilist p) := by
  have n1 := h.n1
  have n2 := h.n2
  have n4 := h.n4
  have hsz := h.sz
  have hb : W'.heap[nb]? = some (.cells #[.int .i64 f, nxv] 83) := by
    rw [g.block nb (World.lt_of_block h.b) (fun e => h.nb' e.symm)]; exact h.b
  have hbx := heap_by h.lt.box h.lt.row (by decide) g
  have ho := heap_by h.o h.lt.row (by decide) g
  have hr := heap_by h.r h.lt.row (by decide) g
  have hx := h.x.other h.lt.row (by decide) g
  have hpp := hp.other h.lt.row (by decide) g
  have hg := g.grows h.lt.row h.g (by omega)
  refine ⟨⟨h.lt.node hown g, ?_, ?_, hg.setCell (by dsimp only; omega) _, ?_, ?_, ?_, fun j hj k hk => ?_, ?_, h.n1, h.n2, h.n3, h.n4⟩, hbx, ?_⟩
  · rw [World.heap_setCell_map _ _ _ _ (Ne.symm h.n3)]; exact ho
  · rw [World.heap_setCell_map _ _ _ _ (by dsimp only; omega)]; exact hr
  · rw [World.heap_setCell_map _ _ _ _ (Ne.symm h.net)]; exact hb
  · exact ownsRow_setCell_other hx (fun e => row_block hx hbx (by decide) _ e rfl) _
  · rcases hob with e | e
    · rw [e]; exact h.nb'
    · rw [e]
      simp only [ne_eq, Option.some.injEq]
      omega
  · try dsimp only at hk
    split at hk
    · exact h.us' j (by assumption) k hk
    · cases hk
  · have := g.size
    simp only [World.size_setCell]
    omega
  · exact ownsRow_setCell_other hpp (fun e => row_block hpp hbx (by decide) _ e rfl) _
/-- a list more -/
theorem LS.left (h : LS w base nb tb c0 c1 W nv lv N us Q ls f nxv nx) {v u : Value} {p : List Nat} (hown : W'.ownsRow base 29 1 v (Q.length + 1) (tableL Q.length 1 (fun j _ => ls j) ++ tableL 1 1 (fun _ _ => u))) (g : W.grownBy W' lv.ownBlock) (hu : W.ownsRow base 3 1 u p.length (ilist p)) :
    LS w base nb tb c0 c1 W' nv v N us (Q ++ [p]) (fun j => if j < Q.length then ls j else u) f nxv nx :=
  ⟨h.lt.left hown g hu, heap_by h.o h.lt.lft (by decide) g, heap_by h.r h.lt.lft (by decide) g, g.grows h.lt.lft h.g (by have := h.n1; omega), heap_by h.b h.lt.lft (by decide) g, h.x.other h.lt.lft (by decide) g, h.nb', h.us', Nat.le_trans h.sz g.size, h.n1, h.n2, h.n3, h.n4⟩
end
end Go.Proofs.Ytdminglglapnlaa

/-
  What is proved: the law's own tree (38).
-/
namespace Go.Proofs.Ytdminglglapnlaa
open Go.RowKit
attribute [local irreducible] Go.wpCalm

theorem range_get {n i : Nat} (h : i < n) : (List.range n).getD i 0 = i := by simp [h]
theorem nums_shape {k : IntKind} {w : World} {v : Value} {m : Nat} {f : Nat → Int} (h : NumsAt k w v m f) : ∃ a c, v = .slice a m c ∧ m ≤ c ∧ c ≤ maxLen := by
  obtain ⟨a, c, h1, h2, h3, -⟩ := h
  exact ⟨a, c, h1, h2, h3⟩
set_option maxRecDepth 100000 in
set_option maxHeartbeats 8000000 in
theorem ltree_c (w : World) (v : Value) (r : Reg) (hv : RegAt w v r) (hr : r.Ok) (bv : Value) (nb : Nat) (b : Nat → Int) (hb : NumsAt .u8 w bv nb b) (hbb : ∀ i, i < nb → 0 ≤ b i ∧ b i ≤ 255) (hn40 : nb ≤ 40) :
    Calls Try.prog 38 #[v, bv] w fun e w' => ∃ (x : Int) (a : Option Addr) (n c : Nat) (t : Tr) (ok : Bool), e = .returned (.tuple #[.agg #[.int .i64 x, .slice a n c], .bool ok]) ∧ TreeAt w' (.agg #[.int .i64 x, .slice a n c]) t ∧ (ok = true → t.treeE r = 0) ∧ (ok = false → ¬ r.NoTwins) ∧ w.grows w' := by
  have h85 := Lib.hid fun (W : World) (g : w.grows W) lv L hL hl h0 q hq => feat_c W v r ((hv.ok hr).mono g) hr lv L hL hl h0 bv nb b (hb.mono g) hbb q hq hn40
  have h84 := Lib.hid fun (W : World) (g : w.grows W) lv L hL hl => same_c W v r ((hv.ok hr).mono g) lv L hL hl
  obtain ⟨mb, mo, mc, cb, co, cc, rb, ro, rc, rfl, hm1, hm2, hc1, hc2, hR⟩ := hv.ok hr
  obtain ⟨ba, bc, rfl, b1, b2⟩ := nums_shape hb
  have HR := Lib.hid hR
  have Hr := Lib.hid hr
  have hm10 := hr.m10
  have hmm1 := hr.m1
  unfold maxLen at hm2 hc2 b2
  clear hR hr hb hbb hn40 hv
  go_enter Try.func38, Try.ntmps38
  go_wp2
  obtain ⟨B, hB⟩ : ∃ B, B = (w.alloc (.cells #[.slice (some ⟨mb, mo, none⟩) r.nm mc, .slice (some ⟨cb, co, none⟩) r.nc cc] 25)).alloc (.cells #[.int .i64 0, .slice none 0 0] 28) := ⟨_, rfl⟩
  have hB1 : B.heap[w.heap.size]? = some (.cells #[.slice (some ⟨mb, mo, none⟩) r.nm mc, .slice (some ⟨cb, co, none⟩) r.nc cc] 25) := by rw [hB]; exact World.grows.heap_of (by (repeat (first | exact World.grows.refl _ | assumption | refine World.grows.alloc ?_ _ | refine World.grows.plus ?_ _ _ | refine World.grows.drew ?_))) (World.heap_at _ _ _ rfl)
  have hB2 : B.heap[w.heap.size + 1]? = some (.cells #[.int .i64 0, .slice none 0 0] 28) := by rw [hB]; exact World.heap_at _ _ _ (by simp)
  have hB3 : B.heap.size = w.heap.size + 2 := by rw [hB]; simp
  have HgB : Hid (w.grows B) := Lib.hid (by rw [hB]; (repeat (first | exact World.grows.refl _ | assumption | refine World.grows.alloc ?_ _ | refine World.grows.plus ?_ _ _ | refine World.grows.drew ?_)))
  rw [← hB]
  clear hB
  go_loopw [6, 7] (fun l i wr => ∃ k : Nat, k ≤ r.nm ∧ i = .int .i64 k ∧ Hid (wr.ownsRow B.heap.size 3 1 l (List.range k).length (ilist (List.range k))) ∧ Hid (B.grows wr)) (fun _ i _ => r.nm - (intOf i).toNat)
  case atStart => exact ⟨0, by omega, rfl, Lib.hid (World.ownsRow_nil _ _ _ _), Lib.hid (by (repeat (first | exact World.grows.refl _ | assumption | refine World.grows.alloc ?_ _ | refine World.grows.plus ?_ _ _ | refine World.grows.drew ?_)))⟩
  case round =>
    obtain ⟨k, hk, rfl, Hl, Hg⟩ := hrel
    have c0 : wr.cell? ⟨w.heap.size, 0, none⟩ = some (.slice (some ⟨mb, mo, none⟩) r.nm mc) := Hg.out.cell_of (cell_of_heap hB1 rfl)
    have c1 : wr.cell? ⟨w.heap.size, 1, none⟩ = some (.slice (some ⟨cb, co, none⟩) r.nc cc) := Hg.out.cell_of (cell_of_heap hB1 rfl)
    have hsz := Hg.out.size
    by_cases hlt : k < r.nm
    · have hll : (List.range k).length = k := List.length_range
      obtain ⟨LL, hLL⟩ : ∃ LL, List.range k = LL := ⟨_, rfl⟩
      have HLL := Lib.hid hLL
      rw [hLL] at hll Hl
      clear hLL
      go_wp2_with (at_builtin; go_loud (refine wpList_append_r _ rfl _ _ _ (by rfl) B.heap.size 3 (.int .i64 0) 1 8 Try.underlying29 el3 (by rfl) (by omega) _ LL.length _ (by rfl) (Hl.out.grow (by (repeat (first | exact World.grows.refl _ | assumption | refine World.grows.alloc ?_ _ | refine World.grows.plus ?_ _ _ | refine World.grows.drew ?_)))) _ (by rfl) 1 _ (SliceAt.src (by omega) (one_slice _ _ _ _ (by simp))) (one_cell _) (by unfold maxLen; omega) (by omega) (by simp; omega) ?_; intro v' w3 hown3 hgb; have hg3 := World.grownBy.grows hgb (Hl.out.grow (by (repeat (first | exact World.grows.refl _ | assumption | refine World.grows.alloc ?_ _ | refine World.grows.plus ?_ _ _ | refine World.grows.drew ?_)))) (W0 := B) (by have := Hg.out; (repeat (first | exact World.grows.refl _ | assumption | refine World.grows.alloc ?_ _ | refine World.grows.plus ?_ _ _ | refine World.grows.drew ?_))) (by omega); have Hown3 : Hid (w3.ownsRow B.heap.size 3 1 v' (LL.length + 1) (ilist (LL ++ [k]))) := Lib.hid (by rw [ilist_snoc]; exact hown3); have Hg3 := Lib.hid hg3; clear hown3 hgb hg3))
      go_roundw
      case rel => exact ⟨k + 1, by omega, by go_num, Lib.hid (by rw [List.range_succ, HLL.out]; simpa using Hown3.out), Hg3⟩
      case measure => simp [intOf]; omega
    · have hke : k = r.nm := by omega
      rw [hke, List.length_range] at Hl
      obtain ⟨la, lc, rfl, -, -⟩ := row_form Hl.out
      clear hlt hk
      subst hke
      have who0 := (HgB.out.trans Hg.out).cell_of (HR.out.who 0 (by omega))
      have hwb := Hr.out.who 0 (by omega)
      simp only [Nat.zero_mul, Nat.add_zero] at who0
      have hwr : IntKind.i64.wrap (-1 - r.who 0) = -1 - r.who 0 := wrapI rfl (by omega)
      have h84' := Lib.hid fun W (g : w.grows W) (hL : ListAt W (.slice la r.nm lc) (List.range r.nm)) => h84.out W g _ (List.range r.nm) hL (fun m hm => List.mem_range.1 hm)
      obtain ⟨S, hS⟩ : ∃ S, r.sameB (List.range r.nm) = S := ⟨_, rfl⟩
      rw [hS] at h84'
      have HS := Lib.hid hS
      clear hS
      go_wp2_with (go_at_call 44; fail)
      refine (h84'.out _ ((HgB.out.trans Hg.out).trans (by (repeat (first | exact World.grows.refl _ | assumption | refine World.grows.alloc ?_ _ | refine World.grows.plus ?_ _ _ | refine World.grows.drew ?_)))) ((Hl.out.listAt List.length_range.symm).mono (by (repeat (first | exact World.grows.refl _ | assumption | refine World.grows.alloc ?_ _ | refine World.grows.plus ?_ _ _ | refine World.grows.drew ?_))))).mono ?_
      rintro e W2 ⟨rfl, hg2⟩
      have hgr2 : wr.grows W2 := World.grows.trans (by (repeat (first | exact World.grows.refl _ | assumption | refine World.grows.alloc ?_ _ | refine World.grows.plus ?_ _ _ | refine World.grows.drew ?_))) hg2
      have tbx : W2.heap[wr.heap.size]? = some (.cells #[.int .i64 (-1 - r.who 0), .slice none 0 0] 28) := hg2.heap_of (World.grows.heap_of (by (repeat (first | exact World.grows.refl _ | assumption | refine World.grows.alloc ?_ _ | refine World.grows.plus ?_ _ _ | refine World.grows.drew ?_))) (World.heap_at _ _ _ rfl))
      have t0 : W2.cell? ⟨wr.heap.size, 0, none⟩ = some (.int .i64 (-1 - r.who 0)) := cell_of_heap tbx rfl
      have t1 : W2.cell? ⟨wr.heap.size, 1, none⟩ = some (.slice none 0 0) := cell_of_heap tbx rfl
      have tf0 := frozen_of_heap tbx 0
      have o2 : W2.heap[w.heap.size + 1]? = some (.cells #[.int .i64 0, .slice none 0 0] 28) := hgr2.heap_of (Hg.out.heap_of hB2)
      have o0 : W2.cell? ⟨w.heap.size + 1, 0, none⟩ = some (.int .i64 0) := cell_of_heap o2 rfl
      have o1 : W2.cell? ⟨w.heap.size + 1, 1, none⟩ = some (.slice none 0 0) := cell_of_heap o2 rfl
      have of0 := frozen_of_heap o2 0
      have of1 := frozen_of_heap o2 1
      have tf1 := frozen_of_heap tbx 1
      have HgW : Hid (w.grows W2) := Lib.hid ((HgB.out.trans Hg.out).trans hgr2)
      have Htb := Lib.hid tbx
      have Ho2 := Lib.hid o2
      have hne : w.heap.size + 1 ≠ wr.heap.size := by omega
      have Hgr2 := Lib.hid hgr2
      have hsz2 := hgr2.size
      clear hg2 who0 hgr2 tbx o2 c0 c1
      cases S with
      | true =>
        go_upto_region 9 with fail
        go_wp2
        have q0 := store_of_heap Ho2.out 0 (.int .i64 (-1 - r.who 0))
        have q1 := store_of_heap q0 1 (.slice none 0 0)
        have g3 : w.grows ((W2.setCell ⟨w.heap.size + 1, 0, none⟩ (.int .i64 (-1 - r.who 0))).setCell ⟨w.heap.size + 1, 1, none⟩ (.slice none 0 0)) := (HgW.out.setCell (p := ⟨w.heap.size + 1, 0, none⟩) (by simp) _).setCell (p := ⟨w.heap.size + 1, 1, none⟩) (by simp) _
        generalize hF : World.setCell _ _ _ = F at q1 g3 ⊢
        have r0 : F.cell? ⟨w.heap.size + 1, 0, none⟩ = some (.int .i64 (-1 - r.who 0)) := cell_of_heap q1 rfl
        have r1 : F.cell? ⟨w.heap.size + 1, 1, none⟩ = some (.slice none 0 0) := cell_of_heap q1 rfl
        refine bodyPost_ret (v := .tuple #[.agg #[.int .i64 (-1 - r.who 0), .slice none 0 0], .bool true]) (by simp [results, Try.results38, go_sem, r0, r1]) rfl ?_
        exact ⟨_, none, 0, 0, Tr.ofL (-1 - r.who 0) [], true, rfl, NodesAt.treeAt ⟨fun _ => undef, SliceAt.none, fun i hi => absurd hi (Nat.not_lt_zero _)⟩, fun _ => Reg.one_tree Hr.out HS.out, fun h => absurd h (by decide), g3⟩
      | false =>
        have xb := store_of_heap Htb.out 0 (.int .i64 0)
        have xo : (W2.setCell ⟨wr.heap.size, 0, none⟩ (.int .i64 0)).heap[w.heap.size + 1]? = some (.cells #[.int .i64 0, .slice none 0 0] 28) := by rw [World.heap_setCell_map _ _ _ _ hne.symm]; exact Ho2.out
        have xr : (W2.setCell ⟨wr.heap.size, 0, none⟩ (.int .i64 0)).heap[w.heap.size]? = some (.cells #[.slice (some ⟨mb, mo, none⟩) r.nm mc, .slice (some ⟨cb, co, none⟩) r.nc cc] 25) := by rw [World.heap_setCell_map _ _ _ _ (by dsimp only; omega)]; exact Hgr2.out.heap_of (Hg.out.heap_of hB1)
        have xg : w.grows (W2.setCell ⟨wr.heap.size, 0, none⟩ (.int .i64 0)) := HgW.out.setCell (by dsimp only; omega) _
        have xl := ownsRow_setCell_other (a := ⟨wr.heap.size, 0, none⟩) (Hl.out.grow Hgr2.out) (fun e => row_block (Hl.out.grow Hgr2.out) Htb.out (by decide) _ e rfl) (.int .i64 0)
        have xs : W2.heap.size = (W2.setCell ⟨wr.heap.size, 0, none⟩ (.int .i64 0)).heap.size := by simp
        go_upto_region 11 with fail
        generalize World.setCell _ _ _ = X at xb xo xr xg xl xs ⊢
        have HL0 : Hid (LT B.heap.size X wr.heap.size (.slice none 0 0) (.slice none 0 0) [] (fun _ => .slice none 0 0) [] (fun _ => .slice none 0 0)) := Lib.hid ⟨xb, World.ownsRow_nil _ _ _ _, fun i hi => absurd hi (Nat.not_lt_zero _), World.ownsRow_nil _ _ _ _, fun i hi => absurd hi (Nat.not_lt_zero _)⟩
        have t0 : X.cell? ⟨wr.heap.size, 0, none⟩ = some (.int .i64 0) := cell_of_heap xb rfl
        have t1 : X.cell? ⟨wr.heap.size, 1, none⟩ = some (.slice none 0 0) := cell_of_heap xb rfl
        have tf1 := frozen_of_heap xb 1
        have Xo := Lib.hid xo
        have Xr := Lib.hid xr
        have Xg := Lib.hid xg
        have Xl := Lib.hid xl
        have hxs := xs
        clear xb xo xr xg xl xs o0 o1 of0 of1 tf0 Htb Ho2 Hl HgW Hgr2
        go_upto_region 12 with (at_builtin; go_loud (refine wpList_append_h _ rfl _ _ _ (by rfl) B.heap.size 83 (.agg #[.int .i64 0, .slice none 0 0]) 2 32 Try.underlying26 el83 (by rfl) (by omega) _ 0 _ (by rfl) (HL0.out.mono (by (repeat (first | exact World.grows.refl _ | assumption | refine World.grows.alloc ?_ _ | refine World.grows.plus ?_ _ _ | refine World.grows.drew ?_)))).row _ (by rfl) 1 _ (by omega) (SliceAt.src (by omega) (node_slice _ 0 (.slice none 0 0) 83 _ (by simp))) (node_cells _ _ rfl) (by unfold maxLen; omega) (by omega) (by simp; omega) ?_; intro v1 w1 hown1 hgb1 hob1; obtain ⟨na, nc, rfl, -, -⟩ := row_form hown1; have L1 := Lib.hid ((HL0.out.mono (by (repeat (first | exact World.grows.refl _ | assumption | refine World.grows.alloc ?_ _ | refine World.grows.plus ?_ _ _ | refine World.grows.drew ?_)))).node hown1 hgb1); have y0 := heap_by (World.grows.heap_of (by (repeat (first | exact World.grows.refl _ | assumption | refine World.grows.alloc ?_ _ | refine World.grows.plus ?_ _ _ | refine World.grows.drew ?_))) Xo.out) (HL0.out.mono (by (repeat (first | exact World.grows.refl _ | assumption | refine World.grows.alloc ?_ _ | refine World.grows.plus ?_ _ _ | refine World.grows.drew ?_)))).row (by decide) hgb1; have yr := heap_by (World.grows.heap_of (by (repeat (first | exact World.grows.refl _ | assumption | refine World.grows.alloc ?_ _ | refine World.grows.plus ?_ _ _ | refine World.grows.drew ?_))) Xr.out) (HL0.out.mono (by (repeat (first | exact World.grows.refl _ | assumption | refine World.grows.alloc ?_ _ | refine World.grows.plus ?_ _ _ | refine World.grows.drew ?_)))).row (by decide) hgb1; have yb := heap_by (World.grows.heap_of (by (repeat (first | exact World.grows.refl _ | assumption | refine World.grows.alloc ?_ _ | refine World.grows.plus ?_ _ _ | refine World.grows.drew ?_))) HL0.out.box) (HL0.out.mono (by (repeat (first | exact World.grows.refl _ | assumption | refine World.grows.alloc ?_ _ | refine World.grows.plus ?_ _ _ | refine World.grows.drew ?_)))).row (by decide) hgb1; have yl := (Xl.out.grow (by (repeat (first | exact World.grows.refl _ | assumption | refine World.grows.alloc ?_ _ | refine World.grows.plus ?_ _ _ | refine World.grows.drew ?_)))).other (HL0.out.mono (by (repeat (first | exact World.grows.refl _ | assumption | refine World.grows.alloc ?_ _ | refine World.grows.plus ?_ _ _ | refine World.grows.drew ?_)))).row (by decide) hgb1; have yg := hgb1.grows (HL0.out.mono (by (repeat (first | exact World.grows.refl _ | assumption | refine World.grows.alloc ?_ _ | refine World.grows.plus ?_ _ _ | refine World.grows.drew ?_)))).row (Xg.out.trans (by (repeat (first | exact World.grows.refl _ | assumption | refine World.grows.alloc ?_ _ | refine World.grows.plus ?_ _ _ | refine World.grows.drew ?_)))) (by omega); have ys := hgb1.size; have y1 : w1.cell? ⟨wr.heap.size, 1, none⟩ = some (.slice none 0 0) := cell_of_heap yb rfl; have yf := frozen_of_heap yb 1; have Y0 := Lib.hid y0; have Yr := Lib.hid yr; have Yb := Lib.hid yb; have Yl := Lib.hid yl; have Yg := Lib.hid yg; clear hown1 hgb1 hob1 y0 yr yb yl yg t0 t1 tf1))
        have z0 : (w1.setCell ⟨wr.heap.size, 1, none⟩ (.slice na 1 nc)).heap[w.heap.size + 1]? = some (.cells #[.int .i64 0, .slice none 0 0] 28) := by rw [World.heap_setCell_map _ _ _ _ hne.symm]; exact Y0.out
        have zr : (w1.setCell ⟨wr.heap.size, 1, none⟩ (.slice na 1 nc)).heap[w.heap.size]? = some (.cells #[.slice (some ⟨mb, mo, none⟩) r.nm mc, .slice (some ⟨cb, co, none⟩) r.nc cc] 25) := by rw [World.heap_setCell_map _ _ _ _ (by dsimp only; omega)]; exact Yr.out
        have zg : w.grows (w1.setCell ⟨wr.heap.size, 1, none⟩ (.slice na 1 nc)) := Yg.out.setCell (by dsimp only; omega) _
        have zl := ownsRow_setCell_other (a := ⟨wr.heap.size, 1, none⟩) Yl.out (fun e => row_block Yl.out Yb.out (by decide) _ e rfl) (.slice na 1 nc)
        have L1' := L1.out
        have zs : w1.heap.size = (w1.setCell ⟨wr.heap.size, 1, none⟩ (.slice na 1 nc)).heap.size := by simp
        generalize World.setCell _ _ _ = Z at z0 zr zg zl zs L1' ⊢
        have L2 := Lib.hid L1'
        have Z0 := Lib.hid z0
        have Zr := Lib.hid zr
        have Zg := Lib.hid zg
        have Zl := Lib.hid zl
        simp at ys
        clear L1' z0 zr zg zl L1 Y0 Yr Yb Yl Yg y1 yf
        go_upto_region 13 with (at_builtin; go_loud (refine wpList_append_h _ rfl _ _ _ (by rfl) B.heap.size 29 (.slice none 0 0) 1 24 Try.underlying126 el29 (by rfl) (by omega) _ 0 _ (by rfl) (L2.out.mono (by (repeat (first | exact World.grows.refl _ | assumption | refine World.grows.alloc ?_ _ | refine World.grows.plus ?_ _ _ | refine World.grows.drew ?_)))).lft _ (by rfl) 1 _ (by omega) (SliceAt.src (by omega) (one_slice _ _ _ _ (by simp))) (by intro u hu; rw [tableL_one] at hu; simp at hu; subst hu; rfl) (by unfold maxLen; omega) (by omega) (by simp; omega) ?_; intro v1 w2 hown1 hgb1 hob1; obtain ⟨lna, lnc, rfl, -, -⟩ := row_form hown1; have L3 := Lib.hid ((L2.out.mono (by (repeat (first | exact World.grows.refl _ | assumption | refine World.grows.alloc ?_ _ | refine World.grows.plus ?_ _ _ | refine World.grows.drew ?_)))).left (p := List.range r.nm) hown1 hgb1 (by rw [List.length_range]; exact Zl.out.grow (by (repeat (first | exact World.grows.refl _ | assumption | refine World.grows.alloc ?_ _ | refine World.grows.plus ?_ _ _ | refine World.grows.drew ?_))))); have y0 := Lib.hid (heap_by (World.grows.heap_of (by (repeat (first | exact World.grows.refl _ | assumption | refine World.grows.alloc ?_ _ | refine World.grows.plus ?_ _ _ | refine World.grows.drew ?_))) Z0.out) (L2.out.mono (by (repeat (first | exact World.grows.refl _ | assumption | refine World.grows.alloc ?_ _ | refine World.grows.plus ?_ _ _ | refine World.grows.drew ?_)))).lft (by decide) hgb1); have yr := Lib.hid (heap_by (World.grows.heap_of (by (repeat (first | exact World.grows.refl _ | assumption | refine World.grows.alloc ?_ _ | refine World.grows.plus ?_ _ _ | refine World.grows.drew ?_))) Zr.out) (L2.out.mono (by (repeat (first | exact World.grows.refl _ | assumption | refine World.grows.alloc ?_ _ | refine World.grows.plus ?_ _ _ | refine World.grows.drew ?_)))).lft (by decide) hgb1); have yg := Lib.hid (hgb1.grows (L2.out.mono (by (repeat (first | exact World.grows.refl _ | assumption | refine World.grows.alloc ?_ _ | refine World.grows.plus ?_ _ _ | refine World.grows.drew ?_)))).lft (Zg.out.trans (by (repeat (first | exact World.grows.refl _ | assumption | refine World.grows.alloc ?_ _ | refine World.grows.plus ?_ _ _ | refine World.grows.drew ?_)))) (by omega)); have ys2 := hgb1.size; clear hown1 hgb1 hob1))
        have hB20 : B.heap.size ≤ w2.heap.size := by simp at ys2; omega
        obtain ⟨tb, hTB⟩ : ∃ tb, wr.heap.size = tb := ⟨_, rfl⟩
        rw [hTB] at L3 hne hsz ⊢
        have Htb0 : Hid (B.heap.size ≤ tb) := Lib.hid hsz
        have hBF := Reg.BF.start (r := r) hmm1 HS.out
        have HBF := Lib.hid hBF
        rw [List.nil_append, List.nil_append] at L3
        clear hBF L2 Z0 Zr Zg Zl ys zs hsz2 HL0 Xo Xr Xg Xl hxs HS h84' hTB Hg
        go_wp2
        go_loopw [9, 10] (fun l i wr => ∃ (k : Nat) (N : List Nd) (Q : List (List Nat)) (nv : Value) (us ls : Nat → Value) (la : Option Addr) (lc : Nat), i = .int .i64 k ∧ l = .slice la Q.length lc ∧ Hid (r.BF N Q k) ∧ Hid (LT B.heap.size wr tb nv l N us Q ls) ∧ Hid (wr.heap[w.heap.size + 1]? = some (.cells #[.int .i64 0, .slice none 0 0] 28)) ∧ Hid (wr.heap[w.heap.size]? = some (.cells #[.slice (some ⟨mb, mo, none⟩) r.nm mc, .slice (some ⟨cb, co, none⟩) r.nc cc] 25)) ∧ Hid (w.grows wr) ∧ B.heap.size ≤ wr.heap.size) (fun _ i _ => r.nm - (intOf i).toNat)
        case atStart => exact ⟨0, _, _, _, _, _, _, _, rfl, rfl, HBF, L3, y0, yr, yg, hB20⟩
        case round =>
          obtain ⟨i, N, Q, nv, us, ls, la, lc, rfl, rfl, hBF, hLT, hO, hRb, hgW, hBz⟩ := hrel
          have hbd := hBF.out.bound
          have hlen := hBF.out.len
          have hle := hBF.out.le
          have hpos := hBF.out.pos
          obtain ⟨ng, ncap, rfl⟩ := Joins.ownsRow_form hLT.out.row hpos
          obtain ⟨_, _, e1, hnc1, hnc2⟩ := row_form hLT.out.row
          cases e1
          have tc1 : wr.cell? ⟨tb, 1, none⟩ = some (.slice (some ⟨ng, 0, none⟩) N.length ncap) := cell_of_heap hLT.out.box rfl
          by_cases hlt : i < N.length
          · obtain ⟨lb, lc', gb, gc, e1, hl1, hl2, e2, c1, hg1, hg2, c2⟩ := hLT.out.list (j := i) (by omega) (by have := (hBF.out.mix i (by omega)).two; omega)
            cases e1
            have Hmix := Lib.hid (hBF.out.mix i (by omega))
            have hlst := Lib.hid (hLT.out.lst i (by omega))
            obtain ⟨q, hq⟩ : ∃ q, Q.getD i [] = q := ⟨_, rfl⟩
            rw [hq] at c1 hg1 c2 Hmix hlst e2
            rw [e2] at hlst
            have HLq : Hid (ListAt wr (.slice (some ⟨gb, 0, none⟩) q.length gc) q) := Lib.hid (hlst.out.listAt rfl)
            have Hq := Lib.hid hq
            have hq2 := Hmix.out.two
            have hq10 : q.length ≤ 10 := by have h1 := hBF.out.qlen (show i < Q.length by omega); rw [hq] at h1; omega
            have r0 : wr.cell? ⟨w.heap.size, 0, none⟩ = some (.slice (some ⟨mb, mo, none⟩) r.nm mc) := cell_of_heap hRb.out rfl
            have r1 : wr.cell? ⟨w.heap.size, 1, none⟩ = some (.slice (some ⟨cb, co, none⟩) r.nc cc) := cell_of_heap hRb.out rfl
            have Hc2 := Lib.hid c2
            have hltQ : i < Q.length := by omega
            have hi10 : i < 10 := by omega
            unfold maxLen at hl2 hg2
            clear hq c2 e2
            go_upto_region 16 with fail
            (refine wp_region_chain 8 [7] (by kernel_rfl) (by kernel_rfl) (by decide) ?_; simp only [without, only, withNo, List.take_succ_cons, List.take_zero, List.drop_succ_cons, List.drop_zero, List.take_nil, List.drop_nil, Nat.reduceAdd, Nat.reduceSub, List.filter, List.contains_cons, List.contains_nil, Nat.reduceBEq, Bool.or_false, Bool.false_or, Bool.true_or, Bool.or_true, Bool.or_self, Bool.not_true, Bool.not_false, List.map_cons, List.map_nil]; (repeat (refine wpCalm_step (fun K hK => ?_); go_simp; first | (refine hK _ ?_; clear hK K) | (apply Exists.intro; refine ⟨fun n' x' => ?_, hK _ ?_⟩; (fail); clear hK K))); refine wpCalm_nil ?_)
            (refine wpChain_step (fun K hK nc xc => ?_); go_simp)
            refine (h85.out _ (hgW.out.trans (by (repeat (first | exact World.grows.refl _ | assumption | refine World.grows.alloc ?_ _ | refine World.grows.plus ?_ _ _ | refine World.grows.drew ?_)))) _ q (HLq.out.mono (by (repeat (first | exact World.grows.refl _ | assumption | refine World.grows.alloc ?_ _ | refine World.grows.plus ?_ _ _ | refine World.grows.drew ?_)))) Hmix.out.1 (by omega) i (by omega)).mono ?_
            rintro e W1 ⟨f, rfl, hf, hg⟩
            refine ⟨_, rfl, hg, hK _ _ ?_⟩
            clear hK K r0 r1 c1
            (refine wpChain_nil (fun nc xc => ?_))
            have hgV : wr.grows (W1.plus nc xc) := World.grows.trans (World.grows.trans (by (repeat (first | exact World.grows.refl _ | assumption | refine World.grows.alloc ?_ _ | refine World.grows.plus ?_ _ _ | refine World.grows.drew ?_))) hg) (by (repeat (first | exact World.grows.refl _ | assumption | refine World.grows.alloc ?_ _ | refine World.grows.plus ?_ _ _ | refine World.grows.drew ?_)))
            generalize W1.plus nc xc = V at hgV ⊢
            have VLT := Lib.hid (hLT.out.mono hgV)
            have VO := Lib.hid (hgV.heap_of hO.out)
            have VR := Lib.hid (hgV.heap_of hRb.out)
            have Vg := Lib.hid (hgW.out.trans hgV)
            have tc1 : V.cell? ⟨tb, 1, none⟩ = some (.slice (some ⟨ng, 0, none⟩) N.length ncap) := cell_of_heap VLT.out.box rfl
            have hVs := hgV.size
            rcases hf with ⟨rfl, hf⟩ | ⟨g, rfl, hgc, hpart⟩
            · have HTW := Lib.hid (Reg.feat_twins Hmix.out hf)
              have tc0 : V.cell? ⟨tb, 0, none⟩ = some (.int .i64 0) := cell_of_heap VLT.out.box rfl
              have o0 : V.cell? ⟨w.heap.size + 1, 0, none⟩ = some (.int .i64 0) := cell_of_heap VO.out rfl
              have o1 : V.cell? ⟨w.heap.size + 1, 1, none⟩ = some (.slice none 0 0) := cell_of_heap VO.out rfl
              have of0 := frozen_of_heap VO.out 0
              have of1 := frozen_of_heap VO.out 1
              have hne' : w.heap.size + 1 ≠ tb := hne
              clear hf
              go_wp2
              have q0 := store_of_heap VO.out 0 (.int .i64 0); have q1 := store_of_heap q0 1 (.slice (some ⟨ng, 0, none⟩) Q.length ncap); have g3 : w.grows ((V.setCell ⟨w.heap.size + 1, 0, none⟩ (.int .i64 0)).setCell ⟨w.heap.size + 1, 1, none⟩ (.slice (some ⟨ng, 0, none⟩) Q.length ncap)) := (Vg.out.setCell (p := ⟨w.heap.size + 1, 0, none⟩) (by simp) _).setCell (p := ⟨w.heap.size + 1, 1, none⟩) (by simp) _; have t3 := (LT.setO VLT.out VO.out (Ne.symm hne') 0 (.int .i64 0)).setO q0 (Ne.symm hne') 1 (.slice (some ⟨ng, 0, none⟩) Q.length ncap); generalize hF : World.setCell _ _ _ = F at q1 g3 t3 ⊢; have r0 : F.cell? ⟨w.heap.size + 1, 0, none⟩ = some (.int .i64 0) := cell_of_heap q1 rfl; have r1 : F.cell? ⟨w.heap.size + 1, 1, none⟩ = some (.slice (some ⟨ng, 0, none⟩) Q.length ncap) := cell_of_heap q1 rfl; refine bodyPost_ret (v := .tuple #[.agg #[.int .i64 0, .slice (some ⟨ng, 0, none⟩) Q.length ncap], .bool false]) (by simp [results, Try.results38, go_sem, r0, r1]) rfl ?_; rw [← hlen]; exact ⟨_, _, _, _, Tr.ofL 0 N, false, rfl, (t3.at' 0).treeAt, fun h => absurd h (by decide), fun _ => HTW.out, g3⟩
            · have Hpart := Lib.hid hpart
              clear hpart
              go_upto_region 20 with fail
              obtain ⟨nb, hnb⟩ : ∃ nb, V.heap.size = nb := ⟨_, rfl⟩
              have hYb : (V.alloc (.cells #[.int .i64 (g : Nat), .slice none 0 0] 83)).heap[nb]? = some (.cells #[.int .i64 (g : Nat), .slice none 0 0] 83) := World.heap_at _ _ _ (by rw [hnb])
              have hYs : (V.alloc (.cells #[.int .i64 (g : Nat), .slice none 0 0] 83)).heap.size = nb + 1 := by simp [hnb]
              have hYg : V.grows (V.alloc (.cells #[.int .i64 (g : Nat), .slice none 0 0] 83)) := by (repeat (first | exact World.grows.refl _ | assumption | refine World.grows.alloc ?_ _ | refine World.grows.plus ?_ _ _ | refine World.grows.drew ?_))
              have hng : ng < nb := by rw [← hnb]; exact (VLT.out.row.lt ng rfl).2
              have hus : Hid (∀ j, j < N.length → ∀ k, (us j).ownBlock = some k → k < nb) := Lib.hid fun j hj k hk => by rw [← hnb]; exact ((VLT.out.sub j hj).lt k hk).2
              rw [hnb]
              generalize World.alloc _ _ = Y at hYb hYs hYg ⊢
              have YLT := Lib.hid (VLT.out.mono hYg)
              have YO := Lib.hid (hYg.heap_of VO.out)
              have YR := Lib.hid (hYg.heap_of VR.out)
              have Yg := Lib.hid (Vg.out.trans hYg)
              have Yb := Lib.hid hYb
              have hw1 : w.heap.size + 1 < tb ∨ tb < w.heap.size + 1 := by omega
              have hBV0 := Lib.hid (Reg.BV.zero Hr.out (base := N.length) Hmix.out.1 hgc)
              have hN9 : N.length ≤ 9 := by omega
              have hBnb : B.heap.size ≤ nb := by omega
              have HLtb : Hid (B.heap.size ≤ tb) := Htb0
              clear VLT VO VR Vg hYb hYg hnb tc1 hLT hO hRb hgW hBz hgV hVs
              go_wp2
              go_loopw [9, 13] (fun l vi wr => ∃ (v : Nat) (Qx : List (List Nat)) (nx : List (Int × Int)) (nxv nv : Value) (us ls : Nat → Value) (la : Option Addr) (lc : Nat), vi = .int .i64 v ∧ l = .slice la (Q ++ Qx).length lc ∧ v ≤ 10 ∧ Hid (r.BV N.length q g v Qx nx) ∧
                Hid (LT B.heap.size wr tb nv l (N ++ List.replicate Qx.length (0, [])) us (Q ++ Qx) ls) ∧ Hid (wr.heap[w.heap.size + 1]? = some (.cells #[.int .i64 0, .slice none 0 0] 28)) ∧ Hid (wr.heap[w.heap.size]? = some (.cells #[.slice (some ⟨mb, mo, none⟩) r.nm mc, .slice (some ⟨cb, co, none⟩) r.nc cc] 25)) ∧
                Hid (w.grows wr) ∧ Hid (wr.heap[nb]? = some (.cells #[.int .i64 (g : Nat), nxv] 83)) ∧ Hid (wr.ownsRow (nb + 1) 129 2 nxv nx.length (pcells nx)) ∧ Hid (nv.ownBlock ≠ some nb) ∧ Hid (∀ j, j < (N ++ List.replicate Qx.length ((0, []) : Nd)).length → ∀ k, (us j).ownBlock = some k → k < nb) ∧ nb + 1 ≤ wr.heap.size) (fun _ vi _ => 10 - (intOf vi).toNat)
              case atStart => exact ⟨0, [], [], .slice none 0 0, _, us, ls, _, _, rfl, by rw [List.append_nil], by omega, hBV0, Lib.hid (by simpa using YLT.out), YO, YR, Yg, Yb, Lib.hid (World.ownsRow_nil _ _ _ _), Lib.hid (by simp only [Value.ownBlock, ne_eq, Option.some.injEq]; omega), Lib.hid (by simpa using hus.out), by omega⟩
              case round =>
                obtain ⟨v, Qx, nx, nxv, nv, us, ls, la, lc, rfl, rfl, hv, hBV, hLT, hO, hRb, hgW, hNB, hNX, hNV, hUS, hbz⟩ := hrel
                have hlenN : (N ++ List.replicate Qx.length ((0, []) : Nd)).length = N.length + Qx.length := by simp
                have hlenQ : (Q ++ Qx).length = Q.length + Qx.length := by simp
                have hqi := Lib.hid (show (Q ++ Qx).getD i [] = q by rw [getD_app_left (by omega)]; exact Hq.out)
                obtain ⟨NN, hNN⟩ : ∃ NN, N ++ List.replicate Qx.length ((0, []) : Nd) = NN := ⟨_, rfl⟩
                obtain ⟨QQ, hQQ⟩ : ∃ QQ, Q ++ Qx = QQ := ⟨_, rfl⟩
                rw [hNN] at hLT hUS hlenN
                rw [hQQ] at hLT hlenQ hqi
                rw [hQQ]
                have HNN := Lib.hid hNN
                have HQQ := Lib.hid hQQ
                clear hNN hQQ
                by_cases hv10 : v < 10
                · obtain ⟨lb2, lc2, gb2, gc2, e1, hl3, hl4, e2, c1, hg3, hg4, c2⟩ := hLT.out.list (j := i) (by omega) (by rw [hqi.out]; omega)
                  cases e1
                  rw [hqi.out] at e2 c1 hg3 c2
                  have Hc2v := Lib.hid c2
                  have He2 := Lib.hid e2
                  have r0 : wr.cell? ⟨w.heap.size, 0, none⟩ = some (.slice (some ⟨mb, mo, none⟩) r.nm mc) := cell_of_heap hRb.out rfl
                  unfold maxLen at hl4 hg4
                  have hi2 : i < QQ.length := by omega
                  have hiI : (i : Int) < QQ.length := by omega
                  have hv9 : (v : Int) ≤ 9 := by omega
                  have hv9d : decide ((v : Int) ≤ 9) = true := decide_eq_true hv9
                  have hgI : (g : Int) < r.nc := by omega
                  have HlenQ := Lib.hid hlenQ
                  have HlenN := Lib.hid hlenN
                  clear hlenQ hlenN
                  have Hc1 := Lib.hid c1
                  have Hr0 := Lib.hid r0
                  clear c2 e2 c1 r0
                  obtain ⟨Wv, rfl⟩ : ∃ Wv, Wv = wr := ⟨_, rfl⟩
                  go_wp2
                  go_loopw [14, 15] (fun l ki wk => ∃ (k lc : Nat) (la : Option Addr), ki = .int .i64 k ∧ k ≤ q.length ∧ l = .slice la (r.pt (q.take k) g v).length lc ∧ Hid (wk.ownsRow Wv.heap.size 3 1 l (r.pt (q.take k) g v).length (ilist (r.pt (q.take k) g v))) ∧ Hid (Wv.grows wk)) (fun _ ki _ => q.length - (intOf ki).toNat)
                  case atStart => exact ⟨0, 0, none, rfl, by omega, rfl, Lib.hid (World.ownsRow_nil _ _ _ _), Lib.hid (by (repeat (first | exact World.grows.refl _ | assumption | refine World.grows.alloc ?_ _ | refine World.grows.plus ?_ _ _ | refine World.grows.drew ?_)))⟩
                  case round =>
                    obtain ⟨k, kc, la, rfl, hk, rfl, hl, hg⟩ := hrel
                    have r0 := hg.out.cell_of Hr0.out
                    have c1 := hg.out.cell_of Hc1.out
                    have hgs := hg.out.size
                    by_cases hlk : k < q.length
                    · have d1 := hg.out.cell_of (Hc2v.out k hlk)
                      have m1 := Hmix.out.1 _ (getD_mem hlk)
                      have hpt := r.pt_take q g v hlk
                      have hptl : (r.pt (q.take k) g v).length ≤ 10 := by
                        have h1 : (r.pt (q.take k) g v).length ≤ (q.take k).length := List.length_filter_le _ _
                        rw [List.length_take] at h1
                        omega
                      obtain ⟨x, hx⟩ : ∃ x, q.getD k 0 = x := ⟨_, rfl⟩
                      rw [hx] at d1 m1 hpt
                      have hpt' := Lib.hid hpt
                      have hkI : (k : Int) < q.length := by omega
                      have hxI : (x : Int) < r.nm := by omega
                      have d2 := (hgW.out.trans hg.out).cell_of (HR.out.row x m1)
                      have d3 := (hgW.out.trans hg.out).cell_of (HR.out.val x g m1 hgc)
                      obtain ⟨q1, q2⟩ := HR.out.cap x m1
                      obtain ⟨p, hp⟩ : ∃ p, r.pt (q.take k) g v = p := ⟨_, rfl⟩
                      rw [hp] at hl hptl hpt' ⊢
                      unfold maxLen at q2
                      clear hx hpt hp
                      by_cases hw : r.val x g = (v : Nat)
                      · rw [if_pos hw] at hpt'
                        rw [hw] at d3
                        have Hw := Lib.hid hw
                        clear hw
                        go_wp2
                        (refine wp_region_calm (by kernel_rfl) (by kernel_rfl) ?_; (repeat (refine wpCalm_step (fun K hK => ?_); go_simp; first | (refine hK _ ?_; clear hK K) | (apply Exists.intro; refine ⟨fun n' x' => ?_, hK _ ?_⟩; (fail); clear hK K))); refine wpCalm_nil ?_; intro nq xq)
                        go_wp2_with (at_builtin; go_loud (refine wpList_append_r _ rfl _ _ _ (by rfl) Wv.heap.size 3 (.int .i64 0) 1 8 Try.underlying29 el3 (by rfl) (by omega) _ p.length _ (by rfl) (hl.out.grow (by (repeat (first | exact World.grows.refl _ | assumption | refine World.grows.alloc ?_ _ | refine World.grows.plus ?_ _ _ | refine World.grows.drew ?_)))) _ (by rfl) 1 _ (SliceAt.src (by omega) (one_slice _ _ _ _ (by simp))) (one_cell _) (by unfold maxLen; omega) (by omega) (by simp; omega) ?_; intro v' w3 hown3 hgb; have hg4 := World.grownBy.grows hgb (hl.out.grow (by (repeat (first | exact World.grows.refl _ | assumption | refine World.grows.alloc ?_ _ | refine World.grows.plus ?_ _ _ | refine World.grows.drew ?_)))) (W0 := Wv) (by have := hg.out; (repeat (first | exact World.grows.refl _ | assumption | refine World.grows.alloc ?_ _ | refine World.grows.plus ?_ _ _ | refine World.grows.drew ?_))) (by omega); obtain ⟨va, vc, rfl, -, -⟩ := row_form hown3; have Hown3 : Hid (w3.ownsRow Wv.heap.size 3 1 (.slice va (p.length + 1) vc) (p.length + 1) (ilist (p ++ [x]))) := Lib.hid (by rw [ilist_snoc]; exact hown3); have Hg4 := Lib.hid hg4; clear hown3 hgb hg4))
                        go_roundw
                        case rel => exact ⟨k + 1, vc, va, by go_num, by omega, by rw [hpt'.out, List.length_append, List.length_singleton], Lib.hid (by rw [hpt'.out, List.length_append, List.length_singleton]; exact Hown3.out), Hg4⟩
                        case measure => simp [intOf]; omega
                      · rw [if_neg hw, List.append_nil] at hpt'
                        have hwb : (r.val x g == ((v : Nat) : Int)) = false := beq_eq_false_iff_ne.2 hw
                        go_wp2
                        (refine wp_region_calm (by kernel_rfl) (by kernel_rfl) ?_; (repeat (refine wpCalm_step (fun K hK => ?_); go_simp; first | (refine hK _ ?_; clear hK K) | (apply Exists.intro; refine ⟨fun n' x' => ?_, hK _ ?_⟩; (fail); clear hK K))); refine wpCalm_nil ?_; intro nq xq)
                        go_wp2
                        clear hw hwb d1 d2 d3
                        go_roundw
                        case rel => exact ⟨k + 1, kc, la, by go_num, by omega, by rw [hpt'.out], Lib.hid (by rw [hpt'.out]; exact hl.out.grow (by (repeat (first | exact World.grows.refl _ | assumption | refine World.grows.alloc ?_ _ | refine World.grows.plus ?_ _ _ | refine World.grows.drew ?_)))), Lib.hid (hg.out.trans (by (repeat (first | exact World.grows.refl _ | assumption | refine World.grows.alloc ?_ _ | refine World.grows.plus ?_ _ _ | refine World.grows.drew ?_))))⟩
                        case measure => simp [intOf]; omega
                    · have hke : k = q.length := by omega
                      have hpt : r.pt (q.take k) g v = r.pt q g v := by rw [hke, List.take_length]
                      have few := hBV.out.few
                      have hpl : (r.pt q g v).length ≤ 10 := by
                        have h1 : (r.pt q g v).length ≤ q.length := List.length_filter_le _ _
                        omega
                      have hsame := fun h1 h2 => Lib.hid (hBV.out.same Hr.out Hmix.out.1 h1 h2)
                      have hmixd := fun h1 h2 => Lib.hid (hBV.out.mixed Hmix.out.1 h1 h2)
                      have hskip := fun h => Lib.hid (hBV.out.skip h)
                      have hpm : ∀ m ∈ r.pt q g v, m < r.nm := fun m hm => Hmix.out.1 m (List.mem_filter.1 hm).1
                      obtain ⟨p, hp⟩ : ∃ p, r.pt q g v = p := ⟨_, rfl⟩
                      rw [hpt, hp] at hl
                      rw [hpt]
                      rw [hp] at hpl hsame hmixd hskip hpm ⊢
                      have Hpm := Lib.hid hpm
                      subst hke
                      clear hpt hp hpm hk hlk
                      by_cases hp0 : p.length = 0
                      · have hpe : p = [] := List.eq_nil_of_length_eq_zero hp0
                        have hnx := hskip hpe
                        clear hsame hmixd hskip hpe few
                        rw [hp0]
                        go_wp2
                        go_roundw
                        case rel => exact ⟨v + 1, Qx, nx, nxv, nv, us, ls, _, _, by go_num, by rw [HQQ.out], by omega, hnx, Lib.hid (by rw [HNN.out, HQQ.out]; exact hLT.out.mono hg.out), Lib.hid (hg.out.heap_of hO.out), Lib.hid (hg.out.heap_of hRb.out), Lib.hid (hgW.out.trans hg.out), Lib.hid (hg.out.heap_of hNB.out), Lib.hid (hNX.out.grow hg.out), hNV, Lib.hid (by rw [HNN.out]; exact hUS.out), by omega⟩
                        case measure => simp [intOf]; omega
                      · clear hskip
                        have hp1 : 0 < p.length := by omega
                        obtain ⟨pb, pc, he⟩ := Joins.ownsRow_form hl.out hp1
                        cases he
                        have d1 := hl.out.cellAt 0 (by omega)
                        rw [ilist_get p hp1] at d1
                        have m1 := Hpm.out _ (getD_mem hp1)
                        have HLp := Lib.hid (hl.out.listAt rfl)
                        have hs' := hsame hp1
                        have hm' := hmixd hp1
                        obtain ⟨z, hz⟩ : ∃ z, p.getD 0 0 = z := ⟨_, rfl⟩
                        rw [hz] at d1 m1 hs'
                        have d2 := (hgW.out.trans hg.out).cell_of (HR.out.who z m1)
                        have r1 : wr.cell? ⟨w.heap.size, 1, none⟩ = some (.slice (some ⟨cb, co, none⟩) r.nc cc) := hg.out.cell_of (cell_of_heap hRb.out rfl)
                        have hzb := Hr.out.who z m1
                        have hwz : IntKind.i64.wrap (-1 - r.who z) = -1 - r.who z := wrapI rfl (by omega)
                        have hzI : (z : Int) < r.nm := by omega
                        have hpI : (0 : Int) < p.length := by omega
                        have h84' := Lib.hid fun W (g : w.grows W) (hL : ListAt W (.slice (some ⟨pb, 0, none⟩) p.length kc) p) => h84.out W g _ p hL Hpm.out
                        obtain ⟨S, hS⟩ : ∃ S, r.sameB p = S := ⟨_, rfl⟩
                        rw [hS] at h84' hs' hm'
                        clear hsame hmixd hz hS
                        go_upto_region 30 with fail
                        (refine wp_region_calm (by kernel_rfl) (by kernel_rfl) ?_; (repeat (refine wpCalm_step (fun K hK => ?_); go_simp; first | (refine hK _ ?_; clear hK K) | (apply Exists.intro; refine ⟨fun n' x' => ?_, hK _ ?_⟩; (fail); clear hK K))); refine wpCalm_nil ?_; intro nq xq)
                        go_wp2_with (go_at_call 44; fail)
                        refine (h84'.out _ ((hgW.out.trans hg.out).trans (by (repeat (first | exact World.grows.refl _ | assumption | refine World.grows.alloc ?_ _ | refine World.grows.plus ?_ _ _ | refine World.grows.drew ?_)))) (HLp.out.mono (by (repeat (first | exact World.grows.refl _ | assumption | refine World.grows.alloc ?_ _ | refine World.grows.plus ?_ _ _ | refine World.grows.drew ?_))))).mono ?_
                        rintro e W5 ⟨rfl, hg5⟩
                        have g5 : Wv.grows W5 := hg.out.trans (World.grows.trans (by (repeat (first | exact World.grows.refl _ | assumption | refine World.grows.alloc ?_ _ | refine World.grows.plus ?_ _ _ | refine World.grows.drew ?_))) hg5)
                        have hl5 := Lib.hid (hl.out.grow (World.grows.trans (by (repeat (first | exact World.grows.refl _ | assumption | refine World.grows.alloc ?_ _ | refine World.grows.plus ?_ _ _ | refine World.grows.drew ?_))) hg5))
                        have ULT := Lib.hid (hLT.out.mono g5)
                        have UO := Lib.hid (g5.heap_of hO.out)
                        have UR := Lib.hid (g5.heap_of hRb.out)
                        have Ug := Lib.hid (hgW.out.trans g5)
                        have UB := Lib.hid (g5.heap_of hNB.out)
                        have UX := Lib.hid (hNX.out.grow g5)
                        have hUs := g5.size
                        have hne0 : w.heap.size ≠ tb := fun e => by have h1 := UR.out; rw [e, ULT.out.box] at h1; cases h1
                        have hnet : nb ≠ tb := fun e => by have h1 := UB.out; rw [e, ULT.out.box] at h1; cases h1
                        obtain ⟨nxa, nxc, rfl, hnx1, hnx2⟩ := row_form hNX.out
                        clear hg hl hLT hO hRb hgW hNB hNX HLp d1 d2 Hc2v He2 Hc1 Hr0 r0 r1 c1 hgs hg5 g5 h84' hwz
                        have hLS : Hid (LS w B.heap.size nb tb #[.slice (some ⟨mb, mo, none⟩) r.nm mc, .slice (some ⟨cb, co, none⟩) r.nc cc] #[.int .i64 0, .slice none 0 0] W5 nv (.slice (some ⟨lb2, 0, none⟩) QQ.length lc) NN us QQ ls (g : Nat) (.slice nxa nx.length nxc) nx) := Lib.hid ⟨ULT.out, UO.out, UR.out, Ug.out, UB.out, UX.out, hNV.out, hUS.out, by omega, by omega, hBnb, hne, by have := HLtb.out; omega⟩
                        obtain ⟨ng3, ncap3, rfl⟩ := Joins.ownsRow_form ULT.out.row (by have := HlenN.out; omega)
                        have tc1 : W5.cell? ⟨tb, 1, none⟩ = some (.slice (some ⟨ng3, 0, none⟩) NN.length ncap3) := cell_of_heap ULT.out.box rfl
                        have tcf := frozen_of_heap ULT.out.box 1
                        clear ULT UO UR Ug UB UX hNV hUS hne0 hnet
                        cases S with
                        | true =>
                          have hfin := hs' rfl
                          clear hs' hm' tc1 tcf
                          have n1 : W5.cell? ⟨nb, 1, none⟩ = some (.slice nxa nx.length nxc) := cell_of_heap hLS.out.b rfl; have nf := frozen_of_heap hLS.out.b 1; have hsz9 := hLS.out.sz; go_wp2_with (at_builtin; go_loud (refine wpList_append_r _ rfl _ _ _ (by rfl) (nb + 1) 129 (.agg #[.int .i64 0, .int .i64 0]) 2 16 Try.underlying81 el129 (by rfl) (by omega) _ nx.length _ (by rfl) ((hLS.out.mono (by (repeat (first | exact World.grows.refl _ | assumption | refine World.grows.alloc ?_ _ | refine World.grows.plus ?_ _ _ | refine World.grows.drew ?_)))).x) _ (by rfl) 1 _ (SliceAt.src (by omega) (two_slice _ (v : Nat) (-1 - r.who z) _ _ (by simp))) (two_cells _ _) (by unfold maxLen; omega) (by omega) (by simp; omega) ?_; intro v9 w9 hown hgb; obtain ⟨va, vc, rfl, -, -⟩ := row_form hown; have K9 := Lib.hid ((hLS.out.mono (by (repeat (first | exact World.grows.refl _ | assumption | refine World.grows.alloc ?_ _ | refine World.grows.plus ?_ _ _ | refine World.grows.drew ?_)))).next hown hgb).1; have n2 : w9.cell? ⟨nb, 1, none⟩ = some (.slice nxa nx.length nxc) := cell_of_heap ((hLS.out.mono (by (repeat (first | exact World.grows.refl _ | assumption | refine World.grows.alloc ?_ _ | refine World.grows.plus ?_ _ _ | refine World.grows.drew ?_)))).next hown hgb).2 rfl; have nf2 := frozen_of_heap ((hLS.out.mono (by (repeat (first | exact World.grows.refl _ | assumption | refine World.grows.alloc ?_ _ | refine World.grows.plus ?_ _ _ | refine World.grows.drew ?_)))).next hown hgb).2 1; clear hown hgb n1 nf))
                          go_roundw
                          case rel => exact ⟨v + 1, Qx, _, _, _, us, ls, _, _, by go_num, by rw [HQQ.out], by omega, hfin, Lib.hid (by rw [HNN.out, HQQ.out]; exact K9.out.lt), Lib.hid K9.out.o, Lib.hid K9.out.r, Lib.hid K9.out.g, Lib.hid K9.out.b, Lib.hid K9.out.x, Lib.hid K9.out.nb', Lib.hid (by rw [HNN.out]; exact K9.out.us'), K9.out.sz⟩
                          case measure => simp [intOf]; omega
                        | false =>
                          have hfin := hm' rfl
                          clear hs' hm'
                          have hNNb : NN.length ≤ 20 := by have := HlenN.out; omega
                          have hQQb : QQ.length ≤ 20 := by have := HlenQ.out; omega
                          go_upto_region 33 with fail
                          go_upto_region 34 with (at_builtin; go_loud (refine wpList_append_h _ rfl _ _ _ (by rfl) B.heap.size 83 (.agg #[.int .i64 0, .slice none 0 0]) 2 32 Try.underlying26 el83 (by rfl) (by omega) _ NN.length _ (by rfl) (hLS.out.mono (by (repeat (first | exact World.grows.refl _ | assumption | refine World.grows.alloc ?_ _ | refine World.grows.plus ?_ _ _ | refine World.grows.drew ?_)))).lt.row _ (by rfl) 1 _ (by omega) (SliceAt.src (by omega) (node_slice _ 0 (.slice none 0 0) 83 _ (by simp))) (node_cells _ _ rfl) (by unfold maxLen; omega) (by omega) (by simp; omega) ?_; intro v8 w8 hown hgb hob; obtain ⟨ng4, ncap4, rfl, -, -⟩ := row_form hown; obtain ⟨m1, m2, m3⟩ := (hLS.out.mono (by (repeat (first | exact World.grows.refl _ | assumption | refine World.grows.alloc ?_ _ | refine World.grows.plus ?_ _ _ | refine World.grows.drew ?_)))).node hown hgb hob (hl5.out.grow (by (repeat (first | exact World.grows.refl _ | assumption | refine World.grows.alloc ?_ _ | refine World.grows.plus ?_ _ _ | refine World.grows.drew ?_)))); have M1 := Lib.hid m1; have M3 := Lib.hid m3; have tc1 : w8.cell? ⟨tb, 1, none⟩ = some (.slice (some ⟨ng3, 0, none⟩) NN.length ncap3) := cell_of_heap m2 rfl; have tcf := frozen_of_heap m2 1; clear hown hgb hob m1 m2 m3))
                          have M1' := M1.out
                          have M3' := M3.out
                          clear M1 M3 tc1 tcf
                          generalize World.setCell _ _ _ = U at M1' M3' ⊢
                          have M1 := Lib.hid M1'
                          have M3 := Lib.hid M3'
                          have hUz := M1'.sz
                          have hUz1 := M1'.n2
                          clear M1' M3'
                          go_upto_region 35 with (at_builtin; go_loud (refine wpList_append_h _ rfl _ _ _ (by rfl) B.heap.size 29 (.slice none 0 0) 1 24 Try.underlying126 el29 (by rfl) (by omega) _ QQ.length _ (by rfl) (M1.out.mono (by (repeat (first | exact World.grows.refl _ | assumption | refine World.grows.alloc ?_ _ | refine World.grows.plus ?_ _ _ | refine World.grows.drew ?_)))).lt.lft _ (by rfl) 1 _ (by omega) (SliceAt.src (by omega) (one_slice _ _ _ _ (by simp))) (by intro u hu; rw [tableL_one] at hu; simp at hu; subst hu; rfl) (by unfold maxLen; omega) (by omega) (by simp; omega) ?_; intro v8 w9 hown hgb hob; obtain ⟨la9, lc9, rfl, -, -⟩ := row_form hown; have N1 := Lib.hid ((M1.out.mono (by (repeat (first | exact World.grows.refl _ | assumption | refine World.grows.alloc ?_ _ | refine World.grows.plus ?_ _ _ | refine World.grows.drew ?_)))).left (p := p) hown hgb ((M3.out.grow (by (repeat (first | exact World.grows.refl _ | assumption | refine World.grows.alloc ?_ _ | refine World.grows.plus ?_ _ _ | refine World.grows.drew ?_)))).down (by omega))); clear hown hgb hob))
                          have n1 : w9.cell? ⟨nb, 1, none⟩ = some (.slice nxa nx.length nxc) := cell_of_heap N1.out.b rfl; have nf := frozen_of_heap N1.out.b 1; have hsz9 := N1.out.sz; go_wp2_with (at_builtin; go_loud (refine wpList_append_r _ rfl _ _ _ (by rfl) (nb + 1) 129 (.agg #[.int .i64 0, .int .i64 0]) 2 16 Try.underlying81 el129 (by rfl) (by omega) _ nx.length _ (by rfl) ((N1.out.mono (by (repeat (first | exact World.grows.refl _ | assumption | refine World.grows.alloc ?_ _ | refine World.grows.plus ?_ _ _ | refine World.grows.drew ?_)))).x) _ (by rfl) 1 _ (SliceAt.src (by omega) (two_slice _ (v : Nat) ((NN.length : Nat)) _ _ (by simp))) (two_cells _ _) (by unfold maxLen; omega) (by omega) (by simp; omega) ?_; intro v9 w9 hown hgb; obtain ⟨va, vc, rfl, -, -⟩ := row_form hown; have K9 := Lib.hid ((N1.out.mono (by (repeat (first | exact World.grows.refl _ | assumption | refine World.grows.alloc ?_ _ | refine World.grows.plus ?_ _ _ | refine World.grows.drew ?_)))).next hown hgb).1; have n2 : w9.cell? ⟨nb, 1, none⟩ = some (.slice nxa nx.length nxc) := cell_of_heap ((N1.out.mono (by (repeat (first | exact World.grows.refl _ | assumption | refine World.grows.alloc ?_ _ | refine World.grows.plus ?_ _ _ | refine World.grows.drew ?_)))).next hown hgb).2 rfl; have nf2 := frozen_of_heap ((N1.out.mono (by (repeat (first | exact World.grows.refl _ | assumption | refine World.grows.alloc ?_ _ | refine World.grows.plus ?_ _ _ | refine World.grows.drew ?_)))).next hown hgb).2 1; clear hown hgb n1 nf))
                          rw [HlenN.out] at K9
                          have Hrep : Hid (N ++ List.replicate (Qx ++ [p]).length ((0, []) : Nd) = NN ++ [(0, [])]) := Lib.hid (by rw [List.length_append, List.length_singleton, List.replicate_succ', ← List.append_assoc, HNN.out])
                          have HQp : Hid (Q ++ (Qx ++ [p]) = QQ ++ [p]) := Lib.hid (by rw [← List.append_assoc, HQQ.out])
                          go_roundw
                          case rel => exact ⟨v + 1, Qx ++ [p], _, _, _, _, _, _, _, by go_num, by rw [HQp.out, List.length_append, List.length_singleton], by omega, hfin, Lib.hid (by rw [Hrep.out, HQp.out]; exact K9.out.lt), Lib.hid K9.out.o, Lib.hid K9.out.r, Lib.hid K9.out.g, Lib.hid K9.out.b, Lib.hid K9.out.x, Lib.hid K9.out.nb', Lib.hid (by rw [Hrep.out]; exact K9.out.us'), K9.out.sz⟩
                          case measure => simp [intOf]; omega
                · have hve : v = 10 := by omega
                  subst hve
                  obtain ⟨nxa, nxc, rfl, hnx1, hnx2⟩ := row_form hNX.out
                  have HNX := Lib.hid (hNX.out.down (base' := B.heap.size) (by omega))
                  obtain ⟨ng2, ncap2, rfl, hp1, hp2, hp3, hp4, hp5, -, hp6, hp7⟩ := hLT.out.put (i := i) (by omega) (f := (g : Int)) HNX.out
                  have hst := Lib.hid (hBF.out.step Hr.out hlt hgc (by rw [Hq.out]; exact Hpart.out) (by rw [Hq.out]; exact hBV.out))
                  rw [HNN.out, HQQ.out] at hst
                  have HP7 := Lib.hid hp7
                  have hO6 := hp6 _ _ _ hO.out (by decide)
                  have hR6 := hp6 _ _ _ hRb.out (by decide)
                  have tc1 : wr.cell? ⟨tb, 1, none⟩ = some (.slice (some ⟨ng2, 0, none⟩) NN.length ncap2) := cell_of_heap hLT.out.box rfl
                  have n0 : wr.cell? ⟨nb, 0, none⟩ = some (.int .i64 (g : Nat)) := cell_of_heap hNB.out rfl
                  have n1 : wr.cell? ⟨nb, 1, none⟩ = some (.slice nxa nx.length nxc) := cell_of_heap hNB.out rfl
                  have hh0 : i * 2 < NN.length * 2 := by omega
                  have hh1 : i * 2 + 1 < NN.length * 2 := by omega
                  obtain ⟨x0, k0⟩ := Option.isSome_iff_exists.1 (hp3 _ hh0)
                  obtain ⟨x1, k1⟩ := Option.isSome_iff_exists.1 (hp3 _ hh1)
                  have f0 := hp4 (i * 2)
                  have f1 := hp4 (i * 2 + 1)
                  have hi2 : i < NN.length := by omega
                  unfold maxLen at hp2
                  clear hp3 hp4 hp6 hp7
                  go_wp2
                  have g7 : w.grows ((wr.setCell ⟨ng2, i * 2, none⟩ (.int .i64 (g : Nat))).setCell ⟨ng2, i * 2 + 1, none⟩ (.slice nxa nx.length nxc)) := (hgW.out.setCell (p := ⟨ng2, i * 2, none⟩) (by dsimp only; omega) _).setCell (p := ⟨ng2, i * 2 + 1, none⟩) (by dsimp only; omega) _
                  have o7 : ((wr.setCell ⟨ng2, i * 2, none⟩ (.int .i64 (g : Nat))).setCell ⟨ng2, i * 2 + 1, none⟩ (.slice nxa nx.length nxc)).heap[w.heap.size + 1]? = some (.cells #[.int .i64 0, .slice none 0 0] 28) := by rw [World.heap_setCell_map _ _ _ _ (Ne.symm hO6), World.heap_setCell_map _ _ _ _ (Ne.symm hO6)]; exact hO.out
                  have r7 : ((wr.setCell ⟨ng2, i * 2, none⟩ (.int .i64 (g : Nat))).setCell ⟨ng2, i * 2 + 1, none⟩ (.slice nxa nx.length nxc)).heap[w.heap.size]? = some (.cells #[.slice (some ⟨mb, mo, none⟩) r.nm mc, .slice (some ⟨cb, co, none⟩) r.nc cc] 25) := by rw [World.heap_setCell_map _ _ _ _ (Ne.symm hR6), World.heap_setCell_map _ _ _ _ (Ne.symm hR6)]; exact hRb.out
                  have s7 : B.heap.size ≤ ((wr.setCell ⟨ng2, i * 2, none⟩ (.int .i64 (g : Nat))).setCell ⟨ng2, i * 2 + 1, none⟩ (.slice nxa nx.length nxc)).heap.size := by simp; omega
                  have l7 := HP7.out
                  generalize World.setCell _ _ _ = F at g7 o7 r7 s7 l7 ⊢
                  refine ⟨⟨i + 1, _, _, _, _, _, _, _, by go_num, rfl, hst, Lib.hid l7, Lib.hid o7, Lib.hid r7, Lib.hid g7, s7⟩, ?_⟩
                  simp [intOf]; omega
          · have hie : i = N.length := by omega
            have HT : Hid ((Tr.ofL 0 N).treeE r = 0) := Lib.hid (by have := hBF.out; rw [hie] at this; exact this.done Hr.out)
            have tc0 : wr.cell? ⟨tb, 0, none⟩ = some (.int .i64 0) := cell_of_heap hLT.out.box rfl
            have o0 : wr.cell? ⟨w.heap.size + 1, 0, none⟩ = some (.int .i64 0) := cell_of_heap hO.out rfl
            have o1 : wr.cell? ⟨w.heap.size + 1, 1, none⟩ = some (.slice none 0 0) := cell_of_heap hO.out rfl
            have of0 := frozen_of_heap hO.out 0
            have of1 := frozen_of_heap hO.out 1
            have hne' : w.heap.size + 1 ≠ tb := hne
            clear hlt hle
            subst hie
            go_wp2
            have q0 := store_of_heap hO.out 0 (.int .i64 0); have q1 := store_of_heap q0 1 (.slice (some ⟨ng, 0, none⟩) Q.length ncap); have g3 : w.grows ((wr.setCell ⟨w.heap.size + 1, 0, none⟩ (.int .i64 0)).setCell ⟨w.heap.size + 1, 1, none⟩ (.slice (some ⟨ng, 0, none⟩) Q.length ncap)) := (hgW.out.setCell (p := ⟨w.heap.size + 1, 0, none⟩) (by simp) _).setCell (p := ⟨w.heap.size + 1, 1, none⟩) (by simp) _; have t3 := (LT.setO hLT.out hO.out (Ne.symm hne') 0 (.int .i64 0)).setO q0 (Ne.symm hne') 1 (.slice (some ⟨ng, 0, none⟩) Q.length ncap); generalize hF : World.setCell _ _ _ = F at q1 g3 t3 ⊢; have r0 : F.cell? ⟨w.heap.size + 1, 0, none⟩ = some (.int .i64 0) := cell_of_heap q1 rfl; have r1 : F.cell? ⟨w.heap.size + 1, 1, none⟩ = some (.slice (some ⟨ng, 0, none⟩) Q.length ncap) := cell_of_heap q1 rfl; refine bodyPost_ret (v := .tuple #[.agg #[.int .i64 0, .slice (some ⟨ng, 0, none⟩) Q.length ncap], .bool true]) (by simp [results, Try.results38, go_sem, r0, r1]) rfl ?_; rw [← hlen]; exact ⟨_, _, _, _, Tr.ofL 0 N, true, rfl, (t3.at' 0).treeAt, fun _ => HT.out, fun h => absurd h (by decide), g3⟩
end Go.Proofs.Ytdminglglapnlaa

