/-
  What is proved: lists as bits (74), whether a list rises (72), bits as a list (42), the lexicographic order (43), all in the reference.
-/
import Derived.Test.YtdminglglapnlaaM6
import Derived.Test.YtdminglglapnlaaM5
import Derived.Test.YtdminglglapnlaaM8
set_option linter.all false
namespace Go.Proofs.Ytdminglglapnlaa
open Go.RowKit
attribute [local irreducible] Go.wpCalm

theorem or_pow {x n : Nat} (h : x < 2 ^ n) : x ||| 2 ^ n = x + 2 ^ n := by
  apply Nat.eq_of_testBit_eq
  intro m
  rw [testBit_add_pow x n m h, Nat.testBit_or, Nat.testBit_two_pow]
  congr 1
  simp [eq_comm]
theorem Rise.le {f : Nat → Int} {n k top : Nat} (h : Rise f n top) (hk : k ≤ n) : Rise f k top := ⟨fun i hi => h.lo i (by omega), fun i hi => h.hi i (by omega), fun i hi => h.up i (by omega)⟩
theorem Rise.set_below {f : Nat → Int} {n top k : Nat} (h : Rise f n top) (hk : k < n) : setN f k < 2 ^ (f k).toNat :=
  bitsN_lt k fun i hi => by have := h.lo i (by omega); have := h.mono i k hi hk; omega
theorem Rise.set_succ {f : Nat → Int} {n top k : Nat} (h : Rise f n top) (hk : k < n) : setN f (k + 1) = setN f k + 2 ^ (f k).toNat := by
  have h1 := h.set_below hk
  show bitsN (fun i => (f i).toNat) k ||| 2 ^ (f k).toNat = _
  exact or_pow h1

set_option maxHeartbeats 1000000 in
theorem bits74 (w : World) (lv : Value) (n : Nat) (f : Nat → Int) (top : Nat) (hv : IntsAt w lv n f) (hf : Rise f n top) (ht : top ≤ 10) :
    Calls Try.prog 74 #[lv] w fun e w' => e = .returned (.int .i64 (setN f n : Nat)) ∧ w.grows w' := by
  obtain ⟨va, vc, rfl, hv1, hv2, hv⟩ := hv
  unfold maxLen at hv2
  have Hf := Lib.hid hf
  clear hf
  go_enter Try.func74, Try.ntmps74
  go_wp2
  go_loop [3, 4] (fun o i => ∃ k : Nat, k ≤ n ∧ i = .int .i64 k ∧ o = .int .i64 (setN f k : Nat)) (fun _ i => n - (intOf i).toNat)
  case atStart => exact ⟨0, by omega, rfl, rfl⟩
  case round =>
    obtain ⟨k, hk, rfl, rfl⟩ := hrel
    by_cases hlt : k < n
    · obtain ⟨b, o, rfl, h0⟩ := hv k 0 hlt (by omega)
      simp only [Nat.mul_one, Nat.add_zero] at h0
      have hlo := Hf.out.lo k hlt
      have hhi := Hf.out.hi k hlt
      obtain ⟨e, he⟩ : ∃ e : Nat, f k = e := ⟨(f k).toNat, by omega⟩
      have hss := Lib.hid (Hf.out.set_succ hlt)
      have hsb := Hf.out.set_below hlt
      rw [he] at h0 hlo hhi hss hsb
      simp only [Int.toNat_natCast] at hss hsb
      have he10 : e ≤ 10 := by omega
      have hpp : (2 : Nat) ^ e ≤ 2 ^ 10 := Nat.pow_le_pow_right (by omega) he10
      have hwp := wrap_pow (k := e) (by omega)
      have hpc := two_pow_cast e
      obtain ⟨T, hT⟩ : ∃ T, setN f k = T := ⟨_, rfl⟩
      obtain ⟨Pw, hP⟩ : ∃ Pw : Nat, 2 ^ e = Pw := ⟨_, rfl⟩
      rw [hP] at hpp hpc hsb hss
      rw [hpc] at hwp
      rw [hT] at hsb hss
      rw [hT]
      clear hT hP he hlo hhi
      go_wp2
      go_round
      case rel => exact ⟨k + 1, by omega, by go_num, by rw [hss.out]; simp⟩
      case measure => simp [intOf]; omega
    · have hke : k = n := by omega
      subst hke
      go_wp2
      go_ret
      exact ⟨rfl, by (repeat (first | exact World.grows.refl _ | assumption | refine World.grows.alloc ?_ _ | refine World.grows.plus ?_ _ _ | refine World.grows.drew ?_))⟩

set_option maxHeartbeats 1000000 in
theorem isList_c (w : World) (lv : Value) (n : Nat) (f : Nat → Int) (top : Int) (hv : IntsAt w lv n f) :
    Calls Try.prog 72 #[lv, .int .i64 top] w fun e w' => e = .returned (.bool (!(List.range n).any (riseB f top))) ∧ w.grows w' := by
  obtain ⟨va, vc, rfl, hv1, hv2, hv⟩ := hv
  unfold maxLen at hv2
  go_enter Try.func72, Try.ntmps72
  go_wp2
  go_loopw [5] (fun i wr => ∃ k : Nat, k ≤ n ∧ i = .int .i64 k ∧ Hid (∀ j, j < k → riseB f top j = false) ∧ w.grows wr) (fun i _ => n - (intOf i).toNat)
  case atStart => exact ⟨0, by omega, rfl, Lib.hid fun j hj => by omega, by (repeat (first | exact World.grows.refl _ | assumption | refine World.grows.alloc ?_ _ | refine World.grows.plus ?_ _ _ | refine World.grows.drew ?_))⟩
  case round =>
    obtain ⟨m, hm, rfl, hl, hg⟩ := hrel
    obtain ⟨n1, x1, rfl⟩ := World.plus_of hg
    by_cases hlt : m < n
    · obtain ⟨b, o, rfl, h0⟩ := hv m 0 hlt (by omega)
      simp only [Nat.mul_one, Nat.add_zero] at h0
      have bad : riseB f top m = true → Hid ((List.range n).any (riseB f top) = true) := fun h => Lib.hid (any_true_of hlt h)
      have good : riseB f top m = false → Hid (∀ j, j < m + 1 → riseB f top j = false) := fun h => Lib.hid (upto_succ hl.out h)
      by_cases q1 : f m < 0
      · have hb := bad (by simp [riseB, q1])
        clear bad good
        go_wp2
        (refine wp_region_calm (by kernel_rfl) (by kernel_rfl) ?_; (repeat (refine wpCalm_step (fun K hK => ?_); go_simp; first | (refine hK _ ?_; clear hK K) | (apply Exists.intro; refine ⟨fun n' x' => ?_, hK _ ?_⟩; (fail); clear hK K))); refine wpCalm_nil ?_; intro nq xq)
        go_wp2
        (refine bodyPost_ret (v := .bool false) (by simp [results, Try.results72, go_sem]) rfl ?_)
        exact ⟨by rw [hb.out]; rfl, by (repeat (first | exact World.grows.refl _ | assumption | refine World.grows.alloc ?_ _ | refine World.grows.plus ?_ _ _ | refine World.grows.drew ?_))⟩
      by_cases q2 : top ≤ f m
      · have hb := bad (by simp [riseB, q2])
        clear bad good
        go_wp2
        (refine wp_region_calm (by kernel_rfl) (by kernel_rfl) ?_; (repeat (refine wpCalm_step (fun K hK => ?_); go_simp; first | (refine hK _ ?_; clear hK K) | (apply Exists.intro; refine ⟨fun n' x' => ?_, hK _ ?_⟩; (fail); clear hK K))); refine wpCalm_nil ?_; intro nq xq)
        go_wp2
        (refine bodyPost_ret (v := .bool false) (by simp [results, Try.results72, go_sem]) rfl ?_)
        exact ⟨by rw [hb.out]; rfl, by (repeat (first | exact World.grows.refl _ | assumption | refine World.grows.alloc ?_ _ | refine World.grows.plus ?_ _ _ | refine World.grows.drew ?_))⟩
      rcases Nat.eq_zero_or_pos m with hm0 | hm0
      · subst hm0
        have hgd := good (by simp [riseB, q1, q2])
        clear bad good
        simp only [Nat.zero_mul, Nat.add_zero] at h0
        go_wp2
        (refine wp_region_calm (by kernel_rfl) (by kernel_rfl) ?_; (repeat (refine wpCalm_step (fun K hK => ?_); go_simp; first | (refine hK _ ?_; clear hK K) | (apply Exists.intro; refine ⟨fun n' x' => ?_, hK _ ?_⟩; (fail); clear hK K))); refine wpCalm_nil ?_; intro nq xq)
        go_wp2
        go_roundw
        case rel => exact ⟨0 + 1, by omega, by go_num, hgd, by (repeat (first | exact World.grows.refl _ | assumption | refine World.grows.alloc ?_ _ | refine World.grows.plus ?_ _ _ | refine World.grows.drew ?_))⟩
        case measure => simp [intOf]; omega
      · obtain ⟨_, _, he2, hp2⟩ := hv (m - 1) 0 (by omega) (by omega)
        cases he2
        simp only [Nat.mul_one, Nat.add_zero] at hp2
        have hwm : IntKind.i64.wrap ((m : Int) - 1) = ((m - 1 : Nat) : Int) := wrapI (by omega) (by omega)
        have hmb : m - 1 < n := by omega
        have hm0' : (0 : Int) < m := by omega
        by_cases q4 : f m ≤ f (m - 1)
        · have hb := bad (by simp [riseB, hm0, q4])
          clear bad good
          go_wp2
          (refine wp_region_calm (by kernel_rfl) (by kernel_rfl) ?_; (repeat (refine wpCalm_step (fun K hK => ?_); go_simp; first | (refine hK _ ?_; clear hK K) | (apply Exists.intro; refine ⟨fun n' x' => ?_, hK _ ?_⟩; (fail); clear hK K))); refine wpCalm_nil ?_; intro nq xq)
          go_wp2
          (refine bodyPost_ret (v := .bool false) (by simp [results, Try.results72, go_sem]) rfl ?_)
          exact ⟨by rw [hb.out]; rfl, by (repeat (first | exact World.grows.refl _ | assumption | refine World.grows.alloc ?_ _ | refine World.grows.plus ?_ _ _ | refine World.grows.drew ?_))⟩
        · have hgd := good (by simp [riseB, q1, q2, q4])
          clear bad good
          go_wp2
          (refine wp_region_calm (by kernel_rfl) (by kernel_rfl) ?_; (repeat (refine wpCalm_step (fun K hK => ?_); go_simp; first | (refine hK _ ?_; clear hK K) | (apply Exists.intro; refine ⟨fun n' x' => ?_, hK _ ?_⟩; (fail); clear hK K))); refine wpCalm_nil ?_; intro nq xq)
          go_wp2
          go_roundw
          case rel => exact ⟨m + 1, by omega, by go_num, hgd, by (repeat (first | exact World.grows.refl _ | assumption | refine World.grows.alloc ?_ _ | refine World.grows.plus ?_ _ _ | refine World.grows.drew ?_))⟩
          case measure => simp [intOf]; omega
    · have hke : m = n := by omega
      have hb := Lib.hid (any_false_of (n := m) hl.out)
      subst hke
      clear hl
      go_wp2
      (refine bodyPost_ret (v := .bool true) (by simp [results, Try.results72, go_sem]) rfl ?_)
      exact ⟨by rw [hb.out]; rfl, by (repeat (first | exact World.grows.refl _ | assumption | refine World.grows.alloc ?_ _ | refine World.grows.plus ?_ _ _ | refine World.grows.drew ?_))⟩

set_option maxHeartbeats 1000000 in
theorem list42 (w : World) (s n : Nat) (hs : s < 2 ^ n) (hn : n ≤ 20) :
    Calls Try.prog 42 #[.int .i64 s] w fun e w' => ∃ lv, e = .returned lv ∧ ListAt w' lv (bitsL n s) ∧ w.grows w' := by
  have hs62 : s < 2 ^ 62 := Nat.lt_of_lt_of_le hs (Nat.pow_le_pow_right (by omega) (by omega))
  go_enter Try.func42, Try.ntmps42
  go_wp2
  go_loopw [3, 4] (fun l i wr => ∃ k : Nat, k ≤ n ∧ i = .int .i64 k ∧ wr.ownsRow w.heap.size 3 1 l (bitsL k s).length (ilist (bitsL k s)) ∧ w.grows wr) (fun _ i _ => n - (intOf i).toNat)
  case atStart => exact ⟨0, by omega, rfl, World.ownsRow_nil _ _ _ _, by (repeat (first | exact World.grows.refl _ | assumption | refine World.grows.alloc ?_ _ | refine World.grows.plus ?_ _ _ | refine World.grows.drew ?_))⟩
  case round =>
    obtain ⟨k, hk, rfl, hown, hg⟩ := hrel
    have Hown := Lib.hid hown
    have Hg := Lib.hid hg
    have hsz := hg.size
    have Hsz := Lib.hid hsz
    have hll := bitsL_length_le k s
    have hsuc := Lib.hid (bitsL_succ k s)
    clear hown hg hsz
    by_cases hp : 2 ^ k ≤ s
    · have hkn : k < n := by
        rcases Nat.lt_or_ge k n with h | h
        · exact h
        · exact absurd hs (Nat.not_lt.2 (Nat.le_trans (Nat.pow_le_pow_right (by omega) h) hp))
      have hsh := shr_pos hp
      cases hb : s.testBit k with
      | true =>
        rw [if_pos hb] at hsuc
        have hb1 := bit_on hs62 hb
        clear hp hs
        go_wp2_with (at_builtin; go_loud (refine wpList_append_r _ rfl _ _ _ (by rfl) w.heap.size 3 (.int .i64 0) 1 8 Try.underlying29 el3 (by rfl) (by omega) _ (bitsL k s).length _ (by rfl) (Hown.out.grow (by (repeat (first | exact World.grows.refl _ | assumption | refine World.grows.alloc ?_ _ | refine World.grows.plus ?_ _ _ | refine World.grows.drew ?_)))) _ (by rfl) 1 _ (SliceAt.src (by omega) (one_slice _ _ _ _ (by simp))) (one_cell _) (by unfold maxLen; omega) (by omega) (by have := Hsz.out; simp; omega) ?_; intro v' w3 hown3 hgb; have hg3 := World.grownBy.grows hgb (Hown.out.grow (by (repeat (first | exact World.grows.refl _ | assumption | refine World.grows.alloc ?_ _ | refine World.grows.plus ?_ _ _ | refine World.grows.drew ?_)))) (W0 := w) (by have := Hg.out; (repeat (first | exact World.grows.refl _ | assumption | refine World.grows.alloc ?_ _ | refine World.grows.plus ?_ _ _ | refine World.grows.drew ?_))) (by omega); have Hown3 : Hid (w3.ownsRow w.heap.size 3 1 v' ((bitsL k s).length + 1) (ilist (bitsL k s ++ [k]))) := Lib.hid (by rw [ilist_snoc]; exact hown3); have Hg3 := Lib.hid hg3; clear hown3 hgb hg3))
        go_roundw
        case rel => exact ⟨k + 1, by omega, by go_num, by rw [hsuc.out]; simpa using Hown3.out, Hg3.out⟩
        case measure => simp [intOf]; omega
      | false =>
        rw [if_neg (by rw [hb]; decide)] at hsuc
        have hb1 := bit_off hs62 hb
        clear hp hs
        go_wp2
        go_roundw
        case rel => exact ⟨k + 1, by omega, by go_num, by rw [hsuc.out]; exact Hown.out.grow (by (repeat (first | exact World.grows.refl _ | assumption | refine World.grows.alloc ?_ _ | refine World.grows.plus ?_ _ _ | refine World.grows.drew ?_))), by have := Hg.out; (repeat (first | exact World.grows.refl _ | assumption | refine World.grows.alloc ?_ _ | refine World.grows.plus ?_ _ _ | refine World.grows.drew ?_))⟩
        case measure => simp [intOf]; omega
    · have hz := shr_zero (s := s) (k := k) (by omega)
      have hbl := Lib.hid (bitsL_of_le (n := k) (m := n) (s := s) (by omega) hk)
      clear hp hs
      go_wp2
      (refine bodyPost_ret (v := u3) (by simp [results, Try.results42, go_sem]) rfl ?_)
      exact ⟨_, rfl, by rw [hbl.out]; exact (Hown.out.grow (by (repeat (first | exact World.grows.refl _ | assumption | refine World.grows.alloc ?_ _ | refine World.grows.plus ?_ _ _ | refine World.grows.drew ?_)))).listAt rfl, by have := Hg.out; (repeat (first | exact World.grows.refl _ | assumption | refine World.grows.alloc ?_ _ | refine World.grows.plus ?_ _ _ | refine World.grows.drew ?_))⟩

/-- lists that agree so far -/
theorem lexB_at : ∀ {L M : List Nat} {k : Nat}, (∀ j, j < k → L.getD j 0 = M.getD j 0) → k < L.length → k < M.length → L.getD k 0 ≠ M.getD k 0 → lexB L M = decide (L.getD k 0 < M.getD k 0)
  | [], _, _, _, h, _, _ => absurd h (by simp)
  | _ :: _, [], _, _, _, h, _ => absurd h (by simp)
  | a :: L, b :: M, 0, _, _, _, hne => by
    simp only [List.getD_cons_zero] at hne ⊢
    rw [lexB, if_neg hne]
  | a :: L, b :: M, k + 1, h, h1, h2, hne => by
    have h0 := h 0 (by omega)
    simp only [List.getD_cons_zero] at h0
    simp only [List.getD_cons_succ] at hne ⊢
    rw [lexB, if_pos h0]
    exact lexB_at (fun j hj => by have := h (j + 1) (by omega); simpa using this) (by simpa using h1) (by simpa using h2) hne
theorem lexB_end : ∀ {L M : List Nat}, (∀ j, j < L.length → j < M.length → L.getD j 0 = M.getD j 0) → lexB L M = decide (L.length < M.length)
  | [], [], _ => rfl
  | [], _ :: _, _ => by simp [lexB]
  | _ :: _, [], _ => by simp [lexB]
  | a :: L, b :: M, h => by
    have h0 := h 0 (by simp) (by simp)
    simp only [List.getD_cons_zero] at h0
    rw [lexB, if_pos h0, lexB_end fun j h1 h2 => by have := h (j + 1) (by simpa using h1) (by simpa using h2); simpa using this]
    simp

set_option maxHeartbeats 1000000 in
theorem first43 (w : World) (av bv : Value) (L M : List Nat) (ha : ListAt w av L) (hb : ListAt w bv M) :
    Calls Try.prog 43 #[av, bv] w fun e w' => e = .returned (.bool (lexB L M)) ∧ w.grows w' := by
  obtain ⟨aa, ac, rfl, a1, a2, ha⟩ := ha
  obtain ⟨ba, bc, rfl, b1, b2, hb⟩ := hb
  unfold maxLen at a2 b2
  go_enter Try.func43, Try.ntmps43
  go_wp2
  go_loopw [5] (fun i wr => ∃ k : Nat, k ≤ L.length ∧ k ≤ M.length ∧ i = .int .i64 k ∧ Hid (∀ j, j < k → L.getD j 0 = M.getD j 0) ∧ w.grows wr) (fun i _ => L.length - (intOf i).toNat)
  case atStart => exact ⟨0, by omega, by omega, rfl, Lib.hid fun j hj => by omega, by (repeat (first | exact World.grows.refl _ | assumption | refine World.grows.alloc ?_ _ | refine World.grows.plus ?_ _ _ | refine World.grows.drew ?_))⟩
  case round =>
    obtain ⟨k, hk, hk2, rfl, hl, hg⟩ := hrel
    obtain ⟨n1, x1, rfl⟩ := World.plus_of hg
    by_cases hlt : k < L.length
    · by_cases hlt2 : k < M.length
      · obtain ⟨b, o, rfl, h0⟩ := ha k 0 hlt (by omega)
        obtain ⟨b', o', rfl, h1⟩ := hb k 0 hlt2 (by omega)
        simp only [Nat.mul_one, Nat.add_zero] at h0 h1
        have hx := fun h => lexB_at hl.out hlt hlt2 h
        obtain ⟨x, hxe⟩ : ∃ x, L.getD k 0 = x := ⟨_, rfl⟩
        obtain ⟨y, hye⟩ : ∃ y, M.getD k 0 = y := ⟨_, rfl⟩
        rw [hxe] at h0 hx
        rw [hye] at h1 hx
        by_cases he : x = y
        · subst he
          have hnx := Lib.hid (upto_succ hl.out (hxe.trans hye.symm))
          clear hxe hye hx
          go_wp2
          (refine wp_region_calm (by kernel_rfl) (by kernel_rfl) ?_; (repeat (refine wpCalm_step (fun K hK => ?_); go_simp; first | (refine hK _ ?_; clear hK K) | (apply Exists.intro; refine ⟨fun n' x' => ?_, hK _ ?_⟩; (fail); clear hK K))); refine wpCalm_nil ?_; intro nq xq)
          go_wp2
          go_roundw
          case rel => exact ⟨k + 1, by omega, by omega, by go_num, hnx, by (repeat (first | exact World.grows.refl _ | assumption | refine World.grows.alloc ?_ _ | refine World.grows.plus ?_ _ _ | refine World.grows.drew ?_))⟩
          case measure => simp [intOf]; omega
        · have hx' := Lib.hid (hx he)
          have hneb : ((x : Int) == (y : Int)) = false := beq_eq_false_iff_ne.2 (by omega)
          have hne : ¬ ((x : Int) = (y : Int)) := by omega
          clear hxe hye hx he
          go_wp2
          (refine wp_region_calm (by kernel_rfl) (by kernel_rfl) ?_; (repeat (refine wpCalm_step (fun K hK => ?_); go_simp; first | (refine hK _ ?_; clear hK K) | (apply Exists.intro; refine ⟨fun n' x' => ?_, hK _ ?_⟩; (fail); clear hK K))); refine wpCalm_nil ?_; intro nq xq)
          go_wp2
          (refine wp_region_calm (by kernel_rfl) (by kernel_rfl) ?_; (repeat (refine wpCalm_step (fun K hK => ?_); go_simp; first | (refine hK _ ?_; clear hK K) | (apply Exists.intro; refine ⟨fun n' x' => ?_, hK _ ?_⟩; (fail); clear hK K))); refine wpCalm_nil ?_; intro nq xq)
          go_wp2
          (refine bodyPost_ret (v := .bool (decide ((x : Int) < (y : Int)))) (by simp [results, Try.results43, go_sem]) rfl ?_)
          exact ⟨by rw [hx'.out]; simp, by (repeat (first | exact World.grows.refl _ | assumption | refine World.grows.alloc ?_ _ | refine World.grows.plus ?_ _ _ | refine World.grows.drew ?_))⟩
      · have hx := Lib.hid (lexB_end (L := L) (M := M) fun j _ h2 => hl.out j (by omega))
        go_wp2
        (refine bodyPost_ret (v := .bool (decide ((L.length : Int) < (M.length : Int)))) (by simp [results, Try.results43, go_sem]) rfl ?_)
        exact ⟨by rw [hx.out]; simp, by (repeat (first | exact World.grows.refl _ | assumption | refine World.grows.alloc ?_ _ | refine World.grows.plus ?_ _ _ | refine World.grows.drew ?_))⟩
    · have hx := Lib.hid (lexB_end (L := L) (M := M) fun j h1 _ => hl.out j (by omega))
      go_wp2
      (refine bodyPost_ret (v := .bool (decide ((L.length : Int) < (M.length : Int)))) (by simp [results, Try.results43, go_sem]) rfl ?_)
      exact ⟨by rw [hx.out]; simp, by (repeat (first | exact World.grows.refl _ | assumption | refine World.grows.alloc ?_ _ | refine World.grows.plus ?_ _ _ | refine World.grows.drew ?_))⟩
end Go.Proofs.Ytdminglglapnlaa

/-
  What is proved: whether features tell the marks (80), CheckFixed (31), in the reference.
-/
namespace Go.Proofs.Ytdminglglapnlaa
open Go.RowKit
attribute [local irreducible] Go.wpCalm

def Reg.partT (r : Reg) (L : List Nat) (a b i : Nat) : Bool := decide (r.who a = r.who b) || (L.take i).any fun f => decide (r.val a f ≠ r.val b f)
theorem Reg.partT_succ (r : Reg) (L : List Nat) (a b : Nat) {i : Nat} (h : i < L.length) : r.partT L a b (i + 1) = (r.partT L a b i || decide (r.val a (L.getD i 0) ≠ r.val b (L.getD i 0))) := by
  unfold Reg.partT
  rw [take_snoc L h, List.any_append]
  simp [Bool.or_assoc]
theorem Reg.partT_len (r : Reg) (L : List Nat) (a b : Nat) : r.partT L a b L.length = r.partB L a b := by
  unfold Reg.partT Reg.partB
  rw [List.take_length]
theorem Reg.tell_no {r : Reg} {L : List Nat} {a b : Nat} (ha : a < r.nm) (hb : b < a) (h : r.partB L a b = false) : r.tellB L = false := by
  cases ht : r.tellB L with
  | false => rfl
  | true =>
    unfold Reg.tellB at ht
    simp only [List.all_eq_true, List.mem_range] at ht
    rw [ht a ha b hb] at h; cases h
theorem Reg.tell_yes {r : Reg} {L : List Nat} (h : ∀ a, a < r.nm → ∀ b, b < a → r.partB L a b = true) : r.tellB L = true := by
  unfold Reg.tellB
  simp only [List.all_eq_true, List.mem_range]
  exact h

set_option maxHeartbeats 2000000 in
theorem tell80 (w : World) (v : Value) (r : Reg) (hv : RegOk w v r) (lv : Value) (L : List Nat) (hL : ListAt w lv L) (hl : ∀ f ∈ L, f < r.nc) :
    Calls Try.prog 80 #[v, lv] w fun e w' => e = .returned (.bool (r.tellB L)) ∧ w.grows w' := by
  obtain ⟨mb, mo, mc, cb, co, cc, rb, ro, rc, rfl, hm1, hm2, hc1, hc2, hR⟩ := hv
  obtain ⟨la, lc, rfl, l1, l2, hL⟩ := hL
  have HR := Lib.hid hR
  have HL := Lib.hid hL
  have Hl := Lib.hid hl
  unfold maxLen at hm2 hc2 l2
  clear hR hL hl
  go_enter Try.func80, Try.ntmps80
  go_wp2
  go_loopw [5] (fun i wr => ∃ a : Nat, a ≤ r.nm ∧ i = .int .i64 a ∧ Hid (∀ x, x < a → ∀ y, y < x → r.partB L x y = true) ∧ (w.alloc (.cells #[.slice (some ⟨mb, mo, none⟩) r.nm mc, .slice (some ⟨cb, co, none⟩) r.nc cc] 25)).grows wr) (fun i _ => r.nm - (intOf i).toNat)
  case atStart => exact ⟨0, by omega, rfl, Lib.hid fun j hj => by omega, by (repeat (first | exact World.grows.refl _ | assumption | refine World.grows.alloc ?_ _ | refine World.grows.plus ?_ _ _ | refine World.grows.drew ?_))⟩
  case round =>
    obtain ⟨a, ha, rfl, hl, hg⟩ := hrel
    obtain ⟨n1, x1, rfl⟩ := World.plus_of hg
    by_cases hlt : a < r.nm
    · have h1 := HR.out.who a hlt
      have k1 := HR.out.row a hlt
      obtain ⟨ac1, ac2⟩ := HR.out.cap a hlt
      unfold maxLen at ac2
      go_wp2
      go_loopw [6] (fun i wr => ∃ b : Nat, b ≤ a ∧ i = .int .i64 b ∧ Hid (∀ y, y < b → r.partB L a y = true) ∧ (w.alloc (.cells #[.slice (some ⟨mb, mo, none⟩) r.nm mc, .slice (some ⟨cb, co, none⟩) r.nc cc] 25)).grows wr) (fun i _ => a - (intOf i).toNat)
      case atStart => exact ⟨0, by omega, rfl, Lib.hid fun j hj => by omega, by (repeat (first | exact World.grows.refl _ | assumption | refine World.grows.alloc ?_ _ | refine World.grows.plus ?_ _ _ | refine World.grows.drew ?_))⟩
      case round =>
        obtain ⟨b, hb, rfl, hl2, hg2⟩ := hrel
        obtain ⟨n2, x2, rfl⟩ := World.plus_of hg2
        by_cases hlt2 : b < a
        · have hbm : b < r.nm := by omega
          have h2 := HR.out.who b hbm
          have k2 := HR.out.row b hbm
          obtain ⟨bc1, bc2⟩ := HR.out.cap b hbm
          unfold maxLen at bc2
          go_wp2
          (refine wp_region_calm (by kernel_rfl) (by kernel_rfl) ?_; (repeat (refine wpCalm_step (fun K hK => ?_); go_simp; first | (refine hK _ ?_; clear hK K) | (apply Exists.intro; refine ⟨fun n' x' => ?_, hK _ ?_⟩; (fail); clear hK K))); refine wpCalm_nil ?_; intro nq xq)
          go_wp2
          clear h1 h2
          go_loopw [7, 8] (fun p i wr => ∃ (k : Nat) (q : Bool), k ≤ L.length ∧ i = .int .i64 k ∧ p = .bool q ∧ Hid (q = r.partT L a b k) ∧ (w.alloc (.cells #[.slice (some ⟨mb, mo, none⟩) r.nm mc, .slice (some ⟨cb, co, none⟩) r.nc cc] 25)).grows wr) (fun _ i _ => L.length - (intOf i).toNat)
          case atStart => exact ⟨0, _, by omega, rfl, rfl, Lib.hid (by simp [Reg.partT]; rfl), by (repeat (first | exact World.grows.refl _ | assumption | refine World.grows.alloc ?_ _ | refine World.grows.plus ?_ _ _ | refine World.grows.drew ?_))⟩
          case round =>
            obtain ⟨k, q, hk, rfl, rfl, hq, hg3⟩ := hrel
            obtain ⟨n3, x3, rfl⟩ := World.plus_of hg3
            by_cases hlt3 : k < L.length
            · have hsu := Lib.hid (r.partT_succ L a b hlt3)
              rw [← hq.out] at hsu
              cases q with
              | true =>
                go_wp2
                (refine wp_region_calm (by kernel_rfl) (by kernel_rfl) ?_; (repeat (refine wpCalm_step (fun K hK => ?_); go_simp; first | (refine hK _ ?_; clear hK K) | (apply Exists.intro; refine ⟨fun n' x' => ?_, hK _ ?_⟩; (fail); clear hK K))); refine wpCalm_nil ?_; intro nq xq)
                go_wp2
                go_roundw
                case rel => exact ⟨k + 1, true, by omega, by go_num, rfl, Lib.hid (by rw [hsu.out]; rfl), by (repeat (first | exact World.grows.refl _ | assumption | refine World.grows.alloc ?_ _ | refine World.grows.plus ?_ _ _ | refine World.grows.drew ?_))⟩
                case measure => simp [intOf]; omega
              | false =>
                obtain ⟨b5, o5, rfl, h0⟩ := HL.out k 0 hlt3 (by omega)
                simp only [Nat.mul_one, Nat.add_zero] at h0
                have hfn := Hl.out _ (getD_mem hlt3)
                obtain ⟨f, hf⟩ : ∃ f, L.getD k 0 = f := ⟨_, rfl⟩
                rw [hf] at h0 hfn hsu
                have h3 := HR.out.val a f hlt hfn
                have h4 := HR.out.val b f hbm hfn
                clear hf
                by_cases he : r.val a f = r.val b f
                · have hsu2 : Hid (r.partT L a b (k + 1) = false) := Lib.hid (by rw [hsu.out]; simp [he])
                  rw [he] at h3
                  clear he hsu
                  go_wp2
                  (refine wp_region_calm (by kernel_rfl) (by kernel_rfl) ?_; (repeat (refine wpCalm_step (fun K hK => ?_); go_simp; first | (refine hK _ ?_; clear hK K) | (apply Exists.intro; refine ⟨fun n' x' => ?_, hK _ ?_⟩; (fail); clear hK K))); refine wpCalm_nil ?_; intro nq xq)
                  go_wp2
                  go_roundw
                  case rel => exact ⟨k + 1, false, by omega, by go_num, rfl, Lib.hid hsu2.out.symm, by (repeat (first | exact World.grows.refl _ | assumption | refine World.grows.alloc ?_ _ | refine World.grows.plus ?_ _ _ | refine World.grows.drew ?_))⟩
                  case measure => simp [intOf]; omega
                · have hsu2 : Hid (r.partT L a b (k + 1) = true) := Lib.hid (by rw [hsu.out]; simp [he])
                  have hwb : (r.val a f == r.val b f) = false := beq_eq_false_iff_ne.2 he
                  clear hsu
                  go_wp2
                  (refine wp_region_calm (by kernel_rfl) (by kernel_rfl) ?_; (repeat (refine wpCalm_step (fun K hK => ?_); go_simp; first | (refine hK _ ?_; clear hK K) | (apply Exists.intro; refine ⟨fun n' x' => ?_, hK _ ?_⟩; (fail); clear hK K))); refine wpCalm_nil ?_; intro nq xq)
                  go_wp2
                  go_roundw
                  case rel => exact ⟨k + 1, true, by omega, by go_num, by simp [he], Lib.hid hsu2.out.symm, by (repeat (first | exact World.grows.refl _ | assumption | refine World.grows.alloc ?_ _ | refine World.grows.plus ?_ _ _ | refine World.grows.drew ?_))⟩
                  case measure => simp [intOf]; omega
            · have hke : k = L.length := by omega
              have hq2 := hq.out
              rw [hke, r.partT_len] at hq2
              subst hke
              cases q with
              | true =>
                have hnx := Lib.hid (upto_succ hl2.out hq2.symm)
                clear hq2
                go_wp2
                go_roundw
                case rel => exact ⟨b + 1, by omega, by go_num, hnx, by (repeat (first | exact World.grows.refl _ | assumption | refine World.grows.alloc ?_ _ | refine World.grows.plus ?_ _ _ | refine World.grows.drew ?_))⟩
                case measure => simp [intOf]; omega
              | false =>
                have hnt := Lib.hid (Reg.tell_no hlt hlt2 hq2.symm)
                clear hq2
                go_wp2
                (refine bodyPost_ret (v := .bool false) (by simp [results, Try.results80, go_sem]) rfl ?_)
                exact ⟨by rw [hnt.out], by (repeat (first | exact World.grows.refl _ | assumption | refine World.grows.alloc ?_ _ | refine World.grows.plus ?_ _ _ | refine World.grows.drew ?_))⟩
        · have hbe : b = a := by omega
          subst hbe
          go_wp2
          go_roundw
          case rel => exact ⟨b + 1, by omega, by go_num, Lib.hid (upto_succ hl.out hl2.out), by (repeat (first | exact World.grows.refl _ | assumption | refine World.grows.alloc ?_ _ | refine World.grows.plus ?_ _ _ | refine World.grows.drew ?_))⟩
          case measure => simp [intOf]; omega
    · have hae : a = r.nm := by omega
      have hmx := Lib.hid (Reg.tell_yes (L := L) (r := r) (by rw [← hae]; exact hl.out))
      subst hae
      go_wp2
      (refine bodyPost_ret (v := .bool true) (by simp [results, Try.results80, go_sem]) rfl ?_)
      exact ⟨by rw [hmx.out], by (repeat (first | exact World.grows.refl _ | assumption | refine World.grows.alloc ?_ _ | refine World.grows.plus ?_ _ _ | refine World.grows.drew ?_))⟩

theorem Rise.listAt {w : World} {v : Value} {n top : Nat} {f : Nat → Int} (h : IntsAt w v n f) (hf : Rise f n top) : ListAt w v ((List.range n).map fun i => (f i).toNat) := by
  unfold ListAt
  rw [show ((List.range n).map fun i => (f i).toNat).length = n by simp]
  refine SliceAt.congr h fun i j hi _ => ?_
  have := hf.lo i hi
  simp [hi]
  omega
theorem Rise.list_lt {n top : Nat} {f : Nat → Int} (hf : Rise f n top) : ∀ x ∈ (List.range n).map (fun i => (f i).toNat), x < top := fun x hx => by
  simp only [List.mem_map, List.mem_range] at hx
  obtain ⟨i, hi, rfl⟩ := hx
  have := hf.lo i hi
  have := hf.hi i hi
  omega

set_option maxHeartbeats 1000000 in
theorem rfixed_c (w : World) (v : Value) (r : Reg) (hv : RegAt w v r) (lv : Value) (n : Nat) (f : Nat → Int) (hl : IntsAt w lv n f) :
    Calls Try.prog 31 #[v, lv] w fun e w' => e = .returned (.tuple #[.int .i64 (r.fixA n f), .int .i64 (r.fixE n f)]) ∧ w.grows w' := by
  have Hv := Lib.hid hv
  obtain ⟨mv, cv, row, rfl, hmv, ⟨ca, cc0, rfl, -⟩, -⟩ := hv
  have h22 := fun W h => rcheck_c W (.agg #[mv, .slice ca r.nc cc0]) r h
  have h72 := fun W h => isList_c W lv n f r.nc h
  have Hl := Lib.hid hl
  clear hl hmv
  go_enter Try.func31, Try.ntmps31
  by_cases hc : r.check = 0
  · have Hok := Lib.hid (Hv.out.ok (Reg.ok_of hc))
    have Hr := Lib.hid (Reg.ok_of hc)
    have Hc := Lib.hid hc
    rw [hc] at h22
    have hA : r.fixE n f = (if (List.range n).any (riseB f r.nc) = true then 3 else if r.tellB ((List.range n).map fun i => (f i).toNat) = true then 0 else 24) := by unfold Reg.fixE; rw [if_pos hc]
    cases hri : (List.range n).any (riseB f r.nc) with
    | true =>
      rw [hri] at hA h72
      have HE : Hid (r.fixE n f = 3) := Lib.hid hA
      have HA : Hid (r.fixA n f = 0) := Lib.hid (by unfold Reg.fixA; rw [hA]; rfl)
      clear hc hA hri
      go_wp2_with (first
        | (go_at_call 22; refine (h22 _ (Hv.out.mono (by (repeat (first | exact World.grows.refl _ | assumption | refine World.grows.alloc ?_ _ | refine World.grows.plus ?_ _ _ | refine World.grows.drew ?_))))).mono ?_; rintro e w' ⟨rfl, hg⟩; obtain ⟨n2, x2, rfl⟩ := World.plus_of hg)
        | (go_at_call 72; refine (h72 _ (Hl.out.mono (by (repeat (first | exact World.grows.refl _ | assumption | refine World.grows.alloc ?_ _ | refine World.grows.plus ?_ _ _ | refine World.grows.drew ?_))))).mono ?_; rintro e w' ⟨rfl, hg⟩; obtain ⟨n3, x3, rfl⟩ := World.plus_of hg))
      (refine bodyPost_ret (v := .tuple #[.int .i64 0, .int .i64 3]) (by simp [results, Try.results31, go_sem]) rfl ?_)
      exact ⟨by rw [HE.out, HA.out], by (repeat (first | exact World.grows.refl _ | assumption | refine World.grows.alloc ?_ _ | refine World.grows.plus ?_ _ _ | refine World.grows.drew ?_))⟩
    | false =>
      rw [hri] at hA h72
      have Hri := Lib.hid ((rise_iff f n r.nc).1 hri)
      have hLL := Lib.hid (Hri.out.listAt Hl.out)
      have hLt := Lib.hid Hri.out.list_lt
      have hlen : ((List.range n).map fun i => (f i).toNat).length ≤ 1000 := by simp; have := Hri.out.len; have := Hr.out.c8; omega
      have hP : Hid (∀ x, x = 0 → r.fixE n f = x → r.fixA n f = r.price ((List.range n).map fun i => (f i).toNat)) := Lib.hid fun x h1 h2 => by unfold Reg.fixA; rw [if_pos (h2.trans h1)]
      have hP0 : Hid (∀ x, x ≠ 0 → r.fixE n f = x → r.fixA n f = 0) := Lib.hid fun x h1 h2 => by unfold Reg.fixA; rw [if_neg (by rw [h2]; exact h1)]
      obtain ⟨L, hL⟩ : ∃ L, ((List.range n).map fun i => (f i).toNat) = L := ⟨_, rfl⟩
      rw [hL] at hLL hLt hlen hA hP
      have h80 := fun W h1 h2 => tell80 W (.agg #[mv, .slice ca r.nc cc0]) r h1 lv L h2 hLt.out
      clear hL hri hc
      cases ht : r.tellB L with
      | false =>
        rw [ht] at hA h80
        have HE : Hid (r.fixE n f = 24) := Lib.hid hA
        have HA : Hid (r.fixA n f = 0) := Lib.hid (hP0.out 24 (by decide) hA)
        clear hA ht hP
        go_wp2_with (first
          | (go_at_call 22; refine (h22 _ (Hv.out.mono (by (repeat (first | exact World.grows.refl _ | assumption | refine World.grows.alloc ?_ _ | refine World.grows.plus ?_ _ _ | refine World.grows.drew ?_))))).mono ?_; rintro e w' ⟨rfl, hg⟩; obtain ⟨n2, x2, rfl⟩ := World.plus_of hg)
          | (go_at_call 72; refine (h72 _ (Hl.out.mono (by (repeat (first | exact World.grows.refl _ | assumption | refine World.grows.alloc ?_ _ | refine World.grows.plus ?_ _ _ | refine World.grows.drew ?_))))).mono ?_; rintro e w' ⟨rfl, hg⟩; obtain ⟨n3, x3, rfl⟩ := World.plus_of hg)
          | (go_at_call 80; refine (h80 _ (Hok.out.mono (by (repeat (first | exact World.grows.refl _ | assumption | refine World.grows.alloc ?_ _ | refine World.grows.plus ?_ _ _ | refine World.grows.drew ?_)))) (hLL.out.mono (by (repeat (first | exact World.grows.refl _ | assumption | refine World.grows.alloc ?_ _ | refine World.grows.plus ?_ _ _ | refine World.grows.drew ?_))))).mono ?_; rintro e w' ⟨rfl, hg⟩; obtain ⟨n4, x4, rfl⟩ := World.plus_of hg))
        (refine bodyPost_ret (v := .tuple #[.int .i64 0, .int .i64 24]) (by simp [results, Try.results31, go_sem]) rfl ?_)
        exact ⟨by rw [HE.out, HA.out], by (repeat (first | exact World.grows.refl _ | assumption | refine World.grows.alloc ?_ _ | refine World.grows.plus ?_ _ _ | refine World.grows.drew ?_))⟩
      | true =>
        rw [ht] at hA h80
        have HE : Hid (r.fixE n f = 0) := Lib.hid hA
        have HA : Hid (r.fixA n f = costSum r.cost L) := Lib.hid (by rw [hP.out 0 rfl hA, r.price_eq])
        obtain ⟨mb, mo, mc, cb, co, cc, rb, ro, rc, he, hm1, hm2, hc1, hc2, hR⟩ := Hok.out
        simp only [Value.agg.injEq, Array.mk.injEq, List.cons.injEq, and_true, Value.slice.injEq, true_and] at he
        obtain ⟨rfl, rfl, rfl⟩ := he
        have HR := Lib.hid hR
        have h56 := fun W h1 h2 => rcost_c W (.slice (some ⟨mb, mo, none⟩) r.nm mc) r cb co cc0 ⟨hc1, hc2⟩ Hr.out.cost h1 lv L h2 hLt.out hlen
        clear hA ht hP hR
        go_wp2_with (first
          | (go_at_call 22; refine (h22 _ (Hv.out.mono (by (repeat (first | exact World.grows.refl _ | assumption | refine World.grows.alloc ?_ _ | refine World.grows.plus ?_ _ _ | refine World.grows.drew ?_))))).mono ?_; rintro e w' ⟨rfl, hg⟩; obtain ⟨n2, x2, rfl⟩ := World.plus_of hg)
          | (go_at_call 72; refine (h72 _ (Hl.out.mono (by (repeat (first | exact World.grows.refl _ | assumption | refine World.grows.alloc ?_ _ | refine World.grows.plus ?_ _ _ | refine World.grows.drew ?_))))).mono ?_; rintro e w' ⟨rfl, hg⟩; obtain ⟨n3, x3, rfl⟩ := World.plus_of hg)
          | (go_at_call 80; refine (h80 _ (Hok.out.mono (by (repeat (first | exact World.grows.refl _ | assumption | refine World.grows.alloc ?_ _ | refine World.grows.plus ?_ _ _ | refine World.grows.drew ?_)))) (hLL.out.mono (by (repeat (first | exact World.grows.refl _ | assumption | refine World.grows.alloc ?_ _ | refine World.grows.plus ?_ _ _ | refine World.grows.drew ?_))))).mono ?_; rintro e w' ⟨rfl, hg⟩; obtain ⟨n4, x4, rfl⟩ := World.plus_of hg)
          | (go_at_call 56; refine (h56 _ (fun f hf => World.grows.cell_of (by (repeat (first | exact World.grows.refl _ | assumption | refine World.grows.alloc ?_ _ | refine World.grows.plus ?_ _ _ | refine World.grows.drew ?_))) (HR.out.cost f hf)) (hLL.out.mono (by (repeat (first | exact World.grows.refl _ | assumption | refine World.grows.alloc ?_ _ | refine World.grows.plus ?_ _ _ | refine World.grows.drew ?_))))).mono ?_; rintro e w' ⟨rfl, hg⟩; obtain ⟨n5, x5, rfl⟩ := World.plus_of hg))
        (refine bodyPost_ret (v := .tuple #[.int .i64 (costSum r.cost L), .int .i64 0]) (by simp [results, Try.results31, go_sem]) rfl ?_)
        exact ⟨by rw [HE.out, HA.out], by (repeat (first | exact World.grows.refl _ | assumption | refine World.grows.alloc ?_ _ | refine World.grows.plus ?_ _ _ | refine World.grows.drew ?_))⟩
  · have HE : Hid (r.fixE n f = r.check) := Lib.hid (by unfold Reg.fixE; rw [if_neg hc])
    have HA : Hid (r.fixA n f = 0) := Lib.hid (by unfold Reg.fixA; rw [if_neg (by rw [HE.out]; exact hc)])
    go_wp2_with (go_at_call 22; refine (h22 _ (Hv.out.mono (by (repeat (first | exact World.grows.refl _ | assumption | refine World.grows.alloc ?_ _ | refine World.grows.plus ?_ _ _ | refine World.grows.drew ?_))))).mono ?_; rintro e w' ⟨rfl, hg⟩; obtain ⟨n2, x2, rfl⟩ := World.plus_of hg)
    (refine bodyPost_ret (v := .tuple #[.int .i64 0, .int .i64 r.check]) (by simp [results, Try.results31, go_sem]) rfl ?_)
    exact ⟨by rw [HE.out, HA.out], by (repeat (first | exact World.grows.refl _ | assumption | refine World.grows.alloc ?_ _ | refine World.grows.plus ?_ _ _ | refine World.grows.drew ?_))⟩
end Go.Proofs.Ytdminglglapnlaa

/-
  What is proved: the cheapest features (33), and those that nobody can do without (35), in the reference.
-/
namespace Go.Proofs.Ytdminglglapnlaa
open Go.RowKit
attribute [local irreducible] Go.wpCalm Go.wpChain

theorem Reg.solvE_bad {r : Reg} (h : r.check ≠ 0) : r.solvE = r.check := by unfold Reg.solvE; rw [if_neg h]
theorem Reg.solvE_none {r : Reg} (h : r.check = 0) (hn : r.NoTwins) : r.solvE = 0 := Reg.solvE_zero.2 ⟨h, hn⟩
theorem Reg.solvE_some {r : Reg} (h : r.check = 0) {i k : Nat} (hf : r.First i k) : r.solvE = 24 := by
  unfold Reg.solvE
  rw [if_pos h, if_neg]
  intro hn
  have := (r.noTwB_iff).1 hn i k hf.lt hf.nm
  rw [hf.is] at this; cases this
/-- the cheapest features, and what they cost; those that nobody can do without -/
def Reg.fixL (r : Reg) : List Nat := if r.solvE = 0 then bitsL 8 r.fix else []
def Reg.fixC (r : Reg) : Int := if r.solvE = 0 then r.price (bitsL 8 r.fix) else 0
def Reg.mustR (r : Reg) : List Nat := if r.solvE = 0 then r.mustL else []
theorem Reg.fix_no {r : Reg} (h : r.solvE ≠ 0) : r.fixL = [] ∧ r.fixC = 0 ∧ r.mustR = [] := by
  unfold Reg.fixL Reg.fixC Reg.mustR
  rw [if_neg h, if_neg h, if_neg h]
  exact ⟨rfl, rfl, rfl⟩
theorem ListAt.nil (w : World) : ListAt w (.slice none 0 0) [] := SliceAt.none
theorem bitsL_lt {n s i : Nat} (hs : s < 2 ^ n) (h : i ∈ bitsL 8 s) : i < n := by
  rcases Nat.lt_or_ge i n with h1 | h1
  · exact h1
  · have h2 : s < 2 ^ i := Nat.lt_of_lt_of_le hs (Nat.pow_le_pow_right (by omega) h1)
    have := (mem_bitsL.1 h).2
    rw [Nat.testBit_lt_two_pow h2] at this; cases this
theorem shl_one {k N : Nat} (hk : k ≤ 20) (h : 2 ^ k = N) : wrap64 ((2 : Int) ^ k) = ((N : Nat) : Int) := by
  rw [wrap_pow hk, two_pow_cast, h]
def bestC (r : Reg) : Option Nat → Int
  | none => 1099511627776
  | some b => r.price (bitsL 8 b)
def bestL : Option Nat → List Nat
  | none => []
  | some b => bitsL 8 b
theorem Reg.price_bd {r : Reg} (hr : r.Ok) {s : Nat} (hs : s < 2 ^ r.nc) : 0 ≤ r.price (bitsL 8 s) ∧ r.price (bitsL 8 s) ≤ 8000 := by
  have h := costSum_bd hr.cost (bitsL 8 s) fun f hf => bitsL_lt hs hf
  rw [r.price_eq]
  have := bitsL_length_le 8 s
  omega
theorem Reg.fixF_skip {r : Reg} {k : Nat} (h : r.tellB (bitsL 8 k) = false) : r.fixF (k + 1) = r.fixF k := by simp only [Reg.fixF]; rw [h]; rfl
theorem Reg.fixF_none {r : Reg} {k : Nat} (h : r.tellB (bitsL 8 k) = true) (h2 : r.fixF k = none) : r.fixF (k + 1) = some k := by simp only [Reg.fixF]; rw [h, h2]; rfl
theorem Reg.fixF_yes {r : Reg} {k b : Nat} (h : r.tellB (bitsL 8 k) = true) (h2 : r.fixF k = some b) (h3 : r.befB k b = true) : r.fixF (k + 1) = some k := by simp only [Reg.fixF]; rw [h, h2]; simp [h3]
theorem Reg.fixF_no {r : Reg} {k b : Nat} (h : r.tellB (bitsL 8 k) = true) (h2 : r.fixF k = some b) (h3 : r.befB k b = false) : r.fixF (k + 1) = some b := by simp only [Reg.fixF]; rw [h, h2]; simp [h3]

theorem rtwins_bad {w : World} {v : Value} {r : Reg} (hv : RegAt w v r) (h : r.check ≠ 0) :
    Calls Try.prog 16 #[v] w fun e w' => e = .returned (.tuple #[.int .i64 0, .int .i64 0, .int .i64 r.check]) ∧ w.grows w' :=
  (rtwins_c w v r hv).mono (by
    rintro e w' ⟨x, y, z, rfl, hT, hg⟩
    cases hT with
    | bad _ => exact ⟨rfl, hg⟩
    | none h0 _ => exact absurd h0 h
    | some _ _ h0 _ => exact absurd h0 h)
theorem rtwins_none {w : World} {v : Value} {r : Reg} (hv : RegAt w v r) (h : r.check = 0) (hn : r.NoTwins) :
    Calls Try.prog 16 #[v] w fun e w' => e = .returned (.tuple #[.int .i64 0, .int .i64 0, .int .i64 5]) ∧ w.grows w' :=
  (rtwins_c w v r hv).mono (by
    rintro e w' ⟨x, y, z, rfl, hT, hg⟩
    cases hT with
    | bad h0 => exact absurd h h0
    | none _ _ => exact ⟨rfl, hg⟩
    | some i k _ hf => have := hn i k hf.lt hf.nm; rw [hf.is] at this; cases this)
theorem rtwins_some {w : World} {v : Value} {r : Reg} (hv : RegAt w v r) (h : r.check = 0) (hn : ¬ r.NoTwins) :
    Calls Try.prog 16 #[v] w fun e w' => ∃ i k : Nat, e = .returned (.tuple #[.int .i64 i, .int .i64 k, .int .i64 0]) ∧ r.First i k ∧ w.grows w' :=
  (rtwins_c w v r hv).mono (by
    rintro e w' ⟨x, y, z, rfl, hT, hg⟩
    cases hT with
    | bad h0 => exact absurd h h0
    | none _ h0 => exact absurd h0 hn
    | some i k _ hf => exact ⟨i, k, rfl, hf, hg⟩)
theorem Reg.solvE_24 {r : Reg} (h : r.check = 0) (hn : ¬ r.NoTwins) : r.solvE = 24 := by
  unfold Reg.solvE
  rw [if_pos h, if_neg fun h2 => hn ((r.noTwB_iff).1 h2)]

set_option maxRecDepth 100000 in
set_option maxHeartbeats 8000000 in
theorem rfix_c (w : World) (v : Value) (r : Reg) (hv : RegAt w v r) :
    Calls Try.prog 33 #[v] w fun e w' => ∃ lv, e = .returned (.tuple #[lv, .int .i64 r.fixC, .int .i64 r.solvE]) ∧ ListAt w' lv r.fixL ∧ w.grows w' := by
  have Hv := Lib.hid hv
  obtain ⟨mv, cv, row0, rfl, -, -, -⟩ := hv
  go_enter Try.func33, Try.ntmps33
  by_cases hc : r.check ≠ 0
  · have hE := Lib.hid (Reg.solvE_bad hc)
    have hF := Lib.hid (Reg.fix_no (r := r) (by rw [hE.out]; exact hc))
    have hc0 : (r.check == 0) = false := beq_eq_false_iff_ne.2 hc
    have hc5 : ¬ r.check = 5 := by rcases r.check_mem with h | h | h | h <;> omega
    have hc5b : (r.check == 5) = false := beq_eq_false_iff_ne.2 hc5
    go_wp2_with (go_at_call 16; refine (rtwins_bad (Hv.out.mono (by (repeat (first | exact World.grows.refl _ | assumption | refine World.grows.alloc ?_ _ | refine World.grows.plus ?_ _ _ | refine World.grows.drew ?_)))) hc).mono ?_; rintro e w' ⟨rfl, hg⟩; obtain ⟨n2, x2, rfl⟩ := World.plus_of hg)
    (refine bodyPost_ret (v := .tuple #[.slice none 0 0, .int .i64 0, .int .i64 r.check]) (by simp [results, Try.results33, go_sem]) rfl ?_)
    exact ⟨_, by rw [hF.out.2.1, hE.out], by rw [hF.out.1]; exact ListAt.nil _, by (repeat (first | exact World.grows.refl _ | assumption | refine World.grows.alloc ?_ _ | refine World.grows.plus ?_ _ _ | refine World.grows.drew ?_))⟩
  replace hc : r.check = 0 := Classical.not_not.1 hc
  by_cases hn : ¬ r.NoTwins
  · have hE := Lib.hid (Reg.solvE_24 hc hn)
    have hF := Lib.hid (Reg.fix_no (r := r) (by rw [hE.out]; decide))
    have Hc := Lib.hid hc
    clear hc
    go_wp2_with (go_at_call 16; refine (rtwins_some (Hv.out.mono (by (repeat (first | exact World.grows.refl _ | assumption | refine World.grows.alloc ?_ _ | refine World.grows.plus ?_ _ _ | refine World.grows.drew ?_)))) Hc.out hn).mono ?_; rintro e w' ⟨i, k, rfl, -, hg⟩; obtain ⟨n2, x2, rfl⟩ := World.plus_of hg)
    (refine bodyPost_ret (v := .tuple #[.slice none 0 0, .int .i64 0, .int .i64 24]) (by simp [results, Try.results33, go_sem]) rfl ?_)
    exact ⟨_, by rw [hF.out.2.1, hE.out], by rw [hF.out.1]; exact ListAt.nil _, by (repeat (first | exact World.grows.refl _ | assumption | refine World.grows.alloc ?_ _ | refine World.grows.plus ?_ _ _ | refine World.grows.drew ?_))⟩
  · replace hn := Classical.not_not.1 hn
    have h16 := fun W h => rtwins_none (w := W) (v := .agg #[mv, cv]) (r := r) h hc hn
    have hE := Lib.hid (Reg.solvE_none hc hn)
    have hFL : Hid (r.fixL = bitsL 8 r.fix ∧ r.fixC = r.price (bitsL 8 r.fix)) := Lib.hid (by unfold Reg.fixL Reg.fixC; rw [if_pos hE.out, if_pos hE.out]; exact ⟨rfl, rfl⟩)
    have Hok := Lib.hid (Hv.out.ok (Reg.ok_of hc))
    have Hr := Lib.hid (Reg.ok_of hc)
    have hfs := Lib.hid (Reg.fixF_some Hr.out.c8 hn)
    obtain ⟨mb, mo, mc, cb, co, cc, rb, ro, rc, he, hm1, hm2, hc1, hc2, hR⟩ := Hok.out
    simp only [Value.agg.injEq, Array.mk.injEq, List.cons.injEq, and_true] at he
    obtain ⟨rfl, rfl⟩ := he
    have HR := Lib.hid hR
    have hc8 := Hr.out.c8
    unfold maxLen at hm2 hc2
    have h42 := fun W s hs => list42 W s 8 hs (by omega)
    have h56 := fun W h1 lv L h2 h3 h4 => rcost_c W (.slice (some ⟨mb, mo, none⟩) r.nm mc) r cb co cc ⟨hc1, hc2⟩ Hr.out.cost h1 lv L h2 h3 h4
    have h80 := fun W h1 lv L h2 h3 => tell80 W (.agg #[.slice (some ⟨mb, mo, none⟩) r.nm mc, .slice (some ⟨cb, co, none⟩) r.nc cc]) r h1 lv L h2 h3
    obtain ⟨N, hNN⟩ : ∃ N, 2 ^ r.nc = N := ⟨_, rfl⟩
    have hN256 : N ≤ 2 ^ 8 := by rw [← hNN]; exact Nat.pow_le_pow_right (by omega) hc8
    have hwz := shl_one (by omega) hNN
    have HNN := Lib.hid hNN
    have hNN' : N ≤ 256 := hN256
    clear hR hc hn hNN hN256
    go_wp2_with (go_at_call 16; refine (h16 _ (Hv.out.mono (by (repeat (first | exact World.grows.refl _ | assumption | refine World.grows.alloc ?_ _ | refine World.grows.plus ?_ _ _ | refine World.grows.drew ?_))))).mono ?_; rintro e w' ⟨rfl, hg⟩; obtain ⟨n2, x2, rfl⟩ := World.plus_of hg)
    clear h16 Hv
    go_loopw [8, 9, 10] (fun bv ls i wr => ∃ (k : Nat) (o : Option Nat), k ≤ N ∧ i = .int .i64 k ∧ Hid (r.fixF k = o) ∧ ls = .int .i64 (bestC r o) ∧ Hid (ListAt wr bv (bestL o)) ∧ ((w.alloc (.cells #[.slice (some ⟨mb, mo, none⟩) r.nm mc, .slice (some ⟨cb, co, none⟩) r.nc cc] 25))).grows wr) (fun _ _ i _ => N - (intOf i).toNat)
    case atStart => exact ⟨0, none, by omega, rfl, Lib.hid rfl, rfl, Lib.hid (ListAt.nil _), by (repeat (first | exact World.grows.refl _ | assumption | refine World.grows.alloc ?_ _ | refine World.grows.plus ?_ _ _ | refine World.grows.drew ?_))⟩
    case round =>
      obtain ⟨k, o, hk, rfl, ho, rfl, hbl, hg⟩ := hrel
      obtain ⟨n1, x1, rfl⟩ := World.plus_of hg
      by_cases hlt : k < N
      · have hkN : Hid (k < 2 ^ r.nc) := Lib.hid (by rw [HNN.out]; exact hlt)
        have hP := Lib.hid (Reg.price_bd Hr.out hkN.out)
        have hP1 := hP.out.1
        have hP2 := hP.out.2
        have hPe := r.price_eq (bitsL 8 k)
        have hlt8 := Lib.hid fun f (hf : f ∈ bitsL 8 k) => bitsL_lt hkN.out hf
        have hlen : (bitsL 8 k).length ≤ 1000 := by have := bitsL_length_le 8 k; omega
        have h4 := fun W => h42 W k (by omega)
        have h5 := fun W h1 lv h2 => h56 W h1 lv (bitsL 8 k) h2 hlt8.out hlen
        have h8 := fun W h1 lv h2 => h80 W h1 lv (bitsL 8 k) h2 hlt8.out
        have hskip := fun h => Lib.hid ((Reg.fixF_skip (r := r) (k := k) h).trans ho.out)
        have hyes0 := fun h h2 => Lib.hid (Reg.fixF_none (r := r) (k := k) h (ho.out.trans h2))
        have hyes := fun b h h2 h3 => Lib.hid (Reg.fixF_yes (r := r) (k := k) (b := b) h (ho.out.trans h2) h3)
        have hno := fun b h h2 h3 => Lib.hid (Reg.fixF_no (r := r) (k := k) (b := b) h (ho.out.trans h2) h3)
        have hbef : ∀ b, r.befB k b = if r.price (bitsL 8 k) = r.price (bitsL 8 b) then lexB (bitsL 8 k) (bitsL 8 b) else decide (r.price (bitsL 8 k) < r.price (bitsL 8 b)) := fun b => rfl
        rw [← hPe] at h5
        obtain ⟨P, hPP⟩ : ∃ P, r.price (bitsL 8 k) = P := ⟨_, rfl⟩
        rw [hPP] at hP1 hP2 h5
        simp only [hPP] at hbef
        have HPP := Lib.hid hPP
        clear hPe hPP h42 h56 h80 hP
        cases ht : r.tellB (bitsL 8 k) with
        | false =>
          rw [ht] at h8
          have hnx := hskip ht
          clear hskip hyes0 hyes hno hbef ht
          go_wp2_with (first
            | (go_at_call 42; refine (h4 _).mono ?_; rintro e w' ⟨lv, rfl, hL, hg⟩; have HL := Lib.hid hL; clear hL; obtain ⟨n3, x3, rfl⟩ := World.plus_of hg)
            | (go_at_call 56; refine (h5 _ (fun f hf => World.grows.cell_of (by (repeat (first | exact World.grows.refl _ | assumption | refine World.grows.alloc ?_ _ | refine World.grows.plus ?_ _ _ | refine World.grows.drew ?_))) (HR.out.cost f hf)) _ (HL.out.mono (by (repeat (first | exact World.grows.refl _ | assumption | refine World.grows.alloc ?_ _ | refine World.grows.plus ?_ _ _ | refine World.grows.drew ?_))))).mono ?_; rintro e w' ⟨rfl, hg⟩; obtain ⟨n4, x4, rfl⟩ := World.plus_of hg)
            | (go_at_call 80; refine (h8 _ (Hok.out.mono (by (repeat (first | exact World.grows.refl _ | assumption | refine World.grows.alloc ?_ _ | refine World.grows.plus ?_ _ _ | refine World.grows.drew ?_)))) _ (HL.out.mono (by (repeat (first | exact World.grows.refl _ | assumption | refine World.grows.alloc ?_ _ | refine World.grows.plus ?_ _ _ | refine World.grows.drew ?_))))).mono ?_; rintro e w' ⟨rfl, hg⟩; obtain ⟨n5, x5, rfl⟩ := World.plus_of hg))
          go_roundw
          case rel => exact ⟨k + 1, o, by omega, by go_num, hnx, rfl, Lib.hid (hbl.out.mono (by (repeat (first | exact World.grows.refl _ | assumption | refine World.grows.alloc ?_ _ | refine World.grows.plus ?_ _ _ | refine World.grows.drew ?_)))), by (repeat (first | exact World.grows.refl _ | assumption | refine World.grows.alloc ?_ _ | refine World.grows.plus ?_ _ _ | refine World.grows.drew ?_))⟩
          case measure => simp [intOf]; omega
        | true =>
          rw [ht] at h8
          cases o with
          | none =>
            have hnx := hyes0 ht rfl
            have hlN : P < 1099511627776 := by omega
            clear hskip hyes0 hyes hno hbef ht
            simp only [bestC]
            go_wp2_with (first
              | (go_at_call 42; refine (h4 _).mono ?_; rintro e w' ⟨lv, rfl, hL, hg⟩; have HL := Lib.hid hL; clear hL; obtain ⟨n3, x3, rfl⟩ := World.plus_of hg)
              | (go_at_call 56; refine (h5 _ (fun f hf => World.grows.cell_of (by (repeat (first | exact World.grows.refl _ | assumption | refine World.grows.alloc ?_ _ | refine World.grows.plus ?_ _ _ | refine World.grows.drew ?_))) (HR.out.cost f hf)) _ (HL.out.mono (by (repeat (first | exact World.grows.refl _ | assumption | refine World.grows.alloc ?_ _ | refine World.grows.plus ?_ _ _ | refine World.grows.drew ?_))))).mono ?_; rintro e w' ⟨rfl, hg⟩; obtain ⟨n4, x4, rfl⟩ := World.plus_of hg)
              | (go_at_call 80; refine (h8 _ (Hok.out.mono (by (repeat (first | exact World.grows.refl _ | assumption | refine World.grows.alloc ?_ _ | refine World.grows.plus ?_ _ _ | refine World.grows.drew ?_)))) _ (HL.out.mono (by (repeat (first | exact World.grows.refl _ | assumption | refine World.grows.alloc ?_ _ | refine World.grows.plus ?_ _ _ | refine World.grows.drew ?_))))).mono ?_; rintro e w' ⟨rfl, hg⟩; obtain ⟨n5, x5, rfl⟩ := World.plus_of hg))
            go_roundw
            case rel => exact ⟨k + 1, some k, by omega, by go_num, hnx, by simp only [bestC]; rw [HPP.out], Lib.hid (HL.out.mono (by (repeat (first | exact World.grows.refl _ | assumption | refine World.grows.alloc ?_ _ | refine World.grows.plus ?_ _ _ | refine World.grows.drew ?_)))), by (repeat (first | exact World.grows.refl _ | assumption | refine World.grows.alloc ?_ _ | refine World.grows.plus ?_ _ _ | refine World.grows.drew ?_))⟩
            case measure => simp [intOf]; omega
          | some b =>
            have hb := hbef b
            simp only [bestC]
            obtain ⟨B, hB⟩ : ∃ B, r.price (bitsL 8 b) = B := ⟨_, rfl⟩
            rw [hB] at hb
            have HB := Lib.hid hB
            rw [hB]
            clear hB hbef hskip hyes0
            by_cases h1 : P < B
            · have hnx := hyes b ht rfl (by rw [hb, if_neg (by omega)]; simpa using h1)
              clear hyes hno hb ht
              go_wp2_with (first
                | (go_at_call 42; refine (h4 _).mono ?_; rintro e w' ⟨lv, rfl, hL, hg⟩; have HL := Lib.hid hL; clear hL; obtain ⟨n3, x3, rfl⟩ := World.plus_of hg)
                | (go_at_call 56; refine (h5 _ (fun f hf => World.grows.cell_of (by (repeat (first | exact World.grows.refl _ | assumption | refine World.grows.alloc ?_ _ | refine World.grows.plus ?_ _ _ | refine World.grows.drew ?_))) (HR.out.cost f hf)) _ (HL.out.mono (by (repeat (first | exact World.grows.refl _ | assumption | refine World.grows.alloc ?_ _ | refine World.grows.plus ?_ _ _ | refine World.grows.drew ?_))))).mono ?_; rintro e w' ⟨rfl, hg⟩; obtain ⟨n4, x4, rfl⟩ := World.plus_of hg)
                | (go_at_call 80; refine (h8 _ (Hok.out.mono (by (repeat (first | exact World.grows.refl _ | assumption | refine World.grows.alloc ?_ _ | refine World.grows.plus ?_ _ _ | refine World.grows.drew ?_)))) _ (HL.out.mono (by (repeat (first | exact World.grows.refl _ | assumption | refine World.grows.alloc ?_ _ | refine World.grows.plus ?_ _ _ | refine World.grows.drew ?_))))).mono ?_; rintro e w' ⟨rfl, hg⟩; obtain ⟨n5, x5, rfl⟩ := World.plus_of hg))
              go_roundw
              case rel => exact ⟨k + 1, some k, by omega, by go_num, hnx, by simp only [bestC]; rw [HPP.out], Lib.hid (HL.out.mono (by (repeat (first | exact World.grows.refl _ | assumption | refine World.grows.alloc ?_ _ | refine World.grows.plus ?_ _ _ | refine World.grows.drew ?_)))), by (repeat (first | exact World.grows.refl _ | assumption | refine World.grows.alloc ?_ _ | refine World.grows.plus ?_ _ _ | refine World.grows.drew ?_))⟩
              case measure => simp [intOf]; omega
            · by_cases h2 : P = B
              · subst h2
                rw [if_pos rfl] at hb
                have h43 := fun W lv h1 => first43 W lv u8 (bitsL 8 k) (bitsL 8 b) h1
                cases hx : lexB (bitsL 8 k) (bitsL 8 b) with
                | true =>
                  rw [hx] at h43
                  have hnx := hyes b ht rfl (hb.trans hx)
                  clear hyes hno hb ht hx
                  go_wp2_with (first
                    | (go_at_call 42; refine (h4 _).mono ?_; rintro e w' ⟨lv, rfl, hL, hg⟩; have HL := Lib.hid hL; clear hL; obtain ⟨n3, x3, rfl⟩ := World.plus_of hg)
                    | (go_at_call 56; refine (h5 _ (fun f hf => World.grows.cell_of (by (repeat (first | exact World.grows.refl _ | assumption | refine World.grows.alloc ?_ _ | refine World.grows.plus ?_ _ _ | refine World.grows.drew ?_))) (HR.out.cost f hf)) _ (HL.out.mono (by (repeat (first | exact World.grows.refl _ | assumption | refine World.grows.alloc ?_ _ | refine World.grows.plus ?_ _ _ | refine World.grows.drew ?_))))).mono ?_; rintro e w' ⟨rfl, hg⟩; obtain ⟨n4, x4, rfl⟩ := World.plus_of hg)
                    | (go_at_call 80; refine (h8 _ (Hok.out.mono (by (repeat (first | exact World.grows.refl _ | assumption | refine World.grows.alloc ?_ _ | refine World.grows.plus ?_ _ _ | refine World.grows.drew ?_)))) _ (HL.out.mono (by (repeat (first | exact World.grows.refl _ | assumption | refine World.grows.alloc ?_ _ | refine World.grows.plus ?_ _ _ | refine World.grows.drew ?_))))).mono ?_; rintro e w' ⟨rfl, hg⟩; obtain ⟨n5, x5, rfl⟩ := World.plus_of hg)
                    | (go_at_call 43; refine (h43 _ _ (HL.out.mono (by (repeat (first | exact World.grows.refl _ | assumption | refine World.grows.alloc ?_ _ | refine World.grows.plus ?_ _ _ | refine World.grows.drew ?_)))) (hbl.out.mono (by (repeat (first | exact World.grows.refl _ | assumption | refine World.grows.alloc ?_ _ | refine World.grows.plus ?_ _ _ | refine World.grows.drew ?_))))).mono ?_; rintro e w' ⟨rfl, hg⟩; obtain ⟨n6, x6, rfl⟩ := World.plus_of hg))
                  go_roundw
                  case rel => exact ⟨k + 1, some k, by omega, by go_num, hnx, by simp only [bestC]; rw [HPP.out], Lib.hid (HL.out.mono (by (repeat (first | exact World.grows.refl _ | assumption | refine World.grows.alloc ?_ _ | refine World.grows.plus ?_ _ _ | refine World.grows.drew ?_)))), by (repeat (first | exact World.grows.refl _ | assumption | refine World.grows.alloc ?_ _ | refine World.grows.plus ?_ _ _ | refine World.grows.drew ?_))⟩
                  case measure => simp [intOf]; omega
                | false =>
                  rw [hx] at h43
                  have hnx := hno b ht rfl (hb.trans hx)
                  clear hyes hno hb ht hx
                  go_wp2_with (first
                    | (go_at_call 42; refine (h4 _).mono ?_; rintro e w' ⟨lv, rfl, hL, hg⟩; have HL := Lib.hid hL; clear hL; obtain ⟨n3, x3, rfl⟩ := World.plus_of hg)
                    | (go_at_call 56; refine (h5 _ (fun f hf => World.grows.cell_of (by (repeat (first | exact World.grows.refl _ | assumption | refine World.grows.alloc ?_ _ | refine World.grows.plus ?_ _ _ | refine World.grows.drew ?_))) (HR.out.cost f hf)) _ (HL.out.mono (by (repeat (first | exact World.grows.refl _ | assumption | refine World.grows.alloc ?_ _ | refine World.grows.plus ?_ _ _ | refine World.grows.drew ?_))))).mono ?_; rintro e w' ⟨rfl, hg⟩; obtain ⟨n4, x4, rfl⟩ := World.plus_of hg)
                    | (go_at_call 80; refine (h8 _ (Hok.out.mono (by (repeat (first | exact World.grows.refl _ | assumption | refine World.grows.alloc ?_ _ | refine World.grows.plus ?_ _ _ | refine World.grows.drew ?_)))) _ (HL.out.mono (by (repeat (first | exact World.grows.refl _ | assumption | refine World.grows.alloc ?_ _ | refine World.grows.plus ?_ _ _ | refine World.grows.drew ?_))))).mono ?_; rintro e w' ⟨rfl, hg⟩; obtain ⟨n5, x5, rfl⟩ := World.plus_of hg)
                    | (go_at_call 43; refine (h43 _ _ (HL.out.mono (by (repeat (first | exact World.grows.refl _ | assumption | refine World.grows.alloc ?_ _ | refine World.grows.plus ?_ _ _ | refine World.grows.drew ?_)))) (hbl.out.mono (by (repeat (first | exact World.grows.refl _ | assumption | refine World.grows.alloc ?_ _ | refine World.grows.plus ?_ _ _ | refine World.grows.drew ?_))))).mono ?_; rintro e w' ⟨rfl, hg⟩; obtain ⟨n6, x6, rfl⟩ := World.plus_of hg))
                  go_roundw
                  case rel => exact ⟨k + 1, some b, by omega, by go_num, hnx, by simp only [bestC]; rw [HB.out], Lib.hid (hbl.out.mono (by (repeat (first | exact World.grows.refl _ | assumption | refine World.grows.alloc ?_ _ | refine World.grows.plus ?_ _ _ | refine World.grows.drew ?_)))), by (repeat (first | exact World.grows.refl _ | assumption | refine World.grows.alloc ?_ _ | refine World.grows.plus ?_ _ _ | refine World.grows.drew ?_))⟩
                  case measure => simp [intOf]; omega
              · have hnx := hno b ht rfl (by rw [hb, if_neg h2]; simpa using h1)
                have h2b : (P == B) = false := beq_eq_false_iff_ne.2 h2
                clear hyes hno hb ht
                go_wp2_with (first
                  | (go_at_call 42; refine (h4 _).mono ?_; rintro e w' ⟨lv, rfl, hL, hg⟩; have HL := Lib.hid hL; clear hL; obtain ⟨n3, x3, rfl⟩ := World.plus_of hg)
                  | (go_at_call 56; refine (h5 _ (fun f hf => World.grows.cell_of (by (repeat (first | exact World.grows.refl _ | assumption | refine World.grows.alloc ?_ _ | refine World.grows.plus ?_ _ _ | refine World.grows.drew ?_))) (HR.out.cost f hf)) _ (HL.out.mono (by (repeat (first | exact World.grows.refl _ | assumption | refine World.grows.alloc ?_ _ | refine World.grows.plus ?_ _ _ | refine World.grows.drew ?_))))).mono ?_; rintro e w' ⟨rfl, hg⟩; obtain ⟨n4, x4, rfl⟩ := World.plus_of hg)
                  | (go_at_call 80; refine (h8 _ (Hok.out.mono (by (repeat (first | exact World.grows.refl _ | assumption | refine World.grows.alloc ?_ _ | refine World.grows.plus ?_ _ _ | refine World.grows.drew ?_)))) _ (HL.out.mono (by (repeat (first | exact World.grows.refl _ | assumption | refine World.grows.alloc ?_ _ | refine World.grows.plus ?_ _ _ | refine World.grows.drew ?_))))).mono ?_; rintro e w' ⟨rfl, hg⟩; obtain ⟨n5, x5, rfl⟩ := World.plus_of hg))
                go_roundw
                case rel => exact ⟨k + 1, some b, by omega, by go_num, hnx, by simp only [bestC]; rw [HB.out], Lib.hid (hbl.out.mono (by (repeat (first | exact World.grows.refl _ | assumption | refine World.grows.alloc ?_ _ | refine World.grows.plus ?_ _ _ | refine World.grows.drew ?_)))), by (repeat (first | exact World.grows.refl _ | assumption | refine World.grows.alloc ?_ _ | refine World.grows.plus ?_ _ _ | refine World.grows.drew ?_))⟩
                case measure => simp [intOf]; omega
      · have hke : k = N := by omega
        have hfx : Hid (bestC r o = r.fixC ∧ bestL o = r.fixL) := Lib.hid (by
          obtain ⟨b, hb⟩ := hfs.out
          have h1 := ho.out
          rw [hke, ← HNN.out, hb] at h1
          have h2 : r.fix = b := by unfold Reg.fix; rw [hb]; rfl
          rw [hFL.out.1, hFL.out.2, h2, ← h1]
          exact ⟨rfl, rfl⟩)
        subst hke
        obtain ⟨C, hC⟩ : ∃ C, bestC r o = C := ⟨_, rfl⟩
        rw [hC] at hfx
        rw [hC]
        clear hC
        go_wp2
        (refine bodyPost_ret (v := .tuple #[u8, .int .i64 C, .int .i64 0]) (by simp [results, Try.results33, go_sem]) rfl ?_)
        exact ⟨_, by rw [← hfx.out.1, hE.out], by rw [← hfx.out.2]; exact hbl.out.mono (by (repeat (first | exact World.grows.refl _ | assumption | refine World.grows.alloc ?_ _ | refine World.grows.plus ?_ _ _ | refine World.grows.drew ?_))), by (repeat (first | exact World.grows.refl _ | assumption | refine World.grows.alloc ?_ _ | refine World.grows.plus ?_ _ _ | refine World.grows.drew ?_))⟩
end Go.Proofs.Ytdminglglapnlaa

/-
  What is proved: the features that nobody can do without, in the reference (35).
-/
namespace Go.Proofs.Ytdminglglapnlaa
open Go.RowKit
attribute [local irreducible] Go.wpCalm Go.wpChain

theorem shlI_one {k N : Nat} (hk : k ≤ 20) (h : 2 ^ k = N) : IntKind.i64.wrap ((2 : Int) ^ k) = ((N : Nat) : Int) := by
  have h1 : (2 : Nat) ^ k ≤ 2 ^ 20 := Nat.pow_le_pow_right (by omega) hk
  rw [h] at h1
  rw [two_pow_cast, h]
  exact wrapI rfl (by omega)
def filtL (q : Nat → Bool) (k : Nat) : List Nat := (List.range k).filter q
theorem filtL_succ (q : Nat → Bool) (k : Nat) : filtL q (k + 1) = if q k = true then filtL q k ++ [k] else filtL q k := by
  unfold filtL
  rw [List.range_succ, List.filter_append]
  by_cases h : q k = true
  · simp [h]
  · simp [h]
theorem filtL_length_le (q : Nat → Bool) (k : Nat) : (filtL q k).length ≤ k := by
  have := List.length_filter_le q (List.range k)
  simpa [filtL] using this

set_option maxRecDepth 100000 in
set_option maxHeartbeats 8000000 in
theorem rmust_c (w : World) (v : Value) (r : Reg) (hv : RegAt w v r) :
    Calls Try.prog 35 #[v] w fun e w' => ∃ lv, e = .returned (.tuple #[lv, .int .i64 r.solvE]) ∧ ListAt w' lv r.mustR ∧ w.grows w' := by
  have Hv := Lib.hid hv
  obtain ⟨mv, cv, row0, rfl, -, -, -⟩ := hv
  go_enter Try.func35, Try.ntmps35
  by_cases hc : r.check ≠ 0
  · have hE := Lib.hid (Reg.solvE_bad hc)
    have hF := Lib.hid (Reg.fix_no (r := r) (by rw [hE.out]; exact hc))
    have hc0 : (r.check == 0) = false := beq_eq_false_iff_ne.2 hc
    have hc5 : ¬ r.check = 5 := by rcases r.check_mem with h | h | h | h <;> omega
    have hc5b : (r.check == 5) = false := beq_eq_false_iff_ne.2 hc5
    go_wp2_with (go_at_call 16; refine (rtwins_bad (Hv.out.mono (by (repeat (first | exact World.grows.refl _ | assumption | refine World.grows.alloc ?_ _ | refine World.grows.plus ?_ _ _ | refine World.grows.drew ?_)))) hc).mono ?_; rintro e w' ⟨rfl, hg⟩; obtain ⟨n2, x2, rfl⟩ := World.plus_of hg)
    (refine bodyPost_ret (v := .tuple #[.slice none 0 0, .int .i64 r.check]) (by simp [results, Try.results35, go_sem]) rfl ?_)
    exact ⟨_, by rw [hE.out], by rw [hF.out.2.2]; exact ListAt.nil _, by (repeat (first | exact World.grows.refl _ | assumption | refine World.grows.alloc ?_ _ | refine World.grows.plus ?_ _ _ | refine World.grows.drew ?_))⟩
  replace hc : r.check = 0 := Classical.not_not.1 hc
  by_cases hn : ¬ r.NoTwins
  · have hE := Lib.hid (Reg.solvE_24 hc hn)
    have hF := Lib.hid (Reg.fix_no (r := r) (by rw [hE.out]; decide))
    have Hc := Lib.hid hc
    clear hc
    go_wp2_with (go_at_call 16; refine (rtwins_some (Hv.out.mono (by (repeat (first | exact World.grows.refl _ | assumption | refine World.grows.alloc ?_ _ | refine World.grows.plus ?_ _ _ | refine World.grows.drew ?_)))) Hc.out hn).mono ?_; rintro e w' ⟨i, k, rfl, -, hg⟩; obtain ⟨n2, x2, rfl⟩ := World.plus_of hg)
    (refine bodyPost_ret (v := .tuple #[.slice none 0 0, .int .i64 24]) (by simp [results, Try.results35, go_sem]) rfl ?_)
    exact ⟨_, by rw [hE.out], by rw [hF.out.2.2]; exact ListAt.nil _, by (repeat (first | exact World.grows.refl _ | assumption | refine World.grows.alloc ?_ _ | refine World.grows.plus ?_ _ _ | refine World.grows.drew ?_))⟩
  · replace hn := Classical.not_not.1 hn
    have h16 := fun W h => rtwins_none (w := W) (v := .agg #[mv, cv]) (r := r) h hc hn
    have hE := Lib.hid (Reg.solvE_none hc hn)
    have hFL : Hid (r.mustR = filtL r.mustB r.nc) := Lib.hid (by unfold Reg.mustR; rw [if_pos hE.out]; rfl)
    have Hok := Lib.hid (Hv.out.ok (Reg.ok_of hc))
    have Hr := Lib.hid (Reg.ok_of hc)
    obtain ⟨mb, mo, mc, cb, co, cc, rb, ro, rc, he, hm1, hm2, hc1, hc2, hR⟩ := Hok.out
    simp only [Value.agg.injEq, Array.mk.injEq, List.cons.injEq, and_true] at he
    obtain ⟨rfl, rfl⟩ := he
    have hc8 := Hr.out.c8
    unfold maxLen at hm2 hc2
    have h42 := fun W s hs => list42 W s 8 hs (by omega)
    have h80 := fun W h1 lv L h2 h3 => tell80 W (.agg #[.slice (some ⟨mb, mo, none⟩) r.nm mc, .slice (some ⟨cb, co, none⟩) r.nc cc]) r h1 lv L h2 h3
    obtain ⟨N, hNN⟩ : ∃ N, 2 ^ r.nc = N := ⟨_, rfl⟩
    have hN256 : N ≤ 2 ^ 8 := by rw [← hNN]; exact Nat.pow_le_pow_right (by omega) hc8
    have Hwz := Lib.hid (shlI_one (by omega) hNN)
    have HNN := Lib.hid hNN
    have hNN' : N ≤ 256 := hN256
    clear hR hc hn hNN hN256
    go_wp2_with (go_at_call 16; refine (h16 _ (Hv.out.mono (by (repeat (first | exact World.grows.refl _ | assumption | refine World.grows.alloc ?_ _ | refine World.grows.plus ?_ _ _ | refine World.grows.drew ?_))))).mono ?_; rintro e w' ⟨rfl, hg⟩; obtain ⟨n2, x2, rfl⟩ := World.plus_of hg)
    clear h16 Hv
    go_loopw [7, 8] (fun l i wr => ∃ k : Nat, k ≤ r.nc ∧ i = .int .i64 k ∧ wr.ownsRow (w.heap.size + 1) 3 1 l (filtL r.mustB k).length (ilist (filtL r.mustB k)) ∧ ((w.alloc (.cells #[.slice (some ⟨mb, mo, none⟩) r.nm mc, .slice (some ⟨cb, co, none⟩) r.nc cc] 25))).grows wr) (fun _ i _ => r.nc - (intOf i).toNat)
    case atStart => exact ⟨0, by omega, rfl, World.ownsRow_nil _ _ _ _, by (repeat (first | exact World.grows.refl _ | assumption | refine World.grows.alloc ?_ _ | refine World.grows.plus ?_ _ _ | refine World.grows.drew ?_))⟩
    case round =>
      obtain ⟨k, hk, rfl, hown, hg⟩ := hrel
      have b0 := hg.cell_of (a := ⟨w.heap.size, 0, none⟩) (by simp [go_sem]; rfl)
      have b1 := hg.cell_of (a := ⟨w.heap.size, 1, none⟩) (by simp [go_sem]; rfl)
      have Hown := Lib.hid hown
      have Hg := Lib.hid hg
      have hsz := hg.size
      simp only [World.size_alloc] at hsz
      have Hsz := Lib.hid hsz
      have Hgw : Hid (w.grows wr) := Lib.hid (World.grows.trans (by (repeat (first | exact World.grows.refl _ | assumption | refine World.grows.alloc ?_ _ | refine World.grows.plus ?_ _ _ | refine World.grows.drew ?_))) hg)
      clear hown hg hsz
      by_cases hlt : k < r.nc
      · have hsu := Lib.hid (filtL_succ r.mustB k)
        have hlen := filtL_length_le r.mustB k
        obtain ⟨Pw, hPw⟩ : ∃ Pw : Nat, 2 ^ k = Pw := ⟨_, rfl⟩
        have hlt2 : Pw < N := by rw [← hPw, ← HNN.out]; exact Nat.pow_lt_pow_right (by omega) hlt
        have Hwk := Lib.hid (shlI_one (k := k) (by omega) hPw)
        have hPos : 0 < Pw := by rw [← hPw]; exact Nat.two_pow_pos k
        obtain ⟨S, hS⟩ : ∃ S, N - 1 - Pw = S := ⟨_, rfl⟩
        have hw1 : IntKind.i64.wrap ((N : Int) - 1) = ((N - 1 : Nat) : Int) := wrapI (by omega) (by omega)
        have hw2 : IntKind.i64.wrap (((N - 1 : Nat) : Int) - (Pw : Int)) = ((S : Nat) : Int) := wrapI (by omega) (by omega)
        have hmB : r.mustB k = !r.tellB (bitsL 8 S) := by unfold Reg.mustB; rw [hPw, HNN.out, hS]
        have hSlt : S < 2 ^ r.nc := by rw [HNN.out]; omega
        have hl8 := Lib.hid fun f (hf : f ∈ bitsL 8 S) => bitsL_lt hSlt hf
        have h4 := fun W => h42 W S (by omega)
        have h8 := fun W h1 lv h2 => h80 W h1 lv (bitsL 8 S) h2 hl8.out
        clear hPw hS hSlt h42 h80
        cases ht : r.tellB (bitsL 8 S) with
        | true =>
          rw [ht] at hmB h8
          have hnx : Hid (filtL r.mustB (k + 1) = filtL r.mustB k) := Lib.hid (by rw [hsu.out, hmB]; rfl)
          clear hsu hmB ht
          have hwz := Hwz.out
          have hwk := Hwk.out
          go_wp2
          (refine wp_region_chain 11 [9, 10] (by kernel_rfl) (by kernel_rfl) (by decide) ?_; simp only [without, only, withNo, List.take_succ_cons, List.take_zero, List.drop_succ_cons, List.drop_zero, List.take_nil, List.drop_nil, Nat.reduceAdd, Nat.reduceSub, List.filter, List.contains_cons, List.contains_nil, Nat.reduceBEq, Bool.or_false, Bool.false_or, Bool.true_or, Bool.or_true, Bool.or_self, Bool.not_true, Bool.not_false, List.map_cons, List.map_nil]; (repeat (refine wpCalm_step (fun K hK => ?_); go_simp; first | (refine hK _ ?_; clear hK K) | (apply Exists.intro; refine ⟨fun n' x' => ?_, hK _ ?_⟩; (fail); clear hK K))); refine wpCalm_nil ?_)
          clear hwz hwk
          (refine wpChain_step (fun K hK nc xc => ?_); go_simp)
          refine (h4 _).mono ?_
          rintro e W2 ⟨lv, rfl, hL, hg2⟩
          refine ⟨_, rfl, hg2, hK _ _ ?_⟩
          clear hK K
          have HL := Lib.hid hL
          have Hg2 : Hid (wr.grows W2) := Lib.hid (World.grows.trans (by (repeat (first | exact World.grows.refl _ | assumption | refine World.grows.alloc ?_ _ | refine World.grows.plus ?_ _ _ | refine World.grows.drew ?_))) hg2)
          clear hL hg2
          (refine wpChain_step (fun K hK nc xc => ?_); go_simp)
          refine (h8 _ (Hok.out.mono (Hgw.out.trans (Hg2.out.trans (by (repeat (first | exact World.grows.refl _ | assumption | refine World.grows.alloc ?_ _ | refine World.grows.plus ?_ _ _ | refine World.grows.drew ?_)))))) _ (HL.out.mono (by (repeat (first | exact World.grows.refl _ | assumption | refine World.grows.alloc ?_ _ | refine World.grows.plus ?_ _ _ | refine World.grows.drew ?_))))).mono ?_
          rintro e W3 ⟨rfl, hg3⟩
          refine ⟨_, rfl, hg3, hK _ _ ?_⟩
          clear hK K
          have Hg3 : Hid (wr.grows W3) := Lib.hid (Hg2.out.trans (World.grows.trans (by (repeat (first | exact World.grows.refl _ | assumption | refine World.grows.alloc ?_ _ | refine World.grows.plus ?_ _ _ | refine World.grows.drew ?_))) hg3))
          clear hg3
          (refine wpChain_nil (fun nc xc => ?_))
          go_wp2
          go_roundw
          case rel => exact ⟨k + 1, by omega, by go_num, by rw [hnx.out]; exact Hown.out.grow (Hg3.out.trans (by (repeat (first | exact World.grows.refl _ | assumption | refine World.grows.alloc ?_ _ | refine World.grows.plus ?_ _ _ | refine World.grows.drew ?_)))), Hg.out.trans (Hg3.out.trans (by (repeat (first | exact World.grows.refl _ | assumption | refine World.grows.alloc ?_ _ | refine World.grows.plus ?_ _ _ | refine World.grows.drew ?_))))⟩
          case measure => simp [intOf]; omega
        | false =>
          rw [ht] at hmB h8
          have hnx : Hid (filtL r.mustB (k + 1) = filtL r.mustB k ++ [k]) := Lib.hid (by rw [hsu.out, hmB]; rfl)
          clear hsu hmB ht
          have hwz := Hwz.out
          have hwk := Hwk.out
          go_wp2
          (refine wp_region_chain 11 [9, 10] (by kernel_rfl) (by kernel_rfl) (by decide) ?_; simp only [without, only, withNo, List.take_succ_cons, List.take_zero, List.drop_succ_cons, List.drop_zero, List.take_nil, List.drop_nil, Nat.reduceAdd, Nat.reduceSub, List.filter, List.contains_cons, List.contains_nil, Nat.reduceBEq, Bool.or_false, Bool.false_or, Bool.true_or, Bool.or_true, Bool.or_self, Bool.not_true, Bool.not_false, List.map_cons, List.map_nil]; (repeat (refine wpCalm_step (fun K hK => ?_); go_simp; first | (refine hK _ ?_; clear hK K) | (apply Exists.intro; refine ⟨fun n' x' => ?_, hK _ ?_⟩; (fail); clear hK K))); refine wpCalm_nil ?_)
          clear hwz hwk
          (refine wpChain_step (fun K hK nc xc => ?_); go_simp)
          refine (h4 _).mono ?_
          rintro e W2 ⟨lv, rfl, hL, hg2⟩
          refine ⟨_, rfl, hg2, hK _ _ ?_⟩
          clear hK K
          have HL := Lib.hid hL
          have Hg2 : Hid (wr.grows W2) := Lib.hid (World.grows.trans (by (repeat (first | exact World.grows.refl _ | assumption | refine World.grows.alloc ?_ _ | refine World.grows.plus ?_ _ _ | refine World.grows.drew ?_))) hg2)
          clear hL hg2
          (refine wpChain_step (fun K hK nc xc => ?_); go_simp)
          refine (h8 _ (Hok.out.mono (Hgw.out.trans (Hg2.out.trans (by (repeat (first | exact World.grows.refl _ | assumption | refine World.grows.alloc ?_ _ | refine World.grows.plus ?_ _ _ | refine World.grows.drew ?_)))))) _ (HL.out.mono (by (repeat (first | exact World.grows.refl _ | assumption | refine World.grows.alloc ?_ _ | refine World.grows.plus ?_ _ _ | refine World.grows.drew ?_))))).mono ?_
          rintro e W3 ⟨rfl, hg3⟩
          refine ⟨_, rfl, hg3, hK _ _ ?_⟩
          clear hK K
          have Hg3 : Hid (wr.grows W3) := Lib.hid (Hg2.out.trans (World.grows.trans (by (repeat (first | exact World.grows.refl _ | assumption | refine World.grows.alloc ?_ _ | refine World.grows.plus ?_ _ _ | refine World.grows.drew ?_))) hg3))
          clear hg3
          (refine wpChain_nil (fun nc xc => ?_))
          generalize hW4 : World.plus _ _ _ = W4
          have hg4 : wr.grows W4 := by rw [← hW4]; exact Hg3.out.trans (by (repeat (first | exact World.grows.refl _ | assumption | refine World.grows.alloc ?_ _ | refine World.grows.plus ?_ _ _ | refine World.grows.drew ?_)))
          have Hg4 := Lib.hid hg4
          have Hs4 := Lib.hid hg4.size
          clear hW4 hg4 Hg3 Hg2 HL h4 h8
          go_wp2_with (at_builtin; go_loud (refine wpList_append_r _ rfl _ _ _ (by rfl) (w.heap.size + 1) 3 (.int .i64 0) 1 8 Try.underlying29 el3 (by rfl) (by omega) _ (filtL r.mustB k).length _ (by rfl) ((Hown.out.grow Hg4.out).grow (by (repeat (first | exact World.grows.refl _ | assumption | refine World.grows.alloc ?_ _ | refine World.grows.plus ?_ _ _ | refine World.grows.drew ?_)))) _ (by rfl) 1 _ (SliceAt.src (by omega) (one_slice _ _ _ _ (by simp))) (one_cell _) (by unfold maxLen; omega) (by omega) (by have := Hsz.out; have := Hs4.out; simp; omega) ?_; intro v' w3 hown3 hgb; have hg3 := World.grownBy.grows hgb ((Hown.out.grow Hg4.out).grow (by (repeat (first | exact World.grows.refl _ | assumption | refine World.grows.alloc ?_ _ | refine World.grows.plus ?_ _ _ | refine World.grows.drew ?_)))) (W0 := (w.alloc (.cells #[.slice (some ⟨mb, mo, none⟩) r.nm mc, .slice (some ⟨cb, co, none⟩) r.nc cc] 25))) (by have := Hg.out.trans Hg4.out; (repeat (first | exact World.grows.refl _ | assumption | refine World.grows.alloc ?_ _ | refine World.grows.plus ?_ _ _ | refine World.grows.drew ?_))) (by simp); have Hown3 : Hid (w3.ownsRow (w.heap.size + 1) 3 1 v' ((filtL r.mustB k).length + 1) (ilist (filtL r.mustB k ++ [k]))) := Lib.hid (by rw [ilist_snoc]; exact hown3); have Hg3 := Lib.hid hg3; clear hown3 hgb hg3))
          go_roundw
          case rel => exact ⟨k + 1, by omega, by go_num, by rw [hnx.out]; simpa using Hown3.out, Hg3.out⟩
          case measure => simp [intOf]; omega
      · have hke : k = r.nc := by omega
        subst hke
        go_wp2
        (refine bodyPost_ret (v := .tuple #[u7, .int .i64 0]) (by simp [results, Try.results35, go_sem]) rfl ?_)
        exact ⟨_, by rw [hE.out], by rw [hFL.out]; exact (Hown.out.grow (by (repeat (first | exact World.grows.refl _ | assumption | refine World.grows.alloc ?_ _ | refine World.grows.plus ?_ _ _ | refine World.grows.drew ?_)))).listAt rfl, Hgw.out.trans (by (repeat (first | exact World.grows.refl _ | assumption | refine World.grows.alloc ?_ _ | refine World.grows.plus ?_ _ _ | refine World.grows.drew ?_)))⟩
end Go.Proofs.Ytdminglglapnlaa

/-
  What is proved: CheckRegister of the program (21).
-/
namespace Go.Proofs.Ytdminglglapnlaa
open Go.RowKit
attribute [local irreducible] Go.wpCalm

theorem Reg.manyB_iff (r : Reg) : r.manyB = (outB 1 10 r.nm || outB 1 8 r.nc) := by
  rw [Bool.eq_iff_iff]
  simp [Reg.manyB, outB]
  omega
set_option maxHeartbeats 2000000 in
theorem check_c (w : World) (v : Value) (r : Reg) (hv : RegAt w v r) :
    Calls Try.prog 21 #[v] w fun e w' => e = .returned (.int .i64 r.check) ∧ w.grows w' := by
  obtain ⟨mv, cv, row, rfl, hmv, hcv, hrow⟩ := hv
  have Hmv := Lib.hid hmv
  have Hcv := Lib.hid hcv
  have Hrow := Lib.hid hrow
  obtain ⟨ma, mc, rfl, hm1, hm2, -⟩ := hmv
  obtain ⟨ca, cc, rfl, hc1, hc2, -⟩ := hcv
  have Hcc := Lib.hid (And.intro hc1 hc2)
  unfold maxLen at hm2 hc2
  have hmany := r.manyB_iff
  clear hrow
  go_enter Try.func21, Try.ntmps21
  have h58 := fun W h => has58 W (.slice ca r.nc cc) r.nc (fun i _ => .int .i64 (r.cost i)) 59 #[] r.costB h (fun args w => by simp [go_sem]) (fun i _ W _ => badCost_c W (r.cost i))
  have h57 : ∀ i, i < r.nm → ∀ W : World, (w.alloc (.cells #[.slice ma r.nm mc, .slice ca r.nc cc] 25)).grows W → Calls Try.prog 57 (#[.agg #[mcell r.who row i 0, mcell r.who row i 1]] ++ #[.pointer (some ⟨w.heap.size, 0, none⟩)]) W fun e W' => e = .returned (.bool (r.markB i)) ∧ W.grows W' := by
    intro i hi W hW
    have e1 : (w.alloc (.cells #[.slice ma r.nm mc, .slice ca r.nc cc] 25)).cell? ⟨w.heap.size, 1, none⟩ = some (.slice ca r.nc cc) := by simp [go_sem]
    exact badMark_c W r i (row i) ((Hrow.out i hi).mono (World.grows.trans (by (repeat (first | exact World.grows.refl _ | assumption | refine World.grows.alloc ?_ _ | refine World.grows.plus ?_ _ _ | refine World.grows.drew ?_))) hW)) w.heap.size ca cc Hcc.out.1 Hcc.out.2 (by rw [hW.cell (by rw [e1]; rfl), e1])
  have H57 := Lib.hid h57
  have h60 := fun W h hg => has60 W (.slice ma r.nm mc) r.nm (mcell r.who row) 57 #[.pointer (some ⟨w.heap.size, 0, none⟩)] r.markB h (fun args w => by simp [go_sem]) (fun i hi W' hW => H57.out i hi W' (World.grows.trans hg hW))
  clear h57
  cases q1 : outB 1 10 r.nm with
  | true =>
    have hE := Lib.hid (show r.check = 6 by unfold Reg.check; rw [hmany, q1]; rfl)
    go_wp2_with (go_at_call 44; fail)
    refine (c52one _ _ _ _ _ (one_slice _ _ _ _ (by simp))).mono ?_
    rintro e w' ⟨rfl, hg⟩
    obtain ⟨n2, x2, rfl⟩ := World.plus_of hg
    simp only [q1]
    go_wp2
    (refine bodyPost_ret (v := .int .i64 6) (by simp [results, Try.results21, go_sem]) rfl ?_)
    exact ⟨ret_int hE.out.symm, by (repeat (first | exact World.grows.refl _ | assumption | refine World.grows.alloc ?_ _ | refine World.grows.plus ?_ _ _ | refine World.grows.drew ?_))⟩
  | false =>
    cases q2 : outB 1 8 r.nc with
    | true =>
      have hE := Lib.hid (show r.check = 6 by unfold Reg.check; rw [hmany, q1, q2]; rfl)
      go_wp2_with (go_at_call 44; fail)
      refine (c52one _ _ _ _ _ (one_slice _ _ _ _ (by simp))).mono ?_
      rintro e w' ⟨rfl, hg⟩
      obtain ⟨n2, x2, rfl⟩ := World.plus_of hg
      simp only [q1]
      go_wp2_with (go_at_call 44; fail)
      refine (c52one _ _ _ _ _ (one_slice _ _ _ _ (by simp))).mono ?_
      rintro e w' ⟨rfl, hg⟩
      obtain ⟨n3, x3, rfl⟩ := World.plus_of hg
      simp only [q2]
      go_wp2
      (refine bodyPost_ret (v := .int .i64 6) (by simp [results, Try.results21, go_sem]) rfl ?_)
      exact ⟨ret_int hE.out.symm, by (repeat (first | exact World.grows.refl _ | assumption | refine World.grows.alloc ?_ _ | refine World.grows.plus ?_ _ _ | refine World.grows.drew ?_))⟩
    | false =>
      rw [q1, q2] at hmany
      go_wp2_with (go_at_call 44; fail)
      refine (c52one _ _ _ _ _ (one_slice _ _ _ _ (by simp))).mono ?_
      rintro e w' ⟨rfl, hg⟩
      obtain ⟨n2, x2, rfl⟩ := World.plus_of hg
      simp only [q1]
      go_wp2_with (go_at_call 44; fail)
      refine (c52one _ _ _ _ _ (one_slice _ _ _ _ (by simp))).mono ?_
      rintro e w' ⟨rfl, hg⟩
      obtain ⟨n3, x3, rfl⟩ := World.plus_of hg
      simp only [q2]
      go_wp2_with (go_at_call 44; fail)
      refine (h58 _ (Hcv.out.mono (by (repeat (first | exact World.grows.refl _ | assumption | refine World.grows.alloc ?_ _ | refine World.grows.plus ?_ _ _ | refine World.grows.drew ?_))))).mono ?_
      rintro e w' ⟨rfl, hg⟩
      obtain ⟨n4, x4, rfl⟩ := World.plus_of hg
      cases q3 : (List.range r.nc).any r.costB with
      | true =>
        have hE := Lib.hid (Reg.check_cost hmany q3)
        go_wp2
        (refine bodyPost_ret (v := .int .i64 2) (by simp [results, Try.results21, go_sem]) rfl ?_)
        exact ⟨ret_int hE.out.symm, by (repeat (first | exact World.grows.refl _ | assumption | refine World.grows.alloc ?_ _ | refine World.grows.plus ?_ _ _ | refine World.grows.drew ?_))⟩
      | false =>
        go_wp2_with (go_at_call 44; fail)
        refine (h60 _ (Hmv.out.mono (by (repeat (first | exact World.grows.refl _ | assumption | refine World.grows.alloc ?_ _ | refine World.grows.plus ?_ _ _ | refine World.grows.drew ?_)))) (by (repeat (first | exact World.grows.refl _ | assumption | refine World.grows.alloc ?_ _ | refine World.grows.plus ?_ _ _ | refine World.grows.drew ?_)))).mono ?_
        rintro e w' ⟨rfl, hg⟩
        obtain ⟨n5, x5, rfl⟩ := World.plus_of hg
        cases q4 : (List.range r.nm).any r.markB with
        | true =>
          have hE := Lib.hid (Reg.check_mark hmany q3 q4)
          go_wp2
          (refine bodyPost_ret (v := .int .i64 3) (by simp [results, Try.results21, go_sem]) rfl ?_)
          exact ⟨ret_int hE.out.symm, by (repeat (first | exact World.grows.refl _ | assumption | refine World.grows.alloc ?_ _ | refine World.grows.plus ?_ _ _ | refine World.grows.drew ?_))⟩
        | false =>
          have hE := Lib.hid (Reg.check_fine hmany q3 q4)
          go_wp2
          (refine bodyPost_ret (v := .int .i64 0) (by simp [results, Try.results21, go_sem]) rfl ?_)
          exact ⟨ret_int hE.out.symm, by (repeat (first | exact World.grows.refl _ | assumption | refine World.grows.alloc ?_ _ | refine World.grows.plus ?_ _ _ | refine World.grows.drew ?_))⟩
end Go.Proofs.Ytdminglglapnlaa

/-
  What is proved: the errors of a tree (51), and whether a list rises (66), in the program.
-/
namespace Go.Proofs.Ytdminglglapnlaa
open Go.RowKit
attribute [local irreducible] Go.wpCalm

theorem outB_no (lo hi n : Int) : outB lo hi n = false ↔ lo ≤ n ∧ n ≤ hi := by simp [outB]
/-- what the next number must be at least, in a rising list -/
def nx (f : Nat → Int) (m : Nat) : Int := if m = 0 then 0 else f (m - 1) + 1
theorem rise_out {f : Nat → Int} {top : Int} {m : Nat} (h : ∀ j, j < m → riseB f top j = false) : riseB f top m = outB (nx f m) (top - 1) (f m) := by
  rw [Bool.eq_iff_iff]
  unfold riseB outB nx
  simp only [Bool.or_eq_true, decide_eq_true_eq, Bool.and_eq_true]
  by_cases h0 : m = 0
  · subst h0; simp; omega
  · have := (riseB_false f top (m - 1)).1 (h (m - 1) (by omega))
    rw [if_neg h0]
    omega
theorem nx_bd {f : Nat → Int} {top : Int} {m : Nat} (h : ∀ j, j < m → riseB f top j = false) (h0 : 0 ≤ top) : 0 ≤ nx f m ∧ nx f m ≤ top := by
  unfold nx
  by_cases hm : m = 0
  · rw [if_pos hm]; omega
  · rw [if_neg hm]
    have := (riseB_false f top (m - 1)).1 (h (m - 1) (by omega))
    omega
theorem nx_succ (f : Nat → Int) (m : Nat) : nx f (m + 1) = f m + 1 := by unfold nx; rw [if_neg (by omega)]; simp

set_option maxHeartbeats 1000000 in
theorem rising_c (w : World) (lv : Value) (n : Nat) (f : Nat → Int) (top : Nat) (ht : top ≤ 1000) (hv : IntsAt w lv n f) :
    Calls Try.prog 66 #[lv, .int .i64 top] w fun e w' => e = .returned (.bool (!(List.range n).any (riseB f top))) ∧ w.grows w' := by
  obtain ⟨va, vc, rfl, hv1, hv2, hv⟩ := hv
  unfold maxLen at hv2
  have hw : IntKind.i64.wrap ((top : Int) - 1) = (top : Int) - 1 := wrapI rfl (by omega)
  go_enter Try.func66, Try.ntmps66
  go_wp2
  go_loopw [5, 10] (fun x i wr => ∃ k : Nat, k ≤ n ∧ i = .int .i64 k ∧ x = .int .i64 (nx f k) ∧ Hid (∀ j, j < k → riseB f top j = false) ∧ w.grows wr) (fun _ i _ => n - (intOf i).toNat)
  case atStart => exact ⟨0, by omega, rfl, rfl, Lib.hid fun j hj => by omega, by (repeat (first | exact World.grows.refl _ | assumption | refine World.grows.alloc ?_ _ | refine World.grows.plus ?_ _ _ | refine World.grows.drew ?_))⟩
  case round =>
    obtain ⟨k, hk, rfl, rfl, hl, hg⟩ := hrel
    obtain ⟨n1, x1, rfl⟩ := World.plus_of hg
    by_cases hlt : k < n
    · obtain ⟨b, o, rfl, h0⟩ := hv k 0 hlt (by omega)
      simp only [Nat.mul_one, Nat.add_zero] at h0
      have hro := rise_out hl.out
      have hnb := nx_bd hl.out (by omega)
      have hns := Lib.hid (nx_succ f k)
      obtain ⟨X, hX⟩ : ∃ X, nx f k = X := ⟨_, rfl⟩
      rw [hX] at hro hnb ⊢
      obtain ⟨F, hF⟩ : ∃ F, f k = F := ⟨_, rfl⟩
      rw [hF] at hro hns h0
      clear hX
      cases q : outB X ((top : Int) - 1) F with
      | true =>
        have hx := Lib.hid (any_true_of hlt (hro.trans q))
        clear hro
        go_wp2_with (go_at_call 52; (refine (c52one _ _ _ _ _ (one_slice _ _ _ _ (by simp))).mono ?_; rintro e w' ⟨rfl, hg⟩; obtain ⟨n2, x2, rfl⟩ := World.plus_of hg; simp only [q]))
        (refine bodyPost_ret (v := .bool false) (by simp [results, Try.results66, go_sem]) rfl ?_)
        exact ⟨by rw [hx.out]; rfl, by (repeat (first | exact World.grows.refl _ | assumption | refine World.grows.alloc ?_ _ | refine World.grows.plus ?_ _ _ | refine World.grows.drew ?_))⟩
      | false =>
        have hnx := Lib.hid (upto_succ hl.out (hro.trans q))
        have hq : X ≤ F ∧ F ≤ (top : Int) - 1 := by have := (outB_no X ((top : Int) - 1) F).1 q; omega
        have hwF : IntKind.i64.wrap (F + 1) = F + 1 := wrapI rfl (by omega)
        clear hro hq
        go_wp2_with (go_at_call 52; (refine (c52one _ _ _ _ _ (one_slice _ _ _ _ (by simp))).mono ?_; rintro e w' ⟨rfl, hg⟩; obtain ⟨n2, x2, rfl⟩ := World.plus_of hg; simp only [q]))
        go_roundw
        case rel => exact ⟨k + 1, by omega, by go_num, by rw [hns.out], hnx, by (repeat (first | exact World.grows.refl _ | assumption | refine World.grows.alloc ?_ _ | refine World.grows.plus ?_ _ _ | refine World.grows.drew ?_))⟩
        case measure => simp [intOf]; omega
    · have hke : k = n := by omega
      have hx := Lib.hid (any_false_of (n := k) hl.out)
      subst hke
      go_wp2
      (refine bodyPost_ret (v := .bool true) (by simp [results, Try.results66, go_sem]) rfl ?_)
      exact ⟨by rw [hx.out]; rfl, by (repeat (first | exact World.grows.refl _ | assumption | refine World.grows.alloc ?_ _ | refine World.grows.plus ?_ _ _ | refine World.grows.drew ?_))⟩

theorem Tr.nodeB_out (t : Tr) (nc i : Nat) : t.nodeB nc i = (outB 0 ((nc : Int) - 1) (t.feat i) || (List.range (t.nb i)).any (t.brB i)) := by
  unfold Tr.nodeB
  congr 1
  rw [Bool.eq_iff_iff]
  simp [outB]
  omega
theorem Tr.rule_node {t : Tr} {nc i : Nat} (hi : i < t.n) (h : t.nodeB nc i = true) : t.ruleB nc = true := by
  unfold Tr.ruleB
  rw [any_true_of hi h]; rfl
set_option maxRecDepth 100000 in
set_option maxHeartbeats 4000000 in
theorem checkTree_c (w : World) (rv : Value) (r : Reg) (hr : RegAt w rv r) (tv : Value) (t : Tr) (ht : TreeAt w tv t) :
    Calls Try.prog 51 #[rv, tv] w fun e w' => e = .returned (.int .i64 (t.check r)) ∧ w.grows w' := by
  have Hr := Lib.hid hr
  obtain ⟨mv, cv, mrow, rfl, -, ⟨ca, cc, rfl, hc1, hc2, -⟩, -⟩ := hr
  obtain ⟨nv, rfl, hnv⟩ := ht
  obtain ⟨na, ncap, rfl, hn1, hn2, nb, no, bb, bo, bc, hna, hN⟩ := hnv.open
  have HN := Lib.hid hN
  have Hna := Lib.hid hna
  have h21 := fun W h => check_c W (.agg #[mv, .slice ca r.nc cc]) r h
  have h87 := fun W h x lo => leads_c W t (w.heap.size + 1) na ncap hn1 hn2 h x lo
  unfold maxLen at hc2 hn2
  clear hnv hN hna
  go_enter Try.func51, Try.ntmps51
  by_cases hc : r.check ≠ 0
  · have hcn := Lib.hid (Tr.check_bad (t := t) hc)
    have hcb : (r.check == 0) = false := beq_eq_false_iff_ne.2 hc
    go_wp2_with (go_at_call 21; refine (h21 _ (Hr.out.mono (by (repeat (first | exact World.grows.refl _ | assumption | refine World.grows.alloc ?_ _ | refine World.grows.plus ?_ _ _ | refine World.grows.drew ?_))))).mono ?_; rintro e w' ⟨rfl, hg⟩; obtain ⟨n2, x2, rfl⟩ := World.plus_of hg)
    (refine bodyPost_ret (v := .int .i64 r.check) (by simp [results, Try.results51, go_sem]) rfl ?_)
    exact ⟨ret_int hcn.out.symm, by (repeat (first | exact World.grows.refl _ | assumption | refine World.grows.alloc ?_ _ | refine World.grows.plus ?_ _ _ | refine World.grows.drew ?_))⟩
  replace hc : r.check = 0 := Classical.not_not.1 hc
  rw [hc] at h21
  have Hc := Lib.hid hc
  have hc1' := (Reg.ok_of hc).c1
  have hc8 := (Reg.ok_of hc).c8
  clear hc
  by_cases hT : 100 < t.n
  · have hcn := Lib.hid (Tr.check_many Hc.out hT)
    go_wp2_with (go_at_call 21; refine (h21 _ (Hr.out.mono (by (repeat (first | exact World.grows.refl _ | assumption | refine World.grows.alloc ?_ _ | refine World.grows.plus ?_ _ _ | refine World.grows.drew ?_))))).mono ?_; rintro e w' ⟨rfl, hg⟩; obtain ⟨n2, x2, rfl⟩ := World.plus_of hg)
    (refine bodyPost_ret (v := .int .i64 6) (by simp [results, Try.results51, go_sem]) rfl ?_)
    exact ⟨ret_int hcn.out.symm, by (repeat (first | exact World.grows.refl _ | assumption | refine World.grows.alloc ?_ _ | refine World.grows.plus ?_ _ _ | refine World.grows.drew ?_))⟩
  have HT := Lib.hid hT
  have hT2 : t.n ≤ 100 := by omega
  have hwc : IntKind.i64.wrap ((r.nc : Int) - 1) = (r.nc : Int) - 1 := wrapI rfl (by omega)
  clear hT
  go_wp2_with (go_at_call 21; refine (h21 _ (Hr.out.mono (by (repeat (first | exact World.grows.refl _ | assumption | refine World.grows.alloc ?_ _ | refine World.grows.plus ?_ _ _ | refine World.grows.drew ?_))))).mono ?_; rintro e w' ⟨rfl, hg⟩; obtain ⟨n2, x2, rfl⟩ := World.plus_of hg)
  go_loopw [25] (fun i wr => ∃ k : Nat, k ≤ t.n ∧ i = .int .i64 k ∧ Hid (∀ j, j < k → t.nodeB r.nc j = false) ∧ ((w.alloc (.cells #[mv, .slice ca r.nc cc] 25)).alloc (.cells #[.int .i64 t.root, .slice na t.n ncap] 28)).grows wr) (fun i _ => t.n - (intOf i).toNat)
  case atStart => exact ⟨0, by omega, rfl, Lib.hid fun j hj => by omega, by (repeat (first | exact World.grows.refl _ | assumption | refine World.grows.alloc ?_ _ | refine World.grows.plus ?_ _ _ | refine World.grows.drew ?_))⟩
  case round =>
    obtain ⟨k, hk, rfl, hl, hg⟩ := hrel
    have b1 := hg.cell_of (a := ⟨w.heap.size, 1, none⟩) (by simp [go_sem]; rfl)
    have b2 := hg.cell_of (a := ⟨w.heap.size + 1, 0, none⟩) (by simp [go_sem]; rfl)
    have b3 := hg.cell_of (a := ⟨w.heap.size + 1, 1, none⟩) (by simp [go_sem]; rfl)
    have hgw : w.grows wr := World.grows.trans (by (repeat (first | exact World.grows.refl _ | assumption | refine World.grows.alloc ?_ _ | refine World.grows.plus ?_ _ _ | refine World.grows.drew ?_))) hg
    have HNr := Lib.hid (HN.out.mono hgw)
    have Hg := Lib.hid hg
    have Hgw := Lib.hid hgw
    clear hg hgw
    by_cases hlt : k < t.n
    · have hnn := Hna.out (by omega)
      subst hnn
      have h0 := HNr.out.feat k hlt
      obtain ⟨a, h1, ha⟩ := HNr.out.row k hlt
      have Ha := Lib.hid ha
      obtain ⟨k1, k2⟩ := HNr.out.cap k hlt
      unfold maxLen at k2
      have hno := t.nodeB_out r.nc k
      clear ha
      cases q1 : outB 0 ((r.nc : Int) - 1) (t.feat k) with
      | true =>
        have hcn := Lib.hid (Tr.check_rule Hc.out HT.out (Tr.rule_node hlt (by rw [hno, q1]; rfl)))
        clear hno
        go_wp2_with (go_at_call 52; (refine (c52one _ _ _ _ _ (one_slice _ _ _ _ (by simp))).mono ?_; rintro e w' ⟨rfl, hg⟩; obtain ⟨n3, x3, rfl⟩ := World.plus_of hg; simp only [q1]))
        (refine bodyPost_ret (v := .int .i64 16) (by simp [results, Try.results51, go_sem]) rfl ?_)
        exact ⟨ret_int hcn.out.symm, Hgw.out.trans (by (repeat (first | exact World.grows.refl _ | assumption | refine World.grows.alloc ?_ _ | refine World.grows.plus ?_ _ _ | refine World.grows.drew ?_)))⟩
      | false =>
        rw [q1] at hno
        have Hno := Lib.hid hno
        clear hno
        go_wp2_with (go_at_call 52; (refine (c52one _ _ _ _ _ (one_slice _ _ _ _ (by simp))).mono ?_; rintro e w' ⟨rfl, hg⟩; obtain ⟨n3, x3, rfl⟩ := World.plus_of hg; simp only [q1]))
        clear q1 h0 h1
        go_loopw [9, 42] (fun x i wr' => ∃ m : Nat, m ≤ t.nb k ∧ i = .int .i64 m ∧ x = .int .i64 (nx (t.bv k) m) ∧ Hid (∀ j, j < m → t.brB k j = false) ∧ (wr.alloc (.cells #[.int .i64 (t.feat k), .slice a (t.nb k) (bc k)] 83)).grows wr') (fun _ i _ => t.nb k - (intOf i).toNat)
        case atStart => exact ⟨0, by omega, rfl, rfl, Lib.hid fun j hj => by omega, by (repeat (first | exact World.grows.refl _ | assumption | refine World.grows.alloc ?_ _ | refine World.grows.plus ?_ _ _ | refine World.grows.drew ?_))⟩
        case round =>
          obtain ⟨m, hm, rfl, rfl, hl2, hg2⟩ := hrel
          obtain ⟨n4, x4, rfl⟩ := World.plus_of hg2
          by_cases hlt2 : m < t.nb k
          · have haa := Ha.out (by omega)
            subst haa
            have h0 := HNr.out.val k m hlt hlt2
            have h1 := HNr.out.to k m hlt hlt2
            have hl3 : ∀ j, j < m → riseB (t.bv k) 10 j = false := fun j hj => by
              have := hl2.out j hj
              unfold Tr.brB at this
              simp only [Bool.or_eq_false_iff] at this
              exact this.1
            have hro := rise_out hl3
            have hnb := nx_bd hl3 (by omega)
            have hns := Lib.hid (nx_succ (t.bv k) m)
            have hbr : t.brB k m = (riseB (t.bv k) 10 m || !t.toB (t.bt k m) (k + 1)) := rfl
            rw [hro] at hbr
            obtain ⟨X, hX⟩ : ∃ X, nx (t.bv k) m = X := ⟨_, rfl⟩
            rw [hX] at hbr hnb ⊢
            obtain ⟨F, hF⟩ : ∃ F, t.bv k m = F := ⟨_, rfl⟩
            rw [hF] at hbr hns h0
            have hwk : IntKind.i64.wrap ((k : Int) + 1) = ((k + 1 : Nat) : Int) := wrapI (by omega) (by omega)
            have h9 := fun W h => h87 W h (t.bt k m) (k + 1)
            clear hX hro hl3 hF
            cases q2 : outB X (10 - 1) F with
            | true =>
              have hcn := Lib.hid (Tr.check_rule Hc.out HT.out (Tr.rule_node hlt (by rw [Hno.out, any_true_of hlt2 (by rw [hbr, q2]; rfl)]; rfl)))
              have q2' : outB X 9 F = true := q2
              clear hbr q2
              go_wp2_with (go_at_call 52; (refine (c52one _ _ _ _ _ (one_slice _ _ _ _ (by simp))).mono ?_; rintro e w' ⟨rfl, hg⟩; obtain ⟨n5, x5, rfl⟩ := World.plus_of hg; simp only [q2']))
              (refine bodyPost_ret (v := .int .i64 16) (by simp [results, Try.results51, go_sem]) rfl ?_)
              exact ⟨ret_int hcn.out.symm, Hgw.out.trans (by (repeat (first | exact World.grows.refl _ | assumption | refine World.grows.alloc ?_ _ | refine World.grows.plus ?_ _ _ | refine World.grows.drew ?_)))⟩
            | false =>
              have hq : X ≤ F ∧ F ≤ 9 := by have := (outB_no X (10 - 1) F).1 q2; omega
              have hwF : IntKind.i64.wrap (F + 1) = F + 1 := wrapI rfl (by omega)
              have q2' : outB X 9 F = false := q2
              cases q3 : t.toB (t.bt k m) (k + 1) with
              | false =>
                have hcn := Lib.hid (Tr.check_rule Hc.out HT.out (Tr.rule_node hlt (by rw [Hno.out, any_true_of hlt2 (by rw [hbr, q3]; simp)]; rfl)))
                rw [q3] at h9
                clear hbr q2 q3 hq
                go_wp2_with (first
                  | (go_at_call 52; (refine (c52one _ _ _ _ _ (one_slice _ _ _ _ (by simp))).mono ?_; rintro e w' ⟨rfl, hg⟩; obtain ⟨n5, x5, rfl⟩ := World.plus_of hg; simp only [q2']))
                  | (go_at_call 87; refine (h9 _ (World.grows.cell_of (by (repeat (first | exact World.grows.refl _ | assumption | refine World.grows.alloc ?_ _ | refine World.grows.plus ?_ _ _ | refine World.grows.drew ?_))) b3)).mono ?_; rintro e w' ⟨rfl, hg⟩; obtain ⟨n6, x6, rfl⟩ := World.plus_of hg))
                (refine bodyPost_ret (v := .int .i64 16) (by simp [results, Try.results51, go_sem]) rfl ?_)
                exact ⟨ret_int hcn.out.symm, Hgw.out.trans (by (repeat (first | exact World.grows.refl _ | assumption | refine World.grows.alloc ?_ _ | refine World.grows.plus ?_ _ _ | refine World.grows.drew ?_)))⟩
              | true =>
                have hnx := Lib.hid (upto_succ hl2.out (show t.brB k m = false by rw [hbr, q2, q3]; rfl))
                rw [q3] at h9
                clear hbr q2 q3 hq
                go_wp2_with (first
                  | (go_at_call 52; (refine (c52one _ _ _ _ _ (one_slice _ _ _ _ (by simp))).mono ?_; rintro e w' ⟨rfl, hg⟩; obtain ⟨n5, x5, rfl⟩ := World.plus_of hg; simp only [q2']))
                  | (go_at_call 87; refine (h9 _ (World.grows.cell_of (by (repeat (first | exact World.grows.refl _ | assumption | refine World.grows.alloc ?_ _ | refine World.grows.plus ?_ _ _ | refine World.grows.drew ?_))) b3)).mono ?_; rintro e w' ⟨rfl, hg⟩; obtain ⟨n6, x6, rfl⟩ := World.plus_of hg))
                go_roundw
                case rel => exact ⟨m + 1, by omega, by go_num, by rw [hns.out], hnx, by (repeat (first | exact World.grows.refl _ | assumption | refine World.grows.alloc ?_ _ | refine World.grows.plus ?_ _ _ | refine World.grows.drew ?_))⟩
                case measure => simp [intOf]; omega
          · have hme : m = t.nb k := by omega
            have hnx := Lib.hid (upto_succ hl.out (show t.nodeB r.nc k = false by rw [Hno.out, any_false_of (n := t.nb k) (by rw [← hme]; exact hl2.out)]; rfl))
            subst hme
            go_wp2
            go_roundw
            case rel => exact ⟨k + 1, by omega, by go_num, hnx, Hg.out.trans (by (repeat (first | exact World.grows.refl _ | assumption | refine World.grows.alloc ?_ _ | refine World.grows.plus ?_ _ _ | refine World.grows.drew ?_)))⟩
            case measure => simp [intOf]; omega
    · have hke : k = t.n := by omega
      have hB := Lib.hid (any_false_of (n := k) hl.out)
      rw [hke] at hB
      subst hke
      clear hl
      have h9 := fun W h => h87 W h t.root 0
      cases q3 : t.toB t.root 0 with
      | false =>
        have hcn := Lib.hid (Tr.check_rule Hc.out HT.out (Tr.rule_root (nc := r.nc) q3))
        rw [q3] at h9
        clear q3
        go_wp2_with (go_at_call 87; refine (h9 _ (World.grows.cell_of (by (repeat (first | exact World.grows.refl _ | assumption | refine World.grows.alloc ?_ _ | refine World.grows.plus ?_ _ _ | refine World.grows.drew ?_))) b3)).mono ?_; rintro e w' ⟨rfl, hg⟩; obtain ⟨n6, x6, rfl⟩ := World.plus_of hg)
        (refine bodyPost_ret (v := .int .i64 16) (by simp [results, Try.results51, go_sem]) rfl ?_)
        exact ⟨ret_int hcn.out.symm, Hgw.out.trans (by (repeat (first | exact World.grows.refl _ | assumption | refine World.grows.alloc ?_ _ | refine World.grows.plus ?_ _ _ | refine World.grows.drew ?_)))⟩
      | true =>
        have hcn := Lib.hid (Tr.check_fine Hc.out HT.out (Tr.rule_ok hB.out q3))
        rw [q3] at h9
        clear q3
        go_wp2_with (go_at_call 87; refine (h9 _ (World.grows.cell_of (by (repeat (first | exact World.grows.refl _ | assumption | refine World.grows.alloc ?_ _ | refine World.grows.plus ?_ _ _ | refine World.grows.drew ?_))) b3)).mono ?_; rintro e w' ⟨rfl, hg⟩; obtain ⟨n6, x6, rfl⟩ := World.plus_of hg)
        (refine bodyPost_ret (v := .int .i64 0) (by simp [results, Try.results51, go_sem]) rfl ?_)
        exact ⟨ret_int hcn.out.symm, Hgw.out.trans (by (repeat (first | exact World.grows.refl _ | assumption | refine World.grows.alloc ?_ _ | refine World.grows.plus ?_ _ _ | refine World.grows.drew ?_)))⟩
end Go.Proofs.Ytdminglglapnlaa

/-
  What is proved: sets as lists (64), lists as sets (69), in the program.
-/
namespace Go.Proofs.Ytdminglglapnlaa
open Go.RowKit
attribute [local irreducible] Go.wpCalm

set_option maxHeartbeats 1000000 in
theorem list64o (w : World) (s n : Nat) (hs : s < 2 ^ n) (hn : n ≤ 20) :
    Calls Try.prog 64 #[.int .i64 s] w fun e w' => ∃ lv, e = .returned lv ∧ w'.ownsRow w.heap.size 3 1 lv (bitsL n s).length (ilist (bitsL n s)) ∧ w.grows w' := by
  have hs62 : s < 2 ^ 62 := Nat.lt_of_lt_of_le hs (Nat.pow_le_pow_right (by omega) (by omega))
  go_enter Try.func64, Try.ntmps64
  go_wp2
  go_loopw [3, 4] (fun l i wr => ∃ k : Nat, k ≤ n ∧ i = .int .i64 k ∧ wr.ownsRow w.heap.size 3 1 l (bitsL k s).length (ilist (bitsL k s)) ∧ w.grows wr) (fun _ i _ => n - (intOf i).toNat)
  case atStart => exact ⟨0, by omega, rfl, World.ownsRow_nil _ _ _ _, by (repeat (first | exact World.grows.refl _ | assumption | refine World.grows.alloc ?_ _ | refine World.grows.plus ?_ _ _ | refine World.grows.drew ?_))⟩
  case round =>
    obtain ⟨k, hk, rfl, hown, hg⟩ := hrel
    have Hown := Lib.hid hown
    have Hg := Lib.hid hg
    have hsz := hg.size
    have Hsz := Lib.hid hsz
    have hll := bitsL_length_le k s
    have hsuc := Lib.hid (bitsL_succ k s)
    clear hown hg hsz
    by_cases hp : 2 ^ k ≤ s
    · have hkn : k < n := by
        rcases Nat.lt_or_ge k n with h | h
        · exact h
        · exact absurd hs (Nat.not_lt.2 (Nat.le_trans (Nat.pow_le_pow_right (by omega) h) hp))
      have hsh := shr_pos hp
      cases hb : s.testBit k with
      | true =>
        rw [if_pos hb] at hsuc
        have hb1 := bit_on hs62 hb
        clear hp hs
        go_wp2_with (at_builtin; go_loud (refine wpList_append_r _ rfl _ _ _ (by rfl) w.heap.size 3 (.int .i64 0) 1 8 Try.underlying29 el3 (by rfl) (by omega) _ (bitsL k s).length _ (by rfl) (Hown.out.grow (by (repeat (first | exact World.grows.refl _ | assumption | refine World.grows.alloc ?_ _ | refine World.grows.plus ?_ _ _ | refine World.grows.drew ?_)))) _ (by rfl) 1 _ (SliceAt.src (by omega) (one_slice _ _ _ _ (by simp))) (one_cell _) (by unfold maxLen; omega) (by omega) (by have := Hsz.out; simp; omega) ?_; intro v' w3 hown3 hgb; have hg3 := World.grownBy.grows hgb (Hown.out.grow (by (repeat (first | exact World.grows.refl _ | assumption | refine World.grows.alloc ?_ _ | refine World.grows.plus ?_ _ _ | refine World.grows.drew ?_)))) (W0 := w) (by have := Hg.out; (repeat (first | exact World.grows.refl _ | assumption | refine World.grows.alloc ?_ _ | refine World.grows.plus ?_ _ _ | refine World.grows.drew ?_))) (by omega); have Hown3 : Hid (w3.ownsRow w.heap.size 3 1 v' ((bitsL k s).length + 1) (ilist (bitsL k s ++ [k]))) := Lib.hid (by rw [ilist_snoc]; exact hown3); have Hg3 := Lib.hid hg3; clear hown3 hgb hg3))
        go_roundw
        case rel => exact ⟨k + 1, by omega, by go_num, by rw [hsuc.out]; simpa using Hown3.out, Hg3.out⟩
        case measure => simp [intOf]; omega
      | false =>
        rw [if_neg (by rw [hb]; decide)] at hsuc
        have hb1 := bit_off hs62 hb
        clear hp hs
        go_wp2
        go_roundw
        case rel => exact ⟨k + 1, by omega, by go_num, by rw [hsuc.out]; exact Hown.out.grow (by (repeat (first | exact World.grows.refl _ | assumption | refine World.grows.alloc ?_ _ | refine World.grows.plus ?_ _ _ | refine World.grows.drew ?_))), by have := Hg.out; (repeat (first | exact World.grows.refl _ | assumption | refine World.grows.alloc ?_ _ | refine World.grows.plus ?_ _ _ | refine World.grows.drew ?_))⟩
        case measure => simp [intOf]; omega
    · have hz := shr_zero (s := s) (k := k) (by omega)
      have hbl := Lib.hid (bitsL_of_le (n := k) (m := n) (s := s) (by omega) hk)
      clear hp hs
      go_wp2
      (refine bodyPost_ret (v := u3) (by simp [results, Try.results64, go_sem]) rfl ?_)
      exact ⟨_, rfl, by rw [hbl.out]; exact Hown.out.grow (by (repeat (first | exact World.grows.refl _ | assumption | refine World.grows.alloc ?_ _ | refine World.grows.plus ?_ _ _ | refine World.grows.drew ?_))), by have := Hg.out; (repeat (first | exact World.grows.refl _ | assumption | refine World.grows.alloc ?_ _ | refine World.grows.plus ?_ _ _ | refine World.grows.drew ?_))⟩
theorem list64 (w : World) (s n : Nat) (hs : s < 2 ^ n) (hn : n ≤ 20) :
    Calls Try.prog 64 #[.int .i64 s] w fun e w' => ∃ lv, e = .returned lv ∧ ListAt w' lv (bitsL n s) ∧ w.grows w' :=
  (list64o w s n hs hn).mono (by
    rintro e w' ⟨lv, h1, h2, h3⟩
    exact ⟨lv, h1, h2.listAt rfl, h3⟩)

set_option maxHeartbeats 1000000 in
theorem setOf69 (w : World) (lv : Value) (n : Nat) (f : Nat → Int) (top : Nat) (hv : IntsAt w lv n f) (hf : Rise f n top) (ht : top ≤ 10) :
    Calls Try.prog 69 #[lv] w fun e w' => e = .returned (.int .i64 (setN f n : Nat)) ∧ w.grows w' := by
  obtain ⟨va, vc, rfl, hv1, hv2, hv⟩ := hv
  unfold maxLen at hv2
  have Hf := Lib.hid hf
  clear hf
  go_enter Try.func69, Try.ntmps69
  go_wp2
  go_loop [3, 8] (fun o i => ∃ k : Nat, k ≤ n ∧ i = .int .i64 k ∧ o = .int .i64 (setN f k : Nat)) (fun _ i => n - (intOf i).toNat)
  case atStart => exact ⟨0, by omega, rfl, rfl⟩
  case round =>
    obtain ⟨k, hk, rfl, rfl⟩ := hrel
    by_cases hlt : k < n
    · obtain ⟨b, o, rfl, h0⟩ := hv k 0 hlt (by omega)
      simp only [Nat.mul_one, Nat.add_zero] at h0
      have hlo := Hf.out.lo k hlt
      have hhi := Hf.out.hi k hlt
      obtain ⟨e, he⟩ : ∃ e : Nat, f k = e := ⟨(f k).toNat, by omega⟩
      have hsb := Hf.out.set_below hlt
      have hss : Hid (setN f (k + 1) = setN f k ||| 2 ^ (f k).toNat) := Lib.hid rfl
      rw [he] at h0 hlo hhi hss hsb
      simp only [Int.toNat_natCast] at hss hsb
      have he10 : e ≤ 10 := by omega
      have hpp : (2 : Nat) ^ e ≤ 2 ^ 10 := Nat.pow_le_pow_right (by omega) he10
      obtain ⟨T, hT⟩ : ∃ T, setN f k = T := ⟨_, rfl⟩
      obtain ⟨Pw, hP⟩ : ∃ Pw : Nat, 2 ^ e = Pw := ⟨_, rfl⟩
      have Hwz := Lib.hid (shl_one (k := e) (by omega) hP)
      rw [hP] at hpp hsb hss
      rw [hT] at hsb hss
      have hor := or_nat T Pw (by omega) (by omega)
      rw [hT]
      have hwz := Hwz.out
      clear hT hP he hlo hhi hpp hsb
      go_wp2
      clear hwz hor
      go_round
      case rel => exact ⟨k + 1, by omega, by go_num, by rw [hss.out]⟩
      case measure => simp [intOf]; omega
    · have hke : k = n := by omega
      subst hke
      go_wp2
      go_ret
      exact ⟨rfl, by (repeat (first | exact World.grows.refl _ | assumption | refine World.grows.alloc ?_ _ | refine World.grows.plus ?_ _ _ | refine World.grows.drew ?_))⟩
end Go.Proofs.Ytdminglglapnlaa

/-
  What is proved: Twins of the program (15).
-/
namespace Go.Proofs.Ytdminglglapnlaa
open Go.RowKit
attribute [local irreducible] Go.wpCalm

theorem RegIn.ints {w : World} {mb mo cb co : Nat} {rb ro rc : Nat → Nat} {r : Reg} (h : RegIn w mb mo cb co rb ro rc r) {m : Nat} (hm : m < r.nm) :
    IntsAt w (.slice (some ⟨rb m, ro m, none⟩) r.nc (rc m)) r.nc (r.val m) :=
  ⟨_, _, rfl, (h.cap m hm).1, (h.cap m hm).2, fun f j hf hj => ⟨_, _, rfl, by
    have : j = 0 := by omega
    subst this
    simpa using h.val m f hm hf⟩⟩
theorem Reg.twin_eqL (r : Reg) (a b : Nat) : r.twin a b = (decide (r.who a ≠ r.who b) && eqL (r.val a) (r.val b) r.nc) := rfl

set_option maxHeartbeats 4000000 in
theorem twins_c (w : World) (v : Value) (r : Reg) (hv : RegAt w v r) :
    Calls Try.prog 15 #[v] w fun e w' => ∃ x y z, e = .returned (.tuple #[.int .i64 x, .int .i64 y, .int .i64 z]) ∧ r.TwinIs x y z ∧ w.grows w' := by
  have Hv := Lib.hid hv
  obtain ⟨mv, cv, row, rfl, hmv, hcv, -⟩ := hv
  have h21 := fun W h => check_c W (.agg #[mv, cv]) r h
  go_enter Try.func15, Try.ntmps15
  by_cases hc : r.check ≠ 0
  · have hT : Hid (r.TwinIs 0 0 r.check) := Lib.hid (.bad hc)
    have hcb : (r.check == 0) = false := beq_eq_false_iff_ne.2 hc
    go_wp2
    go_step3
    go_wp2_with (go_at_call 21; refine (h21 _ (Hv.out.mono (by (repeat (first | exact World.grows.refl _ | assumption | refine World.grows.alloc ?_ _ | refine World.grows.plus ?_ _ _ | refine World.grows.drew ?_))))).mono ?_; rintro e w' ⟨rfl, hg⟩; obtain ⟨n2, x2, rfl⟩ := World.plus_of hg)
    dsimp only [Exit.noGoto]
    (refine bodyPost_ret (v := .tuple #[.int .i64 0, .int .i64 0, .int .i64 r.check]) (by simp [results, Try.results15, go_sem]) rfl ?_)
    exact ⟨_, _, _, rfl, hT.out, by (repeat (first | exact World.grows.refl _ | assumption | refine World.grows.alloc ?_ _ | refine World.grows.plus ?_ _ _ | refine World.grows.drew ?_))⟩
  replace hc : r.check = 0 := Classical.not_not.1 hc
  rw [hc] at h21
  have Hc := Lib.hid hc
  have hm10 := (Reg.ok_of hc).m10
  have Hok := Lib.hid (Hv.out.ok (Reg.ok_of hc))
  obtain ⟨mb, mo, mc, cb, co, cc, rb, ro, rc, he, hm1, hm2, hc1, hc2, hR⟩ := Hok.out
  simp only [Value.agg.injEq, Array.mk.injEq, List.cons.injEq, and_true] at he
  obtain ⟨rfl, rfl⟩ := he
  have HR := Lib.hid hR
  unfold maxLen at hm2 hc2
  clear hc hR hmv hcv
  go_wp2
  go_step3
  go_wp2_with (go_at_call 21; refine (h21 _ (Hv.out.mono (by (repeat (first | exact World.grows.refl _ | assumption | refine World.grows.alloc ?_ _ | refine World.grows.plus ?_ _ _ | refine World.grows.drew ?_))))).mono ?_; rintro e w' ⟨rfl, hg⟩; obtain ⟨n2, x2, rfl⟩ := World.plus_of hg)
  go_step3
  go_wp2
  have h50 := fun W a b h1 h2 => equal_c W (.slice (some ⟨rb a, ro a, none⟩) r.nc (rc a)) (.slice (some ⟨rb b, ro b, none⟩) r.nc (rc b)) r.nc r.nc (r.val a) (r.val b) h1 h2
  have hi := Lib.hid fun a (ha : a < r.nm) => HR.out.ints ha
  clear h21 Hv
  go_loopw [6, 7, 20] (fun o t i wr => ∃ a : Nat, a ≤ r.nm ∧ i = .int .i64 a ∧ o = .int .i64 0 ∧ t = .int .i64 0 ∧ Hid (∀ x, x < a → ∀ y, x < y → y < r.nm → r.twin x y = false) ∧ ((w.alloc (.cells #[.slice (some ⟨mb, mo, none⟩) r.nm mc, .slice (some ⟨cb, co, none⟩) r.nc cc] 25))).grows wr) (fun _ _ i _ => r.nm - (intOf i).toNat)
  case atStart => exact ⟨0, by omega, rfl, rfl, rfl, Lib.hid fun j hj => by omega, by (repeat (first | exact World.grows.refl _ | assumption | refine World.grows.alloc ?_ _ | refine World.grows.plus ?_ _ _ | refine World.grows.drew ?_))⟩
  case round =>
    obtain ⟨a, ha, rfl, rfl, rfl, hl, hg⟩ := hrel
    obtain ⟨n1, x1, rfl⟩ := World.plus_of hg
    by_cases hlt : a < r.nm
    · have h1 := HR.out.who a hlt
      have k1 := HR.out.row a hlt
      go_wp2
      go_loopw [6, 7, 10] (fun o t i wr => ∃ b : Nat, a < b ∧ b ≤ r.nm ∧ i = .int .i64 b ∧ o = .int .i64 0 ∧ t = .int .i64 0 ∧ Hid (∀ y, y < b → a < y → r.twin a y = false) ∧ ((((w.alloc (.cells #[.slice (some ⟨mb, mo, none⟩) r.nm mc, .slice (some ⟨cb, co, none⟩) r.nc cc] 25))).plus n1 x1).alloc (.cells #[.int .i64 (r.who a), .slice (some ⟨rb a, ro a, none⟩) r.nc (rc a)] 65)).grows wr) (fun _ _ i _ => r.nm - (intOf i).toNat)
      case atStart => exact ⟨a + 1, by omega, by omega, rfl, rfl, rfl, Lib.hid fun j hj => by omega, by (repeat (first | exact World.grows.refl _ | assumption | refine World.grows.alloc ?_ _ | refine World.grows.plus ?_ _ _ | refine World.grows.drew ?_))⟩
      case round =>
        obtain ⟨b, hab, hb, rfl, rfl, rfl, hl2, hg2⟩ := hrel
        obtain ⟨n3, x3, rfl⟩ := World.plus_of hg2
        by_cases hlt2 : b < r.nm
        · have h2 := HR.out.who b hlt2
          have k2 := HR.out.row b hlt2
          have h5 := fun W h1 h2 => h50 W a b h1 h2
          have htw := r.twin_eqL a b
          by_cases hw : r.who a = r.who b
          · have hnx := Lib.hid (upto_succ hl2.out (fun _ => Reg.twin_who hw))
            rw [← hw] at h2
            clear hw htw h50
            go_wp2
            go_roundw
            case rel => exact ⟨b + 1, by omega, by omega, by go_num, rfl, rfl, hnx, by (repeat (first | exact World.grows.refl _ | assumption | refine World.grows.alloc ?_ _ | refine World.grows.plus ?_ _ _ | refine World.grows.drew ?_))⟩
            case measure => simp [intOf]; omega
          · have hwb : (r.who a == r.who b) = false := beq_eq_false_iff_ne.2 hw
            cases he : eqL (r.val a) (r.val b) r.nc with
            | false =>
              have hnx := Lib.hid (upto_succ hl2.out (fun _ => by rw [htw, he]; simp))
              simp only [he, decide_true, Bool.and_false] at h5
              clear htw h50 he
              go_wp2_with (go_at_call 50; refine (h5 _ ((hi.out a hlt).mono (by (repeat (first | exact World.grows.refl _ | assumption | refine World.grows.alloc ?_ _ | refine World.grows.plus ?_ _ _ | refine World.grows.drew ?_)))) ((hi.out b hlt2).mono (by (repeat (first | exact World.grows.refl _ | assumption | refine World.grows.alloc ?_ _ | refine World.grows.plus ?_ _ _ | refine World.grows.drew ?_))))).mono ?_; rintro e w' ⟨rfl, hg⟩; obtain ⟨n4, x4, rfl⟩ := World.plus_of hg)
              go_roundw
              case rel => exact ⟨b + 1, by omega, by omega, by go_num, rfl, rfl, hnx, by (repeat (first | exact World.grows.refl _ | assumption | refine World.grows.alloc ?_ _ | refine World.grows.plus ?_ _ _ | refine World.grows.drew ?_))⟩
              case measure => simp [intOf]; omega
            | true =>
              have ht : r.twin a b = true := by rw [htw, he]; simp [hw]
              have hT : Hid (r.TwinIs a b 0) := Lib.hid (.some a b Hc.out ⟨hab, hlt2, ht, fun i' k' h1 h2 h3 => hl.out i' h1 k' h2 h3, fun k' h1 h2 => hl2.out k' h2 h1⟩)
              have hb0 : ((b : Int) == 0) = false := beq_eq_false_iff_ne.2 (by omega)
              have hb0' : ¬ (b : Int) = 0 := by omega
              have hb0'' : ¬ b = 0 := by omega
              simp only [he, decide_true, Bool.and_true] at h5
              clear htw h50 he ht
              go_wp2_with (go_at_call 50; refine (h5 _ ((hi.out a hlt).mono (by (repeat (first | exact World.grows.refl _ | assumption | refine World.grows.alloc ?_ _ | refine World.grows.plus ?_ _ _ | refine World.grows.drew ?_)))) ((hi.out b hlt2).mono (by (repeat (first | exact World.grows.refl _ | assumption | refine World.grows.alloc ?_ _ | refine World.grows.plus ?_ _ _ | refine World.grows.drew ?_))))).mono ?_; rintro e w' ⟨rfl, hg⟩; obtain ⟨n4, x4, rfl⟩ := World.plus_of hg)
              dsimp only [Exit.noGoto]
              (refine bodyPost_ret (v := .tuple #[.int .i64 a, .int .i64 b, .int .i64 0]) (by simp [results, Try.results15, go_sem]) rfl ?_)
              exact ⟨_, _, _, rfl, hT.out, by (repeat (first | exact World.grows.refl _ | assumption | refine World.grows.alloc ?_ _ | refine World.grows.plus ?_ _ _ | refine World.grows.drew ?_))⟩
        · have hbe : b = r.nm := by omega
          have hnx := Lib.hid (upto_succ hl.out (fun y h1 h2 => hl2.out y (by omega) h1))
          subst hbe
          go_wp2
          go_roundw
          case rel => exact ⟨a + 1, by omega, by go_num, rfl, rfl, hnx, by (repeat (first | exact World.grows.refl _ | assumption | refine World.grows.alloc ?_ _ | refine World.grows.plus ?_ _ _ | refine World.grows.drew ?_))⟩
          case measure => simp [intOf]; omega
    · have hae : a = r.nm := by omega
      have hT : Hid (r.TwinIs 0 0 5) := Lib.hid (.none Hc.out fun i k h1 h2 => hl.out i (by omega) k h1 h2)
      subst hae
      go_wp2
      (refine bodyPost_ret (v := .tuple #[.int .i64 0, .int .i64 0, .int .i64 5]) (by simp [results, Try.results15, go_sem]) rfl ?_)
      exact ⟨_, _, _, rfl, hT.out, by (repeat (first | exact World.grows.refl _ | assumption | refine World.grows.alloc ?_ _ | refine World.grows.plus ?_ _ _ | refine World.grows.drew ?_))⟩
end Go.Proofs.Ytdminglglapnlaa

