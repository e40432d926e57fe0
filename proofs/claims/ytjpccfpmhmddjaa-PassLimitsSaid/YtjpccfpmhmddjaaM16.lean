/-
  What is proved: long and twice of the law.
-/
import Derived.Test.YtjpccfpmhmddjaaM12
set_option linter.all false
namespace Go.Proofs.Ytjpccfpmhmddjaa
open Go.RowKit
attribute [local irreducible] Go.wpCalm

theorem beq_int (a b : Int) : (a == b) = decide (a = b) := rfl
theorem beq_nat (a b : Nat) : ((a : Int) == (b : Int)) = decide (a = b) := by
  by_cases h : a = b
  · simp [h]
  · have : ¬ (a : Int) = b := fun e => h (by omega)
    simp [h, this]
def someBool (e : Ending) : Prop := ∃ b, e = .returned (.bool b)
set_option maxHeartbeats 2000000 in
theorem long_c' (w : World) (lv : Value) (m : Nat) (ln : Nat → Nat) (f : Nat → Nat → Int) (hl : RowsOf w lv m ln f) :
    Calls Try.prog 29 #[lv] w fun e w' => someBool e ∧ w.grows w' := by
  obtain ⟨row, ⟨a, cap, rfl, hc1, hc2, hc⟩, hi⟩ := hl
  unfold maxLen at hc2
  have Hc := Lib.hid hc
  have Hi := Lib.hid hi
  clear hc hi
  go_enter Try.func29, Try.ntmps29
  by_cases h1 : 250 < m
  · by_cases h2 : m ≤ 4096
    · go_wp2
      go_ret
      exact ⟨⟨true, rfl⟩, by (repeat (first | exact World.grows.refl _ | assumption | refine World.grows.alloc ?_ _ | refine World.grows.plus ?_ _ _ | refine World.grows.drew ?_))⟩
    · by_cases h3 : 4100 < m
      · go_wp2
        go_ret
        exact ⟨⟨true, rfl⟩, by (repeat (first | exact World.grows.refl _ | assumption | refine World.grows.alloc ?_ _ | refine World.grows.plus ?_ _ _ | refine World.grows.drew ?_))⟩
      · go_wp2
        go_loopw [3] (fun i wr => ∃ k : Nat, k ≤ m ∧ i = .int .i64 k ∧ w.grows wr) (fun i _ => m - (intOf i).toNat)
        case atStart => exact ⟨0, by omega, rfl, by (repeat (first | exact World.grows.refl _ | assumption | refine World.grows.alloc ?_ _ | refine World.grows.plus ?_ _ _ | refine World.grows.drew ?_))⟩
        case round =>
          obtain ⟨k, hk, rfl, hg⟩ := hrel
          by_cases hlt : k < m
          · obtain ⟨b, o, rfl, h0⟩ := Hc.out k 0 hlt (by omega)
            obtain ⟨ra, rcap, hrow, hr1, hr2, -⟩ := Hi.out k hlt
            rw [hrow] at h0
            unfold maxLen at hr2
            replace h0 := hg.cell_of h0
            simp only [Nat.mul_one, Nat.add_zero] at h0
            by_cases h4 : 10 < ln k
            · go_wp2
              go_ret
              exact ⟨⟨true, rfl⟩, hg.trans (by (repeat (first | exact World.grows.refl _ | assumption | refine World.grows.alloc ?_ _ | refine World.grows.plus ?_ _ _ | refine World.grows.drew ?_)))⟩
            · go_wp2
              go_roundw
              case rel => exact ⟨k + 1, by omega, by go_num, hg.trans (by (repeat (first | exact World.grows.refl _ | assumption | refine World.grows.alloc ?_ _ | refine World.grows.plus ?_ _ _ | refine World.grows.drew ?_)))⟩
              case measure => simp [intOf] <;> omega
          · have hke : k = m := by omega
            subst hke
            go_wp2
            go_ret
            exact ⟨⟨false, rfl⟩, hg.trans (by (repeat (first | exact World.grows.refl _ | assumption | refine World.grows.alloc ?_ _ | refine World.grows.plus ?_ _ _ | refine World.grows.drew ?_)))⟩
  · by_cases h3 : 4100 < m
    · omega
    · go_wp2
      go_loopw [3] (fun i wr => ∃ k : Nat, k ≤ m ∧ i = .int .i64 k ∧ w.grows wr) (fun i _ => m - (intOf i).toNat)
      case atStart => exact ⟨0, by omega, rfl, by (repeat (first | exact World.grows.refl _ | assumption | refine World.grows.alloc ?_ _ | refine World.grows.plus ?_ _ _ | refine World.grows.drew ?_))⟩
      case round =>
        obtain ⟨k, hk, rfl, hg⟩ := hrel
        by_cases hlt : k < m
        · obtain ⟨b, o, rfl, h0⟩ := Hc.out k 0 hlt (by omega)
          obtain ⟨ra, rcap, hrow, hr1, hr2, -⟩ := Hi.out k hlt
          rw [hrow] at h0
          unfold maxLen at hr2
          replace h0 := hg.cell_of h0
          simp only [Nat.mul_one, Nat.add_zero] at h0
          by_cases h4 : 10 < ln k
          · go_wp2
            go_ret
            exact ⟨⟨true, rfl⟩, hg.trans (by (repeat (first | exact World.grows.refl _ | assumption | refine World.grows.alloc ?_ _ | refine World.grows.plus ?_ _ _ | refine World.grows.drew ?_)))⟩
          · go_wp2
            go_roundw
            case rel => exact ⟨k + 1, by omega, by go_num, hg.trans (by (repeat (first | exact World.grows.refl _ | assumption | refine World.grows.alloc ?_ _ | refine World.grows.plus ?_ _ _ | refine World.grows.drew ?_)))⟩
            case measure => simp [intOf] <;> omega
        · have hke : k = m := by omega
          subst hke
          go_wp2
          go_ret
          exact ⟨⟨false, rfl⟩, hg.trans (by (repeat (first | exact World.grows.refl _ | assumption | refine World.grows.alloc ?_ _ | refine World.grows.plus ?_ _ _ | refine World.grows.drew ?_)))⟩

/-- are the first m numbers of two rows the same, and are these as long? -/
def sameB (ln : Nat → Nat) (f : Nat → Nat → Int) (i k m : Nat) : Bool := decide (ln i = ln k) && (List.range m).all fun j => decide (f i j = f k j)
theorem sameB_zero (ln : Nat → Nat) (f : Nat → Nat → Int) (i k : Nat) : sameB ln f i k 0 = decide (ln i = ln k) := by simp [sameB]
theorem sameB_succ (ln : Nat → Nat) (f : Nat → Nat → Int) (i k m : Nat) : sameB ln f i k (m + 1) = (sameB ln f i k m && decide (f i m = f k m)) := by
  unfold sameB
  rw [List.range_succ, List.all_append]
  simp [Bool.and_assoc]
theorem sameB_false {ln : Nat → Nat} {f : Nat → Nat → Int} {i k m m' : Nat} (h : sameB ln f i k m = false) (hm : m ≤ m') : sameB ln f i k m' = false := by
  unfold sameB at *
  rw [Bool.and_eq_false_iff] at *
  rcases h with h | h
  · exact .inl h
  · right
    rw [List.all_eq_false] at *
    obtain ⟨x, hx, hd⟩ := h
    exact ⟨x, List.mem_range.2 (by have := List.mem_range.1 hx; omega), hd⟩

set_option maxHeartbeats 4000000 in
theorem twice_c (w : World) (lv : Value) (m : Nat) (ln : Nat → Nat) (f : Nat → Nat → Int) (hl : RowsOf w lv m ln f) (hno : ∀ i k, i < m → k < i → sameB ln f i k (ln i) = false) :
    Calls Try.prog 33 #[lv] w fun e w' => e = .returned (.bool false) ∧ w.grows w' := by
  obtain ⟨row, ⟨a, cap, rfl, hc1, hc2, hc⟩, hi⟩ := hl
  unfold maxLen at hc2
  have Hc := Lib.hid hc
  have Hi := Lib.hid hi
  have Hno := Lib.hid hno
  clear hc hi hno
  go_enter Try.func33, Try.ntmps33
  go_wp2
  go_loopw [3] (fun i wr => ∃ k : Nat, k ≤ m ∧ i = .int .i64 k ∧ w.grows wr) (fun i _ => m - (intOf i).toNat)
  case atStart => exact ⟨0, by omega, rfl, by (repeat (first | exact World.grows.refl _ | assumption | refine World.grows.alloc ?_ _ | refine World.grows.plus ?_ _ _ | refine World.grows.drew ?_))⟩
  case round =>
    obtain ⟨i, hi, rfl, hg⟩ := hrel
    by_cases hlt : i < m
    · have Hg := Lib.hid hg
      clear hg
      go_wp2
      obtain ⟨W0, rfl⟩ : ∃ W0, W0 = wr := ⟨_, rfl⟩
      go_loopw [4] (fun i2 wr => ∃ k : Nat, k ≤ i ∧ i2 = .int .i64 k ∧ w.grows wr) (fun i2 _ => i - (intOf i2).toNat)
      case atStart => exact ⟨0, by omega, rfl, Hg.out.trans (by (repeat (first | exact World.grows.refl _ | assumption | refine World.grows.alloc ?_ _ | refine World.grows.plus ?_ _ _ | refine World.grows.drew ?_)))⟩
      case round =>
        obtain ⟨k, hk, rfl, hg⟩ := hrel
        by_cases hlt2 : k < i
        · obtain ⟨b, o, rfl, h0⟩ := Hc.out i 0 hlt (by omega)
          obtain ⟨_, _, he, h1⟩ := Hc.out k 0 (by omega) (by omega)
          cases he
          obtain ⟨ra, rcap, hrow, hr1, hr2, hrc⟩ := Hi.out i hlt
          obtain ⟨ra', rcap', hrow', hr1', hr2', hrc'⟩ := Hi.out k (by omega)
          rw [hrow] at h0
          rw [hrow'] at h1
          unfold maxLen at hr2 hr2'
          replace h0 := hg.cell_of h0
          replace h1 := hg.cell_of h1
          simp only [Nat.mul_one, Nat.add_zero] at h0 h1
          have hs0 := Lib.hid (sameB_zero ln f i k)
          have Hrc := Lib.hid hrc
          have Hrc' := Lib.hid hrc'
          have H0 := Lib.hid h0
          have H1 := Lib.hid h1
          have hki : k < m := by omega
          have Hgk := Lib.hid hg
          clear hrc hrc'
          go_wp2
          (refine wp_region_calm (by kernel_rfl) (by kernel_rfl) ?_; (repeat (refine wpCalm_step (fun K hK => ?_); go_simp; first | (refine hK _ ?_; clear hK K) | (apply Exists.intro; refine ⟨fun n' x' => ?_, hK _ ?_⟩; (fail); clear hK K))); refine wpCalm_nil ?_; intro nq xq)
          go_wp2
          have hg2 : wr.grows (wr.plus nq xq) := by (repeat (first | exact World.grows.refl _ | assumption | refine World.grows.alloc ?_ _ | refine World.grows.plus ?_ _ _ | refine World.grows.drew ?_))
          generalize wr.plus nq xq = W1 at hg2 ⊢
          replace H0 := Lib.hid (hg2.cell_of H0.out)
          replace H1 := Lib.hid (hg2.cell_of H1.out)
          replace Hgk := Lib.hid (Hgk.out.trans hg2)
          clear h0 h1 hg hg2
          have hkei : k < i := hlt2
          go_loopw [5, 6] (fun s j W => ∃ q : Nat, q ≤ ln i ∧ j = .int .i64 q ∧ s = .bool (sameB ln f i k q) ∧ Hid (W1.grows W)) (fun _ j _ => ln i - (intOf j).toNat)
          case atStart => exact ⟨0, by omega, rfl, by rw [hs0.out, beq_nat], Lib.hid (World.grows.refl _)⟩
          case round =>
            obtain ⟨q, hq, rfl, rfl, hgq⟩ := hrel
            have h0 := hgq.out.cell_of H0.out
            have h1 := hgq.out.cell_of H1.out
            by_cases hlt3 : q < ln i
            · cases hS : sameB ln f i k q with
              | false =>
                have HS := Lib.hid hS
                clear hS
                go_wp2
                go_roundw
                case rel => exact ⟨k + 1, by omega, by go_num, Hgk.out.trans (hgq.out.trans (by (repeat (first | exact World.grows.refl _ | assumption | refine World.grows.alloc ?_ _ | refine World.grows.plus ?_ _ _ | refine World.grows.drew ?_))))⟩
                case measure => change i - (intOf (Value.int IntKind.i64 ((k : Int) + 1))).toNat < i - (intOf (Value.int IntKind.i64 (k : Int))).toNat; simp [intOf] <;> omega
              | true =>
                have hlen : ln i = ln k := by
                  unfold sameB at hS
                  rw [Bool.and_eq_true] at hS
                  simpa using hS.1
                have HS := Lib.hid (sameB_succ ln f i k q)
                rw [hS, Bool.true_and] at HS
                obtain ⟨ab, ao, rfl, a0⟩ := Hrc.out q 0 hlt3 (by omega)
                obtain ⟨cb, co, rfl, c0⟩ := Hrc'.out q 0 (by omega) (by omega)
                simp only [Nat.mul_one, Nat.add_zero] at a0 c0
                replace a0 := hgq.out.cell_of (Hgk.out.cell_of a0)
                replace c0 := hgq.out.cell_of (Hgk.out.cell_of c0)
                have hqk : q < ln k := by omega
                clear hS hlen
                go_wp2
                (refine wp_region_calm (by kernel_rfl) (by kernel_rfl) ?_; (repeat (refine wpCalm_step (fun K hK => ?_); go_simp; first | (refine hK _ ?_; clear hK K) | (apply Exists.intro; refine ⟨fun n' x' => ?_, hK _ ?_⟩; (fail); clear hK K))); refine wpCalm_nil ?_; intro nq xq)
                go_wp2
                go_roundw
                case rel => exact ⟨q + 1, by omega, by go_num, by rw [HS.out, beq_int], Lib.hid (hgq.out.trans (by (repeat (first | exact World.grows.refl _ | assumption | refine World.grows.alloc ?_ _ | refine World.grows.plus ?_ _ _ | refine World.grows.drew ?_))))⟩
                case measure => change ln i - (intOf (Value.int IntKind.i64 ((q : Int) + 1))).toNat < ln i - (intOf (Value.int IntKind.i64 (q : Int))).toNat; simp [intOf] <;> omega
            · have hqe : q = ln i := by omega
              subst hqe
              rw [Hno.out i k hlt hkei]
              go_wp2
              go_roundw
              case rel => exact ⟨k + 1, by omega, by go_num, Hgk.out.trans (hgq.out.trans (by (repeat (first | exact World.grows.refl _ | assumption | refine World.grows.alloc ?_ _ | refine World.grows.plus ?_ _ _ | refine World.grows.drew ?_))))⟩
              case measure => change i - (intOf (Value.int IntKind.i64 ((k : Int) + 1))).toNat < i - (intOf (Value.int IntKind.i64 (k : Int))).toNat; simp [intOf] <;> omega
        · have hke : k = i := by omega
          subst hke
          go_wp2
          go_roundw
          case rel => exact ⟨k + 1, by omega, by go_num, hg.trans (by (repeat (first | exact World.grows.refl _ | assumption | refine World.grows.alloc ?_ _ | refine World.grows.plus ?_ _ _ | refine World.grows.drew ?_)))⟩
          case measure => change m - (intOf (Value.int IntKind.i64 ((k : Int) + 1))).toNat < m - (intOf (Value.int IntKind.i64 (k : Int))).toNat; simp [intOf] <;> omega
    · have hke : i = m := by omega
      subst hke
      go_wp2
      go_ret
      exact ⟨rfl, hg.trans (by (repeat (first | exact World.grows.refl _ | assumption | refine World.grows.alloc ?_ _ | refine World.grows.plus ?_ _ _ | refine World.grows.drew ?_)))⟩
end Go.Proofs.Ytjpccfpmhmddjaa

