/-
  What is proved: bits of sets, as the model's numbers have them.
-/
import Derived.Test.YtdminglglapnlaaM2
import Derived.Test.YtdminglglapnlaaM1
import Derived.Laws.BitsLemmas
import Derived.Test.YtdminglglapnlaaM3
import Derived.Test.YtdminglglapnlaaM5
set_option linter.all false
namespace Go.Proofs.Ytdminglglapnlaa

theorem wraps_i64 (n : Int) (h₀ : 0 ≤ n) (h₁ : n < 2 ^ 62) : IntKind.i64.wrap n = n := by rw [IntKind.wrap_i64]; omega
theorem shr_cast (s k : Nat) : ((s : Int) / 2 ^ k) = ((s / 2 ^ k : Nat) : Int) := by simp
theorem testBit_div (s k : Nat) : s / 2 ^ k % 2 = if s.testBit k = true then 1 else 0 := by
  rw [Nat.testBit_eq_decide_div_mod_eq]
  have := Nat.mod_two_eq_zero_or_one (s / 2 ^ k)
  rcases this with h | h <;> simp [h]
theorem and1 (x : Nat) (h : x < 2 ^ 62) : bits .and .i64 (x : Int) 1 = ((x % 2 : Nat) : Int) := by
  have h1 := bits_mask .i64 62 (by decide) wraps_i64 1 (by decide) (x : Int) (by omega) (by exact_mod_cast h)
  simpa using h1
theorem bit_and1 (s k : Nat) (hs : s < 2 ^ 62) : bits .and .i64 ((s : Int) / 2 ^ k) 1 = if s.testBit k = true then 1 else 0 := by
  rw [shr_cast, and1 _ (Nat.lt_of_le_of_lt (Nat.div_le_self _ _) hs), testBit_div]
  split <;> rfl
theorem bit_on {s k : Nat} (hs : s < 2 ^ 62) (h : s.testBit k = true) : bits .and .i64 ((s : Int) / 2 ^ k) 1 = 1 := by rw [bit_and1 s k hs, if_pos h]
theorem bit_off {s k : Nat} (hs : s < 2 ^ 62) (h : s.testBit k = false) : bits .and .i64 ((s : Int) / 2 ^ k) 1 = 0 := by rw [bit_and1 s k hs, if_neg (by rw [h]; decide)]
theorem or_nat (a b : Nat) (ha : a < 2 ^ 62) (hb : b < 2 ^ 62) : bits .or .i64 (a : Int) (b : Int) = ((a ||| b : Nat) : Int) := (bits_nat .i64 62 (by decide) wraps_i64 a b ha hb).2
theorem shr_pos {s k : Nat} (h : 2 ^ k ≤ s) : (0 : Int) < (s : Int) / 2 ^ k := by
  rw [shr_cast]
  have := Nat.div_pos h (Nat.two_pow_pos k)
  omega
theorem shr_zero {s k : Nat} (h : s < 2 ^ k) : (s : Int) / 2 ^ k = 0 := by
  rw [shr_cast, Nat.div_eq_of_lt h]; rfl
theorem two_pow_cast (k : Nat) : ((2 : Int) ^ k) = ((2 ^ k : Nat) : Int) := by simp
end Go.Proofs.Ytdminglglapnlaa

/-
  What is proved: parts of sets in the reference (77), whether a feature parts them (76), whether they have different makers (75).
-/
namespace Go.Proofs.Ytdminglglapnlaa
open Go.RowKit
attribute [local irreducible] Go.wpCalm

theorem wrap64_own (n : Int) (h : -9223372036854775808 ≤ n ∧ n ≤ 9223372036854775807) : wrap64 n = n := by unfold wrap64; omega
theorem wrap_pow {k : Nat} (h : k ≤ 20) : wrap64 ((2 : Int) ^ k) = (2 : Int) ^ k := by
  have h1 : (2 : Nat) ^ k ≤ 2 ^ 20 := Nat.pow_le_pow_right (by omega) h
  have h2 : (2 : Int) ^ k = ((2 ^ k : Nat) : Int) := two_pow_cast k
  rw [h2]
  exact wrap64_own _ (by have : ((2 ^ k : Nat) : Int) ≤ ((2 ^ 20 : Nat) : Int) := by exact_mod_cast h1
                         have : (0 : Int) ≤ ((2 ^ k : Nat) : Int) := Int.natCast_nonneg _
                         have : ((2 ^ 20 : Nat) : Int) = 1048576 := by decide
                         omega)

set_option maxHeartbeats 1000000 in
theorem rpart_c (w : World) (r : Reg) (mb mo mc cb co cc : Nat) (rb ro rc : Nat → Nat) (hR : RegIn w mb mo cb co rb ro rc r) (hmc : r.nm ≤ mc ∧ mc ≤ maxLen) (hn : r.nm ≤ 10) (s f : Nat) (hs : s < 2 ^ 62) (hf : f < r.nc) (v : Int) :
    Calls Try.prog 77 #[.agg #[.slice (some ⟨mb, mo, none⟩) r.nm mc, .slice (some ⟨cb, co, none⟩) r.nc cc], .int .i64 s, .int .i64 f, .int .i64 v] w fun e w' => e = .returned (.int .i64 (r.part s f v)) ∧ w.grows w' := by
  obtain ⟨hmc1, hmc2⟩ := hmc
  unfold maxLen at hmc2
  have HR := Lib.hid hR
  clear hR
  unfold Reg.part
  obtain ⟨q, hq⟩ : ∃ q : Nat → Bool, (fun m => s.testBit m && decide (r.val m f = v)) = q := ⟨_, rfl⟩
  rw [hq]
  have hqm : ∀ m, q m = (s.testBit m && decide (r.val m f = v)) := fun m => by rw [← hq]
  have Hqm := Lib.hid hqm
  clear hqm hq
  go_enter Try.func77, Try.ntmps77
  go_wp2
  go_loop [9, 10] (fun o i => ∃ k : Nat, k ≤ r.nm ∧ i = .int .i64 k ∧ o = .int .i64 (setTo q k : Nat)) (fun _ i => r.nm - (intOf i).toNat)
  case atStart => exact ⟨0, by omega, rfl, rfl⟩
  case round =>
    obtain ⟨k, hk, rfl, rfl⟩ := hrel
    by_cases hlt : k < r.nm
    · have h1 := HR.out.row k hlt
      have h2 := HR.out.val k f hlt hf
      obtain ⟨c1, c2⟩ := HR.out.cap k hlt
      unfold maxLen at c2
      have hqk := Hqm.out k
      cases hb : s.testBit k with
      | true =>
        have hb1 := bit_on hs hb
        have hs2 := setTo_lt q k
        have hp : (2 : Nat) ^ k ≤ 2 ^ 10 := Nat.pow_le_pow_right (by omega) (by omega)
        have hwp := wrap_pow (k := k) (by omega)
        have hpc := two_pow_cast k
        obtain ⟨T, hT⟩ : ∃ T, setTo q k = T := ⟨_, rfl⟩
        obtain ⟨Pw, hP⟩ : ∃ Pw : Nat, 2 ^ k = Pw := ⟨_, rfl⟩
        by_cases hv : r.val k f = v
        · have hst : Hid (setTo q (k + 1) = T + Pw) := Lib.hid (by simp only [setTo]; rw [if_pos (by rw [hqk, hb, hv]; simp), hT, hP])
          rw [hT, hP] at hs2
          rw [hP] at hp hpc
          rw [hT]
          rw [hpc] at hwp hb1
          have hvb : (r.val k f == v) = true := by simp [hv]
          clear hT hP hqk hv
          go_wp2
          go_roundw
          case rel => exact ⟨k + 1, by omega, by go_num, by rw [hst.out]; simp⟩
          case measure => simp [intOf]; omega
        · have hst : Hid (setTo q (k + 1) = setTo q k) := Lib.hid (by simp only [setTo]; rw [if_neg (by rw [hqk]; simp [hv])]; rfl)
          have hvb : (r.val k f == v) = false := by simp [hv]
          clear hqk hpc hwp hP hT hp hs2 hv
          go_wp2
          go_roundw
          case rel => exact ⟨k + 1, by omega, by go_num, by rw [hst.out]⟩
          case measure => simp [intOf]; omega
      | false =>
        have hb1 := bit_off hs hb
        have hst : Hid (setTo q (k + 1) = setTo q k) := Lib.hid (by simp only [setTo]; rw [if_neg (by rw [hqk]; simp [hb])]; rfl)
        clear hqk
        go_wp2
        go_roundw
        case rel => exact ⟨k + 1, by omega, by go_num, by rw [hst.out]⟩
        case measure => simp [intOf]; omega
    · have hke : k = r.nm := by omega
      subst hke
      go_wp2
      go_ret
      exact ⟨rfl, by (repeat (first | exact World.grows.refl _ | assumption | refine World.grows.alloc ?_ _ | refine World.grows.plus ?_ _ _ | refine World.grows.drew ?_))⟩

end Go.Proofs.Ytdminglglapnlaa

/-
  What is proved: parts of sets by any register's value (77), whether marks have different makers (75), whether a feature parts them (76), all in the reference.
-/
namespace Go.Proofs.Ytdminglglapnlaa
open Go.RowKit
attribute [local irreducible] Go.wpCalm

theorem part77 (w : World) (v : Value) (r : Reg) (hv : RegOk w v r) (hr : r.Ok) (s f : Nat) (hs : s < 2 ^ 62) (hf : f < r.nc) (x : Int) :
    Calls Try.prog 77 #[v, .int .i64 s, .int .i64 f, .int .i64 x] w fun e w' => e = .returned (.int .i64 (r.part s f x)) ∧ w.grows w' := by
  obtain ⟨mb, mo, mc, cb, co, cc, rb, ro, rc, rfl, h2, h3, h4, h5, h6⟩ := hv
  exact rpart_c w r mb mo mc cb co cc rb ro rc h6 ⟨h2, h3⟩ hr.m10 s f hs hf x

def Reg.dif (r : Reg) (s a b : Nat) : Bool := s.testBit a && s.testBit b && decide (r.who a ≠ r.who b)
theorem Reg.mixed_dif {r : Reg} {s a b : Nat} (ha : a < r.nm) (hb : b < r.nm) (h : r.dif s a b = true) : r.mixed s = true := by
  unfold Reg.dif at h
  simp only [Bool.and_eq_true, decide_eq_true_eq] at h
  exact (r.mixed_iff s).2 ⟨a, b, ha, hb, h.1.1, h.1.2, h.2⟩
theorem Reg.mixed_no {r : Reg} {s : Nat} (h : ∀ a, a < r.nm → ∀ b, b < a → r.dif s a b = false) : r.mixed s = false := by
  cases hm : r.mixed s with
  | false => rfl
  | true =>
    obtain ⟨a, b, ha, hb, h1, h2, h3⟩ := (r.mixed_iff s).1 hm
    rcases Nat.lt_trichotomy a b with hl | hl | hl
    · have := h b hb a hl
      unfold Reg.dif at this
      rw [h1, h2] at this
      simp at this
      exact absurd this.symm h3
    · subst hl; exact absurd rfl h3
    · have := h a ha b hl
      unfold Reg.dif at this
      rw [h1, h2] at this
      simp at this
      exact absurd this h3

set_option maxHeartbeats 2000000 in
theorem makers_c (w : World) (v : Value) (r : Reg) (hv : RegOk w v r) (hr : r.Ok) (s : Nat) (hs : s < 2 ^ 62) :
    Calls Try.prog 75 #[v, .int .i64 s] w fun e w' => e = .returned (.bool (r.mixed s)) ∧ w.grows w' := by
  obtain ⟨mb, mo, mc, cb, co, cc, rb, ro, rc, rfl, hm1, hm2, hc1, hc2, hR⟩ := hv
  have HR := Lib.hid hR
  have hm10 := hr.m10
  unfold maxLen at hm2 hc2
  clear hR hr
  go_enter Try.func75, Try.ntmps75
  go_wp2
  go_loopw [5] (fun i wr => ∃ a : Nat, a ≤ r.nm ∧ i = .int .i64 a ∧ Hid (∀ x, x < a → ∀ y, y < x → r.dif s x y = false) ∧ (w.alloc (.cells #[.slice (some ⟨mb, mo, none⟩) r.nm mc, .slice (some ⟨cb, co, none⟩) r.nc cc] 25)).grows wr) (fun i _ => r.nm - (intOf i).toNat)
  case atStart => exact ⟨0, by omega, rfl, Lib.hid fun j hj => by omega, by (repeat (first | exact World.grows.refl _ | assumption | refine World.grows.alloc ?_ _ | refine World.grows.plus ?_ _ _ | refine World.grows.drew ?_))⟩
  case round =>
    obtain ⟨a, ha, rfl, hl, hg⟩ := hrel
    obtain ⟨n1, x1, rfl⟩ := World.plus_of hg
    by_cases hlt : a < r.nm
    · have h1 := HR.out.who a hlt
      go_wp2
      go_loopw [6] (fun i wr => ∃ b : Nat, b ≤ a ∧ i = .int .i64 b ∧ Hid (∀ y, y < b → r.dif s a y = false) ∧ (w.alloc (.cells #[.slice (some ⟨mb, mo, none⟩) r.nm mc, .slice (some ⟨cb, co, none⟩) r.nc cc] 25)).grows wr) (fun i _ => a - (intOf i).toNat)
      case atStart => exact ⟨0, by omega, rfl, Lib.hid fun j hj => by omega, by (repeat (first | exact World.grows.refl _ | assumption | refine World.grows.alloc ?_ _ | refine World.grows.plus ?_ _ _ | refine World.grows.drew ?_))⟩
      case round =>
        obtain ⟨b, hb, rfl, hl2, hg2⟩ := hrel
        obtain ⟨n2, x2, rfl⟩ := World.plus_of hg2
        by_cases hlt2 : b < a
        · have hbm : b < r.nm := by omega
          have h2 := HR.out.who b hbm
          have next : r.dif s a b = false → Hid (∀ y, y < b + 1 → r.dif s a y = false) := fun h => Lib.hid (upto_succ hl2.out h)
          cases hba : s.testBit a with
          | false =>
            have hnx := next (by simp [Reg.dif, hba])
            have hb1 := bit_off hs hba
            clear hba next
            go_wp2
            (refine wp_region_calm (by kernel_rfl) (by kernel_rfl) ?_; (repeat (refine wpCalm_step (fun K hK => ?_); go_simp; first | (refine hK _ ?_; clear hK K) | (apply Exists.intro; refine ⟨fun n' x' => ?_, hK _ ?_⟩; (fail); clear hK K))); refine wpCalm_nil ?_; intro nq xq)
            go_wp2
            go_roundw
            case rel => exact ⟨b + 1, by omega, by go_num, hnx, by (repeat (first | exact World.grows.refl _ | assumption | refine World.grows.alloc ?_ _ | refine World.grows.plus ?_ _ _ | refine World.grows.drew ?_))⟩
            case measure => simp [intOf]; omega
          | true =>
            have hb1 := bit_on hs hba
            cases hbb : s.testBit b with
            | false =>
              have hnx := next (by simp [Reg.dif, hbb])
              have hb2 := bit_off hs hbb
              clear hba hbb next
              go_wp2
              (refine wp_region_calm (by kernel_rfl) (by kernel_rfl) ?_; (repeat (refine wpCalm_step (fun K hK => ?_); go_simp; first | (refine hK _ ?_; clear hK K) | (apply Exists.intro; refine ⟨fun n' x' => ?_, hK _ ?_⟩; (fail); clear hK K))); refine wpCalm_nil ?_; intro nq xq)
              go_wp2
              go_roundw
              case rel => exact ⟨b + 1, by omega, by go_num, hnx, by (repeat (first | exact World.grows.refl _ | assumption | refine World.grows.alloc ?_ _ | refine World.grows.plus ?_ _ _ | refine World.grows.drew ?_))⟩
              case measure => simp [intOf]; omega
            | true =>
              have hb2 := bit_on hs hbb
              by_cases hw : r.who a = r.who b
              · have hnx := next (by simp [Reg.dif, hw])
                have hwb : (r.who a == r.who b) = true := by simp [hw]
                clear hba hbb next hw
                go_wp2
                (refine wp_region_calm (by kernel_rfl) (by kernel_rfl) ?_; (repeat (refine wpCalm_step (fun K hK => ?_); go_simp; first | (refine hK _ ?_; clear hK K) | (apply Exists.intro; refine ⟨fun n' x' => ?_, hK _ ?_⟩; (fail); clear hK K))); refine wpCalm_nil ?_; intro nq xq)
                go_wp2
                go_roundw
                case rel => exact ⟨b + 1, by omega, by go_num, hnx, by (repeat (first | exact World.grows.refl _ | assumption | refine World.grows.alloc ?_ _ | refine World.grows.plus ?_ _ _ | refine World.grows.drew ?_))⟩
                case measure => simp [intOf]; omega
              · have hmx := Lib.hid (Reg.mixed_dif (s := s) hlt hbm (by simp [Reg.dif, hba, hbb, hw]))
                have hwb : (r.who a == r.who b) = false := by simp [hw]
                clear hba hbb next hw
                go_wp2
                (refine wp_region_calm (by kernel_rfl) (by kernel_rfl) ?_; (repeat (refine wpCalm_step (fun K hK => ?_); go_simp; first | (refine hK _ ?_; clear hK K) | (apply Exists.intro; refine ⟨fun n' x' => ?_, hK _ ?_⟩; (fail); clear hK K))); refine wpCalm_nil ?_; intro nq xq)
                go_wp2
                (refine bodyPost_ret (v := .bool true) (by simp [results, Try.results75, go_sem]) rfl ?_)
                exact ⟨by rw [hmx.out], by (repeat (first | exact World.grows.refl _ | assumption | refine World.grows.alloc ?_ _ | refine World.grows.plus ?_ _ _ | refine World.grows.drew ?_))⟩
        · have hbe : b = a := by omega
          subst hbe
          go_wp2
          go_roundw
          case rel => exact ⟨b + 1, by omega, by go_num, Lib.hid (upto_succ hl.out hl2.out), by (repeat (first | exact World.grows.refl _ | assumption | refine World.grows.alloc ?_ _ | refine World.grows.plus ?_ _ _ | refine World.grows.drew ?_))⟩
          case measure => simp [intOf]; omega
    · have hae : a = r.nm := by omega
      have hmx := Lib.hid (Reg.mixed_no (s := s) (r := r) (by rw [← hae]; exact hl.out))
      subst hae
      go_wp2
      (refine bodyPost_ret (v := .bool false) (by simp [results, Try.results75, go_sem]) rfl ?_)
      exact ⟨by rw [hmx.out], by (repeat (first | exact World.grows.refl _ | assumption | refine World.grows.alloc ?_ _ | refine World.grows.plus ?_ _ _ | refine World.grows.drew ?_))⟩

theorem Reg.parted_no {r : Reg} {s f k : Nat} (hk : k < 10) (h : r.part s f (k : Nat) = s) : r.parted s f = false := by
  cases hp : r.parted s f with
  | false => rfl
  | true => exact absurd h ((r.parted_iff s f).1 hp k hk)

set_option maxHeartbeats 1000000 in
theorem rparts_c (w : World) (v : Value) (r : Reg) (hv : RegOk w v r) (hr : r.Ok) (s f : Nat) (hs : s < 2 ^ 62) (hf : f < r.nc) :
    Calls Try.prog 76 #[v, .int .i64 s, .int .i64 f] w fun e w' => e = .returned (.bool (r.parted s f)) ∧ w.grows w' := by
  have Hv := Lib.hid hv
  obtain ⟨mb, mo, mc, cb, co, cc, rb, ro, rc, rfl, -⟩ := hv
  have h77 := fun W h x => part77 W (.agg #[.slice (some ⟨mb, mo, none⟩) r.nm mc, .slice (some ⟨cb, co, none⟩) r.nc cc]) r h hr s f hs hf x
  go_enter Try.func76, Try.ntmps76
  go_wp2
  go_loopw [7] (fun i wr => ∃ k : Nat, k ≤ 10 ∧ i = .int .i64 k ∧ Hid (∀ x, x < k → r.part s f (x : Nat) ≠ s) ∧ (w.alloc (.cells #[.slice (some ⟨mb, mo, none⟩) r.nm mc, .slice (some ⟨cb, co, none⟩) r.nc cc] 25)).grows wr) (fun i _ => 10 - (intOf i).toNat)
  case atStart => exact ⟨0, by omega, rfl, Lib.hid fun j hj => by omega, by (repeat (first | exact World.grows.refl _ | assumption | refine World.grows.alloc ?_ _ | refine World.grows.plus ?_ _ _ | refine World.grows.drew ?_))⟩
  case round =>
    obtain ⟨k, hk, rfl, hl, hg⟩ := hrel
    obtain ⟨n1, x1, rfl⟩ := World.plus_of hg
    by_cases hlt : k < 10
    · by_cases he : r.part s f (k : Nat) = s
      · have hp := Lib.hid (Reg.parted_no hlt he)
        have h7 := fun W h => h77 W h (k : Nat)
        rw [he] at h7
        clear he h77
        go_wp2_with (go_at_call 77; refine (h7 _ (Hv.out.mono (by (repeat (first | exact World.grows.refl _ | assumption | refine World.grows.alloc ?_ _ | refine World.grows.plus ?_ _ _ | refine World.grows.drew ?_))))).mono ?_; rintro e w' ⟨rfl, hg2⟩; obtain ⟨n2, x2, rfl⟩ := World.plus_of hg2)
        (refine bodyPost_ret (v := .bool false) (by simp [results, Try.results76, go_sem]) rfl ?_)
        exact ⟨by rw [hp.out], by (repeat (first | exact World.grows.refl _ | assumption | refine World.grows.alloc ?_ _ | refine World.grows.plus ?_ _ _ | refine World.grows.drew ?_))⟩
      · have hnx : Hid (∀ x, x < k + 1 → r.part s f (x : Nat) ≠ s) := Lib.hid (upto_succ hl.out he)
        have hne : ((r.part s f (k : Nat) : Nat) : Int) ≠ (s : Int) := by omega
        have hnb : (((r.part s f (k : Nat) : Nat) : Int) == (s : Int)) = false := beq_eq_false_iff_ne.2 hne
        clear he
        go_wp2_with (go_at_call 77; refine (h77 _ (Hv.out.mono (by (repeat (first | exact World.grows.refl _ | assumption | refine World.grows.alloc ?_ _ | refine World.grows.plus ?_ _ _ | refine World.grows.drew ?_)))) _).mono ?_; rintro e w' ⟨rfl, hg2⟩; obtain ⟨n2, x2, rfl⟩ := World.plus_of hg2)
        go_roundw
        case rel => exact ⟨k + 1, by omega, by go_num, hnx, by (repeat (first | exact World.grows.refl _ | assumption | refine World.grows.alloc ?_ _ | refine World.grows.plus ?_ _ _ | refine World.grows.drew ?_))⟩
        case measure => simp [intOf]; omega
    · have hke : k = 10 := by omega
      have hp := Lib.hid ((r.parted_iff s f).2 (by rw [← hke]; exact hl.out))
      subst hke
      go_wp2
      (refine bodyPost_ret (v := .bool true) (by simp [results, Try.results76, go_sem]) rfl ?_)
      exact ⟨by rw [hp.out], by (repeat (first | exact World.grows.refl _ | assumption | refine World.grows.alloc ?_ _ | refine World.grows.plus ?_ _ _ | refine World.grows.drew ?_))⟩
end Go.Proofs.Ytdminglglapnlaa

/-
  What is proved: what features cost, in the reference (56); Follow (18) and CheckTree (20) of the reference.
-/
namespace Go.Proofs.Ytdminglglapnlaa
open Go.RowKit
attribute [local irreducible] Go.wpCalm

theorem take_snoc (L : List Nat) {k : Nat} (h : k < L.length) : L.take (k + 1) = L.take k ++ [L.getD k 0] := by
  rw [List.take_add_one, List.getElem?_eq_getElem h]
  simp [h]
theorem getD_mem {L : List Nat} {k : Nat} (h : k < L.length) : L.getD k 0 ∈ L := by
  simp [h]

set_option maxHeartbeats 1000000 in
theorem rcost_c (w : World) (mv : Value) (r : Reg) (cb co cc : Nat) (hcc : r.nc ≤ cc ∧ cc ≤ maxLen) (hcb : ∀ f, f < r.nc → 1 ≤ r.cost f ∧ r.cost f ≤ 1000)
    (hc : ∀ f : Nat, f < r.nc → w.cell? ⟨cb, co + f, none⟩ = some (.int .i64 (r.cost f))) (lv : Value) (L : List Nat) (hL : ListAt w lv L) (hl : ∀ f ∈ L, f < r.nc) (h100 : L.length ≤ 1000) :
    Calls Try.prog 56 #[.agg #[mv, .slice (some ⟨cb, co, none⟩) r.nc cc], lv] w fun e w' => e = .returned (.int .i64 (costSum r.cost L)) ∧ w.grows w' := by
  obtain ⟨la, lc, rfl, h1, h2, hL⟩ := hL
  obtain ⟨hcc1, hcc2⟩ := hcc
  unfold maxLen at h2 hcc2
  have Hc := Lib.hid hc
  have Hcb := Lib.hid hcb
  have Hl := Lib.hid hl
  clear hc hcb hl
  go_enter Try.func56, Try.ntmps56
  go_wp2
  go_loopw [5, 6] (fun n i wr => ∃ k : Nat, k ≤ L.length ∧ i = .int .i64 k ∧ n = .int .i64 (costSum r.cost (L.take k)) ∧ (w.alloc (.cells #[mv, .slice (some ⟨cb, co, none⟩) r.nc cc] 25)).grows wr) (fun _ i _ => L.length - (intOf i).toNat)
  case atStart => exact ⟨0, by omega, rfl, rfl, by (repeat (first | exact World.grows.refl _ | assumption | refine World.grows.alloc ?_ _ | refine World.grows.plus ?_ _ _ | refine World.grows.drew ?_))⟩
  case round =>
    obtain ⟨k, hk, rfl, rfl, hg⟩ := hrel
    obtain ⟨n1, x1, rfl⟩ := World.plus_of hg
    by_cases hlt : k < L.length
    · obtain ⟨b, o, rfl, h0⟩ := hL k 0 hlt (by omega)
      simp only [Nat.mul_one, Nat.add_zero] at h0
      have hts := Lib.hid (take_snoc L hlt)
      have hfn := Hl.out _ (getD_mem hlt)
      obtain ⟨f, hf⟩ : ∃ f, L.getD k 0 = f := ⟨_, rfl⟩
      rw [hf] at h0 hfn hts
      have h3 := Hc.out f hfn
      have hb := costSum_bd Hcb.out (L.take k) fun g hg => Hl.out g (List.mem_of_mem_take hg)
      have hlen : (L.take k).length ≤ 1000 := by rw [List.length_take]; omega
      have hcf := Hcb.out f hfn
      obtain ⟨S, hS⟩ : ∃ S, costSum r.cost (L.take k) = S := ⟨_, rfl⟩
      have hS2 : Hid (S + r.cost f = costSum r.cost (L.take (k + 1))) := Lib.hid (by rw [hts.out, costSum_snoc, hS])
      rw [hS] at hb ⊢
      have hw : IntKind.i64.wrap (S + r.cost f) = S + r.cost f := wrapI rfl (by omega)
      clear hb hlen hcf hf hts
      go_wp2
      (refine wp_region_calm (by kernel_rfl) (by kernel_rfl) ?_; (repeat (refine wpCalm_step (fun K hK => ?_); go_simp; first | (refine hK _ ?_; clear hK K) | (apply Exists.intro; refine ⟨fun n' x' => ?_, hK _ ?_⟩; (fail); clear hK K))); refine wpCalm_nil ?_; intro nq xq)
      go_wp2
      go_roundw
      case rel => exact ⟨k + 1, by omega, by go_num, by rw [hS2.out], by (repeat (first | exact World.grows.refl _ | assumption | refine World.grows.alloc ?_ _ | refine World.grows.plus ?_ _ _ | refine World.grows.drew ?_))⟩
      case measure => simp [intOf]; omega
    · have hke : k = L.length := by omega
      subst hke
      simp only [List.take_length]
      go_wp2
      (refine bodyPost_ret (v := .int .i64 (costSum r.cost L)) (by simp [results, Try.results56, go_sem]) rfl ?_)
      exact ⟨rfl, by (repeat (first | exact World.grows.refl _ | assumption | refine World.grows.alloc ?_ _ | refine World.grows.plus ?_ _ _ | refine World.grows.drew ?_))⟩

theorem Tr.followE_bad {t : Tr} {r : Reg} {n : Nat} {v : Nat → Int} (h : t.check r ≠ 0) : t.followE r n v = t.check r ∧ t.followA r n v = 0 ∧ t.followC r n v = 0 := by
  have e : t.followE r n v = t.check r := by unfold Tr.followE; rw [if_neg h]
  exact ⟨e, by unfold Tr.followA; rw [if_neg (by rw [e]; exact h)], by unfold Tr.followC; rw [if_neg (by rw [e]; exact h)]⟩
theorem Tr.followE_15 {t : Tr} {r : Reg} {n : Nat} {v : Nat → Int} (h : t.check r = 0) (hn : n ≠ r.nc) : t.followE r n v = 15 ∧ t.followA r n v = 0 ∧ t.followC r n v = 0 := by
  have e : t.followE r n v = 15 := by unfold Tr.followE; rw [if_pos h, if_neg hn]
  exact ⟨e, by unfold Tr.followA; rw [if_neg (by rw [e]; decide)], by unfold Tr.followC; rw [if_neg (by rw [e]; decide)]⟩
theorem Tr.followE_3 {t : Tr} {r : Reg} {v : Nat → Int} (h : t.check r = 0) (hv : valuesB v r.nc = true) : t.followE r r.nc v = 3 ∧ t.followA r r.nc v = 0 ∧ t.followC r r.nc v = 0 := by
  have e : t.followE r r.nc v = 3 := by unfold Tr.followE; rw [if_pos h, if_pos rfl, if_pos hv]
  exact ⟨e, by unfold Tr.followA; rw [if_neg (by rw [e]; decide)], by unfold Tr.followC; rw [if_neg (by rw [e]; decide)]⟩
theorem Tr.followE_5 {t : Tr} {r : Reg} {v : Nat → Int} (h : t.check r = 0) (hv : valuesB v r.nc = false) (hs : t.say r v = none) : t.followE r r.nc v = 5 ∧ t.followA r r.nc v = 0 ∧ t.followC r r.nc v = 0 := by
  have e : t.followE r r.nc v = 5 := by unfold Tr.followE; rw [if_pos h, if_pos rfl, hv, hs]; rfl
  exact ⟨e, by unfold Tr.followA; rw [if_neg (by rw [e]; decide)], by unfold Tr.followC; rw [if_neg (by rw [e]; decide)]⟩
theorem Tr.followE_0 {t : Tr} {r : Reg} {v : Nat → Int} (h : t.check r = 0) (hv : valuesB v r.nc = false) {x : Int × Int} (hs : t.say r v = some x) : t.followE r r.nc v = 0 ∧ t.followA r r.nc v = -1 - x.1 ∧ t.followC r r.nc v = x.2 := by
  have e : t.followE r r.nc v = 0 := by unfold Tr.followE; rw [if_pos h, if_pos rfl, hv, hs]; rfl
  exact ⟨e, by unfold Tr.followA; rw [if_pos e, hs], by unfold Tr.followC; rw [if_pos e, hs]⟩
/-- where one ends is a node's or a maker's number -/
theorem Tr.Ok.looks_end_bd {t : Tr} {nc : Nat} (h : t.Ok nc) (v : Nat → Int) : ∀ (k : Nat) (p : Int), (0 ≤ p ∧ p < t.n) ∨ (-1001 ≤ p ∧ p < 0) → (t.n : Int) - p ≤ k ∨ p < 0 → -1001 ≤ (t.looks v k p).2 ∧ (t.looks v k p).2 ≤ 0
  | 0, p, h1, h2 => by
    have hp : p < 0 := by have : ((0 : Nat) : Int) = 0 := rfl; omega
    rw [t.looks_end v _ hp]
    dsimp only
    omega
  | k + 1, p, h1, h2 => by
    by_cases hp : p < 0
    · rw [t.looks_end v _ hp]; dsimp only; omega
    · simp only [Tr.looks, if_neg hp]
      cases hb : t.branch p.toNat (v (t.ft p)) with
      | none => dsimp only; omega
      | some b =>
        obtain ⟨hb1, _⟩ := Tr.branch_some hb
        have hn := h.bt' (i := p.toNat) (by omega) hb1
        exact h.looks_end_bd v k _ (by omega) (by omega)
theorem Tr.Ok.look_bd {t : Tr} {nc : Nat} (h : t.Ok nc) (v : Nat → Int) : -1001 ≤ (t.look v t.root).2 ∧ (t.look v t.root).2 ≤ 0 :=
  h.looks_end_bd v _ _ (by have := h.root; omega) (by have := h.root; omega)

set_option maxHeartbeats 2000000 in
theorem rfollow_c (w : World) (rv : Value) (r : Reg) (hr : RegAt w rv r) (tv : Value) (t : Tr) (ht : TreeAt w tv t) (vv : Value) (n : Nat) (v : Nat → Int) (hv : IntsAt w vv n v) :
    Calls Try.prog 18 #[rv, tv, vv] w fun e w' => e = .returned (.tuple #[.int .i64 (t.followA r n v), .int .i64 (t.followC r n v), .int .i64 (t.followE r n v)]) ∧ w.grows w' := by
  have Hr := Lib.hid hr
  have Ht := Lib.hid ht
  have Hv := Lib.hid hv
  obtain ⟨mv, cv, mrow, rfl, -, hcv, -⟩ := hr
  have Hcv := Lib.hid hcv
  obtain ⟨ca, cc, rfl, hc1, hc2, -⟩ := hcv
  obtain ⟨nv, rfl, hnv⟩ := ht
  obtain ⟨va, vc, rfl, hv1, hv2, -⟩ := hv
  unfold maxLen at hc2 hv2
  have h54 := fun W h1 h2 => isTree_c W (.agg #[mv, .slice ca r.nc cc]) r h1 (.agg #[.int .i64 t.root, nv]) t h2
  clear hnv
  go_enter Try.func18, Try.ntmps18
  by_cases hc : t.check r = 0
  · rw [hc] at h54
    have Hc := Lib.hid hc
    have hok := Lib.hid ((t.ok_iff r).1 hc)
    clear hc
    by_cases hn : n = r.nc
    · subst hn
      have h55 := fun W h1 h2 => isValues_c W mv (.slice ca r.nc cc) r h1 (.slice va r.nc vc) r.nc v h2
      cases hb : valuesB v r.nc with
      | true =>
        have hA := Lib.hid (Tr.followE_3 Hc.out hb)
        simp only [hb, decide_true, Bool.not_true, Bool.and_false] at h55
        clear hb
        go_wp2_with (first
          | (go_at_call 54; refine (h54 _ (Hr.out.mono (by (repeat (first | exact World.grows.refl _ | assumption | refine World.grows.alloc ?_ _ | refine World.grows.plus ?_ _ _ | refine World.grows.drew ?_)))) (Ht.out.mono (by (repeat (first | exact World.grows.refl _ | assumption | refine World.grows.alloc ?_ _ | refine World.grows.plus ?_ _ _ | refine World.grows.drew ?_))))).mono ?_; rintro e w' ⟨rfl, hg⟩; obtain ⟨n2, x2, rfl⟩ := World.plus_of hg)
          | (go_at_call 55; refine (h55 _ (Hcv.out.mono (by (repeat (first | exact World.grows.refl _ | assumption | refine World.grows.alloc ?_ _ | refine World.grows.plus ?_ _ _ | refine World.grows.drew ?_)))) (Hv.out.mono (by (repeat (first | exact World.grows.refl _ | assumption | refine World.grows.alloc ?_ _ | refine World.grows.plus ?_ _ _ | refine World.grows.drew ?_))))).mono ?_; rintro e w' ⟨rfl, hg⟩; obtain ⟨n3, x3, rfl⟩ := World.plus_of hg))
        (refine bodyPost_ret (v := .tuple #[.int .i64 0, .int .i64 0, .int .i64 3]) (by simp [results, Try.results18, go_sem]) rfl ?_)
        exact ⟨by rw [hA.out.1, hA.out.2.1, hA.out.2.2], by (repeat (first | exact World.grows.refl _ | assumption | refine World.grows.alloc ?_ _ | refine World.grows.plus ?_ _ _ | refine World.grows.drew ?_))⟩
      | false =>
        have Hb := Lib.hid hb
        simp only [hb, decide_true, Bool.not_false, Bool.and_self] at h55
        clear hb
        have hR := (Hr.out.ok (Reg.ok_of hok.out.1))
        obtain ⟨mb, mo, mc, cb, co, cc', rb, ro, rc, he, -, -, hc3, hc4, hR⟩ := hR
        simp only [Value.agg.injEq, Array.mk.injEq, List.cons.injEq, Value.slice.injEq, true_and, and_true] at he
        obtain ⟨rfl, rfl, rfl⟩ := he
        have HR := Lib.hid hR
        have h1c := (Reg.ok_of hok.out.1).c1
        obtain ⟨va', vc', he, -, -, hvc⟩ := Hv.out
        simp only [Value.slice.injEq, true_and] at he
        obtain ⟨rfl, rfl⟩ := he
        obtain ⟨vb, vo, rfl, -⟩ := hvc 0 0 (by omega) (by omega)
        have Hvc : Hid (∀ f : Nat, f < r.nc → w.cell? ⟨vb, vo + f, none⟩ = some (.int .i64 (v f))) := Lib.hid fun f hf => by
          obtain ⟨_, _, e, h⟩ := hvc f 0 hf (by omega)
          cases e
          simpa using h
        clear hvc hR
        have hsay := hok.out.2.say_eq v
        have hbd := Lib.hid (hok.out.2.look_bd v)
        have hll := Lib.hid (hok.out.2.look_len v)
        have hlf := Lib.hid (hok.out.2.look_lt v)
        have h40 := fun W h1 h2 => rlooks_c W nv t r.nc h1 hok.out.2 vb vo vc v ⟨hv1, by unfold maxLen; omega⟩ h2
        obtain ⟨T, hT⟩ : ∃ T, t.look v t.root = T := ⟨_, rfl⟩
        rw [hT] at hsay hbd hll hlf
        simp only [hT] at h40
        obtain ⟨L, E⟩ := T
        dsimp only at h40 hsay hbd hll hlf
        have Hnv : Hid (NodesAt w nv t) := Lib.hid (by obtain ⟨nv', e, h⟩ := Ht.out; simp only [Value.agg.injEq, Array.mk.injEq, List.cons.injEq, true_and, and_true] at e; subst e; exact h)
        clear hT
        by_cases hE : E = 0
        · rw [if_pos hE] at hsay
          subst hE
          have hA := Lib.hid (Tr.followE_5 Hc.out Hb.out hsay)
          clear hsay
          go_wp2_with (first
            | (go_at_call 54; refine (h54 _ (Hr.out.mono (by (repeat (first | exact World.grows.refl _ | assumption | refine World.grows.alloc ?_ _ | refine World.grows.plus ?_ _ _ | refine World.grows.drew ?_)))) (Ht.out.mono (by (repeat (first | exact World.grows.refl _ | assumption | refine World.grows.alloc ?_ _ | refine World.grows.plus ?_ _ _ | refine World.grows.drew ?_))))).mono ?_; rintro e w' ⟨rfl, hg⟩; obtain ⟨n2, x2, rfl⟩ := World.plus_of hg)
            | (go_at_call 55; refine (h55 _ (Hcv.out.mono (by (repeat (first | exact World.grows.refl _ | assumption | refine World.grows.alloc ?_ _ | refine World.grows.plus ?_ _ _ | refine World.grows.drew ?_)))) (Hv.out.mono (by (repeat (first | exact World.grows.refl _ | assumption | refine World.grows.alloc ?_ _ | refine World.grows.plus ?_ _ _ | refine World.grows.drew ?_))))).mono ?_; rintro e w' ⟨rfl, hg⟩; obtain ⟨n3, x3, rfl⟩ := World.plus_of hg)
            | (go_at_call 40; refine (h40 _ (Hnv.out.mono (by (repeat (first | exact World.grows.refl _ | assumption | refine World.grows.alloc ?_ _ | refine World.grows.plus ?_ _ _ | refine World.grows.drew ?_)))) (fun f hf => World.grows.cell_of (by (repeat (first | exact World.grows.refl _ | assumption | refine World.grows.alloc ?_ _ | refine World.grows.plus ?_ _ _ | refine World.grows.drew ?_))) (Hvc.out f hf))).mono ?_; rintro e w' ⟨lv, rfl, hL, hg⟩; obtain ⟨n4, x4, rfl⟩ := World.plus_of hg))
          (refine bodyPost_ret (v := .tuple #[.int .i64 0, .int .i64 0, .int .i64 5]) (by simp [results, Try.results18, go_sem]) rfl ?_)
          exact ⟨by rw [hA.out.1, hA.out.2.1, hA.out.2.2], by (repeat (first | exact World.grows.refl _ | assumption | refine World.grows.alloc ?_ _ | refine World.grows.plus ?_ _ _ | refine World.grows.drew ?_))⟩
        · rw [if_neg hE] at hsay
          have hA := Lib.hid (Tr.followE_0 Hc.out Hb.out hsay)
          have hbd1 := hbd.out.1
          have hbd2 := hbd.out.2
          clear hsay
          have h56 := fun W h1 lv h2 => rcost_c W (.slice (some ⟨mb, mo, none⟩) r.nm mc) r cb co cc ⟨hc1, by unfold maxLen; omega⟩ (Reg.ok_of hok.out.1).cost h1 lv L h2 hlf.out (by have := hll.out; omega)
          go_wp2_with (first
            | (go_at_call 54; refine (h54 _ (Hr.out.mono (by (repeat (first | exact World.grows.refl _ | assumption | refine World.grows.alloc ?_ _ | refine World.grows.plus ?_ _ _ | refine World.grows.drew ?_)))) (Ht.out.mono (by (repeat (first | exact World.grows.refl _ | assumption | refine World.grows.alloc ?_ _ | refine World.grows.plus ?_ _ _ | refine World.grows.drew ?_))))).mono ?_; rintro e w' ⟨rfl, hg⟩; obtain ⟨n2, x2, rfl⟩ := World.plus_of hg)
            | (go_at_call 55; refine (h55 _ (Hcv.out.mono (by (repeat (first | exact World.grows.refl _ | assumption | refine World.grows.alloc ?_ _ | refine World.grows.plus ?_ _ _ | refine World.grows.drew ?_)))) (Hv.out.mono (by (repeat (first | exact World.grows.refl _ | assumption | refine World.grows.alloc ?_ _ | refine World.grows.plus ?_ _ _ | refine World.grows.drew ?_))))).mono ?_; rintro e w' ⟨rfl, hg⟩; obtain ⟨n3, x3, rfl⟩ := World.plus_of hg)
            | (go_at_call 40; refine (h40 _ (Hnv.out.mono (by (repeat (first | exact World.grows.refl _ | assumption | refine World.grows.alloc ?_ _ | refine World.grows.plus ?_ _ _ | refine World.grows.drew ?_)))) (fun f hf => World.grows.cell_of (by (repeat (first | exact World.grows.refl _ | assumption | refine World.grows.alloc ?_ _ | refine World.grows.plus ?_ _ _ | refine World.grows.drew ?_))) (Hvc.out f hf))).mono ?_; rintro e w' ⟨lv, rfl, hL, hg⟩; have HL := Lib.hid hL; clear hL; obtain ⟨n4, x4, rfl⟩ := World.plus_of hg)
            | (go_at_call 56; refine (h56 _ (fun f hf => World.grows.cell_of (by (repeat (first | exact World.grows.refl _ | assumption | refine World.grows.alloc ?_ _ | refine World.grows.plus ?_ _ _ | refine World.grows.drew ?_))) (HR.out.cost f hf)) _ (HL.out.mono (by (repeat (first | exact World.grows.refl _ | assumption | refine World.grows.alloc ?_ _ | refine World.grows.plus ?_ _ _ | refine World.grows.drew ?_))))).mono ?_; rintro e w' ⟨rfl, hg⟩; obtain ⟨n5, x5, rfl⟩ := World.plus_of hg))
          (refine bodyPost_ret (v := .tuple #[.int .i64 (-1 - E), .int .i64 (costSum r.cost L), .int .i64 0]) (by simp [results, Try.results18, go_sem]) rfl ?_)
          exact ⟨by rw [hA.out.1, hA.out.2.1, hA.out.2.2], by (repeat (first | exact World.grows.refl _ | assumption | refine World.grows.alloc ?_ _ | refine World.grows.plus ?_ _ _ | refine World.grows.drew ?_))⟩
    · have hA := Lib.hid (Tr.followE_15 (v := v) Hc.out hn)
      have hn' : ¬ ((n : Int) = (r.nc : Int)) := by omega
      go_wp2_with (go_at_call 54; refine (h54 _ (Hr.out.mono (by (repeat (first | exact World.grows.refl _ | assumption | refine World.grows.alloc ?_ _ | refine World.grows.plus ?_ _ _ | refine World.grows.drew ?_)))) (Ht.out.mono (by (repeat (first | exact World.grows.refl _ | assumption | refine World.grows.alloc ?_ _ | refine World.grows.plus ?_ _ _ | refine World.grows.drew ?_))))).mono ?_; rintro e w' ⟨rfl, hg⟩; obtain ⟨n2, x2, rfl⟩ := World.plus_of hg)
      (refine bodyPost_ret (v := .tuple #[.int .i64 0, .int .i64 0, .int .i64 15]) (by simp [results, Try.results18, go_sem]) rfl ?_)
      exact ⟨by rw [hA.out.1, hA.out.2.1, hA.out.2.2], by (repeat (first | exact World.grows.refl _ | assumption | refine World.grows.alloc ?_ _ | refine World.grows.plus ?_ _ _ | refine World.grows.drew ?_))⟩
  · have hA := Lib.hid (Tr.followE_bad (n := n) (v := v) hc)
    go_wp2_with (go_at_call 54; refine (h54 _ (Hr.out.mono (by (repeat (first | exact World.grows.refl _ | assumption | refine World.grows.alloc ?_ _ | refine World.grows.plus ?_ _ _ | refine World.grows.drew ?_)))) (Ht.out.mono (by (repeat (first | exact World.grows.refl _ | assumption | refine World.grows.alloc ?_ _ | refine World.grows.plus ?_ _ _ | refine World.grows.drew ?_))))).mono ?_; rintro e w' ⟨rfl, hg⟩; obtain ⟨n2, x2, rfl⟩ := World.plus_of hg)
    (refine bodyPost_ret (v := .tuple #[.int .i64 0, .int .i64 0, .int .i64 (t.check r)]) (by simp [results, Try.results18, go_sem]) rfl ?_)
    exact ⟨by rw [hA.out.1, hA.out.2.1, hA.out.2.2], by (repeat (first | exact World.grows.refl _ | assumption | refine World.grows.alloc ?_ _ | refine World.grows.plus ?_ _ _ | refine World.grows.drew ?_))⟩
end Go.Proofs.Ytdminglglapnlaa

/-
  What is proved: the law of a region that draws its order: reads and calls in any order, beside a chain of operations that make memory, of which each waits for the one before.
-/
namespace Go
open Go.RowKit

/-- what is asked once an operation has come to this -/
def goesUpon (P : Program) (W : World) (post : Value → World → Prop) : Result Next → Prop
  | .ok (.value u) W' => W.grows W' ∧ post u W'
  | .ok .skip W' => W.grows W' ∧ post undef W'
  | .ok (.enter f args) W' => W' = W ∧ Calls P f args W (fun e W'' => ∃ v, e = .returned v ∧ W.grows W'' ∧ post v W'')
  | _ => False
def Oper.goes (P : Program) (o : Oper) (a : Act) (W : World) (post : Value → World → Prop) : Prop := goesUpon P W post ((execOp a.eval o).run P W)
attribute [go_sem] goesUpon Oper.goes
theorem goesUpon_mono {P : Program} {W : World} {p q : Value → World → Prop} (h : ∀ v W', W.grows W' → p v W' → q v W') (r : Result Next) (h1 : goesUpon P W p r) : goesUpon P W q r := by
  cases r with
  | halt z w' => simp only [goesUpon] at h1
  | ok nx w' =>
    cases nx <;> simp only [goesUpon] at h1 ⊢
    case value u => exact ⟨h1.1, h _ _ h1.1 h1.2⟩
    case skip => exact ⟨h1.1, h _ _ h1.1 h1.2⟩
    case enter f args => exact ⟨h1.1, h1.2.mono fun e W'' ⟨v, he, hg, hp⟩ => ⟨v, he, hg, h _ _ hg hp⟩⟩
/-- the same, where the operation may write into what came behind w0 -/
def goesUponO (P : Program) (w0 W : World) (post : Value → World → Prop) : Result Next → Prop
  | .ok (.value u) W' => w0.grows W' ∧ post u W'
  | .ok .skip W' => w0.grows W' ∧ post undef W'
  | .ok (.enter f args) W' => W' = W ∧ Calls P f args W (fun e W'' => ∃ v, e = .returned v ∧ w0.grows W'' ∧ post v W'')
  | _ => False
def Oper.goesO (P : Program) (o : Oper) (a : Act) (w0 W : World) (post : Value → World → Prop) : Prop := goesUponO P w0 W post ((execOp a.eval o).run P W)
attribute [go_sem] goesUponO Oper.goesO
theorem goesUponO_mono {P : Program} {w0 W : World} {p q : Value → World → Prop} (h : ∀ v W', w0.grows W' → p v W' → q v W') (r : Result Next) (h1 : goesUponO P w0 W p r) : goesUponO P w0 W q r := by
  cases r with
  | halt z w' => simp only [goesUponO] at h1
  | ok nx w' =>
    cases nx <;> simp only [goesUponO] at h1 ⊢
    case value u => exact ⟨h1.1, h _ _ h1.1 h1.2⟩
    case skip => exact ⟨h1.1, h _ _ h1.1 h1.2⟩
    case enter f args => exact ⟨h1.1, h1.2.mono fun e W'' ⟨v, he, hg, hp⟩ => ⟨v, he, hg, h _ _ hg hp⟩⟩
theorem goesUponO_of {P : Program} {w0 W : World} {p : Value → World → Prop} (hg : w0.grows W) (r : Result Next) (h1 : goesUpon P W p r) : goesUponO P w0 W p r := by
  cases r with
  | halt z w' => simp only [goesUpon] at h1
  | ok nx w' =>
    cases nx <;> simp only [goesUpon] at h1 <;> simp only [goesUponO]
    case value u => exact ⟨hg.trans h1.1, h1.2⟩
    case skip => exact ⟨hg.trans h1.1, h1.2⟩
    case enter f args => exact ⟨h1.1, h1.2.mono fun e W'' ⟨v, he, hg', hp⟩ => ⟨v, he, hg.trans hg', hp⟩⟩
theorem filt_len {α : Type} (q : α → Bool) : ∀ l : List α, (l.filter fun x => !q x).length + (l.filter q).length = l.length
  | [] => rfl
  | x :: l => by
    have := filt_len q l
    by_cases h : q x = true
    · simp [h]; omega
    · simp [h]; omega

section
variable {P : Program} {ops : Array Oper}

/-- the chain, with room between its operations -/
def wpChain (P : Program) (ops : Array Oper) (w0 : World) (K : Act → World → Prop) : List Oper → Act → World → Prop
  | [], a, W => ∀ W', W.grows W' → K a W'
  | o :: r, a, W => ∀ W', W.grows W' → w0.grows W' → if Region.wanted o (yielded ops a.tmps) then o.goesO P a w0 W' (fun v W'' => wpChain P ops w0 K r (a.put o.dst v) W'') else wpChain P ops w0 K r (a.put o.dst undef) W'
theorem wpChain_nil {w0 : World} {K : Act → World → Prop} {a : Act} {W : World} (h : ∀ n x, K a (W.plus n x)) : wpChain P ops w0 K [] a W := fun W' hg => by obtain ⟨n, x, rfl⟩ := World.plus_of hg; exact h n x
theorem wpChain_step {w0 : World} {Q : Act → World → Prop} {a : Act} {o : Oper} {r : List Oper} {W : World}
    (h : ∀ K : Act → World → Prop, (∀ a W, wpChain P ops w0 Q r a W → K a W) → ∀ n x, if Region.wanted o (yielded ops a.tmps) then o.goes P a (W.plus n x) (fun v W'' => K (a.put o.dst v) W'') else K (a.put o.dst undef) (W.plus n x)) : wpChain P ops w0 Q (o :: r) a W :=
  fun W' hg hg0 => by
    obtain ⟨n, x, rfl⟩ := World.plus_of hg
    have h1 := h _ (fun _ _ h => h) n x
    split
    · rename_i hw
      rw [if_pos hw] at h1
      exact goesUponO_of hg0 _ h1
    · rename_i hw
      rw [if_neg hw] at h1
      exact h1
/-- a step that may write into what came behind w0 -/
theorem wpChain_stepO {w0 : World} {Q : Act → World → Prop} {a : Act} {o : Oper} {r : List Oper} {W : World}
    (h : ∀ K : Act → World → Prop, (∀ a W, wpChain P ops w0 Q r a W → K a W) → ∀ n x, w0.grows (W.plus n x) → if Region.wanted o (yielded ops a.tmps) then o.goesO P a w0 (W.plus n x) (fun v W'' => K (a.put o.dst v) W'') else K (a.put o.dst undef) (W.plus n x)) : wpChain P ops w0 Q (o :: r) a W :=
  fun W' hg hg0 => by obtain ⟨n, x, rfl⟩ := World.plus_of hg; exact h _ (fun _ _ h => h) n x hg0
theorem wpChain_grow {w0 : World} {K : Act → World → Prop} {a : Act} : ∀ {l : List Oper} {W W' : World}, W.grows W' → wpChain P ops w0 K l a W → wpChain P ops w0 K l a W'
  | [], _, _, g, h => fun W'' g' => h W'' (g.trans g')
  | _ :: _, _, _, g, h => fun W'' g' g0 => h W'' (g.trans g') g0

theorem chain_front {w0 : World} {Φ : Value → Act → World → Prop} {o : Oper} (hso : ∀ cs b, o.op ≠ .select cs b) {W : World} : ∀ (es : List Oper) (a : Act),
    (∀ y ∈ es, o.apart ops y = true ∧ ∀ cs b, y.op ≠ .select cs b) →
    wpCalm P ops w0 (fun a' => if Region.wanted o (yielded ops a'.tmps) then o.goesO P a' w0 W (fun v W'' => Φ v (a'.put o.dst v) W'') else Φ undef (a'.put o.dst undef) W) es a →
    if Region.wanted o (yielded ops a.tmps) then o.goesO P a w0 W (fun v W'' => wpCalm P ops w0 (fun a'' => Φ v a'' W'') es (a.put o.dst v)) else wpCalm P ops w0 (fun a'' => Φ undef a'' W) es (a.put o.dst undef)
  | [], a, _, h => h
  | y :: es, a, hap, h => by
    obtain ⟨u, hy, h'⟩ := wpCalm_cons.1 h
    have h'' := chain_front hso es _ (fun z hz => hap z (List.mem_cons_of_mem _ hz)) h'
    obtain ⟨ha, hsy⟩ := hap y (List.mem_cons_self ..)
    obtain ⟨h1, h2, h3⟩ := Oper.apart_spec ha
    rw [wanted_put o a y.dst u h3] at h''
    split
    · rename_i hw
      rw [if_pos hw] at h''
      unfold Oper.goesO at h'' ⊢
      rw [execOp_put o hso a y.dst u h3] at h''
      refine goesUponO_mono (fun v W' _ hp => wpCalm_cons.2 ⟨u, (YieldsC.put hsy h1).2 hy, ?_⟩) _ h''
      rw [Act.put_comm a v u h2]
      exact hp
    · rename_i hw
      rw [if_neg hw] at h''
      refine wpCalm_cons.2 ⟨u, (YieldsC.put hsy h1).2 hy, ?_⟩
      rw [Act.put_comm a undef u h2]
      exact h''

/-- what is asked of the text: the operations 'ms' are a chain, nothing else in the head waits for them; of two one waits or they are apart -/
def Region.chainsB (ops : Array Oper) (n : Nat) (ms : List Nat) : Bool :=
  Region.mixB ops n [] &&
  (List.range n).all (fun i => ms.contains i || match ops[i]? with | some o => o.after.all (fun e => !Region.binds .any e || !ms.contains e.on) | none => true) &&
  (ms.zip (ms.drop 1)).all (fun p => decide (p.1 < p.2) && Region.waitsFor .any ops p.2 p.1) && ms.all (fun i => decide (i < n))
def Region.chainPlanB (ops : Array Oper) (n : Nat) (ms : List Nat) : Bool :=
  Region.chainsB ops n ms && (decide (n = ops.size) || (decide (n < ops.size) && Region.sinkB .any ops n && Region.chainB .any ops n)) &&
  Region.seqB .any ops (ops.size - n) n ((List.range ops.size).map fun i => decide (i < n)).toArray
def without (l : List Oper) (n : Nat) (ms : List Nat) : List Oper := ((withNo 0 (l.take n)).filter fun p => !ms.contains p.1).map (·.2)
def only (l : List Oper) (n : Nat) (ms : List Nat) : List Oper := ((withNo 0 (l.take n)).filter fun p => ms.contains p.1).map (·.2)
end

section
variable {P : Program} {ops : Array Oper} {w0 : World} {F : Fence} (hF : F.Free P) {N : Nat}

include hF in
theorem wpAnyIn_of_chain {Q : Exit → Act → World → Prop} {n : Nat} {ms0 : List Nat}
    (hB : Region.chainsB ops n ms0 = true) (hnd : Region.noDeferB ops = true)
    (hheads0 : ∀ (listed : Array Bool) (i0 : Nat), HeadInv .any ops n listed → i0 < n → listed.getD i0 true = false → ∀ t ∈ Region.ready .any ops listed, t < n)
    {K : Act → World → Prop}
    (hK : ∀ a W, K a W → ∀ listed, HeadInv .any ops n listed → (∀ i, i < n → listed.getD i false = true) → wpAnyIn F N P .any ops Q (ops.size - n) listed a W) :
    ∀ (cnt : Nat) (es ms : List (Nat × Oper)) (listed : Array Bool) (a : Act) (W : World),
      es.length + ms.length = cnt → HeadInv .any ops n listed →
      (∀ i, i < n → (listed.getD i false = false ↔ i ∈ es.map (·.1) ∨ i ∈ ms.map (·.1))) →
      (∀ p ∈ es, p.1 < n ∧ ops[p.1]? = some p.2 ∧ ms0.contains p.1 = false) → (∀ p ∈ ms, p.1 < n ∧ ops[p.1]? = some p.2 ∧ ms0.contains p.1 = true) →
      (es.map (·.1)).Pairwise (· < ·) → (ms.map (·.1)).Pairwise (fun i j => i < j) → (∀ p q : Nat × Oper, ∀ l1 l2, ms = l1 ++ p :: q :: l2 → Region.waitsFor .any ops q.1 p.1 = true) →
      w0.grows W → wpCalm P ops w0 (fun a' => wpChain P ops w0 K (ms.map (·.2)) a' W) (es.map (·.2)) a →
      wpAnyIn F N P .any ops Q (cnt + (ops.size - n)) listed a W := by
  simp only [Region.chainsB, Bool.and_eq_true] at hB
  obtain ⟨⟨⟨hmix, hEM⟩, _⟩, _⟩ := hB
  simp only [Region.mixB, Bool.and_eq_true, decide_eq_true_eq] at hmix
  obtain ⟨⟨⟨hsel, hnle⟩, hpair⟩, hedge⟩ := hmix
  have hsp := Region.noSelect_spec hsel
  have pairOf : ∀ i j oi oj, i < j → j < n → ops[i]? = some oi → ops[j]? = some oj → Region.waitsFor .any ops j i = true ∨ oi.apart ops oj = true := by
    intro i j oi oj hij hj hi hoj
    have h1 := List.all_eq_true.1 (List.all_eq_true.1 hpair i (List.mem_range.2 (by omega))) j (List.mem_range.2 hj)
    simp only [Bool.or_eq_true, decide_eq_true_eq, Region.pairB, hi, hoj] at h1
    rcases h1 with h1 | h1
    · omega
    · exact h1
  have apart_symm : ∀ x y : Oper, x.apart ops y = true → y.apart ops x = true := by
    intro x y h
    unfold Oper.apart at *
    cases hx : x.dst <;> cases hy : y.dst <;> simp [hx, hy] at h ⊢
    · exact h
    · exact h
    · exact ⟨⟨h.2, fun e => h.1.2 e.symm⟩, h.1.1⟩
  have edgeOf : ∀ i o, i < n → ops[i]? = some o → ∀ e ∈ o.after, Region.binds .any e = true → e.on < i := by
    intro i o hi ho e he hb
    have h1 := List.all_eq_true.1 hedge i (List.mem_range.2 hi)
    simp only [ho, Bool.and_eq_true] at h1
    have h2 := Array.all_eq_true_iff_forall_mem.1 h1.1 e he
    simpa only [hb, Bool.not_true, Bool.false_or, decide_eq_true_eq] using h2
  have edgeEM : ∀ i o, i < n → ops[i]? = some o → ms0.contains i = false → ∀ e ∈ o.after, Region.binds .any e = true → ms0.contains e.on = false := by
    intro i o hi ho h3 e he hb
    have h1 := List.all_eq_true.1 hEM i (List.mem_range.2 hi)
    simp only [ho, h3, Bool.false_or] at h1
    have h2 := Array.all_eq_true_iff_forall_mem.1 h1 e he
    simpa [hb] using h2
  have unwait : ∀ (listed : Array Bool) (i j : Nat), i ∈ Region.ready .any ops listed → listed.getD j false = false → Region.waitsFor .any ops i j = true → False := by
    intro listed i j hi hj hw
    obtain ⟨oi, hoi, e, he, hb, hon⟩ := Region.waitsFor_spec hw
    obtain ⟨_, o', ho', hall⟩ := mem_ready.1 hi
    rw [hoi] at ho'; cases ho'
    have := hall e he hb
    rw [hon, hj] at this; cases this
  intro cnt
  induction cnt with
  | zero =>
    intro es ms listed a W hc inv hmem hes hms _ _ _ hgW h
    have he : es = [] := List.eq_nil_of_length_eq_zero (by omega)
    have ha : ms = [] := List.eq_nil_of_length_eq_zero (by omega)
    subst he; subst ha
    rw [Nat.zero_add]
    refine hK a W (h W (World.grows.refl _)) listed inv fun i hi => ?_
    have := hmem i hi
    simp only [List.map_nil, List.not_mem_nil, or_self, iff_false, Bool.not_eq_false] at this
    exact this
  | succ cnt ih =>
    intro es ms listed a W hc inv hmem hes hms hse hsm hsw hgW h
    rw [show cnt + 1 + (ops.size - n) = (cnt + (ops.size - n)) + 1 by omega]
    have hun : ∃ i, i < n ∧ listed.getD i true = false := by
      cases es with
      | cons p es =>
        have h1 := hes p (List.mem_cons_self ..)
        refine ⟨p.1, h1.1, getD_in (by rw [inv.size]; omega) ((hmem p.1 h1.1).2 (.inl (by simp)))⟩
      | nil =>
        cases ms with
        | nil => simp at hc
        | cons p ms =>
          have h1 := hms p (List.mem_cons_self ..)
          exact ⟨p.1, h1.1, getD_in (by rw [inv.size]; omega) ((hmem p.1 h1.1).2 (.inr (by simp)))⟩
    obtain ⟨i0, hi0, hun0⟩ := hun
    have hheads := hheads0 listed i0 inv hi0 hun0
    refine ⟨fun hnil => ?_, fun i hi => ?_⟩
    · exfalso
      have first : ∀ i o, i < n → ops[i]? = some o → listed.getD i false = false → (∀ j, j < i → listed.getD j false = true ∨ (ms0.contains i = false ∧ ms0.contains j = true)) → False := by
        intro i o hi ho hl hall
        have : i ∈ Region.ready .any ops listed := mem_ready.2 ⟨getD_in (by rw [inv.size]; omega) hl, o, ho, fun e he hb => by
          have h1 := edgeOf i o hi ho e he hb
          rcases hall e.on h1 with h3 | ⟨h3, h4⟩
          · exact h3
          · rw [edgeEM i o hi ho h3 e he hb] at h4; cases h4⟩
        rw [hnil] at this; cases this
      cases es with
      | cons p es =>
        obtain ⟨h1, h2, h3⟩ := hes p (List.mem_cons_self ..)
        refine first p.1 p.2 h1 h2 ((hmem p.1 h1).2 (.inl (by simp))) fun j hj => ?_
        cases hl : listed.getD j false with
        | true => exact .inl rfl
        | false =>
          refine .inr ⟨h3, ?_⟩
          rcases (hmem j (by omega)).1 hl with h4 | h4
          · simp only [List.map_cons, List.mem_cons] at h4
            simp only [List.map_cons, List.pairwise_cons] at hse
            rcases h4 with h4 | h4
            · omega
            · have := hse.1 j h4; omega
          · obtain ⟨q, hq, rfl⟩ := List.mem_map.1 h4
            exact (hms q hq).2.2
      | nil =>
        cases ms with
        | nil => simp at hc
        | cons p ms =>
          obtain ⟨h1, h2, h3⟩ := hms p (List.mem_cons_self ..)
          refine first p.1 p.2 h1 h2 ((hmem p.1 h1).2 (.inr (by simp))) fun j hj => ?_
          cases hl : listed.getD j false with
          | true => exact .inl rfl
          | false =>
            rcases (hmem j (by omega)).1 hl with h4 | h4
            · simp at h4
            · simp only [List.map_cons, List.mem_cons] at h4
              simp only [List.map_cons, List.pairwise_cons] at hsm
              rcases h4 with h4 | h4
              · omega
              · have := hsm.1 j h4; omega
    · have hin := hheads i hi
      have hl : listed.getD i false = false := getD_both (mem_ready.1 hi).1
      have inv' := inv.set hi hin
      have set_mem : ∀ j, j < n → j ≠ i → ((listed.setIfInBounds i true).getD j false = false ↔ listed.getD j false = false) := fun j hj hji => by rw [getD_set_ne false (Ne.symm hji)]
      have set_self : (listed.setIfInBounds i true).getD i false = true := by
        have : i < listed.size := by rw [inv.size]; omega
        simp [this]
      rcases (hmem i hin).1 hl with hie | him
      · obtain ⟨p, hp, rfl⟩ := List.mem_map.1 hie
        obtain ⟨l1, l2, rfl⟩ := List.append_of_mem hp
        obtain ⟨h1, h2, h3⟩ := hes p hp
        have hsort := hse
        simp only [List.map_append, List.map_cons, List.pairwise_append, List.pairwise_cons] at hsort
        have hap1 : ∀ y ∈ l1.map (·.2), p.2.apart ops y = true ∧ ∀ cs b, y.op ≠ .select cs b := by
          intro y hy
          obtain ⟨q, hq, rfl⟩ := List.mem_map.1 hy
          obtain ⟨g1, g2, g3⟩ := hes q (by simp [hq])
          refine ⟨?_, fun cs b => hsp q.1 q.2 cs b g2⟩
          have hlt : q.1 < p.1 := hsort.2.2 q.1 (List.mem_map.2 ⟨q, hq, rfl⟩) p.1 (by simp)
          rcases pairOf q.1 p.1 q.2 p.2 hlt h1 g2 h2 with hw | ha
          · exact (unwait listed p.1 q.1 hi ((hmem q.1 g1).2 (.inl (by simp; exact .inl ⟨_, hq⟩))) hw).elim
          · exact apart_symm _ _ ha
        rw [List.map_append, List.map_cons] at h
        obtain ⟨v, hy, h'⟩ := calm_front (fun cs b => hsp p.1 p.2 cs b h2) _ a hap1 h
        have hrest : ∀ W', W.grows W' → wpAnyIn F N P .any ops Q (cnt + (ops.size - n)) (listed.setIfInBounds p.1 true) (a.put p.2.dst v) W' := by
          intro W' hg
          refine ih (l1 ++ l2) ms _ _ W' (by simp at hc ⊢; omega) inv' (fun j hj => ?_) (fun q hq => hes q (by simp at hq ⊢; rcases hq with h | h <;> simp [h])) hms ?_ hsm hsw (hgW.trans hg) (by rw [List.map_append]; exact wpCalm_mono (fun a' h => wpChain_grow hg h) _ _ h')
          · by_cases hji : j = p.1
            · subst hji
              rw [set_self]
              simp only [Bool.true_eq_false, false_iff]
              rintro (hh | hh)
              · obtain ⟨q, hq, he⟩ := List.mem_map.1 hh
                rcases List.mem_append.1 hq with hq | hq
                · have := hsort.2.2 q.1 (List.mem_map.2 ⟨q, hq, rfl⟩) p.1 (by simp); omega
                · have := hsort.2.1.1 q.1 (List.mem_map.2 ⟨q, hq, rfl⟩); omega
              · obtain ⟨q, hq, he⟩ := List.mem_map.1 hh
                have := (hms q hq).2.2
                rw [he, h3] at this; cases this
            · rw [set_mem j hj hji, hmem j hj]
              simp only [List.map_append, List.map_cons, List.mem_append, List.mem_cons]
              constructor
              · rintro ((h | h | h) | h)
                · exact .inl (.inl h)
                · exact absurd h hji
                · exact .inl (.inr h)
                · exact .inr h
              · rintro ((h | h) | h)
                · exact .inl (.inl h)
                · exact .inl (.inr (.inr h))
                · exact .inr h
          · rw [List.map_append, List.pairwise_append]
            exact ⟨hsort.1, hsort.2.1.2, fun x hx y hy => hsort.2.2 x hx y (List.mem_cons_of_mem _ hy)⟩
        unfold wpOpIn
        simp only [h2]
        rcases hy with ⟨hw, hv⟩ | ⟨hw, rfl⟩
        · rw [if_pos hw]
          obtain ⟨n', x, rfl⟩ := World.plus_of hgW
          have hv' := hv n' x
          unfold Oper.calmAt at hv'
          unfold Oper.wpIn
          refine ⟨fun f _ => hF.fn f, ?_⟩
          rw [Oper.semAt_plain F a.eval p.2 (Region.noDefer_spec hnd p.1 p.2 h2)]
          generalize (execOp a.eval p.2).run P (w0.plus n' x) = r at *
          cases r with
          | halt z w' => simp only [Oper.calmUpon] at hv'
          | ok nx w' =>
            cases nx <;> simp only [Oper.calmUpon] at hv' <;> simp only [Oper.uponIn]
            case value u => obtain ⟨rfl, rfl⟩ := hv'; exact hrest _ (World.grows.refl _)
            case skip => obtain ⟨rfl, rfl⟩ := hv'; exact hrest _ (World.grows.refl _)
            case enter f args =>
              obtain ⟨rfl, hcall⟩ := hv'
              refine ⟨(fun h => by rw [hF.depth] at h; cases h), hF.calls _ _ _ _ _ (hcall.mono fun e w'' ⟨he, hg⟩ => ?_)⟩
              subst he
              exact hrest _ hg
        · rw [if_neg (by rw [hw]; exact Bool.false_ne_true)]
          exact ⟨fun f _ => hF.fn f, hrest _ (World.grows.refl _)⟩
      · -- the next of the chain
        cases ms with
        | nil => simp at him
        | cons m ms =>
        have hhead : i = m.1 := by
          rcases List.mem_cons.1 (by simpa using him : i ∈ m.1 :: ms.map (·.1)) with h1 | h1
          · exact h1
          · exfalso
            obtain ⟨q, hq, rfl⟩ := List.mem_map.1 h1
            obtain ⟨l1, l2, rfl⟩ := List.append_of_mem hq
            rcases List.eq_nil_or_concat l1 with rfl | ⟨l0, z, rfl⟩
            · exact unwait listed q.1 m.1 hi ((hmem m.1 (hms m (List.mem_cons_self ..)).1).2 (.inr (by simp))) (hsw m q [] l2 (by simp))
            · exact unwait listed q.1 z.1 hi ((hmem z.1 (hms z (by simp)).1).2 (.inr (by simp))) (hsw z q (m :: l0) l2 (by simp))
        subst hhead
        obtain ⟨h1, h2, h3⟩ := hms m (List.mem_cons_self ..)
        have hape : ∀ y ∈ es.map (·.2), m.2.apart ops y = true ∧ ∀ cs b, y.op ≠ .select cs b := by
          intro y hy
          obtain ⟨q, hq, rfl⟩ := List.mem_map.1 hy
          obtain ⟨g1, g2, g3⟩ := hes q hq
          refine ⟨?_, fun cs b => hsp q.1 q.2 cs b g2⟩
          have hql : listed.getD q.1 false = false := (hmem q.1 g1).2 (.inl (List.mem_map.2 ⟨q, hq, rfl⟩))
          rcases Nat.lt_trichotomy q.1 m.1 with hlt | heq | hgt
          · rcases pairOf q.1 m.1 q.2 m.2 hlt h1 g2 h2 with hw | ha
            · exact (unwait listed m.1 q.1 hi hql hw).elim
            · exact apart_symm _ _ ha
          · rw [heq, h3] at g3; cases g3
          · rcases pairOf m.1 q.1 m.2 q.2 hgt g1 h2 g2 with hw | ha
            · exfalso
              obtain ⟨oq, hoq, e, he, hb, hon⟩ := Region.waitsFor_spec hw
              have := edgeEM q.1 oq g1 hoq g3 e he hb
              rw [hon, h3] at this; cases this
            · exact ha
        have h' := chain_front (Φ := fun _ a'' W'' => wpChain P ops w0 K (ms.map (·.2)) a'' W'') (fun cs b => hsp m.1 m.2 cs b h2) _ a hape (wpCalm_mono (fun a' h => h W (World.grows.refl _) hgW) _ _ h)
        have hrest : ∀ v W', w0.grows W' → wpCalm P ops w0 (fun a'' => wpChain P ops w0 K (ms.map (·.2)) a'' W') (es.map (·.2)) (a.put m.2.dst v) → wpAnyIn F N P .any ops Q (cnt + (ops.size - n)) (listed.setIfInBounds m.1 true) (a.put m.2.dst v) W' := by
          intro v W' hg hh
          have hsm' : m.1 ∉ ms.map (·.1) := by
            simp only [List.map_cons, List.pairwise_cons] at hsm
            intro hx
            have := hsm.1 m.1 hx
            omega
          refine ih es ms _ _ W' (by simp at hc ⊢; omega) inv' (fun j hj => ?_) hes (fun q hq => hms q (List.mem_cons_of_mem _ hq)) hse ?_ (fun p q l1 l2 he => hsw p q (m :: l1) l2 (by rw [he]; rfl)) hg hh
          · by_cases hji : j = m.1
            · subst hji
              rw [set_self]
              simp only [Bool.true_eq_false, false_iff]
              rintro (hh | hh)
              · obtain ⟨q, hq, he⟩ := List.mem_map.1 hh
                have := (hes q hq).2.2
                rw [he, h3] at this; cases this
              · exact hsm' hh
            · rw [set_mem j hj hji, hmem j hj]
              simp only [List.map_cons, List.mem_cons]
              constructor
              · rintro (h | h | h)
                · exact .inl h
                · exact absurd h hji
                · exact .inr h
              · rintro (h | h)
                · exact .inl h
                · exact .inr (.inr h)
          · simp only [List.map_cons, List.pairwise_cons] at hsm
            exact hsm.2
        unfold wpOpIn
        simp only [h2]
        by_cases hw : Region.wanted m.2 (yielded ops a.tmps) = true
        · rw [if_pos hw] at h' ⊢
          unfold Oper.goesO at h'
          unfold Oper.wpIn
          refine ⟨fun f _ => hF.fn f, ?_⟩
          rw [Oper.semAt_plain F a.eval m.2 (Region.noDefer_spec hnd m.1 m.2 h2)]
          generalize (execOp a.eval m.2).run P W = r at *
          cases r with
          | halt z w' => simp only [goesUponO] at h'
          | ok nx w' =>
            cases nx <;> simp only [goesUponO] at h' <;> simp only [Oper.uponIn]
            case value u => exact hrest _ _ h'.1 h'.2
            case skip => exact hrest _ _ h'.1 h'.2
            case enter f args =>
              obtain ⟨rfl, hcall⟩ := h'
              refine ⟨(fun h => by rw [hF.depth] at h; cases h), hF.calls _ _ _ _ _ (hcall.mono fun e w'' ⟨v, he, hg, hp⟩ => ?_)⟩
              subst he
              exact hrest _ _ hg hp
        · rw [if_neg hw] at h' ⊢
          exact ⟨fun f _ => hF.fn f, hrest _ _ hgW h'⟩

theorem zip_nextIn : ∀ (l : List Nat) (f : Nat → Nat → Bool), (l.zip (l.drop 1)).all (fun p => f p.1 p.2) = true → ∀ (i j : Nat) (l1 l2 : List Nat), l = l1 ++ i :: j :: l2 → f i j = true
  | l, f, h, i, j, l1, l2, he => by
    subst he
    refine List.all_eq_true.1 h (i, j) ?_
    rw [List.mem_iff_getElem?]
    refine ⟨l1.length, ?_⟩
    rw [List.getElem?_zip_eq_some]
    simp [List.getElem?_append_right, List.getElem?_drop]

include hF in
/-- reads and calls in any order, beside a chain (numbers ms), a tail in order from n on -/
theorem wpIn_region_chain {id : Nat} {Q : Exit → Act → World → Prop} {a : Act} {w : World} {l : List Oper} (n : Nat) (ms : List Nat) (hm : P.follows .mixedOrders = true)
    (hB : (Region.chainPlanB l.toArray n ms && decide (((withNo 0 (l.take n)).filter fun p => ms.contains p.1).map (·.1) = ms)) = true) (hnd : Region.noDeferB l.toArray = true) (hn : n ≤ l.length)
    (h : wpCalm P l.toArray w (fun a' => wpChain P l.toArray w (fun a'' W => wpListIn F N P l.toArray Q (l.drop n) a'' W) (only l n ms) a' w) (without l n ms) a) : (Code.region id l.toArray true).wpIn F N P Q a w := by
  simp only [Region.chainPlanB, Bool.and_eq_true, Bool.or_eq_true, decide_eq_true_eq] at hB
  obtain ⟨⟨⟨hch, hplan⟩, hseq⟩, hms⟩ := hB
  have hch0 := hch
  have hnle : n ≤ l.toArray.size := by simpa using hn
  refine wpIn_region_any hm ?_
  obtain ⟨n0, x0, h0⟩ := World.more_drew w
  rw [h0]
  have hat : ∀ p ∈ withNo 0 (l.take n), p.1 < n ∧ l.toArray[p.1]? = some p.2 := fun p hp => by
    have h2 := ((withNo_mem 0 _ p).1 hp).2
    rw [Nat.sub_zero, List.getElem?_take] at h2
    split at h2
    · rename_i hlt; exact ⟨by omega, by simpa using h2⟩
    · cases h2
  have hsorted : ((withNo 0 (l.take n)).map (·.1)).Pairwise (· < ·) := by rw [withNo_fst]; exact List.pairwise_lt_range'
  have hfilt : ∀ (q : Nat × Oper → Bool), (((withNo 0 (l.take n)).filter q).map (·.1)).Pairwise (· < ·) := fun q => by
    have : ((withNo 0 (l.take n)).filter q).Sublist (withNo 0 (l.take n)) := List.filter_sublist
    exact hsorted.sublist (this.map _)
  have hlen : ((withNo 0 (l.take n)).filter fun p => !ms.contains p.1).length + ((withNo 0 (l.take n)).filter fun p => ms.contains p.1).length = n := by
    have e1 : (withNo 0 (l.take n)).length = n := by
      have := congrArg List.length (withNo_snd 0 (l.take n))
      simp at this
      omega
    have := filt_len (fun p : Nat × Oper => ms.contains p.1) (withNo 0 (l.take n))
    omega
  have key := wpAnyIn_of_chain hF (N := N) (P := P) (ops := l.toArray) (w0 := w) (Q := Q) (n := n) (ms0 := ms) hch hnd
    (fun listed i0 inv hi0 hun0 => by
      rcases hplan with h | ⟨⟨h1, h2⟩, h3⟩
      · subst h; exact heads_of_all listed
      · exact heads_of_tail h1 h2 h3 listed i0 inv hi0 hun0)
    (K := fun a'' W => wpListIn F N P l.toArray Q (l.drop n) a'' W)
    (fun a W hK listed inv hall => by
      have hl := seq_listed inv hnle hall
      subst hl
      have hd : (l.drop n).length = l.toArray.size - n := by simp
      have := wpAnyIn_of_seq hnd (Q' := Q) (l.drop n) n _ a W (fun j => by simp [List.getElem?_drop]) (by rw [hd]; exact hseq) hK
      rwa [hd] at this)
    n ((withNo 0 (l.take n)).filter fun p => !ms.contains p.1) ((withNo 0 (l.take n)).filter fun p => ms.contains p.1) (Array.replicate l.toArray.size false) a (w.plus n0 x0) hlen (headInv_start n)
    (fun i hi => by
      simp only [getD_replicate_false, true_iff, List.mem_map, List.mem_filter]
      have hil : i < (l.take n).length := by simp; omega
      have hi2 : (i, (l.take n)[i]) ∈ withNo 0 (l.take n) := (withNo_mem 0 _ _).2 ⟨Nat.zero_le _, by rw [Nat.sub_zero]; exact List.getElem?_eq_getElem hil⟩
      cases hc : ms.contains i with
      | true => exact .inr ⟨_, ⟨hi2, hc⟩, rfl⟩
      | false => exact .inl ⟨_, ⟨hi2, by simpa using hc⟩, rfl⟩)
    (fun p hp => by
      obtain ⟨h1, h2⟩ := List.mem_filter.1 hp
      exact ⟨(hat p h1).1, (hat p h1).2, by simpa using h2⟩)
    (fun p hp => by
      obtain ⟨h1, h2⟩ := List.mem_filter.1 hp
      exact ⟨(hat p h1).1, (hat p h1).2, h2⟩)
    (hfilt _) (hfilt _)
    (fun p q l1 l2 he => by
      simp only [Region.chainsB, Bool.and_eq_true] at hch0
      have hz := hch0.1.2
      have := zip_nextIn ms (fun i j => decide (i < j) && Region.waitsFor .any l.toArray j i) hz p.1 q.1 (l1.map (·.1)) (l2.map (·.1)) (by rw [← hms, he]; simp)
      simp only [Bool.and_eq_true] at this
      exact this.2)
    (World.grows_plus _ _ _)
    (wpCalm_mono (fun a' h => wpChain_grow (World.grows_plus _ _ _) h) _ _ h)
  rw [show n + (l.toArray.size - n) = l.toArray.size by omega] at key
  exact key
end

section
variable {P : Program} {ops : Array Oper} {w0 : World}

theorem wpAny_of_chain {Q : Exit → Act → World → Prop} {n : Nat} {ms0 : List Nat}
    (hB : Region.chainsB ops n ms0 = true)
    (hheads0 : ∀ (listed : Array Bool) (i0 : Nat), HeadInv .any ops n listed → i0 < n → listed.getD i0 true = false → ∀ t ∈ Region.ready .any ops listed, t < n)
    {K : Act → World → Prop}
    (hK : ∀ a W, K a W → ∀ listed, HeadInv .any ops n listed → (∀ i, i < n → listed.getD i false = true) → wpAny P .any ops Q (ops.size - n) listed a W) :
    ∀ (cnt : Nat) (es ms : List (Nat × Oper)) (listed : Array Bool) (a : Act) (W : World),
      es.length + ms.length = cnt → HeadInv .any ops n listed →
      (∀ i, i < n → (listed.getD i false = false ↔ i ∈ es.map (·.1) ∨ i ∈ ms.map (·.1))) →
      (∀ p ∈ es, p.1 < n ∧ ops[p.1]? = some p.2 ∧ ms0.contains p.1 = false) → (∀ p ∈ ms, p.1 < n ∧ ops[p.1]? = some p.2 ∧ ms0.contains p.1 = true) →
      (es.map (·.1)).Pairwise (· < ·) → (ms.map (·.1)).Pairwise (fun i j => i < j) → (∀ p q : Nat × Oper, ∀ l1 l2, ms = l1 ++ p :: q :: l2 → Region.waitsFor .any ops q.1 p.1 = true) →
      w0.grows W → wpCalm P ops w0 (fun a' => wpChain P ops w0 K (ms.map (·.2)) a' W) (es.map (·.2)) a →
      wpAny P .any ops Q (cnt + (ops.size - n)) listed a W := by
  simp only [Region.chainsB, Bool.and_eq_true] at hB
  obtain ⟨⟨⟨hmix, hEM⟩, _⟩, _⟩ := hB
  simp only [Region.mixB, Bool.and_eq_true, decide_eq_true_eq] at hmix
  obtain ⟨⟨⟨hsel, hnle⟩, hpair⟩, hedge⟩ := hmix
  have hsp := Region.noSelect_spec hsel
  have pairOf : ∀ i j oi oj, i < j → j < n → ops[i]? = some oi → ops[j]? = some oj → Region.waitsFor .any ops j i = true ∨ oi.apart ops oj = true := by
    intro i j oi oj hij hj hi hoj
    have h1 := List.all_eq_true.1 (List.all_eq_true.1 hpair i (List.mem_range.2 (by omega))) j (List.mem_range.2 hj)
    simp only [Bool.or_eq_true, decide_eq_true_eq, Region.pairB, hi, hoj] at h1
    rcases h1 with h1 | h1
    · omega
    · exact h1
  have apart_symm : ∀ x y : Oper, x.apart ops y = true → y.apart ops x = true := by
    intro x y h
    unfold Oper.apart at *
    cases hx : x.dst <;> cases hy : y.dst <;> simp [hx, hy] at h ⊢
    · exact h
    · exact h
    · exact ⟨⟨h.2, fun e => h.1.2 e.symm⟩, h.1.1⟩
  have edgeOf : ∀ i o, i < n → ops[i]? = some o → ∀ e ∈ o.after, Region.binds .any e = true → e.on < i := by
    intro i o hi ho e he hb
    have h1 := List.all_eq_true.1 hedge i (List.mem_range.2 hi)
    simp only [ho, Bool.and_eq_true] at h1
    have h2 := Array.all_eq_true_iff_forall_mem.1 h1.1 e he
    simpa only [hb, Bool.not_true, Bool.false_or, decide_eq_true_eq] using h2
  have edgeEM : ∀ i o, i < n → ops[i]? = some o → ms0.contains i = false → ∀ e ∈ o.after, Region.binds .any e = true → ms0.contains e.on = false := by
    intro i o hi ho h3 e he hb
    have h1 := List.all_eq_true.1 hEM i (List.mem_range.2 hi)
    simp only [ho, h3, Bool.false_or] at h1
    have h2 := Array.all_eq_true_iff_forall_mem.1 h1 e he
    simpa [hb] using h2
  have unwait : ∀ (listed : Array Bool) (i j : Nat), i ∈ Region.ready .any ops listed → listed.getD j false = false → Region.waitsFor .any ops i j = true → False := by
    intro listed i j hi hj hw
    obtain ⟨oi, hoi, e, he, hb, hon⟩ := Region.waitsFor_spec hw
    obtain ⟨_, o', ho', hall⟩ := mem_ready.1 hi
    rw [hoi] at ho'; cases ho'
    have := hall e he hb
    rw [hon, hj] at this; cases this
  intro cnt
  induction cnt with
  | zero =>
    intro es ms listed a W hc inv hmem hes hms _ _ _ hgW h
    have he : es = [] := List.eq_nil_of_length_eq_zero (by omega)
    have ha : ms = [] := List.eq_nil_of_length_eq_zero (by omega)
    subst he; subst ha
    rw [Nat.zero_add]
    refine hK a W (h W (World.grows.refl _)) listed inv fun i hi => ?_
    have := hmem i hi
    simp only [List.map_nil, List.not_mem_nil, or_self, iff_false, Bool.not_eq_false] at this
    exact this
  | succ cnt ih =>
    intro es ms listed a W hc inv hmem hes hms hse hsm hsw hgW h
    rw [show cnt + 1 + (ops.size - n) = (cnt + (ops.size - n)) + 1 by omega]
    have hun : ∃ i, i < n ∧ listed.getD i true = false := by
      cases es with
      | cons p es =>
        have h1 := hes p (List.mem_cons_self ..)
        refine ⟨p.1, h1.1, getD_in (by rw [inv.size]; omega) ((hmem p.1 h1.1).2 (.inl (by simp)))⟩
      | nil =>
        cases ms with
        | nil => simp at hc
        | cons p ms =>
          have h1 := hms p (List.mem_cons_self ..)
          exact ⟨p.1, h1.1, getD_in (by rw [inv.size]; omega) ((hmem p.1 h1.1).2 (.inr (by simp)))⟩
    obtain ⟨i0, hi0, hun0⟩ := hun
    have hheads := hheads0 listed i0 inv hi0 hun0
    refine ⟨fun hnil => ?_, fun i hi => ?_⟩
    · exfalso
      have first : ∀ i o, i < n → ops[i]? = some o → listed.getD i false = false → (∀ j, j < i → listed.getD j false = true ∨ (ms0.contains i = false ∧ ms0.contains j = true)) → False := by
        intro i o hi ho hl hall
        have : i ∈ Region.ready .any ops listed := mem_ready.2 ⟨getD_in (by rw [inv.size]; omega) hl, o, ho, fun e he hb => by
          have h1 := edgeOf i o hi ho e he hb
          rcases hall e.on h1 with h3 | ⟨h3, h4⟩
          · exact h3
          · rw [edgeEM i o hi ho h3 e he hb] at h4; cases h4⟩
        rw [hnil] at this; cases this
      cases es with
      | cons p es =>
        obtain ⟨h1, h2, h3⟩ := hes p (List.mem_cons_self ..)
        refine first p.1 p.2 h1 h2 ((hmem p.1 h1).2 (.inl (by simp))) fun j hj => ?_
        cases hl : listed.getD j false with
        | true => exact .inl rfl
        | false =>
          refine .inr ⟨h3, ?_⟩
          rcases (hmem j (by omega)).1 hl with h4 | h4
          · simp only [List.map_cons, List.mem_cons] at h4
            simp only [List.map_cons, List.pairwise_cons] at hse
            rcases h4 with h4 | h4
            · omega
            · have := hse.1 j h4; omega
          · obtain ⟨q, hq, rfl⟩ := List.mem_map.1 h4
            exact (hms q hq).2.2
      | nil =>
        cases ms with
        | nil => simp at hc
        | cons p ms =>
          obtain ⟨h1, h2, h3⟩ := hms p (List.mem_cons_self ..)
          refine first p.1 p.2 h1 h2 ((hmem p.1 h1).2 (.inr (by simp))) fun j hj => ?_
          cases hl : listed.getD j false with
          | true => exact .inl rfl
          | false =>
            rcases (hmem j (by omega)).1 hl with h4 | h4
            · simp at h4
            · simp only [List.map_cons, List.mem_cons] at h4
              simp only [List.map_cons, List.pairwise_cons] at hsm
              rcases h4 with h4 | h4
              · omega
              · have := hsm.1 j h4; omega
    · have hin := hheads i hi
      have hl : listed.getD i false = false := getD_both (mem_ready.1 hi).1
      have inv' := inv.set hi hin
      have set_mem : ∀ j, j < n → j ≠ i → ((listed.setIfInBounds i true).getD j false = false ↔ listed.getD j false = false) := fun j hj hji => by rw [getD_set_ne false (Ne.symm hji)]
      have set_self : (listed.setIfInBounds i true).getD i false = true := by
        have : i < listed.size := by rw [inv.size]; omega
        simp [this]
      rcases (hmem i hin).1 hl with hie | him
      · obtain ⟨p, hp, rfl⟩ := List.mem_map.1 hie
        obtain ⟨l1, l2, rfl⟩ := List.append_of_mem hp
        obtain ⟨h1, h2, h3⟩ := hes p hp
        have hsort := hse
        simp only [List.map_append, List.map_cons, List.pairwise_append, List.pairwise_cons] at hsort
        have hap1 : ∀ y ∈ l1.map (·.2), p.2.apart ops y = true ∧ ∀ cs b, y.op ≠ .select cs b := by
          intro y hy
          obtain ⟨q, hq, rfl⟩ := List.mem_map.1 hy
          obtain ⟨g1, g2, g3⟩ := hes q (by simp [hq])
          refine ⟨?_, fun cs b => hsp q.1 q.2 cs b g2⟩
          have hlt : q.1 < p.1 := hsort.2.2 q.1 (List.mem_map.2 ⟨q, hq, rfl⟩) p.1 (by simp)
          rcases pairOf q.1 p.1 q.2 p.2 hlt h1 g2 h2 with hw | ha
          · exact (unwait listed p.1 q.1 hi ((hmem q.1 g1).2 (.inl (by simp; exact .inl ⟨_, hq⟩))) hw).elim
          · exact apart_symm _ _ ha
        rw [List.map_append, List.map_cons] at h
        obtain ⟨v, hy, h'⟩ := calm_front (fun cs b => hsp p.1 p.2 cs b h2) _ a hap1 h
        have hrest : ∀ W', W.grows W' → wpAny P .any ops Q (cnt + (ops.size - n)) (listed.setIfInBounds p.1 true) (a.put p.2.dst v) W' := by
          intro W' hg
          refine ih (l1 ++ l2) ms _ _ W' (by simp at hc ⊢; omega) inv' (fun j hj => ?_) (fun q hq => hes q (by simp at hq ⊢; rcases hq with h | h <;> simp [h])) hms ?_ hsm hsw (hgW.trans hg) (by rw [List.map_append]; exact wpCalm_mono (fun a' h => wpChain_grow hg h) _ _ h')
          · by_cases hji : j = p.1
            · subst hji
              rw [set_self]
              simp only [Bool.true_eq_false, false_iff]
              rintro (hh | hh)
              · obtain ⟨q, hq, he⟩ := List.mem_map.1 hh
                rcases List.mem_append.1 hq with hq | hq
                · have := hsort.2.2 q.1 (List.mem_map.2 ⟨q, hq, rfl⟩) p.1 (by simp); omega
                · have := hsort.2.1.1 q.1 (List.mem_map.2 ⟨q, hq, rfl⟩); omega
              · obtain ⟨q, hq, he⟩ := List.mem_map.1 hh
                have := (hms q hq).2.2
                rw [he, h3] at this; cases this
            · rw [set_mem j hj hji, hmem j hj]
              simp only [List.map_append, List.map_cons, List.mem_append, List.mem_cons]
              constructor
              · rintro ((h | h | h) | h)
                · exact .inl (.inl h)
                · exact absurd h hji
                · exact .inl (.inr h)
                · exact .inr h
              · rintro ((h | h) | h)
                · exact .inl (.inl h)
                · exact .inl (.inr (.inr h))
                · exact .inr h
          · rw [List.map_append, List.pairwise_append]
            exact ⟨hsort.1, hsort.2.1.2, fun x hx y hy => hsort.2.2 x hx y (List.mem_cons_of_mem _ hy)⟩
        unfold wpOp
        simp only [h2]
        rcases hy with ⟨hw, hv⟩ | ⟨hw, rfl⟩
        · rw [if_pos hw]
          obtain ⟨n', x, rfl⟩ := World.plus_of hgW
          have hv' := hv n' x
          unfold Oper.calmAt at hv'
          refine .inl ?_
          unfold Oper.wp
          generalize (execOp a.eval p.2).run P (w0.plus n' x) = r at *
          cases r with
          | halt z w' => simp only [Oper.calmUpon] at hv'
          | ok nx w' =>
            cases nx <;> simp only [Oper.calmUpon] at hv' <;> simp only [Oper.upon]
            case value u => obtain ⟨rfl, rfl⟩ := hv'; exact hrest _ (World.grows.refl _)
            case skip => obtain ⟨rfl, rfl⟩ := hv'; exact hrest _ (World.grows.refl _)
            case enter f args =>
              obtain ⟨rfl, hcall⟩ := hv'
              refine hcall.mono fun e w'' ⟨he, hg⟩ => ?_
              subst he
              exact hrest _ hg
        · rw [if_neg (by rw [hw]; exact Bool.false_ne_true)]
          exact hrest _ (World.grows.refl _)
      · -- the next of the chain
        cases ms with
        | nil => simp at him
        | cons m ms =>
        have hhead : i = m.1 := by
          rcases List.mem_cons.1 (by simpa using him : i ∈ m.1 :: ms.map (·.1)) with h1 | h1
          · exact h1
          · exfalso
            obtain ⟨q, hq, rfl⟩ := List.mem_map.1 h1
            obtain ⟨l1, l2, rfl⟩ := List.append_of_mem hq
            rcases List.eq_nil_or_concat l1 with rfl | ⟨l0, z, rfl⟩
            · exact unwait listed q.1 m.1 hi ((hmem m.1 (hms m (List.mem_cons_self ..)).1).2 (.inr (by simp))) (hsw m q [] l2 (by simp))
            · exact unwait listed q.1 z.1 hi ((hmem z.1 (hms z (by simp)).1).2 (.inr (by simp))) (hsw z q (m :: l0) l2 (by simp))
        subst hhead
        obtain ⟨h1, h2, h3⟩ := hms m (List.mem_cons_self ..)
        have hape : ∀ y ∈ es.map (·.2), m.2.apart ops y = true ∧ ∀ cs b, y.op ≠ .select cs b := by
          intro y hy
          obtain ⟨q, hq, rfl⟩ := List.mem_map.1 hy
          obtain ⟨g1, g2, g3⟩ := hes q hq
          refine ⟨?_, fun cs b => hsp q.1 q.2 cs b g2⟩
          have hql : listed.getD q.1 false = false := (hmem q.1 g1).2 (.inl (List.mem_map.2 ⟨q, hq, rfl⟩))
          rcases Nat.lt_trichotomy q.1 m.1 with hlt | heq | hgt
          · rcases pairOf q.1 m.1 q.2 m.2 hlt h1 g2 h2 with hw | ha
            · exact (unwait listed m.1 q.1 hi hql hw).elim
            · exact apart_symm _ _ ha
          · rw [heq, h3] at g3; cases g3
          · rcases pairOf m.1 q.1 m.2 q.2 hgt g1 h2 g2 with hw | ha
            · exfalso
              obtain ⟨oq, hoq, e, he, hb, hon⟩ := Region.waitsFor_spec hw
              have := edgeEM q.1 oq g1 hoq g3 e he hb
              rw [hon, h3] at this; cases this
            · exact ha
        have h' := chain_front (Φ := fun _ a'' W'' => wpChain P ops w0 K (ms.map (·.2)) a'' W'') (fun cs b => hsp m.1 m.2 cs b h2) _ a hape (wpCalm_mono (fun a' h => h W (World.grows.refl _) hgW) _ _ h)
        have hrest : ∀ v W', w0.grows W' → wpCalm P ops w0 (fun a'' => wpChain P ops w0 K (ms.map (·.2)) a'' W') (es.map (·.2)) (a.put m.2.dst v) → wpAny P .any ops Q (cnt + (ops.size - n)) (listed.setIfInBounds m.1 true) (a.put m.2.dst v) W' := by
          intro v W' hg hh
          have hsm' : m.1 ∉ ms.map (·.1) := by
            simp only [List.map_cons, List.pairwise_cons] at hsm
            intro hx
            have := hsm.1 m.1 hx
            omega
          refine ih es ms _ _ W' (by simp at hc ⊢; omega) inv' (fun j hj => ?_) hes (fun q hq => hms q (List.mem_cons_of_mem _ hq)) hse ?_ (fun p q l1 l2 he => hsw p q (m :: l1) l2 (by rw [he]; rfl)) hg hh
          · by_cases hji : j = m.1
            · subst hji
              rw [set_self]
              simp only [Bool.true_eq_false, false_iff]
              rintro (hh | hh)
              · obtain ⟨q, hq, he⟩ := List.mem_map.1 hh
                have := (hes q hq).2.2
                rw [he, h3] at this; cases this
              · exact hsm' hh
            · rw [set_mem j hj hji, hmem j hj]
              simp only [List.map_cons, List.mem_cons]
              constructor
              · rintro (h | h | h)
                · exact .inl h
                · exact absurd h hji
                · exact .inr h
              · rintro (h | h)
                · exact .inl h
                · exact .inr (.inr h)
          · simp only [List.map_cons, List.pairwise_cons] at hsm
            exact hsm.2
        unfold wpOp
        simp only [h2]
        by_cases hw : Region.wanted m.2 (yielded ops a.tmps) = true
        · rw [if_pos hw] at h' ⊢
          unfold Oper.goesO at h'
          refine .inl ?_
          unfold Oper.wp
          generalize (execOp a.eval m.2).run P W = r at *
          cases r with
          | halt z w' => simp only [goesUponO] at h'
          | ok nx w' =>
            cases nx <;> simp only [goesUponO] at h' <;> simp only [Oper.upon]
            case value u => exact hrest _ _ h'.1 h'.2
            case skip => exact hrest _ _ h'.1 h'.2
            case enter f args =>
              obtain ⟨rfl, hcall⟩ := h'
              refine hcall.mono fun e w'' ⟨v, he, hg, hp⟩ => ?_
              subst he
              exact hrest _ _ hg hp
        · rw [if_neg hw] at h' ⊢
          exact hrest _ _ hgW h'

theorem zip_next : ∀ (l : List Nat) (f : Nat → Nat → Bool), (l.zip (l.drop 1)).all (fun p => f p.1 p.2) = true → ∀ (i j : Nat) (l1 l2 : List Nat), l = l1 ++ i :: j :: l2 → f i j = true
  | l, f, h, i, j, l1, l2, he => by
    subst he
    refine List.all_eq_true.1 h (i, j) ?_
    rw [List.mem_iff_getElem?]
    refine ⟨l1.length, ?_⟩
    rw [List.getElem?_zip_eq_some]
    simp [List.getElem?_append_right, List.getElem?_drop]

/-- reads and calls in any order, beside a chain (numbers ms), a tail in order from n on -/
theorem wp_region_chain {id : Nat} {Q : Exit → Act → World → Prop} {a : Act} {w : World} {l : List Oper} (n : Nat) (ms : List Nat) (hm : P.follows .mixedOrders = true)
    (hB : (Region.chainPlanB l.toArray n ms && decide (((withNo 0 (l.take n)).filter fun p => ms.contains p.1).map (·.1) = ms)) = true) (hn : n ≤ l.length)
    (h : wpCalm P l.toArray w (fun a' => wpChain P l.toArray w (fun a'' W => wpList P l.toArray Q (l.drop n) a'' W) (only l n ms) a' w) (without l n ms) a) : (Code.region id l.toArray true).wp P Q a w := by
  simp only [Region.chainPlanB, Bool.and_eq_true, Bool.or_eq_true, decide_eq_true_eq] at hB
  obtain ⟨⟨⟨hch, hplan⟩, hseq⟩, hms⟩ := hB
  have hch0 := hch
  have hnle : n ≤ l.toArray.size := by simpa using hn
  refine wp_region_any hm ?_
  obtain ⟨n0, x0, h0⟩ := World.more_drew w
  rw [h0]
  have hat : ∀ p ∈ withNo 0 (l.take n), p.1 < n ∧ l.toArray[p.1]? = some p.2 := fun p hp => by
    have h2 := ((withNo_mem 0 _ p).1 hp).2
    rw [Nat.sub_zero, List.getElem?_take] at h2
    split at h2
    · rename_i hlt; exact ⟨by omega, by simpa using h2⟩
    · cases h2
  have hsorted : ((withNo 0 (l.take n)).map (·.1)).Pairwise (· < ·) := by rw [withNo_fst]; exact List.pairwise_lt_range'
  have hfilt : ∀ (q : Nat × Oper → Bool), (((withNo 0 (l.take n)).filter q).map (·.1)).Pairwise (· < ·) := fun q => by
    have : ((withNo 0 (l.take n)).filter q).Sublist (withNo 0 (l.take n)) := List.filter_sublist
    exact hsorted.sublist (this.map _)
  have hlen : ((withNo 0 (l.take n)).filter fun p => !ms.contains p.1).length + ((withNo 0 (l.take n)).filter fun p => ms.contains p.1).length = n := by
    have e1 : (withNo 0 (l.take n)).length = n := by
      have := congrArg List.length (withNo_snd 0 (l.take n))
      simp at this
      omega
    have := filt_len (fun p : Nat × Oper => ms.contains p.1) (withNo 0 (l.take n))
    omega
  have key := wpAny_of_chain (P := P) (ops := l.toArray) (w0 := w) (Q := Q) (n := n) (ms0 := ms) hch 
    (fun listed i0 inv hi0 hun0 => by
      rcases hplan with h | ⟨⟨h1, h2⟩, h3⟩
      · subst h; exact heads_of_all listed
      · exact heads_of_tail h1 h2 h3 listed i0 inv hi0 hun0)
    (K := fun a'' W => wpList P l.toArray Q (l.drop n) a'' W)
    (fun a W hK listed inv hall => by
      have hl := seq_listed inv hnle hall
      subst hl
      have hd : (l.drop n).length = l.toArray.size - n := by simp
      have := wpAny_of_seq (md := .any) (Q' := Q) (l.drop n) n _ a W (fun j => by simp [List.getElem?_drop]) (by rw [hd]; exact hseq) hK
      rwa [hd] at this)
    n ((withNo 0 (l.take n)).filter fun p => !ms.contains p.1) ((withNo 0 (l.take n)).filter fun p => ms.contains p.1) (Array.replicate l.toArray.size false) a (w.plus n0 x0) hlen (headInv_start n)
    (fun i hi => by
      simp only [getD_replicate_false, true_iff, List.mem_map, List.mem_filter]
      have hil : i < (l.take n).length := by simp; omega
      have hi2 : (i, (l.take n)[i]) ∈ withNo 0 (l.take n) := (withNo_mem 0 _ _).2 ⟨Nat.zero_le _, by rw [Nat.sub_zero]; exact List.getElem?_eq_getElem hil⟩
      cases hc : ms.contains i with
      | true => exact .inr ⟨_, ⟨hi2, hc⟩, rfl⟩
      | false => exact .inl ⟨_, ⟨hi2, by simpa using hc⟩, rfl⟩)
    (fun p hp => by
      obtain ⟨h1, h2⟩ := List.mem_filter.1 hp
      exact ⟨(hat p h1).1, (hat p h1).2, by simpa using h2⟩)
    (fun p hp => by
      obtain ⟨h1, h2⟩ := List.mem_filter.1 hp
      exact ⟨(hat p h1).1, (hat p h1).2, h2⟩)
    (hfilt _) (hfilt _)
    (fun p q l1 l2 he => by
      simp only [Region.chainsB, Bool.and_eq_true] at hch0
      have hz := hch0.1.2
      have := zip_next ms (fun i j => decide (i < j) && Region.waitsFor .any l.toArray j i) hz p.1 q.1 (l1.map (·.1)) (l2.map (·.1)) (by rw [← hms, he]; simp)
      simp only [Bool.and_eq_true] at this
      exact this.2)
    (World.grows_plus _ _ _)
    (wpCalm_mono (fun a' h => wpChain_grow (World.grows_plus _ _ _) h) _ _ h)
  rw [show n + (l.toArray.size - n) = l.toArray.size by omega] at key
  exact key
end

end Go

/-
  What is proved: the law of a region that draws its order: reads and calls beside a chain of operations that make memory, and behind it operations that only read, in any order.
-/
namespace Go
open Go.RowKit
variable {P : Program} {ops : Array Oper}

/-- each operation behind n waits for one from n on -/
def Region.restB (ops : Array Oper) (n : Nat) : Bool := (List.range ops.size).all fun t => decide (t ≤ n) || (List.range t).any fun e => decide (n ≤ e) && Region.waitsFor .any ops t e

theorem rest_waits {n : Nat} {listed : Array Bool} (hs : Region.sinkB .any ops n = true) (hc : Region.restB ops n = true) (hn : n < ops.size) (inv : HeadInv .any ops n listed) :
    ∀ (d i : Nat), n - i = d → i < n → listed.getD i true = false → ∀ t, n ≤ t → t ∉ Region.ready .any ops listed := by
  intro d
  induction d using Nat.strongRecOn with
  | _ d ih =>
    intro i hd hi hun t ht hr
    obtain ⟨_, ot, hot, hall⟩ := mem_ready.1 hr
    have htlt : t < ops.size := (Array.getElem?_eq_some_iff.1 hot).1
    by_cases htn : t = n
    · subst htn
      have h1 := List.all_eq_true.1 hs i (List.mem_range.2 hi)
      obtain ⟨j, hj, hj2⟩ := List.any_eq_true.1 h1
      simp only [Bool.and_eq_true, decide_eq_true_eq] at hj2
      obtain ⟨oj, hoj, e, he, hb, hon⟩ := Region.waitsFor_spec hj2.2
      have hjle : j ≤ t := by have := List.mem_range.1 hj; omega
      by_cases hjt : j = t
      · subst hjt
        have : oj = ot := Option.some.inj (hoj.symm.trans hot)
        subst this
        have h2 := hall e he hb
        rw [hon, getD_both hun] at h2
        cases h2
      · cases hl : listed.getD j false with
        | true =>
          have h2 := inv.closed j oj hoj hl e he hb
          rw [hon, getD_both hun] at h2
          cases h2
        | false =>
          have hjs : j < listed.size := by rw [inv.size]; omega
          exact ih (t - j) (by omega) j rfl (by omega) (getD_in hjs hl) t (Nat.le_refl _) hr
    · have h1 := List.all_eq_true.1 hc t (List.mem_range.2 htlt)
      simp only [Bool.or_eq_true, decide_eq_true_eq] at h1
      rcases h1 with h1 | h1
      · omega
      · obtain ⟨k, hk, hk2⟩ := List.any_eq_true.1 h1
        simp only [Bool.and_eq_true, decide_eq_true_eq] at hk2
        have hkt := List.mem_range.1 hk
        obtain ⟨o', ho', e, he, hb, hon⟩ := Region.waitsFor_spec hk2.2
        have : o' = ot := Option.some.inj (ho'.symm.trans hot)
        subst this
        have h2 := hall e he hb
        rw [hon, getD_both (inv.tail k hk2.1 (by omega))] at h2
        cases h2

theorem wpAny_calm_rest {Q : Exit → Act → World → Prop} {l : List Oper} {n : Nat} (hmix : Region.mixB l.toArray l.length [] = true) (hn : n ≤ l.length) {listed : Array Bool} {a : Act} {W : World}
    (inv : HeadInv .any l.toArray n listed) (hall : ∀ i, i < n → listed.getD i false = true)
    (h : wpCalm P l.toArray W (fun a' => ∀ k x, Q .normal a' (W.plus k x)) (l.drop n) a) : wpAny P .any l.toArray Q (l.toArray.size - n) listed a W := by
  obtain ⟨n0, x0, h0⟩ := World.plus_of (World.grows.refl W)
  have key := wpAny_of_order (P := P) (ops := l.toArray) (w0 := W) (Q := Q) (n := l.toArray.size) (as0 := []) (by simpa using hmix)
    (fun listed i0 inv hi0 hun0 => heads_of_all listed)
    (K := fun F a' => ∀ n' x, F (W.plus n' x) → Q .normal a' (W.plus n' x))
    (fun F F' a hFF hK n' x hf => hK n' x (hFF _ hf))
    (fun F a hK n' x hf listed inv hall => by
      rw [Nat.sub_self]
      refine ⟨List.eq_nil_iff_forall_not_mem.2 fun t ht => ?_, hK n' x hf⟩
      obtain ⟨hun, ot, hot, _⟩ := mem_ready.1 ht
      have h1 := hall t (Array.getElem?_eq_some_iff.1 hot).1
      rw [getD_both hun] at h1
      cases h1)
    (l.length - n) (withNo n (l.drop n)) [] listed (fun _ => True) a
    (by have := congrArg List.length (withNo_snd n (l.drop n)); simp at this; simp; omega)
    ⟨inv.size, inv.closed, fun t h1 h2 => by omega⟩
    (fun i hi => by
      simp only [List.map_nil, List.not_mem_nil, or_false, List.mem_map]
      have hi' : i < l.length := by simpa using hi
      constructor
      · intro hf
        have hni : n ≤ i := by
          rcases Nat.lt_or_ge i n with h1 | h1
          · rw [hall i h1] at hf; cases hf
          · exact h1
        exact ⟨(i, l[i]), (withNo_mem n _ _).2 ⟨hni, by rw [List.getElem?_drop]; simp [show n + (i - n) = i by omega]⟩, rfl⟩
      · rintro ⟨p, hp, rfl⟩
        exact getD_both (inv.tail p.1 ((withNo_mem n _ _).1 hp).1 (by simpa using hi')))
    (fun p hp => by
      obtain ⟨h1, h2⟩ := (withNo_mem n _ _).1 hp
      rw [List.getElem?_drop, show n + (p.1 - n) = p.1 by omega] at h2
      exact ⟨by have := (List.getElem?_eq_some_iff.1 h2).1; simpa using this, by simpa using h2, by simp⟩)
    (by simp)
    (by rw [withNo_fst]; exact List.pairwise_lt_range')
    (by simp)
    (fun _ _ _ _ => trivial)
    (by
      rw [withNo_snd]
      exact wpCalm_mono (fun a' h => fun n' x _ => h n' x) _ _ h)
    n0 x0 trivial
  rw [← h0] at key
  simpa using key

def Region.chainRestB (ops : Array Oper) (n : Nat) (ms : List Nat) : Bool :=
  Region.chainsB ops n ms && decide (n < ops.size) && Region.sinkB .any ops n && Region.restB ops n && Region.mixB ops ops.size []

/-- a chain beside reads and calls, and behind all of them (from n on) operations that only read, in any order -/
theorem wp_region_chainR {id : Nat} {Q : Exit → Act → World → Prop} {a : Act} {w : World} {l : List Oper} (n : Nat) (ms : List Nat) (hm : P.follows .mixedOrders = true)
    (hB : (Region.chainRestB l.toArray n ms && decide (((withNo 0 (l.take n)).filter fun p => ms.contains p.1).map (·.1) = ms)) = true) (hn : n ≤ l.length)
    (h : wpCalm P l.toArray w (fun a' => wpChain P l.toArray w (fun a'' W => wpCalm P l.toArray W (fun a3 => ∀ k x, Q .normal a3 (W.plus k x)) (l.drop n) a'') (only l n ms) a' w) (without l n ms) a) : (Code.region id l.toArray true).wp P Q a w := by
  simp only [Region.chainRestB, Bool.and_eq_true, decide_eq_true_eq] at hB
  obtain ⟨⟨⟨⟨⟨hch, hlt⟩, hsink⟩, hrest⟩, hmix⟩, hms⟩ := hB
  have hch0 := hch
  refine wp_region_any hm ?_
  obtain ⟨n0, x0, h0⟩ := World.more_drew w
  rw [h0]
  have hat : ∀ p ∈ withNo 0 (l.take n), p.1 < n ∧ l.toArray[p.1]? = some p.2 := fun p hp => by
    have h2 := ((withNo_mem 0 _ p).1 hp).2
    rw [Nat.sub_zero, List.getElem?_take] at h2
    split at h2
    · rename_i hlt; exact ⟨by omega, by simpa using h2⟩
    · cases h2
  have hsorted : ((withNo 0 (l.take n)).map (·.1)).Pairwise (· < ·) := by rw [withNo_fst]; exact List.pairwise_lt_range'
  have hfilt : ∀ (q : Nat × Oper → Bool), (((withNo 0 (l.take n)).filter q).map (·.1)).Pairwise (· < ·) := fun q => by
    have : ((withNo 0 (l.take n)).filter q).Sublist (withNo 0 (l.take n)) := List.filter_sublist
    exact hsorted.sublist (this.map _)
  have hlen : ((withNo 0 (l.take n)).filter fun p => !ms.contains p.1).length + ((withNo 0 (l.take n)).filter fun p => ms.contains p.1).length = n := by
    have e1 : (withNo 0 (l.take n)).length = n := by
      have := congrArg List.length (withNo_snd 0 (l.take n))
      simp at this
      omega
    have := filt_len (fun p : Nat × Oper => ms.contains p.1) (withNo 0 (l.take n))
    omega
  have key := wpAny_of_chain (P := P) (ops := l.toArray) (w0 := w) (Q := Q) (n := n) (ms0 := ms) hch
    (fun listed i0 inv hi0 hun0 t ht => by
      rcases Nat.lt_or_ge t n with h | h
      · exact h
      · exact absurd ht (rest_waits hsink hrest hlt inv _ i0 rfl hi0 hun0 t h))
    (K := fun a'' W => wpCalm P l.toArray W (fun a3 => ∀ k x, Q .normal a3 (W.plus k x)) (l.drop n) a'')
    (fun a W hK listed inv hall => wpAny_calm_rest (by simpa using hmix) hn inv hall hK)
    n ((withNo 0 (l.take n)).filter fun p => !ms.contains p.1) ((withNo 0 (l.take n)).filter fun p => ms.contains p.1) (Array.replicate l.toArray.size false) a (w.plus n0 x0) hlen (headInv_start n)
    (fun i hi => by
      simp only [getD_replicate_false, true_iff, List.mem_map, List.mem_filter]
      have hil : i < (l.take n).length := by simp; omega
      have hi2 : (i, (l.take n)[i]) ∈ withNo 0 (l.take n) := (withNo_mem 0 _ _).2 ⟨Nat.zero_le _, by rw [Nat.sub_zero]; exact List.getElem?_eq_getElem hil⟩
      cases hc : ms.contains i with
      | true => exact .inr ⟨_, ⟨hi2, hc⟩, rfl⟩
      | false => exact .inl ⟨_, ⟨hi2, by simpa using hc⟩, rfl⟩)
    (fun p hp => by
      obtain ⟨h1, h2⟩ := List.mem_filter.1 hp
      exact ⟨(hat p h1).1, (hat p h1).2, by simpa using h2⟩)
    (fun p hp => by
      obtain ⟨h1, h2⟩ := List.mem_filter.1 hp
      exact ⟨(hat p h1).1, (hat p h1).2, h2⟩)
    (hfilt _) (hfilt _)
    (fun p q l1 l2 he => by
      simp only [Region.chainsB, Bool.and_eq_true] at hch0
      have hz := hch0.1.2
      have := zip_next ms (fun i j => decide (i < j) && Region.waitsFor .any l.toArray j i) hz p.1 q.1 (l1.map (·.1)) (l2.map (·.1)) (by rw [← hms, he]; simp)
      simp only [Bool.and_eq_true] at this
      exact this.2)
    (World.grows_plus _ _ _)
    (wpCalm_mono (fun a' h => wpChain_grow (World.grows_plus _ _ _) h) _ _ h)
  rw [show n + (l.toArray.size - n) = l.toArray.size by omega] at key
  exact key

end Go

/-
  What is proved: CheckTree of the reference (20).
-/
namespace Go.Proofs.Ytdminglglapnlaa
open Go.RowKit
attribute [local irreducible] Go.wpCalm Go.wpChain

theorem Tr.tells_none {t : Tr} {r : Reg} {m : Nat} (h : t.say r (r.val m) = none) : t.tellsB r m = false := by unfold Tr.tellsB; rw [h]
theorem Tr.tells_some {t : Tr} {r : Reg} {m : Nat} {x : Int × Int} (h : t.say r (r.val m) = some x) : t.tellsB r m = decide (-1 - x.1 = r.who m) ∧ t.costAt r m = x.2 := by unfold Tr.tellsB Tr.costAt; rw [h]; exact ⟨rfl, rfl⟩
theorem Tr.treeE_bad {t : Tr} {r : Reg} (h : t.check r ≠ 0) : t.treeE r = t.check r ∧ t.treeA r = 0 := by
  have e : t.treeE r = t.check r := by unfold Tr.treeE; rw [if_neg h]
  exact ⟨e, by unfold Tr.treeA; rw [if_neg (by rw [e]; exact h)]⟩
theorem Tr.treeE_24 {t : Tr} {r : Reg} (h : t.check r = 0) {m : Nat} (hm : m < r.nm) (hb : t.tellsB r m = false) : t.treeE r = 24 ∧ t.treeA r = 0 := by
  have e : t.treeE r = 24 := by
    unfold Tr.treeE
    rw [if_pos h, if_neg]
    simp only [List.all_eq_true, List.mem_range, Classical.not_forall]
    exact ⟨m, hm, by rw [hb]; decide⟩
  exact ⟨e, by unfold Tr.treeA; rw [if_neg (by rw [e]; decide)]⟩
theorem Tr.treeE_0 {t : Tr} {r : Reg} (h : t.check r = 0) (hb : ∀ m, m < r.nm → t.tellsB r m = true) : t.treeE r = 0 ∧ t.treeA r = mx (t.costAt r) r.nm := by
  have e : t.treeE r = 0 := by
    unfold Tr.treeE
    rw [if_pos h, if_pos]
    simp only [List.all_eq_true, List.mem_range]
    exact hb
  exact ⟨e, by unfold Tr.treeA; rw [if_pos e]⟩
theorem costAt_bd {t : Tr} {r : Reg} (hr : r.Ok) (ht : t.Ok r.nc) (m : Nat) : 0 ≤ t.costAt r m ∧ t.costAt r m ≤ 100000 := by
  unfold Tr.costAt
  rw [ht.say_eq]
  split
  · omega
  · rename_i x h
    split at h
    · cases h
    · cases h
      have h1 := costSum_bd hr.cost _ (ht.look_lt (r.val m))
      have h2 := ht.look_len (r.val m)
      dsimp only
      omega
theorem mx_bd {f : Nat → Int} {c : Int} (hc : 0 ≤ c) (n : Nat) (h : ∀ i, f i ≤ c) : 0 ≤ mx f n ∧ mx f n ≤ c := ⟨mx_nonneg f n, (mx_le f c n).2 ⟨hc, fun i _ => h i⟩⟩
theorem max_if (a b : Int) : (if a < b then b else a) = max a b := by split <;> omega

set_option maxHeartbeats 4000000 in
theorem rtree_c (w : World) (rv : Value) (r : Reg) (hr : RegAt w rv r) (tv : Value) (t : Tr) (ht : TreeAt w tv t) :
    Calls Try.prog 20 #[rv, tv] w fun e w' => e = .returned (.tuple #[.int .i64 (t.treeA r), .int .i64 (t.treeE r)]) ∧ w.grows w' := by
  have Hr := Lib.hid hr
  have Ht := Lib.hid ht
  obtain ⟨mv, cv, mrow, rfl, -, -, -⟩ := hr
  obtain ⟨nv, rfl, hnv⟩ := ht
  have Hnv := Lib.hid hnv
  have h54 := fun W h1 h2 => isTree_c W (.agg #[mv, cv]) r h1 (.agg #[.int .i64 t.root, nv]) t h2
  clear hnv
  go_enter Try.func20, Try.ntmps20
  by_cases hc : t.check r = 0
  · rw [hc] at h54
    have Hc := Lib.hid hc
    have hok := Lib.hid ((t.ok_iff r).1 hc)
    clear hc
    go_wp2_with (go_at_call 54; refine (h54 _ (Hr.out.mono (by (repeat (first | exact World.grows.refl _ | assumption | refine World.grows.alloc ?_ _ | refine World.grows.plus ?_ _ _ | refine World.grows.drew ?_)))) (Ht.out.mono (by (repeat (first | exact World.grows.refl _ | assumption | refine World.grows.alloc ?_ _ | refine World.grows.plus ?_ _ _ | refine World.grows.drew ?_))))).mono ?_; rintro e w' ⟨rfl, hg⟩; obtain ⟨n2, x2, rfl⟩ := World.plus_of hg)
    have hRk := Lib.hid (Reg.ok_of hok.out.1)
    obtain ⟨mb, mo, mc, cb, co, cc, rb, ro, rc, he, hm1, hm2, hc1, hc2, hR⟩ := Hr.out.ok hRk.out
    simp only [Value.agg.injEq, Array.mk.injEq, List.cons.injEq, and_true] at he
    obtain ⟨rfl, rfl⟩ := he
    have HR := Lib.hid hR
    clear hR
    unfold maxLen at hm2 hc2
    go_loopw [6, 7] (fun s i wr => ∃ k : Nat, k ≤ r.nm ∧ i = .int .i64 k ∧ s = .int .i64 (mx (t.costAt r) k) ∧ Hid (∀ j, j < k → t.tellsB r j = true) ∧ ((w.alloc (.cells #[.slice (some ⟨mb, mo, none⟩) r.nm mc, .slice (some ⟨cb, co, none⟩) r.nc cc] 25)).alloc (.cells #[.int .i64 t.root, nv] 28)).grows wr) (fun _ i _ => r.nm - (intOf i).toNat)
    case atStart => exact ⟨0, by omega, rfl, rfl, Lib.hid fun j hj => by omega, by (repeat (first | exact World.grows.refl _ | assumption | refine World.grows.alloc ?_ _ | refine World.grows.plus ?_ _ _ | refine World.grows.drew ?_))⟩
    case round =>
      obtain ⟨k, hk, rfl, rfl, hl, hg⟩ := hrel
      obtain ⟨n1, x1, rfl⟩ := World.plus_of hg
      by_cases hlt : k < r.nm
      · have h0 := HR.out.who k hlt
        have h1 := HR.out.row k hlt
        have hrc := HR.out.cap k hlt
        have hsay := hok.out.2.say_eq (r.val k)
        have hbd := Lib.hid (hok.out.2.look_bd (r.val k))
        have hll := Lib.hid (hok.out.2.look_len (r.val k))
        have hlf := Lib.hid (hok.out.2.look_lt (r.val k))
        have h40 := fun W h1 h2 => rlooks_c W nv t r.nc h1 hok.out.2 (rb k) (ro k) (rc k) (r.val k) hrc h2
        obtain ⟨T, hT⟩ : ∃ T, t.look (r.val k) t.root = T := ⟨_, rfl⟩
        rw [hT] at hsay hbd hll hlf
        simp only [hT] at h40
        obtain ⟨L, E⟩ := T
        dsimp only at h40 hsay hbd hll hlf
        clear hT
        have hmb := mx_bd (c := 100000) (by decide) k (fun i => (costAt_bd hRk.out hok.out.2 i).2)
        by_cases hE : E = 0
        · rw [if_pos hE] at hsay
          subst hE
          have hA := Lib.hid (Tr.treeE_24 Hc.out hlt (Tr.tells_none hsay))
          clear hsay
          go_wp2
          (refine wp_region_chainR 8 [7] (by kernel_rfl) (by kernel_rfl) (by decide) ?_; simp only [without, only, withNo, List.take_succ_cons, List.take_zero, List.drop_succ_cons, List.drop_zero, List.take_nil, List.drop_nil, Nat.reduceAdd, Nat.reduceSub, List.filter, List.contains_cons, List.contains_nil, Nat.reduceBEq, Bool.or_false, Bool.false_or, Bool.true_or, Bool.or_true, Bool.or_self, Bool.not_true, Bool.not_false, List.map_cons, List.map_nil]; (repeat (refine wpCalm_step (fun K hK => ?_); go_simp; first | (refine hK _ ?_; clear hK K) | (apply Exists.intro; refine ⟨fun n' x' => ?_, hK _ ?_⟩; (fail); clear hK K))); refine wpCalm_nil ?_)
          (refine wpChain_step (fun K hK nc xc => ?_); go_simp)
          refine (h40 _ (Hnv.out.mono (by (repeat (first | exact World.grows.refl _ | assumption | refine World.grows.alloc ?_ _ | refine World.grows.plus ?_ _ _ | refine World.grows.drew ?_)))) (fun f hf => World.grows.cell_of (by (repeat (first | exact World.grows.refl _ | assumption | refine World.grows.alloc ?_ _ | refine World.grows.plus ?_ _ _ | refine World.grows.drew ?_))) (HR.out.val k f hlt hf))).mono ?_
          rintro e W2 ⟨lv, rfl, hL, hg2⟩
          refine ⟨_, rfl, hg2, hK _ _ ?_⟩
          clear hK K
          (refine wpChain_nil (fun nc xc => ?_))
          ((try simp only [without, only, withNo, List.take_succ_cons, List.take_zero, List.drop_succ_cons, List.drop_zero, List.take_nil, List.drop_nil, Nat.reduceAdd, Nat.reduceSub, List.filter, List.contains_cons, List.contains_nil, Nat.reduceBEq, Bool.or_false, Bool.false_or, Bool.true_or, Bool.or_true, Bool.or_self, Bool.not_true, Bool.not_false, List.map_cons, List.map_nil]); (repeat (refine wpCalm_step (fun K hK => ?_); go_simp; first | (refine hK _ ?_; clear hK K) | (apply Exists.intro; refine ⟨fun n' x' => ?_, hK _ ?_⟩; (fail); clear hK K))); refine wpCalm_nil ?_; intro nq xq)
          go_wp2
          (refine bodyPost_ret (v := .tuple #[.int .i64 0, .int .i64 24]) (by simp [results, Try.results20, go_sem]) rfl ?_)
          exact ⟨by rw [hA.out.1, hA.out.2], World.grows.trans (by (repeat (first | exact World.grows.refl _ | assumption | refine World.grows.alloc ?_ _ | refine World.grows.plus ?_ _ _ | refine World.grows.drew ?_))) (hg2.trans (by (repeat (first | exact World.grows.refl _ | assumption | refine World.grows.alloc ?_ _ | refine World.grows.plus ?_ _ _ | refine World.grows.drew ?_))))⟩
        · rw [if_neg hE] at hsay
          obtain ⟨ht1, ht2⟩ := Tr.tells_some hsay
          dsimp only at ht1 ht2
          have hbd1 := hbd.out.1
          have hbd2 := hbd.out.2
          clear hsay
          have h56 := fun W h1 lv h2 => rcost_c W (.slice (some ⟨mb, mo, none⟩) r.nm mc) r cb co cc ⟨hc1, by unfold maxLen; omega⟩ hRk.out.cost h1 lv L h2 hlf.out (by have := hll.out; omega)
          have hcs := costSum_bd hRk.out.cost L hlf.out
          have hLL := hll.out
          have Hmx : Hid (mx (t.costAt r) (k + 1) = max (mx (t.costAt r) k) (costSum r.cost L)) := Lib.hid (by simp only [mx]; rw [ht2])
          obtain ⟨M, hM⟩ : ∃ M, mx (t.costAt r) k = M := ⟨_, rfl⟩
          rw [hM] at hmb Hmx ⊢
          clear hM
          by_cases hw : -1 - E = r.who k
          · rw [← hw] at h0
            have hT : Hid (t.tellsB r k = true) := Lib.hid (by rw [ht1]; simp [hw])
            clear hw ht1 ht2
            go_wp2
            (refine wp_region_chainR 8 [7] (by kernel_rfl) (by kernel_rfl) (by decide) ?_; simp only [without, only, withNo, List.take_succ_cons, List.take_zero, List.drop_succ_cons, List.drop_zero, List.take_nil, List.drop_nil, Nat.reduceAdd, Nat.reduceSub, List.filter, List.contains_cons, List.contains_nil, Nat.reduceBEq, Bool.or_false, Bool.false_or, Bool.true_or, Bool.or_true, Bool.or_self, Bool.not_true, Bool.not_false, List.map_cons, List.map_nil]; (repeat (refine wpCalm_step (fun K hK => ?_); go_simp; first | (refine hK _ ?_; clear hK K) | (apply Exists.intro; refine ⟨fun n' x' => ?_, hK _ ?_⟩; (fail); clear hK K))); refine wpCalm_nil ?_)
            (refine wpChain_step (fun K hK nc xc => ?_); go_simp)
            refine (h40 _ (Hnv.out.mono (by (repeat (first | exact World.grows.refl _ | assumption | refine World.grows.alloc ?_ _ | refine World.grows.plus ?_ _ _ | refine World.grows.drew ?_)))) (fun f hf => World.grows.cell_of (by (repeat (first | exact World.grows.refl _ | assumption | refine World.grows.alloc ?_ _ | refine World.grows.plus ?_ _ _ | refine World.grows.drew ?_))) (HR.out.val k f hlt hf))).mono ?_
            rintro e W2 ⟨lv, rfl, hL, hg2⟩
            refine ⟨_, rfl, hg2, hK _ _ ?_⟩
            clear hK K
            have hL2 := Lib.hid hL
            have hg3 := World.grows.trans (World.grows_plus _ n1 x1) (World.grows.trans (World.grows_plus _ _ _) hg2)
            have Hg3 := Lib.hid hg3
            have b0 := hg3.cell_of (a := ⟨w.heap.size, 0, none⟩) (by simp [go_sem]; rfl)
            have b1 := hg3.cell_of (a := ⟨w.heap.size, 1, none⟩) (by simp [go_sem]; rfl)
            have h1' := World.grows.cell_of (World.grows.trans (by (repeat (first | exact World.grows.refl _ | assumption | refine World.grows.alloc ?_ _ | refine World.grows.plus ?_ _ _ | refine World.grows.drew ?_))) hg3) h0
            clear hL hg2 hg3
            (refine wpChain_nil (fun nc xc => ?_))
            ((try simp only [without, only, withNo, List.take_succ_cons, List.take_zero, List.drop_succ_cons, List.drop_zero, List.take_nil, List.drop_nil, Nat.reduceAdd, Nat.reduceSub, List.filter, List.contains_cons, List.contains_nil, Nat.reduceBEq, Bool.or_false, Bool.false_or, Bool.true_or, Bool.or_true, Bool.or_self, Bool.not_true, Bool.not_false, List.map_cons, List.map_nil]); (repeat (refine wpCalm_step (fun K hK => ?_); go_simp; first | (refine hK _ ?_; clear hK K) | (apply Exists.intro; refine ⟨fun n' x' => ?_, hK _ ?_⟩; (fail); clear hK K))); refine wpCalm_nil ?_; intro nq xq)
            go_wp2_with (go_at_call 56; refine (h56 _ (fun f hf => World.grows.cell_of (World.grows.trans (by (repeat (first | exact World.grows.refl _ | assumption | refine World.grows.alloc ?_ _ | refine World.grows.plus ?_ _ _ | refine World.grows.drew ?_))) (Hg3.out.trans (by (repeat (first | exact World.grows.refl _ | assumption | refine World.grows.alloc ?_ _ | refine World.grows.plus ?_ _ _ | refine World.grows.drew ?_))))) (HR.out.cost f hf)) _ (hL2.out.mono (by (repeat (first | exact World.grows.refl _ | assumption | refine World.grows.alloc ?_ _ | refine World.grows.plus ?_ _ _ | refine World.grows.drew ?_))))).mono ?_; rintro e w' ⟨rfl, hg⟩; obtain ⟨n5, x5, rfl⟩ := World.plus_of hg)
            go_roundw
            case rel => exact ⟨k + 1, by omega, by go_num, by rw [Hmx.out, ← max_if], Lib.hid (upto_succ hl.out hT.out), Hg3.out.trans (by (repeat (first | exact World.grows.refl _ | assumption | refine World.grows.alloc ?_ _ | refine World.grows.plus ?_ _ _ | refine World.grows.drew ?_)))⟩
            case measure => simp [intOf]; omega
          · have hT : t.tellsB r k = false := by rw [ht1]; simp [hw]
            have hA := Lib.hid (Tr.treeE_24 Hc.out hlt hT)
            have hwb : (-1 - E != r.who k) = true := by simp [hw]
            clear hT ht1 ht2
            go_wp2
            (refine wp_region_chainR 8 [7] (by kernel_rfl) (by kernel_rfl) (by decide) ?_; simp only [without, only, withNo, List.take_succ_cons, List.take_zero, List.drop_succ_cons, List.drop_zero, List.take_nil, List.drop_nil, Nat.reduceAdd, Nat.reduceSub, List.filter, List.contains_cons, List.contains_nil, Nat.reduceBEq, Bool.or_false, Bool.false_or, Bool.true_or, Bool.or_true, Bool.or_self, Bool.not_true, Bool.not_false, List.map_cons, List.map_nil]; (repeat (refine wpCalm_step (fun K hK => ?_); go_simp; first | (refine hK _ ?_; clear hK K) | (apply Exists.intro; refine ⟨fun n' x' => ?_, hK _ ?_⟩; (fail); clear hK K))); refine wpCalm_nil ?_)
            (refine wpChain_step (fun K hK nc xc => ?_); go_simp)
            refine (h40 _ (Hnv.out.mono (by (repeat (first | exact World.grows.refl _ | assumption | refine World.grows.alloc ?_ _ | refine World.grows.plus ?_ _ _ | refine World.grows.drew ?_)))) (fun f hf => World.grows.cell_of (by (repeat (first | exact World.grows.refl _ | assumption | refine World.grows.alloc ?_ _ | refine World.grows.plus ?_ _ _ | refine World.grows.drew ?_))) (HR.out.val k f hlt hf))).mono ?_
            rintro e W2 ⟨lv, rfl, hL, hg2⟩
            refine ⟨_, rfl, hg2, hK _ _ ?_⟩
            clear hK K
            have hg3 := World.grows.trans (World.grows_plus _ n1 x1) (World.grows.trans (World.grows_plus _ _ _) hg2)
            have Hg3 := Lib.hid hg3
            have b0 := hg3.cell_of (a := ⟨w.heap.size, 0, none⟩) (by simp [go_sem]; rfl)
            have b1 := hg3.cell_of (a := ⟨w.heap.size, 1, none⟩) (by simp [go_sem]; rfl)
            have h0' := World.grows.cell_of (World.grows.trans (by (repeat (first | exact World.grows.refl _ | assumption | refine World.grows.alloc ?_ _ | refine World.grows.plus ?_ _ _ | refine World.grows.drew ?_))) hg3) h0
            clear hL hg2 hg3
            (refine wpChain_nil (fun nc xc => ?_))
            ((try simp only [without, only, withNo, List.take_succ_cons, List.take_zero, List.drop_succ_cons, List.drop_zero, List.take_nil, List.drop_nil, Nat.reduceAdd, Nat.reduceSub, List.filter, List.contains_cons, List.contains_nil, Nat.reduceBEq, Bool.or_false, Bool.false_or, Bool.true_or, Bool.or_true, Bool.or_self, Bool.not_true, Bool.not_false, List.map_cons, List.map_nil]); (repeat (refine wpCalm_step (fun K hK => ?_); go_simp; first | (refine hK _ ?_; clear hK K) | (apply Exists.intro; refine ⟨fun n' x' => ?_, hK _ ?_⟩; (fail); clear hK K))); refine wpCalm_nil ?_; intro nq xq)
            go_wp2
            (refine bodyPost_ret (v := .tuple #[.int .i64 0, .int .i64 24]) (by simp [results, Try.results20, go_sem]) rfl ?_)
            exact ⟨by rw [hA.out.1, hA.out.2], World.grows.trans (by (repeat (first | exact World.grows.refl _ | assumption | refine World.grows.alloc ?_ _ | refine World.grows.plus ?_ _ _ | refine World.grows.drew ?_))) (Hg3.out.trans (by (repeat (first | exact World.grows.refl _ | assumption | refine World.grows.alloc ?_ _ | refine World.grows.plus ?_ _ _ | refine World.grows.drew ?_))))⟩
      · have hke : k = r.nm := by omega
        subst hke
        have hA := Lib.hid (Tr.treeE_0 Hc.out hl.out)
        go_wp2
        (refine bodyPost_ret (v := .tuple #[.int .i64 (mx (t.costAt r) r.nm), .int .i64 0]) (by simp [results, Try.results20, go_sem]) rfl ?_)
        exact ⟨by rw [hA.out.1, hA.out.2], by (repeat (first | exact World.grows.refl _ | assumption | refine World.grows.alloc ?_ _ | refine World.grows.plus ?_ _ _ | refine World.grows.drew ?_))⟩
  · have hA := Lib.hid (Tr.treeE_bad (r := r) hc)
    go_wp2_with (go_at_call 54; refine (h54 _ (Hr.out.mono (by (repeat (first | exact World.grows.refl _ | assumption | refine World.grows.alloc ?_ _ | refine World.grows.plus ?_ _ _ | refine World.grows.drew ?_)))) (Ht.out.mono (by (repeat (first | exact World.grows.refl _ | assumption | refine World.grows.alloc ?_ _ | refine World.grows.plus ?_ _ _ | refine World.grows.drew ?_))))).mono ?_; rintro e w' ⟨rfl, hg⟩; obtain ⟨n2, x2, rfl⟩ := World.plus_of hg)
    (refine bodyPost_ret (v := .tuple #[.int .i64 0, .int .i64 (t.check r)]) (by simp [results, Try.results20, go_sem]) rfl ?_)
    exact ⟨by rw [hA.out.1, hA.out.2], by (repeat (first | exact World.grows.refl _ | assumption | refine World.grows.alloc ?_ _ | refine World.grows.plus ?_ _ _ | refine World.grows.drew ?_))⟩
end Go.Proofs.Ytdminglglapnlaa

