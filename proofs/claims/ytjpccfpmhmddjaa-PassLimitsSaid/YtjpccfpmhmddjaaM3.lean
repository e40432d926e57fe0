/-
  What is proved: places and steps as keys of maps.
-/
import Derived.Test.YtjpccfpmhmddjaaM2
import Derived.DeepKeys3
import Derived.RangeFuncBound
import Derived.Lib.Hide
set_option linter.all false
namespace Go.Proofs.Ytjpccfpmhmddjaa
open Go.RowKit

abbrev Pl := Nat × Nat × Nat × Nat
def tup (p : Nat → Nat) : Pl := (p 0, p 1, p 2, p 3)
def ePl (k : Pl) : Value := .agg #[.int .i64 k.1, .int .i64 k.2.1, .int .i64 k.2.2.1, .int .i64 k.2.2.2]
abbrev St := Nat × Pl × Int
def eSt (s : St) : Value := .agg #[.int .i64 s.1, .int .i64 s.2.1.1, .int .i64 s.2.1.2.1, .int .i64 s.2.1.2.2.1, .int .i64 s.2.1.2.2.2, .int .i64 s.2.2]

theorem eq76 (d : Nat) (w : World) (a b : Pl) : (Op.equalIn (d + 2) 76 (ePl a) (ePl b)).run Try.prog w = .ok (decide (a = b)) w := by
  obtain ⟨i, hi⟩ := info_of_underlying Try.underlying3
  obtain ⟨a0, a1, a2, a3⟩ := a
  obtain ⟨b0, b1, b2, b3⟩ := b
  simp only [ePl]
  rw [run_equalIn_array w (d + 1) _ _ Try.underlying76 hi]
  have h : Try.prog.cellsOf 3 = 1 := by kernel_rfl
  rw [h]
  simp only [List.range_succ, List.range_zero, List.nil_append, List.cons_append, Op.eqItems]
  simp [go_sem]
  by_cases h0 : a0 = b0 <;> by_cases h1 : a1 = b1 <;> by_cases h2 : a2 = b2 <;> by_cases h3 : a3 = b3 <;> simp [h0, h1, h2, h3] <;> intros <;> omega

theorem chk3 (em : Bool) (n : Nat) (x : Int) (w : World) (t : TypeId) (ht : Try.prog.underlying t = some (.int .i64)) : (Instr.checkKey em (n + 1) t (.int .i64 x)).run Try.prog w = .ok () w := by
  rw [Instr.checkKey]
  simp [run_underlying ht]

theorem chk76 (em : Bool) (n : Nat) (a : Pl) (w : World) : (Instr.checkKey em (n + 2) 76 (ePl a)).run Try.prog w = .ok () w := by
  obtain ⟨i, hi⟩ := info_of_underlying Try.underlying3
  rw [Instr.checkKey]
  have c := fun x : Int => chk3 em n x w 3 Try.underlying3
  have h : Try.prog.cellsOf 3 = 1 := by kernel_rfl
  simp only [ePl, Sem.run_bind, run_underlying Try.underlying76, Result.andThen_ok, Std.Legacy.Range.forIn_eq_forIn_range', Std.Legacy.Range.size, Nat.sub_zero, Nat.add_one_sub_one, Nat.div_one,
    List.range'_succ, List.range'_zero, List.forIn_cons, List.forIn_nil, run_sizeOf w hi, h]
  simp [go_sem, c]

theorem keyPl : KeyOk Try.prog 76 ePl where
  wide := by kernel_rfl
  eq := fun a b w => eq76 9998 w a b
  chk := fun em a w => chk76 em 9998 a w
  bits := fun a => by simp [ePl, Instr.sameBits]

theorem eq111 (d : Nat) (w : World) (a b : St) : (Op.equalIn (d + 3) 111 (eSt a) (eSt b)).run Try.prog w = .ok (decide (a = b)) w := by
  obtain ⟨a0, a1, a2⟩ := a
  obtain ⟨b0, b1, b2⟩ := b
  have h76 := eq76 d w a1 b1
  simp only [ePl] at h76
  simp only [eSt]
  rw [run_equalIn_struct w (d + 2) 111 _ _ (by kernel_rfl) (by kernel_rfl)]
  simp [go_sem, h76]
  by_cases h0 : a0 = b0 <;> by_cases h1 : a1 = b1 <;> by_cases h2 : a2 = b2 <;> simp [h0, h1, h2] <;> intros <;> omega

theorem keySt : KeyOk Try.prog 111 eSt where
  wide := by kernel_rfl
  eq := fun a b w => eq111 9997 w a b
  chk := fun em a w => by
    show (Instr.checkKey em (9999 + 1) 111 _).run _ _ = _
    rw [Instr.checkKey]
    have c := fun x : Int => chk3 em 9998 x w 3 Try.underlying3
    have c2 := fun x : Int => chk3 em 9998 x w 2 Try.underlying2
    have h76 := chk76 em 9997 a.2.1 w
    simp only [ePl] at h76
    simp only [eSt]
    simp [go_sem, c, c2, h76]
  bits := fun a => by simp [eSt, Instr.sameBits]

/-! ### the laws of the three kinds of maps, each at one block and one map -/
theorem zero2 (w : World) : (zeroValue 2).run Try.prog w = .ok (.int .i64 0) w := by kernel_rfl
theorem zero3 (w : World) : (zeroValue 3).run Try.prog w = .ok (.int .i64 0) w := by kernel_rfl

theorem lk99 (m : PM Pl) (b : Nat) : ∀ W : World, W.heap[b]? = some (m.obj ePl) → ∀ p, (Instr.lookup 99 (.map (some b)) (plc p) false).run Try.prog W = .ok (.int .i64 (m.getD (tup p))) W :=
  fun W h p => run_lookup_pm keyPl Try.underlying99 zero2 m b W h (tup p)
theorem lk93 (m : PM Pl) (b : Nat) : ∀ W : World, W.heap[b]? = some (m.obj ePl) → ∀ p, (Instr.lookup 93 (.map (some b)) (plc p) false).run Try.prog W = .ok (.int .i64 (m.getD (tup p))) W :=
  fun W h p => run_lookup_pm keyPl Try.underlying93 zero3 m b W h (tup p)
theorem lko93 (m : PM Pl) (b : Nat) : ∀ W : World, W.heap[b]? = some (m.obj ePl) → ∀ p, (Instr.lookup 93 (.map (some b)) (plc p) true).run Try.prog W = .ok (.tuple #[.int .i64 (m.getD (tup p)), .bool (m.get (tup p)).isSome]) W :=
  fun W h p => run_lookup_ok_pm keyPl Try.underlying93 zero3 m b W h (tup p)
theorem up99 (m : PM Pl) (b : Nat) : ∀ W : World, W.heap[b]? = some (m.obj ePl) → ∀ p v, (Instr.mapUpdate 99 (.map (some b)) (plc p) (.int .i64 v)).run Try.prog W = .ok () (W.putObj b ((m.set (tup p) v).obj ePl)) :=
  fun W h p v => run_mapUpdate_pm keyPl Try.underlying99 m b W h (tup p) v
theorem up93 (m : PM Pl) (b : Nat) : ∀ W : World, W.heap[b]? = some (m.obj ePl) → ∀ p v, (Instr.mapUpdate 93 (.map (some b)) (plc p) (.int .i64 v)).run Try.prog W = .ok () (W.putObj b ((m.set (tup p) v).obj ePl)) :=
  fun W h p v => run_mapUpdate_pm keyPl Try.underlying93 m b W h (tup p) v
theorem up127 (m : PM St) (b : Nat) : ∀ W : World, W.heap[b]? = some (m.obj eSt) → ∀ r p h v, (Instr.mapUpdate 127 (.map (some b)) (stp r p h) (.int .i64 v)).run Try.prog W = .ok () (W.putObj b ((m.set (r, tup p, h) v).obj eSt)) :=
  fun W hb r p h v => run_mapUpdate_pm keySt Try.underlying127 m b W hb (r, tup p, h) v
theorem del127 (m : PM St) (b : Nat) : ∀ W : World, W.heap[b]? = some (m.obj eSt) → ∀ ty r p h, (Builtin.delete_ #[127, 111] ty #[.map (some b), stp r p h]).run Try.prog W = .ok (.tuple #[]) (W.putObj b ((m.del (r, tup p, h)).obj eSt)) :=
  fun W hb ty r p h => run_delete_pm keySt Try.underlying127 m b W ty 111 hb (r, tup p, h)

end Go.Proofs.Ytjpccfpmhmddjaa

/-
  What is proved: slices.IndexFunc and slices.ContainsFunc at the types of this seat, whatever the function does that they are handed.
-/
namespace Go.Proofs.Ytjpccfpmhmddjaa
open Go.RowKit

/-- the first number below m at which q holds, or -1 -/
def fstIdx (q : Nat → Bool) (m : Nat) : Int := match (List.range m).findIdx? q with | some i => i | none => -1

theorem fstIdx_at (q : Nat → Bool) (m k : Nat) (hk : k < m) (h : ∀ i, i < k → q i = false) (hq : q k = true) : fstIdx q m = k := by
  unfold fstIdx
  have : (List.range m).findIdx? q = some k := by
    rw [List.findIdx?_eq_some_iff_getElem]
    refine ⟨by simpa using hk, by simpa using hq, fun j hj => ?_⟩
    simpa using h j hj
  rw [this]
theorem fstIdx_none (q : Nat → Bool) (m : Nat) (h : ∀ i, i < m → q i = false) : fstIdx q m = -1 := by
  unfold fstIdx
  have : (List.range m).findIdx? q = none := by
    rw [List.findIdx?_eq_none_iff]
    intro x hx
    exact h x (by simpa using hx)
  rw [this]
theorem fstIdx_any (q : Nat → Bool) (m : Nat) : decide (0 ≤ fstIdx q m) = (List.range m).any q := by
  by_cases h : ∃ k, k < m ∧ q k = true
  · obtain ⟨k, hk, hq⟩ := h
    have hr : (List.range m).any q = true := List.any_eq_true.2 ⟨k, by simpa using hk, hq⟩
    rw [hr]
    unfold fstIdx
    cases hf : (List.range m).findIdx? q with
    | some i => simp
    | none =>
      rw [List.findIdx?_eq_none_iff] at hf
      have := hf k (by simpa using hk)
      rw [hq] at this; cases this
  · have hall : ∀ i, i < m → q i = false := fun i hi => by
      cases hq : q i with
      | false => rfl
      | true => exact absurd ⟨i, hi, hq⟩ h
    rw [fstIdx_none q m hall]
    have hr : (List.range m).any q = false := by
      rw [List.any_eq_false]
      intro x hx
      rw [hall x (by simpa using hx)]; simp
    rw [hr]; rfl
theorem fstIdx_bd (q : Nat → Bool) (m : Nat) : -1 ≤ fstIdx q m ∧ fstIdx q m ≤ m := by
  unfold fstIdx
  cases hf : (List.range m).findIdx? q with
  | some i =>
    have := List.findIdx?_eq_some_iff_getElem.1 hf
    obtain ⟨h, _⟩ := this
    simp at h
    simp <;> omega
  | none => simp <;> omega

set_option maxHeartbeats 1000000 in
theorem idx79 (w : World) (s : Value) (m : Nat) (c : Nat → Nat → Value) (ff : Nat) (lb : Array Value) (q : Nat → Bool) (hs : SliceAt w s m 1 c)
    (eg : ∀ args w, (callFunc ff args).run Try.prog w = .ok (.enter ff args) w)
    (hf : ∀ i, i < m → ∀ W : World, w.grows W → Calls Try.prog ff (#[c i 0] ++ lb) W fun e W' => e = .returned (.bool (q i)) ∧ W.grows W') :
    Calls Try.prog 79 #[s, .func (.func ff) #[] lb] w fun e w' => e = .returned (.int .i64 (fstIdx q m)) ∧ w.grows w' := by
  obtain ⟨a, cap, rfl, hcap, hmax, hc⟩ := hs
  unfold maxLen at hmax
  go_enter Try.func79, Try.ntmps79
  go_wp2
  go_loopw [8] (fun i wr => ∃ k : Nat, k ≤ m ∧ i = .int .i64 k ∧ (∀ j, j < k → q j = false) ∧ w.grows wr) (fun i _ => m - (intOf i).toNat)
  case atStart => exact ⟨0, by omega, rfl, fun j hj => by omega, World.grows.refl _⟩
  case round =>
    obtain ⟨k, hk, rfl, hq, hg⟩ := hrel
    have Hq := Lib.hid hq
    clear hq
    obtain ⟨n, x, rfl⟩ := World.plus_of hg
    by_cases hlt : k < m
    · obtain ⟨b, o, rfl, h0⟩ := hc k 0 hlt (by omega)
      simp only [Nat.mul_one, Nat.add_zero] at h0

      have hfk := hf k hlt
      cases hqk : q k with
      | true =>
        rw [hqk] at hfk
        have Hqk := Lib.hid hqk
        clear hqk
        go_wp2_with (refine (hfk _ (by (repeat (first | exact World.grows.refl _ | assumption | refine World.grows.alloc ?_ _ | refine World.grows.plus ?_ _ _ | refine World.grows.drew ?_)))).mono ?_; rintro e w' ⟨rfl, hg2⟩; obtain ⟨n2, x2, rfl⟩ := World.plus_of hg2)
        go_ret
        exact ⟨ret_int (fstIdx_at q m k hlt Hq.out Hqk.out).symm, by (repeat (first | exact World.grows.refl _ | assumption | refine World.grows.alloc ?_ _ | refine World.grows.plus ?_ _ _ | refine World.grows.drew ?_))⟩
      | false =>
        rw [hqk] at hfk
        have Hqk := Lib.hid hqk
        clear hqk
        go_wp2_with (refine (hfk _ (by (repeat (first | exact World.grows.refl _ | assumption | refine World.grows.alloc ?_ _ | refine World.grows.plus ?_ _ _ | refine World.grows.drew ?_)))).mono ?_; rintro e w' ⟨rfl, hg2⟩; obtain ⟨n2, x2, rfl⟩ := World.plus_of hg2)
        go_roundw
        case rel => exact ⟨k + 1, by omega, by go_num, fun j hj => (by rcases Nat.lt_or_ge j k with h | h; exact Hq.out j h; have hjk : j = k := (by omega); subst hjk; exact Hqk.out), by (repeat (first | exact World.grows.refl _ | assumption | refine World.grows.alloc ?_ _ | refine World.grows.plus ?_ _ _ | refine World.grows.drew ?_))⟩
        case measure => simp [intOf]; omega
    · have hke : k = m := by omega
      subst hke
      go_wp2
      go_ret
      exact ⟨ret_int (fstIdx_none q k Hq.out).symm, by (repeat (first | exact World.grows.refl _ | assumption | refine World.grows.alloc ?_ _ | refine World.grows.plus ?_ _ _ | refine World.grows.drew ?_))⟩

set_option maxHeartbeats 1000000 in
theorem idx80 (w : World) (s : Value) (m : Nat) (c : Nat → Nat → Value) (ff : Nat) (lb : Array Value) (q : Nat → Bool) (hs : SliceAt w s m 2 c)
    (eg : ∀ args w, (callFunc ff args).run Try.prog w = .ok (.enter ff args) w)
    (hf : ∀ i, i < m → ∀ W : World, w.grows W → Calls Try.prog ff (#[.agg #[c i 0, c i 1]] ++ lb) W fun e W' => e = .returned (.bool (q i)) ∧ W.grows W') :
    Calls Try.prog 80 #[s, .func (.func ff) #[] lb] w fun e w' => e = .returned (.int .i64 (fstIdx q m)) ∧ w.grows w' := by
  obtain ⟨a, cap, rfl, hcap, hmax, hc⟩ := hs
  unfold maxLen at hmax
  go_enter Try.func80, Try.ntmps80
  go_wp2
  go_loopw [8] (fun i wr => ∃ k : Nat, k ≤ m ∧ i = .int .i64 k ∧ (∀ j, j < k → q j = false) ∧ w.grows wr) (fun i _ => m - (intOf i).toNat)
  case atStart => exact ⟨0, by omega, rfl, fun j hj => by omega, World.grows.refl _⟩
  case round =>
    obtain ⟨k, hk, rfl, hq, hg⟩ := hrel
    have Hq := Lib.hid hq
    clear hq
    obtain ⟨n, x, rfl⟩ := World.plus_of hg
    by_cases hlt : k < m
    · obtain ⟨b, o, rfl, h0⟩ := hc k 0 hlt (by omega)
      simp only [Nat.add_zero] at h0
      obtain ⟨_, _, he1, h1⟩ := hc k 1 hlt (by omega)
      cases he1

      have hfk := hf k hlt
      cases hqk : q k with
      | true =>
        rw [hqk] at hfk
        have Hqk := Lib.hid hqk
        clear hqk
        go_wp2_with (refine (hfk _ (by (repeat (first | exact World.grows.refl _ | assumption | refine World.grows.alloc ?_ _ | refine World.grows.plus ?_ _ _ | refine World.grows.drew ?_)))).mono ?_; rintro e w' ⟨rfl, hg2⟩; obtain ⟨n2, x2, rfl⟩ := World.plus_of hg2)
        go_ret
        exact ⟨ret_int (fstIdx_at q m k hlt Hq.out Hqk.out).symm, by (repeat (first | exact World.grows.refl _ | assumption | refine World.grows.alloc ?_ _ | refine World.grows.plus ?_ _ _ | refine World.grows.drew ?_))⟩
      | false =>
        rw [hqk] at hfk
        have Hqk := Lib.hid hqk
        clear hqk
        go_wp2_with (refine (hfk _ (by (repeat (first | exact World.grows.refl _ | assumption | refine World.grows.alloc ?_ _ | refine World.grows.plus ?_ _ _ | refine World.grows.drew ?_)))).mono ?_; rintro e w' ⟨rfl, hg2⟩; obtain ⟨n2, x2, rfl⟩ := World.plus_of hg2)
        go_roundw
        case rel => exact ⟨k + 1, by omega, by go_num, fun j hj => (by rcases Nat.lt_or_ge j k with h | h; exact Hq.out j h; have hjk : j = k := (by omega); subst hjk; exact Hqk.out), by (repeat (first | exact World.grows.refl _ | assumption | refine World.grows.alloc ?_ _ | refine World.grows.plus ?_ _ _ | refine World.grows.drew ?_))⟩
        case measure => simp [intOf]; omega
    · have hke : k = m := by omega
      subst hke
      go_wp2
      go_ret
      exact ⟨ret_int (fstIdx_none q k Hq.out).symm, by (repeat (first | exact World.grows.refl _ | assumption | refine World.grows.alloc ?_ _ | refine World.grows.plus ?_ _ _ | refine World.grows.drew ?_))⟩

set_option maxHeartbeats 1000000 in
theorem idx52 (w : World) (s : Value) (m : Nat) (c : Nat → Nat → Value) (ff : Nat) (lb : Array Value) (q : Nat → Bool) (hs : SliceAt w s m 1 c)
    (eg : ∀ args w, (callFunc ff args).run Try.prog w = .ok (.enter ff args) w)
    (hf : ∀ i, i < m → ∀ W : World, w.grows W → Calls Try.prog ff (#[c i 0] ++ lb) W fun e W' => e = .returned (.bool (q i)) ∧ W.grows W') :
    Calls Try.prog 52 #[s, .func (.func ff) #[] lb] w fun e w' => e = .returned (.int .i64 (fstIdx q m)) ∧ w.grows w' := by
  obtain ⟨a, cap, rfl, hcap, hmax, hc⟩ := hs
  unfold maxLen at hmax
  go_enter Try.func52, Try.ntmps52
  go_wp2
  go_loopw [8] (fun i wr => ∃ k : Nat, k ≤ m ∧ i = .int .i64 k ∧ (∀ j, j < k → q j = false) ∧ w.grows wr) (fun i _ => m - (intOf i).toNat)
  case atStart => exact ⟨0, by omega, rfl, fun j hj => by omega, World.grows.refl _⟩
  case round =>
    obtain ⟨k, hk, rfl, hq, hg⟩ := hrel
    have Hq := Lib.hid hq
    clear hq
    obtain ⟨n, x, rfl⟩ := World.plus_of hg
    by_cases hlt : k < m
    · obtain ⟨b, o, rfl, h0⟩ := hc k 0 hlt (by omega)
      simp only [Nat.mul_one, Nat.add_zero] at h0

      have hfk := hf k hlt
      cases hqk : q k with
      | true =>
        rw [hqk] at hfk
        have Hqk := Lib.hid hqk
        clear hqk
        go_wp2_with (refine (hfk _ (by (repeat (first | exact World.grows.refl _ | assumption | refine World.grows.alloc ?_ _ | refine World.grows.plus ?_ _ _ | refine World.grows.drew ?_)))).mono ?_; rintro e w' ⟨rfl, hg2⟩; obtain ⟨n2, x2, rfl⟩ := World.plus_of hg2)
        go_ret
        exact ⟨ret_int (fstIdx_at q m k hlt Hq.out Hqk.out).symm, by (repeat (first | exact World.grows.refl _ | assumption | refine World.grows.alloc ?_ _ | refine World.grows.plus ?_ _ _ | refine World.grows.drew ?_))⟩
      | false =>
        rw [hqk] at hfk
        have Hqk := Lib.hid hqk
        clear hqk
        go_wp2_with (refine (hfk _ (by (repeat (first | exact World.grows.refl _ | assumption | refine World.grows.alloc ?_ _ | refine World.grows.plus ?_ _ _ | refine World.grows.drew ?_)))).mono ?_; rintro e w' ⟨rfl, hg2⟩; obtain ⟨n2, x2, rfl⟩ := World.plus_of hg2)
        go_roundw
        case rel => exact ⟨k + 1, by omega, by go_num, fun j hj => (by rcases Nat.lt_or_ge j k with h | h; exact Hq.out j h; have hjk : j = k := (by omega); subst hjk; exact Hqk.out), by (repeat (first | exact World.grows.refl _ | assumption | refine World.grows.alloc ?_ _ | refine World.grows.plus ?_ _ _ | refine World.grows.drew ?_))⟩
        case measure => simp [intOf]; omega
    · have hke : k = m := by omega
      subst hke
      go_wp2
      go_ret
      exact ⟨ret_int (fstIdx_none q k Hq.out).symm, by (repeat (first | exact World.grows.refl _ | assumption | refine World.grows.alloc ?_ _ | refine World.grows.plus ?_ _ _ | refine World.grows.drew ?_))⟩

set_option maxHeartbeats 1000000 in
theorem idx92 (w : World) (s : Value) (m : Nat) (c : Nat → Nat → Value) (ff : Nat) (lb : Array Value) (q : Nat → Bool) (hs : SliceAt w s m 2 c)
    (eg : ∀ args w, (callFunc ff args).run Try.prog w = .ok (.enter ff args) w)
    (hf : ∀ i, i < m → ∀ W : World, w.grows W → Calls Try.prog ff (#[.agg #[c i 0, c i 1]] ++ lb) W fun e W' => e = .returned (.bool (q i)) ∧ W.grows W') :
    Calls Try.prog 92 #[s, .func (.func ff) #[] lb] w fun e w' => e = .returned (.int .i64 (fstIdx q m)) ∧ w.grows w' := by
  obtain ⟨a, cap, rfl, hcap, hmax, hc⟩ := hs
  unfold maxLen at hmax
  go_enter Try.func92, Try.ntmps92
  go_wp2
  go_loopw [8] (fun i wr => ∃ k : Nat, k ≤ m ∧ i = .int .i64 k ∧ (∀ j, j < k → q j = false) ∧ w.grows wr) (fun i _ => m - (intOf i).toNat)
  case atStart => exact ⟨0, by omega, rfl, fun j hj => by omega, World.grows.refl _⟩
  case round =>
    obtain ⟨k, hk, rfl, hq, hg⟩ := hrel
    have Hq := Lib.hid hq
    clear hq
    obtain ⟨n, x, rfl⟩ := World.plus_of hg
    by_cases hlt : k < m
    · obtain ⟨b, o, rfl, h0⟩ := hc k 0 hlt (by omega)
      simp only [Nat.add_zero] at h0
      obtain ⟨_, _, he1, h1⟩ := hc k 1 hlt (by omega)
      cases he1

      have hfk := hf k hlt
      cases hqk : q k with
      | true =>
        rw [hqk] at hfk
        have Hqk := Lib.hid hqk
        clear hqk
        go_wp2_with (refine (hfk _ (by (repeat (first | exact World.grows.refl _ | assumption | refine World.grows.alloc ?_ _ | refine World.grows.plus ?_ _ _ | refine World.grows.drew ?_)))).mono ?_; rintro e w' ⟨rfl, hg2⟩; obtain ⟨n2, x2, rfl⟩ := World.plus_of hg2)
        go_ret
        exact ⟨ret_int (fstIdx_at q m k hlt Hq.out Hqk.out).symm, by (repeat (first | exact World.grows.refl _ | assumption | refine World.grows.alloc ?_ _ | refine World.grows.plus ?_ _ _ | refine World.grows.drew ?_))⟩
      | false =>
        rw [hqk] at hfk
        have Hqk := Lib.hid hqk
        clear hqk
        go_wp2_with (refine (hfk _ (by (repeat (first | exact World.grows.refl _ | assumption | refine World.grows.alloc ?_ _ | refine World.grows.plus ?_ _ _ | refine World.grows.drew ?_)))).mono ?_; rintro e w' ⟨rfl, hg2⟩; obtain ⟨n2, x2, rfl⟩ := World.plus_of hg2)
        go_roundw
        case rel => exact ⟨k + 1, by omega, by go_num, fun j hj => (by rcases Nat.lt_or_ge j k with h | h; exact Hq.out j h; have hjk : j = k := (by omega); subst hjk; exact Hqk.out), by (repeat (first | exact World.grows.refl _ | assumption | refine World.grows.alloc ?_ _ | refine World.grows.plus ?_ _ _ | refine World.grows.drew ?_))⟩
        case measure => simp [intOf]; omega
    · have hke : k = m := by omega
      subst hke
      go_wp2
      go_ret
      exact ⟨ret_int (fstIdx_none q k Hq.out).symm, by (repeat (first | exact World.grows.refl _ | assumption | refine World.grows.alloc ?_ _ | refine World.grows.plus ?_ _ _ | refine World.grows.drew ?_))⟩

theorem has57 (w : World) (s : Value) (m : Nat) (c : Nat → Nat → Value) (ff : Nat) (lb : Array Value) (q : Nat → Bool) (hs : SliceAt w s m 1 c)
    (eg : ∀ args w, (callFunc ff args).run Try.prog w = .ok (.enter ff args) w)
    (hf : ∀ i, i < m → ∀ W : World, w.grows W → Calls Try.prog ff (#[c i 0] ++ lb) W fun e W' => e = .returned (.bool (q i)) ∧ W.grows W') :
    Calls Try.prog 57 #[s, .func (.func ff) #[] lb] w fun e w' => e = .returned (.bool ((List.range m).any q)) ∧ w.grows w' := by
  have hbd := fstIdx_bd q m
  have Ha := Lib.hid (fstIdx_any q m)
  go_enter Try.func57, Try.ntmps57
  go_wp2_with (go_at_call 79; refine (idx79 _ s m c ff lb q (hs.mono (by (repeat (first | exact World.grows.refl _ | assumption | refine World.grows.alloc ?_ _ | refine World.grows.plus ?_ _ _ | refine World.grows.drew ?_)))) eg (fun i hi W hW => hf i hi W hW)).mono ?_; rintro e w' ⟨rfl, hg⟩)
  go_ret
  exact ⟨by rw [← Ha.out]; rfl, by (repeat (first | exact World.grows.refl _ | assumption | refine World.grows.alloc ?_ _ | refine World.grows.plus ?_ _ _ | refine World.grows.drew ?_))⟩

theorem has58 (w : World) (s : Value) (m : Nat) (c : Nat → Nat → Value) (ff : Nat) (lb : Array Value) (q : Nat → Bool) (hs : SliceAt w s m 2 c)
    (eg : ∀ args w, (callFunc ff args).run Try.prog w = .ok (.enter ff args) w)
    (hf : ∀ i, i < m → ∀ W : World, w.grows W → Calls Try.prog ff (#[.agg #[c i 0, c i 1]] ++ lb) W fun e W' => e = .returned (.bool (q i)) ∧ W.grows W') :
    Calls Try.prog 58 #[s, .func (.func ff) #[] lb] w fun e w' => e = .returned (.bool ((List.range m).any q)) ∧ w.grows w' := by
  have hbd := fstIdx_bd q m
  have Ha := Lib.hid (fstIdx_any q m)
  go_enter Try.func58, Try.ntmps58
  go_wp2_with (go_at_call 80; refine (idx80 _ s m c ff lb q (hs.mono (by (repeat (first | exact World.grows.refl _ | assumption | refine World.grows.alloc ?_ _ | refine World.grows.plus ?_ _ _ | refine World.grows.drew ?_)))) eg (fun i hi W hW => hf i hi W hW)).mono ?_; rintro e w' ⟨rfl, hg⟩)
  go_ret
  exact ⟨by rw [← Ha.out]; rfl, by (repeat (first | exact World.grows.refl _ | assumption | refine World.grows.alloc ?_ _ | refine World.grows.plus ?_ _ _ | refine World.grows.drew ?_))⟩

theorem has77 (w : World) (s : Value) (m : Nat) (c : Nat → Nat → Value) (ff : Nat) (lb : Array Value) (q : Nat → Bool) (hs : SliceAt w s m 1 c)
    (eg : ∀ args w, (callFunc ff args).run Try.prog w = .ok (.enter ff args) w)
    (hf : ∀ i, i < m → ∀ W : World, w.grows W → Calls Try.prog ff (#[c i 0] ++ lb) W fun e W' => e = .returned (.bool (q i)) ∧ W.grows W') :
    Calls Try.prog 77 #[s, .func (.func ff) #[] lb] w fun e w' => e = .returned (.bool ((List.range m).any q)) ∧ w.grows w' := by
  have hbd := fstIdx_bd q m
  have Ha := Lib.hid (fstIdx_any q m)
  go_enter Try.func77, Try.ntmps77
  go_wp2_with (go_at_call 52; refine (idx52 _ s m c ff lb q (hs.mono (by (repeat (first | exact World.grows.refl _ | assumption | refine World.grows.alloc ?_ _ | refine World.grows.plus ?_ _ _ | refine World.grows.drew ?_)))) eg (fun i hi W hW => hf i hi W hW)).mono ?_; rintro e w' ⟨rfl, hg⟩)
  go_ret
  exact ⟨by rw [← Ha.out]; rfl, by (repeat (first | exact World.grows.refl _ | assumption | refine World.grows.alloc ?_ _ | refine World.grows.plus ?_ _ _ | refine World.grows.drew ?_))⟩

theorem has87 (w : World) (s : Value) (m : Nat) (c : Nat → Nat → Value) (ff : Nat) (lb : Array Value) (q : Nat → Bool) (hs : SliceAt w s m 2 c)
    (eg : ∀ args w, (callFunc ff args).run Try.prog w = .ok (.enter ff args) w)
    (hf : ∀ i, i < m → ∀ W : World, w.grows W → Calls Try.prog ff (#[.agg #[c i 0, c i 1]] ++ lb) W fun e W' => e = .returned (.bool (q i)) ∧ W.grows W') :
    Calls Try.prog 87 #[s, .func (.func ff) #[] lb] w fun e w' => e = .returned (.bool ((List.range m).any q)) ∧ w.grows w' := by
  have hbd := fstIdx_bd q m
  have Ha := Lib.hid (fstIdx_any q m)
  go_enter Try.func87, Try.ntmps87
  go_wp2_with (go_at_call 92; refine (idx92 _ s m c ff lb q (hs.mono (by (repeat (first | exact World.grows.refl _ | assumption | refine World.grows.alloc ?_ _ | refine World.grows.plus ?_ _ _ | refine World.grows.drew ?_)))) eg (fun i hi W hW => hf i hi W hW)).mono ?_; rintro e w' ⟨rfl, hg⟩)
  go_ret
  exact ⟨by rw [← Ha.out]; rfl, by (repeat (first | exact World.grows.refl _ | assumption | refine World.grows.alloc ?_ _ | refine World.grows.plus ?_ _ _ | refine World.grows.drew ?_))⟩

end Go.Proofs.Ytjpccfpmhmddjaa

/-
  What is proved: which jobs are valid, in the reference.
-/
namespace Go.Proofs.Ytjpccfpmhmddjaa
open Go.RowKit

def Job.longB (J : Job) (i : Nat) : Bool := decide (J.len i < 1) || decide (6 < J.len i)
def Job.badB (J : Job) (i k : Nat) : Bool := decide (J.pk i k < 0) || decide (1000 < J.pk i k) || decide (J.lv i k < -1000) || decide (J.pk i k < J.lv i k)
/-- the error of a job as a number -/
def Job.check (J : Job) : Int :=
  if J.n < 1 ∨ 4 < J.n ∨ (List.range J.n).any J.longB = true then 6
  else if J.start < -1000 ∨ 1000 < J.start then 2
  else if (List.range J.n).any (fun i => (List.range (J.len i)).any (J.badB i)) = true then 3 else 0

theorem Job.Ok_iff (J : Job) : J.Ok ↔ J.check = 0 := by
  unfold Job.check
  constructor
  · intro h
    have h1 := h.n1
    have h4 := h.n4
    rw [if_neg, if_neg, if_neg]
    · simp only [List.any_eq_true, List.mem_range, not_exists, not_and, Bool.not_eq_true]
      intro i hi k hk
      have := h.pk i k hi hk
      have := h.lv i k hi hk
      simp [Job.badB]; omega
    · have := h.st; omega
    · rintro (h' | h' | h')
      · omega
      · omega
      · obtain ⟨i, hi, h'⟩ := List.any_eq_true.1 h'
        have := h.l1 i (by simpa using hi)
        have := h.l6 i (by simpa using hi)
        simp [Job.longB] at h'; omega
  · intro h
    split at h
    · cases h
    · rename_i h1
      simp only [not_or, Bool.not_eq_true, List.any_eq_false, List.mem_range] at h1
      obtain ⟨a1, a2, a3⟩ := h1
      split at h
      · cases h
      · rename_i h2
        split at h
        · cases h
        · rename_i h3
          simp only [Bool.not_eq_true, List.any_eq_false, List.mem_range] at h3
          have hl : ∀ i, i < J.n → 1 ≤ J.len i ∧ J.len i ≤ 6 := fun i hi => by
            have := a3 i hi; simp [Job.longB] at this; omega
          have hb : ∀ i k, i < J.n → k < J.len i → (0 ≤ J.pk i k ∧ J.pk i k ≤ 1000) ∧ (-1000 ≤ J.lv i k ∧ J.lv i k ≤ J.pk i k) := fun i k hi hk => by
            have := h3 i hi k hk; simp [Job.badB] at this; omega
          exact ⟨by omega, by omega, fun i hi => (hl i hi).1, fun i hi => (hl i hi).2, by omega, fun i k hi hk => (hb i k hi hk).1, fun i k hi hk => (hb i k hi hk).2⟩

theorem Job.check_n {J : Job} (h : J.n < 1 ∨ 4 < J.n) : J.check = 6 := by
  unfold Job.check
  rw [if_pos]
  rcases h with h | h
  · exact .inl h
  · exact .inr (.inl h)
theorem Job.check_long {J : Job} {i : Nat} (hi : i < J.n) (h : J.len i < 1 ∨ 6 < J.len i) : J.check = 6 := by
  unfold Job.check
  rw [if_pos]
  exact .inr (.inr (List.any_eq_true.2 ⟨i, by simpa using hi, by simpa [Job.longB] using h⟩))
/-- the number of edges and of passes of each is right -/
structure Job.Shape (J : Job) : Prop where
  n1 : 1 ≤ J.n
  n4 : J.n ≤ 4
  l1 : ∀ i, i < J.n → 1 ≤ J.len i
  l6 : ∀ i, i < J.n → J.len i ≤ 6
theorem Job.Shape.not {J : Job} (h : J.Shape) : ¬ (J.n < 1 ∨ 4 < J.n ∨ (List.range J.n).any J.longB = true) := by
  rintro (h' | h' | h')
  · have := h.n1; omega
  · have := h.n4; omega
  · obtain ⟨i, hi, h'⟩ := List.any_eq_true.1 h'
    have := h.l1 i (by simpa using hi)
    have := h.l6 i (by simpa using hi)
    simp [Job.longB] at h'; omega
theorem Job.check_start {J : Job} (hs : J.Shape) (h : J.start < -1000 ∨ 1000 < J.start) : J.check = 2 := by
  unfold Job.check
  rw [if_neg hs.not, if_pos h]
theorem Job.check_bad {J : Job} (hs : J.Shape) (h : ¬ (J.start < -1000 ∨ 1000 < J.start)) {i k : Nat} (hi : i < J.n) (hk : k < J.len i) (hb : J.badB i k = true) : J.check = 3 := by
  unfold Job.check
  rw [if_neg hs.not, if_neg h, if_pos]
  exact List.any_eq_true.2 ⟨i, by simpa using hi, List.any_eq_true.2 ⟨k, by simpa using hk, hb⟩⟩
theorem Job.check_ok {J : Job} (hs : J.Shape) (h : ¬ (J.start < -1000 ∨ 1000 < J.start)) (hb : ∀ i k, i < J.n → k < J.len i → J.badB i k = false) : J.check = 0 := by
  unfold Job.check
  rw [if_neg hs.not, if_neg h, if_neg]
  simp only [Bool.not_eq_true, List.any_eq_false, List.mem_range]
  intro i hi k hk
  exact hb i k hi hk

/-- v is the value of any job -/
def pas (J : Job) (i k j : Nat) : Value := if j = 0 then .int .i64 (J.pk i k) else .int .i64 (J.lv i k)
def RawAt (w : World) (v : Value) (J : Job) : Prop :=
  ∃ (rv : Value) (row : Nat → Value), v = .agg #[.int .i64 J.start, rv] ∧ SliceAt w rv J.n 1 (fun i _ => row i) ∧ ∀ i, i < J.n → SliceAt w (row i) (J.len i) 2 (pas J i)
theorem RawAt.mono {w w' : World} {v : Value} {J : Job} (h : RawAt w v J) (g : w.grows w') : RawAt w' v J := by
  obtain ⟨rv, row, h1, h2, h3⟩ := h
  exact ⟨rv, row, h1, h2.mono g, fun i hi => (h3 i hi).mono g⟩

set_option maxHeartbeats 2000000 in
theorem rcheck_c (w : World) (v : Value) (J : Job) (hv : RawAt w v J) :
    Calls Try.prog 23 #[v] w fun e w' => e = .returned (.int .i64 J.check) ∧ w.grows w' := by
  obtain ⟨rv, row, rfl, ⟨ra, rcap, rfl, hrc1, hrc2, hr⟩, hrow⟩ := hv
  unfold maxLen at hrc2
  go_enter Try.func23, Try.ntmps23
  by_cases hn : J.n < 1 ∨ 4 < J.n
  · have hcn := Lib.hid (Job.check_n hn)
    rcases hn with hn | hn
    · go_wp2
      (refine bodyPost_ret (v := .int .i64 6) (by simp [results, Try.results23, go_sem]) rfl ?_)
      exact ⟨ret_int hcn.out.symm, by (repeat (first | exact World.grows.refl _ | assumption | refine World.grows.alloc ?_ _ | refine World.grows.plus ?_ _ _ | refine World.grows.drew ?_))⟩
    · go_wp2
      (refine bodyPost_ret (v := .int .i64 6) (by simp [results, Try.results23, go_sem]) rfl ?_)
      exact ⟨ret_int hcn.out.symm, by (repeat (first | exact World.grows.refl _ | assumption | refine World.grows.alloc ?_ _ | refine World.grows.plus ?_ _ _ | refine World.grows.drew ?_))⟩
  have hn1 : 1 ≤ J.n := by omega
  have hn4 : J.n ≤ 4 := by omega
  clear hn
  go_wp2
  go_loop [3] (fun i => ∃ k : Nat, k ≤ J.n ∧ i = .int .i64 k ∧ Hid (∀ j, j < k → 1 ≤ J.len j ∧ J.len j ≤ 6)) (fun i => J.n - (intOf i).toNat)
  case atStart => exact ⟨0, by omega, rfl, Lib.hid fun j hj => by omega⟩
  case round =>
    obtain ⟨k, hk, rfl, hl⟩ := hrel
    by_cases hlt : k < J.n
    · obtain ⟨b, o, rfl, h0⟩ := hr k 0 hlt (by omega)
      simp only [Nat.mul_one, Nat.add_zero] at h0
      obtain ⟨a1, cap1, hrk, hc1, hc2, hcell⟩ := hrow k hlt
      rw [hrk] at h0
      unfold maxLen at hc2
      by_cases hbad : J.len k < 1 ∨ 6 < J.len k
      · have hcn := Lib.hid (Job.check_long hlt hbad)
        rcases hbad with hn | hn
        · go_wp2
          (refine bodyPost_ret (v := .int .i64 6) (by simp [results, Try.results23, go_sem]) rfl ?_)
          exact ⟨ret_int hcn.out.symm, by (repeat (first | exact World.grows.refl _ | assumption | refine World.grows.alloc ?_ _ | refine World.grows.plus ?_ _ _ | refine World.grows.drew ?_))⟩
        · go_wp2
          (refine bodyPost_ret (v := .int .i64 6) (by simp [results, Try.results23, go_sem]) rfl ?_)
          exact ⟨ret_int hcn.out.symm, by (repeat (first | exact World.grows.refl _ | assumption | refine World.grows.alloc ?_ _ | refine World.grows.plus ?_ _ _ | refine World.grows.drew ?_))⟩
      · have g1 : 1 ≤ J.len k := by omega
        have g2 : J.len k ≤ 6 := by omega
        clear hbad
        go_wp2
        go_round
        case rel => exact ⟨k + 1, by omega, by go_num, Lib.hid fun j hj => (by rcases Nat.lt_or_ge j k with h | h; exact hl.out j h; have hjk : j = k := (by omega); subst hjk; exact ⟨g1, g2⟩)⟩
        case measure => simp [intOf]; omega
    · have hke : k = J.n := by omega
      subst hke
      have hsh : Hid J.Shape := Lib.hid ⟨hn1, hn4, fun i hi => (hl.out i hi).1, fun i hi => (hl.out i hi).2⟩
      clear hl
      by_cases hst : J.start < -1000 ∨ 1000 < J.start
      · have hcn := Lib.hid (Job.check_start hsh.out hst)
        rcases hst with hn | hn
        · go_wp2
          (refine bodyPost_ret (v := .int .i64 2) (by simp [results, Try.results23, go_sem]) rfl ?_)
          exact ⟨ret_int hcn.out.symm, by (repeat (first | exact World.grows.refl _ | assumption | refine World.grows.alloc ?_ _ | refine World.grows.plus ?_ _ _ | refine World.grows.drew ?_))⟩
        · go_wp2
          (refine bodyPost_ret (v := .int .i64 2) (by simp [results, Try.results23, go_sem]) rfl ?_)
          exact ⟨ret_int hcn.out.symm, by (repeat (first | exact World.grows.refl _ | assumption | refine World.grows.alloc ?_ _ | refine World.grows.plus ?_ _ _ | refine World.grows.drew ?_))⟩
      have hst1 : -1000 ≤ J.start := by omega
      have hst2 : J.start ≤ 1000 := by omega
      have hst' := Lib.hid hst
      clear hst
      go_wp2
      go_loopw [4] (fun i wr => ∃ k : Nat, k ≤ J.n ∧ i = .int .i64 k ∧ Hid (∀ j x, j < k → x < J.len j → J.badB j x = false) ∧ (w.alloc (.cells #[.int .i64 J.start, .slice ra J.n rcap] 24)).grows wr) (fun i _ => J.n - (intOf i).toNat)
      case atStart => exact ⟨0, by omega, rfl, Lib.hid fun j x hj => by omega, World.grows.refl _⟩
      case round =>
        obtain ⟨k, hk, rfl, hl, hg⟩ := hrel
        obtain ⟨n, x, rfl⟩ := World.plus_of hg
        by_cases hlt : k < J.n
        · obtain ⟨b, o, rfl, h0⟩ := hr k 0 hlt (by omega)
          simp only [Nat.mul_one, Nat.add_zero] at h0
          obtain ⟨a1, cap1, hrk, hc1, hc2, hcell⟩ := hrow k hlt
          rw [hrk] at h0
          unfold maxLen at hc2
          have g6 := hsh.out.l6 k hlt
          go_wp2
          go_loopw [5] (fun i wr => ∃ m : Nat, m ≤ J.len k ∧ i = .int .i64 m ∧ Hid (∀ x, x < m → J.badB k x = false) ∧ (w.alloc (.cells #[.int .i64 J.start, .slice (some ⟨b, o, none⟩) J.n rcap] 24)).grows wr) (fun i _ => J.len k - (intOf i).toNat)
          case atStart => exact ⟨0, by omega, rfl, Lib.hid fun j hj => by omega, by (repeat (first | exact World.grows.refl _ | assumption | refine World.grows.alloc ?_ _ | refine World.grows.plus ?_ _ _ | refine World.grows.drew ?_))⟩
          case round =>
            obtain ⟨m, hm, rfl, hl2, hg2⟩ := hrel
            obtain ⟨n2, x2, rfl⟩ := World.plus_of hg2
            by_cases hlt2 : m < J.len k
            · obtain ⟨b1, o1, rfl, hp0⟩ := hcell m 0 hlt2 (by omega)
              obtain ⟨_, _, he1, hp1⟩ := hcell m 1 hlt2 (by omega)
              cases he1
              simp only [Nat.add_zero, pas, if_true, if_false, Nat.one_ne_zero] at hp0 hp1
              by_cases hb1 : J.pk k m < 0
              · have hcn := Lib.hid (Job.check_bad hsh.out hst'.out hlt hlt2 (by simp [Job.badB, hb1]))
                go_wp2
                (refine bodyPost_ret (v := .int .i64 3) (by simp [results, Try.results23, go_sem]) rfl ?_)
                exact ⟨ret_int hcn.out.symm, by (repeat (first | exact World.grows.refl _ | assumption | refine World.grows.alloc ?_ _ | refine World.grows.plus ?_ _ _ | refine World.grows.drew ?_))⟩
              by_cases hb2 : 1000 < J.pk k m
              · have hcn := Lib.hid (Job.check_bad hsh.out hst'.out hlt hlt2 (by simp [Job.badB, hb2]))
                go_wp2
                (refine bodyPost_ret (v := .int .i64 3) (by simp [results, Try.results23, go_sem]) rfl ?_)
                exact ⟨ret_int hcn.out.symm, by (repeat (first | exact World.grows.refl _ | assumption | refine World.grows.alloc ?_ _ | refine World.grows.plus ?_ _ _ | refine World.grows.drew ?_))⟩
              by_cases hb3 : J.lv k m < -1000
              · have hcn := Lib.hid (Job.check_bad hsh.out hst'.out hlt hlt2 (by simp [Job.badB, hb3]))
                go_wp2
                (refine bodyPost_ret (v := .int .i64 3) (by simp [results, Try.results23, go_sem]) rfl ?_)
                exact ⟨ret_int hcn.out.symm, by (repeat (first | exact World.grows.refl _ | assumption | refine World.grows.alloc ?_ _ | refine World.grows.plus ?_ _ _ | refine World.grows.drew ?_))⟩
              by_cases hb4 : J.pk k m < J.lv k m
              · have hcn := Lib.hid (Job.check_bad hsh.out hst'.out hlt hlt2 (by simp [Job.badB, hb4]))
                go_wp2
                (refine bodyPost_ret (v := .int .i64 3) (by simp [results, Try.results23, go_sem]) rfl ?_)
                exact ⟨ret_int hcn.out.symm, by (repeat (first | exact World.grows.refl _ | assumption | refine World.grows.alloc ?_ _ | refine World.grows.plus ?_ _ _ | refine World.grows.drew ?_))⟩
              have hbb : Hid (J.badB k m = false) := Lib.hid (by simp [Job.badB]; omega)
              go_wp2
              go_roundw
              case rel => exact ⟨m + 1, by omega, by go_num, Lib.hid fun j hj => (by rcases Nat.lt_or_ge j m with h | h; exact hl2.out j h; have hjk : j = m := (by omega); subst hjk; exact hbb.out), by (repeat (first | exact World.grows.refl _ | assumption | refine World.grows.alloc ?_ _ | refine World.grows.plus ?_ _ _ | refine World.grows.drew ?_))⟩
              case measure => simp [intOf]; omega
            · have hme : m = J.len k := by omega
              subst hme
              go_wp2
              go_roundw
              case rel => exact ⟨k + 1, by omega, by go_num, Lib.hid fun j x hj => (by rcases Nat.lt_or_ge j k with h | h; exact hl.out j x h; have hjk : j = k := (by omega); subst hjk; exact hl2.out x), by (repeat (first | exact World.grows.refl _ | assumption | refine World.grows.alloc ?_ _ | refine World.grows.plus ?_ _ _ | refine World.grows.drew ?_))⟩
              case measure => simp [intOf]; omega
        · have hke : k = J.n := by omega
          subst hke
          have hcn := Lib.hid (Job.check_ok hsh.out hst'.out hl.out)
          go_wp2
          (refine bodyPost_ret (v := .int .i64 0) (by simp [results, Try.results23, go_sem]) rfl ?_)
          exact ⟨ret_int hcn.out.symm, by (repeat (first | exact World.grows.refl _ | assumption | refine World.grows.alloc ?_ _ | refine World.grows.plus ?_ _ _ | refine World.grows.drew ?_))⟩

end Go.Proofs.Ytjpccfpmhmddjaa

/-
  What is proved: a loop whose frames collect marks of deferred calls (a range over a function stands inside).
-/
namespace Go
open Go.RowKit

/-- the slots where the mask is true are u's -/
def fillL : List Bool → List Value → (Nat → Value) → Nat → List Value
  | [], l, _, _ => l
  | _ :: _, [], _, _ => []
  | true :: m, _ :: l, u, i => u i :: fillL m l u (i + 1)
  | false :: m, x :: l, u, i => x :: fillL m l u (i + 1)
def getL : List Value → Nat → Value
  | [], _ => undef
  | x :: _, 0 => x
  | _ :: l, i + 1 => getL l i

theorem wp_loop_d {P : Program} {Q : Exit → Act → World → Prop} {c : Code} {l0 : List Value} {ds0 : List Deferred} {w : World} (mask : List Bool)
    (R : (Nat → Value) → List Deferred → World → Prop) (μ : (Nat → Value) → World → Nat)
    (h0 : l0 = fillL mask l0 (getL l0) 0) (h1 : R (getL l0) ds0 w)
    (round : ∀ u ds w, R u ds w → c.wp P (Exit.then (fun a' w' => ∃ l', a'.tmps = l'.toArray ∧ l' = fillL mask l0 (getL l') 0 ∧ R (getL l') a'.defers w' ∧ μ (getL l') w' < μ u w) Q) ⟨(fillL mask l0 u 0).toArray, ds⟩ w) :
    (Code.loop c).wp P Q ⟨l0.toArray, ds0⟩ w := by
  refine wp_loop (fun a w => a.tmps.toList = fillL mask l0 (getL a.tmps.toList) 0 ∧ R (getL a.tmps.toList) a.defers w) (fun a w => μ (getL a.tmps.toList) w) ⟨h0, h1⟩ ?_
  rintro ⟨t, ds⟩ w ⟨ht, hr⟩
  have h := round (getL t.toList) ds w hr
  dsimp only at ht hr ⊢
  rw [← ht] at h
  refine wp_mono h ?_
  intro e a' w' hq
  cases e with
  | normal =>
    obtain ⟨l', e1, e2, e3, e4⟩ := hq
    have e1' : a'.tmps.toList = l' := by rw [e1]
    exact ⟨⟨by rw [e1']; exact e2, by rw [e1']; exact e3⟩, by rw [e1']; exact e4⟩
  | _ => exact hq
end Go

/-
  What is proved: the law of a region that draws its order, with ONE operation that changes a block that is there, of which the others' values do not depend.
-/
namespace Go
open Go.RowKit

section
variable {P : Program} {ops : Array Oper} {w0 w1 : World}

/-- a read or a call that has the same value before the change and behind it -/
def Oper.calm2 (P : Program) (o : Oper) (a : Act) (w0 w1 : World) (K : Act → Prop) : Prop := ∃ v, ((∀ n x, o.calmAt P a (w0.plus n x) v) ∧ (∀ n x, o.calmAt P a (w1.plus n x) v)) ∧ K (a.put o.dst v)
def wpCalm2 (P : Program) (ops : Array Oper) (w0 w1 : World) (K : Act → Prop) : List Oper → Act → Prop
  | [], a => K a
  | o :: r, a => if Region.wanted o (yielded ops a.tmps) then o.calm2 P a w0 w1 (wpCalm2 P ops w0 w1 K r) else wpCalm2 P ops w0 w1 K r (a.put o.dst undef)
attribute [go_sem] Oper.calm2

theorem wpCalm2_nil {K : Act → Prop} {a : Act} (h : K a) : wpCalm2 P ops w0 w1 K [] a := h
theorem wpCalm2_step {Q : Act → Prop} {a : Act} {o : Oper} {r : List Oper}
    (h : ∀ K : Act → Prop, (∀ a, wpCalm2 P ops w0 w1 Q r a → K a) → if Region.wanted o (yielded ops a.tmps) then o.calm2 P a w0 w1 K else K (a.put o.dst undef)) : wpCalm2 P ops w0 w1 Q (o :: r) a :=
  h _ (fun _ h => h)

theorem wpCalm2_cons {K : Act → Prop} {a : Act} {o : Oper} {r : List Oper} : wpCalm2 P ops w0 w1 K (o :: r) a ↔ ∃ v, (YieldsC P ops w0 o v a ∧ YieldsC P ops w1 o v a) ∧ wpCalm2 P ops w0 w1 K r (a.put o.dst v) := by
  simp only [wpCalm2]
  by_cases hw : Region.wanted o (yielded ops a.tmps) = true
  · simp only [hw, if_true, Oper.calm2, YieldsC, true_and, Bool.true_eq_false, false_and, or_false]
  · have hw' : Region.wanted o (yielded ops a.tmps) = false := by simpa using hw
    simp only [hw', if_false, YieldsC, Bool.false_eq_true, false_and, true_and, false_or, and_self, exists_eq_left]

theorem wpCalm2.snd {K : Act → Prop} : ∀ (l : List Oper) (a : Act), wpCalm2 P ops w0 w1 K l a → wpCalm P ops w1 K l a
  | [], _, h => h
  | o :: l, a, h => by
    obtain ⟨v, hv, h'⟩ := wpCalm2_cons.1 h
    exact wpCalm_cons.2 ⟨v, hv.2, wpCalm2.snd l _ h'⟩

theorem calm2_front {K : Act → Prop} {o : Oper} {l2 : List Oper} (hso : ∀ cs b, o.op ≠ .select cs b) : ∀ (l1 : List Oper) (a : Act),
    (∀ y ∈ l1, o.apart ops y = true ∧ ∀ cs b, y.op ≠ .select cs b) → wpCalm2 P ops w0 w1 K (l1 ++ o :: l2) a →
    ∃ v, (YieldsC P ops w0 o v a ∧ YieldsC P ops w1 o v a) ∧ wpCalm2 P ops w0 w1 K (l1 ++ l2) (a.put o.dst v)
  | [], a, _, h => wpCalm2_cons.1 h
  | y :: l1, a, hap, h => by
    obtain ⟨u, hy, h'⟩ := wpCalm2_cons.1 h
    obtain ⟨v, hv, h''⟩ := calm2_front hso l1 _ (fun z hz => hap z (List.mem_cons_of_mem _ hz)) h'
    obtain ⟨ha, hsy⟩ := hap y (List.mem_cons_self ..)
    obtain ⟨h1, h2, h3⟩ := Oper.apart_spec ha
    refine ⟨v, ⟨(YieldsC.put hso h3).1 hv.1, (YieldsC.put hso h3).1 hv.2⟩, ?_⟩
    rw [List.cons_append]
    refine wpCalm2_cons.2 ⟨u, ⟨(YieldsC.put hsy h1).2 hy.1, (YieldsC.put hsy h1).2 hy.2⟩, ?_⟩
    rw [Act.put_comm a v u h2]
    exact h''

/-- the operation that makes the change -/
def Oper.stirs (P : Program) (o : Oper) (a : Act) (w0 w1 : World) (v : Value) : Prop := ∀ n x, ∃ W', (execOp a.eval o).run P (w0.plus n x) = .ok (.value v) W' ∧ w1.grows W'
theorem Oper.stirs_put {x y : Oper} {v u : Value} {a : Act} (hs : ∀ cs b, x.op ≠ .select cs b) (hd : ∀ d, y.dst = some d → d ∉ x.looksAt ops) :
    x.stirs P (a.put y.dst u) w0 w1 v ↔ x.stirs P a w0 w1 v := by
  unfold Oper.stirs
  rw [execOp_put x hs a y.dst u hd]

theorem stir_front {K : Act → Prop} {o : Oper} (hso : ∀ cs b, o.op ≠ .select cs b) : ∀ (es : List Oper) (a : Act),
    (∀ y ∈ es, o.apart ops y = true ∧ ∀ cs b, y.op ≠ .select cs b) → wpCalm2 P ops w0 w1 (fun a' => ∃ v, o.stirs P a' w0 w1 v ∧ K (a'.put o.dst v)) es a →
    ∃ v, o.stirs P a w0 w1 v ∧ wpCalm2 P ops w0 w1 K es (a.put o.dst v)
  | [], a, _, h => h
  | y :: es, a, hap, h => by
    obtain ⟨u, hy, h'⟩ := wpCalm2_cons.1 h
    obtain ⟨v, hv, h''⟩ := stir_front hso es _ (fun z hz => hap z (List.mem_cons_of_mem _ hz)) h'
    obtain ⟨ha, hsy⟩ := hap y (List.mem_cons_self ..)
    obtain ⟨h1, h2, h3⟩ := Oper.apart_spec ha
    refine ⟨v, (Oper.stirs_put hso h3).1 hv, wpCalm2_cons.2 ⟨u, ⟨(YieldsC.put hsy h1).2 hy.1, (YieldsC.put hsy h1).2 hy.2⟩, ?_⟩⟩
    rw [Act.put_comm a v u h2]
    exact h''

variable {F : Fence} (hF : F.Free P) {N : Nat}

theorem wpCalm_app {K : Act → Prop} : ∀ (l1 l2 : List Oper) (a : Act), wpCalm P ops w1 (wpCalm P ops w1 K l2) l1 a → wpCalm P ops w1 K (l1 ++ l2) a
  | [], _, _, h => h
  | o :: l1, l2, a, h => by
    obtain ⟨v, hv, h'⟩ := wpCalm_cons.1 h
    exact wpCalm_cons.2 ⟨v, hv, wpCalm_app l1 l2 _ h'⟩

/-- the operations below m do not wait for k, those from m on do -/
def Region.stirB (ops : Array Oper) (m n k : Nat) : Bool :=
  (List.range m).all (fun i => match ops[i]? with | some o => i == k || o.after.all (fun e => !Region.binds .any e || e.on != k) | none => true) &&
  (List.range n).all (fun i => decide (i < m) || Region.waitsFor .any ops i k)

include hF in
theorem wpAnyIn_of_stir {Q : Exit → Act → World → Prop} {m n k : Nat} {ok : Oper} (hkn : k < m) (hmn : m ≤ n) (hok : ops[k]? = some ok) (hgk : ok.guard = none)
    (hB : Region.mixB ops n [] = true) (hS : Region.stirB ops m n k = true) (hnd : Region.noDeferB ops = true)
    (hheads0 : ∀ (listed : Array Bool) (i0 : Nat), HeadInv .any ops n listed → i0 < n → listed.getD i0 true = false → ∀ t ∈ Region.ready .any ops listed, t < n)
    {K : Act → Prop} {es2 : List (Nat × Oper)} (he2 : ∀ p ∈ es2, m ≤ p.1 ∧ p.1 < n ∧ ops[p.1]? = some p.2) (he2m : ∀ i, m ≤ i → i < n → i ∈ es2.map (·.1)) (he2s : (es2.map (·.1)).Pairwise (· < ·))
    (hK : ∀ a, K a → ∀ n' x, ∀ listed, HeadInv .any ops n listed → (∀ i, i < n → listed.getD i false = true) → wpAnyIn F N P .any ops Q (ops.size - n) listed a (w1.plus n' x)) :
    ∀ (cnt : Nat) (es : List (Nat × Oper)) (listed : Array Bool) (a : Act),
      es.length = cnt → HeadInv .any ops n listed →
      (∀ i, i < n → (listed.getD i false = false ↔ i ∈ es.map (·.1) ∨ i = k ∨ m ≤ i)) →
      (∀ p ∈ es, p.1 < m ∧ ops[p.1]? = some p.2 ∧ p.1 ≠ k) → (es.map (·.1)).Pairwise (· < ·) →
      wpCalm2 P ops w0 w1 (fun a' => ∃ v, ok.stirs P a' w0 w1 v ∧ wpCalm P ops w1 K (es2.map (·.2)) (a'.put ok.dst v)) (es.map (·.2)) a →
      ∀ n' x, wpAnyIn F N P .any ops Q (cnt + es2.length + 1 + (ops.size - n)) listed a (w0.plus n' x) := by
  have hB0 := hB
  simp only [Region.mixB, Bool.and_eq_true, decide_eq_true_eq] at hB
  obtain ⟨⟨⟨hsel, hnle⟩, hpair⟩, hedge⟩ := hB
  have hsp := Region.noSelect_spec hsel
  simp only [Region.stirB, Bool.and_eq_true] at hS
  have pairOf : ∀ i j oi oj, i < j → j < n → ops[i]? = some oi → ops[j]? = some oj → Region.waitsFor .any ops j i = true ∨ oi.apart ops oj = true := by
    intro i j oi oj hij hj hi hoj
    have h1 := List.all_eq_true.1 (List.all_eq_true.1 hpair i (List.mem_range.2 (by omega))) j (List.mem_range.2 hj)
    simp only [Bool.or_eq_true, decide_eq_true_eq, Region.pairB, hi, hoj] at h1
    rcases h1 with h1 | h1
    · omega
    · exact h1
  have apart_symm : ∀ x y : Oper, x.apart ops y = true → y.apart ops x = true := by
    intro x y h
    unfold Oper.apart at *
    cases hx : x.dst <;> cases hy : y.dst <;> simp [hx, hy] at h ⊢
    · exact h
    · exact h
    · exact ⟨⟨h.2, fun e => h.1.2 e.symm⟩, h.1.1⟩
  have edgeOf : ∀ i o, i < n → ops[i]? = some o → ∀ e ∈ o.after, Region.binds .any e = true → e.on < i := by
    intro i o hi ho e he hb
    have h1 := List.all_eq_true.1 hedge i (List.mem_range.2 hi)
    simp only [ho, Bool.and_eq_true] at h1
    have h2 := Array.all_eq_true_iff_forall_mem.1 h1.1 e he
    simpa only [hb, Bool.not_true, Bool.false_or, decide_eq_true_eq] using h2
  have edgeK : ∀ i o, i < m → i ≠ k → ops[i]? = some o → ∀ e ∈ o.after, Region.binds .any e = true → e.on ≠ k := by
    intro i o hi hik ho e he hb
    have h1 := List.all_eq_true.1 hS.1 i (List.mem_range.2 hi)
    simp only [ho, Bool.or_eq_true, beq_iff_eq, hik, false_or] at h1
    have h2 := Array.all_eq_true_iff_forall_mem.1 h1 e he
    simpa [hb] using h2
  have late : ∀ i, m ≤ i → i < n → Region.waitsFor .any ops i k = true := by
    intro i hi hin
    have h1 := List.all_eq_true.1 hS.2 i (List.mem_range.2 hin)
    simp only [Bool.or_eq_true, decide_eq_true_eq] at h1
    rcases h1 with h1 | h1
    · omega
    · exact h1
  have unwait : ∀ (listed : Array Bool) (i j : Nat), i ∈ Region.ready .any ops listed → listed.getD j false = false → Region.waitsFor .any ops i j = true → False := by
    intro listed i j hi hj hw
    obtain ⟨oi, hoi, e, he, hb, hon⟩ := Region.waitsFor_spec hw
    obtain ⟨_, o', ho', hall⟩ := mem_ready.1 hi
    rw [hoi] at ho'; cases ho'
    have := hall e he hb
    rw [hon, hj] at this; cases this
  intro cnt
  induction cnt with
  | zero =>
    intro es listed a hc inv hmem hes hse h n' x
    have hkl : listed.getD k false = false := (hmem k (by omega)).2 (.inr (.inl rfl))
    have hheads := hheads0 listed k inv (by omega) (getD_in (by rw [inv.size]; omega) hkl)
    rw [show ∀ a b, a + 1 + b = (a + b) + 1 by omega]
    refine ⟨fun hnil => ?_, fun i hi => ?_⟩
    · exfalso
      have first : ∀ i o, i < m → ops[i]? = some o → listed.getD i false = false → (∀ j, j < i → listed.getD j false = true ∨ (i ≠ k ∧ j = k)) → False := by
        intro i o hi ho hl hall
        have : i ∈ Region.ready .any ops listed := mem_ready.2 ⟨getD_in (by rw [inv.size]; omega) hl, o, ho, fun e he hb => by
          have h1 := edgeOf i o (by omega) ho e he hb
          rcases hall e.on h1 with h3 | ⟨h3, h4⟩
          · exact h3
          · exact absurd h4 (edgeK i o hi h3 ho e he hb)⟩
        rw [hnil] at this; cases this
      cases es with
      | nil =>
        refine first k ok hkn hok hkl fun j hj => ?_
        cases hl : listed.getD j false with
        | true => exact .inl rfl
        | false =>
          rcases (hmem j (by omega)).1 hl with h4 | h4 | h4
          · simp at h4
          · omega
          · omega
      | cons p es =>
        obtain ⟨h1, h2, h3⟩ := hes p (List.mem_cons_self ..)
        refine first p.1 p.2 h1 h2 ((hmem p.1 (by omega)).2 (.inl (by simp))) fun j hj => ?_
        cases hl : listed.getD j false with
        | true => exact .inl rfl
        | false =>
          refine .inr ⟨h3, ?_⟩
          rcases (hmem j (by omega)).1 hl with h4 | h4 | h4
          · simp only [List.map_cons, List.mem_cons] at h4
            simp only [List.map_cons, List.pairwise_cons] at hse
            rcases h4 with h4 | h4
            · omega
            · have := hse.1 j h4; omega
          · exact h4
          · omega
    · have hin := hheads i hi
      have hl : listed.getD i false = false := getD_both (mem_ready.1 hi).1
      have inv' := inv.set hi hin
      have set_mem : ∀ j, j < n → j ≠ i → ((listed.setIfInBounds i true).getD j false = false ↔ listed.getD j false = false) := fun j hj hji => by rw [getD_set_ne false (Ne.symm hji)]
      have set_self : (listed.setIfInBounds i true).getD i false = true := by
        have : i < listed.size := by rw [inv.size]; omega
        simp [this]
      rcases (hmem i hin).1 hl with hie | hia | him
      · exfalso
        have : es = [] := List.eq_nil_of_length_eq_zero hc
        subst this
        simp at hie
      · subst hia
        have hape : ∀ y ∈ es.map (·.2), ok.apart ops y = true ∧ ∀ cs b, y.op ≠ .select cs b := by
          intro y hy
          obtain ⟨q, hq, rfl⟩ := List.mem_map.1 hy
          obtain ⟨g1, g2, g3⟩ := hes q hq
          refine ⟨?_, fun cs b => hsp q.1 q.2 cs b g2⟩
          have hql : listed.getD q.1 false = false := (hmem q.1 (by omega)).2 (.inl (List.mem_map.2 ⟨q, hq, rfl⟩))
          rcases Nat.lt_trichotomy q.1 i with hlt | heq | hgt
          · rcases pairOf q.1 i q.2 ok hlt (by omega) g2 hok with hw | ha
            · exact (unwait listed i q.1 hi hql hw).elim
            · exact apart_symm _ _ ha
          · exact absurd heq g3
          · rcases pairOf i q.1 ok q.2 hgt (by omega) hok g2 with hw | ha
            · exfalso
              obtain ⟨oq, hoq, e, he, hb, hon⟩ := Region.waitsFor_spec hw
              exact edgeK q.1 oq g1 g3 hoq e he hb hon
            · exact ha
        obtain ⟨v, hst, h'⟩ := stir_front (K := fun a' => wpCalm P ops w1 K (es2.map (·.2)) a') (fun cs b => hsp i ok cs b hok) _ a hape h
        obtain ⟨W', hrun, hgr⟩ := hst n' x
        unfold wpOpIn
        simp only [hok]
        rw [if_pos (by simp [Region.wanted, hgk])]
        unfold Oper.wpIn
        refine ⟨fun f _ => hF.fn f, ?_⟩
        rw [Oper.semAt_plain F a.eval ok (Region.noDefer_spec hnd i ok hok), hrun]
        simp only [Oper.uponIn]
        obtain ⟨n'', y, rfl⟩ := World.plus_of hgr
        have key := wpAnyIn_of_order hF (N := N) (Q := Q) (w0 := w1) (as0 := []) hB0 hnd hheads0 (K := fun _ a' => K a') (fun _ _ _ _ h => h)
          (fun _ a hK' n' x _ listed inv hall => hK a hK' n' x listed inv hall) (es.length + es2.length) (es ++ es2) [] (listed.setIfInBounds i true) (fun _ => True) (a.put ok.dst v)
          (by simp) inv' (fun j hj => by
            simp only [List.map_nil, List.not_mem_nil, or_false, List.map_append, List.mem_append]
            by_cases hji : j = i
            · subst hji
              rw [set_self]
              simp only [Bool.true_eq_false, false_iff]
              rintro (hh | hh)
              · obtain ⟨q, hq, he⟩ := List.mem_map.1 hh
                exact (hes q hq).2.2 he
              · obtain ⟨q, hq, he⟩ := List.mem_map.1 hh
                have := (he2 q hq).1
                omega
            · rw [set_mem j hj hji, hmem j hj]
              constructor
              · rintro (h | h | h)
                · exact .inl h
                · exact absurd h hji
                · exact .inr (he2m j h hj)
              · rintro (h | h)
                · exact .inl h
                · obtain ⟨q, hq, rfl⟩ := List.mem_map.1 h
                  exact .inr (.inr (he2 q hq).1))
          (fun p hp => by
            rcases List.mem_append.1 hp with hp | hp
            · have := hes p hp; exact ⟨by omega, this.2.1, by simp⟩
            · have := he2 p hp; exact ⟨this.2.1, this.2.2, by simp⟩)
          (fun p hp => absurd hp (by simp))
          (by
            rw [List.map_append, List.pairwise_append]
            refine ⟨hse, he2s, fun x hx y hy => ?_⟩
            obtain ⟨q, hq, rfl⟩ := List.mem_map.1 hx
            obtain ⟨q', hq', rfl⟩ := List.mem_map.1 hy
            have := hes q hq
            have := he2 q' hq'
            omega) List.Pairwise.nil (fun _ _ _ _ => trivial)
          (by rw [List.map_append]; exact wpCalm_app _ _ _ (wpCalm2.snd _ _ h')) n'' y trivial
        rw [hc] at key
        exact key
      · exact (unwait listed i k hi hkl (late i him hin)).elim
  | succ cnt ih =>
    intro es listed a hc inv hmem hes hse h n' x
    have hkl : listed.getD k false = false := (hmem k (by omega)).2 (.inr (.inl rfl))
    have hheads := hheads0 listed k inv (by omega) (getD_in (by rw [inv.size]; omega) hkl)
    rw [show ∀ a b, a + 1 + b = (a + b) + 1 by omega]
    refine ⟨fun hnil => ?_, fun i hi => ?_⟩
    · exfalso
      have first : ∀ i o, i < m → ops[i]? = some o → listed.getD i false = false → (∀ j, j < i → listed.getD j false = true ∨ (i ≠ k ∧ j = k)) → False := by
        intro i o hi ho hl hall
        have : i ∈ Region.ready .any ops listed := mem_ready.2 ⟨getD_in (by rw [inv.size]; omega) hl, o, ho, fun e he hb => by
          have h1 := edgeOf i o (by omega) ho e he hb
          rcases hall e.on h1 with h3 | ⟨h3, h4⟩
          · exact h3
          · exact absurd h4 (edgeK i o hi h3 ho e he hb)⟩
        rw [hnil] at this; cases this
      cases es with
      | nil =>
        refine first k ok hkn hok hkl fun j hj => ?_
        cases hl : listed.getD j false with
        | true => exact .inl rfl
        | false =>
          rcases (hmem j (by omega)).1 hl with h4 | h4 | h4
          · simp at h4
          · omega
          · omega
      | cons p es =>
        obtain ⟨h1, h2, h3⟩ := hes p (List.mem_cons_self ..)
        refine first p.1 p.2 h1 h2 ((hmem p.1 (by omega)).2 (.inl (by simp))) fun j hj => ?_
        cases hl : listed.getD j false with
        | true => exact .inl rfl
        | false =>
          refine .inr ⟨h3, ?_⟩
          rcases (hmem j (by omega)).1 hl with h4 | h4 | h4
          · simp only [List.map_cons, List.mem_cons] at h4
            simp only [List.map_cons, List.pairwise_cons] at hse
            rcases h4 with h4 | h4
            · omega
            · have := hse.1 j h4; omega
          · exact h4
          · omega
    · have hin := hheads i hi
      have hl : listed.getD i false = false := getD_both (mem_ready.1 hi).1
      have inv' := inv.set hi hin
      have set_mem : ∀ j, j < n → j ≠ i → ((listed.setIfInBounds i true).getD j false = false ↔ listed.getD j false = false) := fun j hj hji => by rw [getD_set_ne false (Ne.symm hji)]
      have set_self : (listed.setIfInBounds i true).getD i false = true := by
        have : i < listed.size := by rw [inv.size]; omega
        simp [this]
      rcases (hmem i hin).1 hl with hie | hia | him
      · obtain ⟨p, hp, rfl⟩ := List.mem_map.1 hie
        obtain ⟨l1, l2, rfl⟩ := List.append_of_mem hp
        obtain ⟨h1, h2, h3⟩ := hes p hp
        have hsort := hse
        simp only [List.map_append, List.map_cons, List.pairwise_append, List.pairwise_cons] at hsort
        have hap1 : ∀ y ∈ l1.map (·.2), p.2.apart ops y = true ∧ ∀ cs b, y.op ≠ .select cs b := by
          intro y hy
          obtain ⟨q, hq, rfl⟩ := List.mem_map.1 hy
          obtain ⟨g1, g2, g3⟩ := hes q (by simp [hq])
          refine ⟨?_, fun cs b => hsp q.1 q.2 cs b g2⟩
          have hlt : q.1 < p.1 := hsort.2.2 q.1 (List.mem_map.2 ⟨q, hq, rfl⟩) p.1 (by simp)
          rcases pairOf q.1 p.1 q.2 p.2 hlt (by omega) g2 h2 with hw | ha
          · exact (unwait listed p.1 q.1 hi ((hmem q.1 (by omega)).2 (.inl (by simp; exact .inl ⟨_, hq⟩))) hw).elim
          · exact apart_symm _ _ ha
        rw [List.map_append, List.map_cons] at h
        obtain ⟨v, ⟨hy, _⟩, h'⟩ := calm2_front (fun cs b => hsp p.1 p.2 cs b h2) _ a hap1 h
        have hrest : ∀ n'' y, wpAnyIn F N P .any ops Q (cnt + 1 + es2.length + (ops.size - n)) (listed.setIfInBounds p.1 true) (a.put p.2.dst v) (w0.plus n'' y) := by
          rw [show cnt + 1 + es2.length = cnt + es2.length + 1 by omega]
          refine ih (l1 ++ l2) _ _ (by simp at hc ⊢; omega) inv' (fun j hj => ?_) (fun q hq => hes q (by simp at hq ⊢; rcases hq with h | h <;> simp [h])) ?_ (by rw [List.map_append]; exact h')
          · by_cases hji : j = p.1
            · subst hji
              rw [set_self]
              simp only [Bool.true_eq_false, false_iff]
              rintro (hh | hh | hh)
              · obtain ⟨q, hq, he⟩ := List.mem_map.1 hh
                rcases List.mem_append.1 hq with hq | hq
                · have := hsort.2.2 q.1 (List.mem_map.2 ⟨q, hq, rfl⟩) p.1 (by simp); omega
                · have := hsort.2.1.1 q.1 (List.mem_map.2 ⟨q, hq, rfl⟩); omega
              · exact h3 hh
              · omega
            · rw [set_mem j hj hji, hmem j hj]
              simp only [List.map_append, List.map_cons, List.mem_append, List.mem_cons]
              constructor
              · rintro ((h | h | h) | h)
                · exact .inl (.inl h)
                · exact absurd h hji
                · exact .inl (.inr h)
                · exact .inr h
              · rintro ((h | h) | h)
                · exact .inl (.inl h)
                · exact .inl (.inr (.inr h))
                · exact .inr h
          · rw [List.map_append, List.pairwise_append]
            exact ⟨hsort.1, hsort.2.1.2, fun x hx y hy => hsort.2.2 x hx y (List.mem_cons_of_mem _ hy)⟩
        unfold wpOpIn
        simp only [h2]
        rcases hy with ⟨hw, hv⟩ | ⟨hw, rfl⟩
        · rw [if_pos hw]
          have hv' := hv n' x
          unfold Oper.calmAt at hv'
          unfold Oper.wpIn
          refine ⟨fun f _ => hF.fn f, ?_⟩
          rw [Oper.semAt_plain F a.eval p.2 (Region.noDefer_spec hnd p.1 p.2 h2)]
          generalize (execOp a.eval p.2).run P (w0.plus n' x) = r at *
          cases r with
          | halt z w' => simp only [Oper.calmUpon] at hv'
          | ok nx w' =>
            cases nx <;> simp only [Oper.calmUpon] at hv' <;> simp only [Oper.uponIn]
            case value u => obtain ⟨rfl, rfl⟩ := hv'; exact hrest n' x
            case skip => obtain ⟨rfl, rfl⟩ := hv'; exact hrest n' x
            case enter f args =>
              obtain ⟨rfl, hcall⟩ := hv'
              refine ⟨(fun h => by rw [hF.depth] at h; cases h), hF.calls _ _ _ _ _ (hcall.mono fun e w'' ⟨he, hg⟩ => ?_)⟩
              subst he
              obtain ⟨n'', y, hxy⟩ := World.plus_of ((World.grows_plus w0 n' x).trans hg)
              subst hxy
              exact hrest n'' y
        · rw [if_neg (by rw [hw]; exact Bool.false_ne_true)]
          exact ⟨fun f _ => hF.fn f, hrest n' x⟩
      · subst hia
        have hape : ∀ y ∈ es.map (·.2), ok.apart ops y = true ∧ ∀ cs b, y.op ≠ .select cs b := by
          intro y hy
          obtain ⟨q, hq, rfl⟩ := List.mem_map.1 hy
          obtain ⟨g1, g2, g3⟩ := hes q hq
          refine ⟨?_, fun cs b => hsp q.1 q.2 cs b g2⟩
          have hql : listed.getD q.1 false = false := (hmem q.1 (by omega)).2 (.inl (List.mem_map.2 ⟨q, hq, rfl⟩))
          rcases Nat.lt_trichotomy q.1 i with hlt | heq | hgt
          · rcases pairOf q.1 i q.2 ok hlt (by omega) g2 hok with hw | ha
            · exact (unwait listed i q.1 hi hql hw).elim
            · exact apart_symm _ _ ha
          · exact absurd heq g3
          · rcases pairOf i q.1 ok q.2 hgt (by omega) hok g2 with hw | ha
            · exfalso
              obtain ⟨oq, hoq, e, he, hb, hon⟩ := Region.waitsFor_spec hw
              exact edgeK q.1 oq g1 g3 hoq e he hb hon
            · exact ha
        obtain ⟨v, hst, h'⟩ := stir_front (K := fun a' => wpCalm P ops w1 K (es2.map (·.2)) a') (fun cs b => hsp i ok cs b hok) _ a hape h
        obtain ⟨W', hrun, hgr⟩ := hst n' x
        unfold wpOpIn
        simp only [hok]
        rw [if_pos (by simp [Region.wanted, hgk])]
        unfold Oper.wpIn
        refine ⟨fun f _ => hF.fn f, ?_⟩
        rw [Oper.semAt_plain F a.eval ok (Region.noDefer_spec hnd i ok hok), hrun]
        simp only [Oper.uponIn]
        obtain ⟨n'', y, rfl⟩ := World.plus_of hgr
        have key := wpAnyIn_of_order hF (N := N) (Q := Q) (w0 := w1) (as0 := []) hB0 hnd hheads0 (K := fun _ a' => K a') (fun _ _ _ _ h => h)
          (fun _ a hK' n' x _ listed inv hall => hK a hK' n' x listed inv hall) (es.length + es2.length) (es ++ es2) [] (listed.setIfInBounds i true) (fun _ => True) (a.put ok.dst v)
          (by simp) inv' (fun j hj => by
            simp only [List.map_nil, List.not_mem_nil, or_false, List.map_append, List.mem_append]
            by_cases hji : j = i
            · subst hji
              rw [set_self]
              simp only [Bool.true_eq_false, false_iff]
              rintro (hh | hh)
              · obtain ⟨q, hq, he⟩ := List.mem_map.1 hh
                exact (hes q hq).2.2 he
              · obtain ⟨q, hq, he⟩ := List.mem_map.1 hh
                have := (he2 q hq).1
                omega
            · rw [set_mem j hj hji, hmem j hj]
              constructor
              · rintro (h | h | h)
                · exact .inl h
                · exact absurd h hji
                · exact .inr (he2m j h hj)
              · rintro (h | h)
                · exact .inl h
                · obtain ⟨q, hq, rfl⟩ := List.mem_map.1 h
                  exact .inr (.inr (he2 q hq).1))
          (fun p hp => by
            rcases List.mem_append.1 hp with hp | hp
            · have := hes p hp; exact ⟨by omega, this.2.1, by simp⟩
            · have := he2 p hp; exact ⟨this.2.1, this.2.2, by simp⟩)
          (fun p hp => absurd hp (by simp))
          (by
            rw [List.map_append, List.pairwise_append]
            refine ⟨hse, he2s, fun x hx y hy => ?_⟩
            obtain ⟨q, hq, rfl⟩ := List.mem_map.1 hx
            obtain ⟨q', hq', rfl⟩ := List.mem_map.1 hy
            have := hes q hq
            have := he2 q' hq'
            omega) List.Pairwise.nil (fun _ _ _ _ => trivial)
          (by rw [List.map_append]; exact wpCalm_app _ _ _ (wpCalm2.snd _ _ h')) n'' y trivial
        rw [hc] at key
        exact key
      · exact (unwait listed i k hi hkl (late i him hin)).elim

include hF in
/-- reads and calls, ONE operation (number k) that changes what is there, then those that wait for it (from m on), a tail in order (from n on) -/
theorem wpIn_region_stir {id : Nat} {Q : Exit → Act → World → Prop} {a : Act} {w : World} {l : List Oper} (m n k : Nat) (ok : Oper) (w1 : World) (hk : l[k]? = some ok) (hm : P.follows .mixedOrders = true)
    (hB : (Region.planB l.toArray n [] && Region.stirB l.toArray m n k) = true) (hnd : Region.noDeferB l.toArray = true) (hn : n ≤ l.length) (hmn : m ≤ n) (hkn : k < m) (hg : ok.guard = none)
    (h : wpCalm2 P l.toArray w w1 (fun a' => ∃ v, ok.stirs P a' w w1 v ∧ wpCalm P l.toArray w1 (fun a'' => ∀ n' x, wpListIn F N P l.toArray Q (l.drop n) a'' (w1.plus n' x)) ((l.drop m).take (n - m)) (a'.put ok.dst v)) (l.take k ++ (l.drop (k + 1)).take (m - (k + 1))) a) : (Code.region id l.toArray true).wpIn F N P Q a w := by
  simp only [Region.planB, Bool.and_eq_true, Bool.or_eq_true, decide_eq_true_eq] at hB
  obtain ⟨⟨⟨hmix, hplan⟩, hseq⟩, hstir⟩ := hB
  have hkl : (l.take k).length = k := by simp; omega
  have hnle : n ≤ l.toArray.size := by simpa using hn
  refine wpIn_region_any hm ?_
  obtain ⟨n0, x0, h0⟩ := World.more_drew w
  rw [h0]
  have e1 : ∀ (j : Nat) (l : List Oper), (withNo j l).length = l.length := fun j l => by
    have := congrArg List.length (withNo_snd j l)
    simpa using this
  have hlen : (withNo 0 (l.take k) ++ withNo (k + 1) ((l.drop (k + 1)).take (m - (k + 1)))).length = m - 1 := by
    rw [List.length_append, e1, e1]
    simp
    omega
  have hlen2 : (withNo m ((l.drop m).take (n - m))).length = n - m := by
    rw [e1]; simp; omega
  have key := wpAnyIn_of_stir hF (N := N) (P := P) (ops := l.toArray) (w0 := w) (w1 := w1) (Q := Q) (m := m) (n := n) (k := k) (ok := ok) hkn hmn (by simpa using hk) hg hmix hstir hnd
    (fun listed i0 inv hi0 hun0 => by
      rcases hplan with h | ⟨⟨h1, h2⟩, h3⟩
      · subst h; exact heads_of_all listed
      · exact heads_of_tail h1 h2 h3 listed i0 inv hi0 hun0)
    (K := fun a' => ∀ n' x, wpListIn F N P l.toArray Q (l.drop n) a' (w1.plus n' x)) (es2 := withNo m ((l.drop m).take (n - m)))
    (fun p hp => by
      obtain ⟨h1, h2⟩ := (withNo_mem m _ p).1 hp
      rw [List.getElem?_take] at h2
      split at h2
      · rename_i hlt
        rw [List.getElem?_drop, show m + (p.1 - m) = p.1 by omega] at h2
        exact ⟨h1, by omega, by simpa using h2⟩
      · cases h2)
    (fun i h1 h2 => by rw [withNo_fst]; simp; omega)
    (by rw [withNo_fst]; exact List.pairwise_lt_range')
    (fun a hK n' x listed inv hall => by
      have hl := seq_listed inv hnle hall
      subst hl
      have hd : (l.drop n).length = l.toArray.size - n := by simp
      have := wpAnyIn_of_seq hnd (Q' := Q) (l.drop n) n _ a (w1.plus n' x) (fun j => by simp [List.getElem?_drop]) (by rw [hd]; exact hseq) (hK n' x)
      rwa [hd] at this)
    (m - 1) (withNo 0 (l.take k) ++ withNo (k + 1) ((l.drop (k + 1)).take (m - (k + 1)))) (Array.replicate l.toArray.size false) a hlen (headInv_start n)
    (fun i hi => by
      simp only [getD_replicate_false, true_iff, List.map_append, withNo_fst]
      simp
      omega)
    (fun p hp => by
      rcases List.mem_append.1 hp with hp | hp
      · have h2 := ((withNo_mem 0 _ p).1 hp).2
        rw [Nat.sub_zero, List.getElem?_take] at h2
        split at h2
        · rename_i hlt; exact ⟨by omega, by simpa using h2, by omega⟩
        · cases h2
      · obtain ⟨h1, h2⟩ := (withNo_mem (k + 1) _ p).1 hp
        rw [List.getElem?_take] at h2
        split at h2
        · rename_i hlt
          rw [List.getElem?_drop, show k + 1 + (p.1 - (k + 1)) = p.1 by omega] at h2
          exact ⟨by omega, by simpa using h2, by omega⟩
        · cases h2)
    (by
      rw [List.map_append, withNo_fst, withNo_fst, List.pairwise_append]
      refine ⟨List.pairwise_lt_range', List.pairwise_lt_range', fun x hx y hy => ?_⟩
      simp at hx hy
      omega)
    (by
      rw [List.map_append, withNo_snd, withNo_snd, withNo_snd]
      exact h)
    n0 x0
  rw [hlen2, show m - 1 + (n - m) + 1 + (l.toArray.size - n) = l.toArray.size by omega] at key
  exact key

end
end Go
namespace Go
open Go.RowKit
/-- the same, with the change of one block spelled out -/
theorem wpIn_region_stirO {P : Program} {F : Fence} (hF : F.Free P) {N : Nat} {id : Nat} {Q : Exit → Act → World → Prop} {a : Act} {w : World} {l : List Oper} (m n k : Nat) (ok : Oper) (b : Nat) (ob : Obj) (hk : l[k]? = some ok) (hm : P.follows .mixedOrders = true)
    (hB : (Region.planB l.toArray n [] && Region.stirB l.toArray m n k) = true) (hnd : Region.noDeferB l.toArray = true) (hn : n ≤ l.length) (hmn : m ≤ n) (hkn : k < m) (hg : ok.guard = none)
    (h : wpCalm2 P l.toArray w (w.putObj b ob) (fun a' => ∃ v, ok.stirs P a' w (w.putObj b ob) v ∧ wpCalm P l.toArray (w.putObj b ob) (fun a'' => ∀ n' x, wpListIn F N P l.toArray Q (l.drop n) a'' ((w.putObj b ob).plus n' x)) ((l.drop m).take (n - m)) (a'.put ok.dst v)) (l.take k ++ (l.drop (k + 1)).take (m - (k + 1))) a) : (Code.region id l.toArray true).wpIn F N P Q a w :=
  wpIn_region_stir hF m n k ok _ hk hm hB hnd hn hmn hkn hg h
end Go

