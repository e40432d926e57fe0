/-
  What is proved: a new desk (68), the set of all marks (63), whether marks have one maker (70), what features cost (79), in the program.
-/
import Derived.Test.YtdminglglapnlaaM8
import Derived.Test.YtdminglglapnlaaM9
import Derived.Test.YtdminglglapnlaaM3
import Derived.Deep.CutRange
import Derived.Lib.SliceRun
import Derived.Deep.WholeRow
set_option linter.all false
namespace Go.Proofs.Ytdminglglapnlaa
open Go.RowKit
attribute [local irreducible] Go.wpCalm deskA rowI

theorem zc_of {t : TypeId} {A B : Array Value} {it : TypeInfo} {w : World} (h : (zeroValue t).run Try.prog w = .ok (.agg A) w) (h1 : Try.prog.info? t = some it) (h2 : it.zero = some (.agg B)) : A = B := by
  have h' : (zeroValue t).run Try.prog w = .ok (.agg B) w := by simp [zeroValue, typeInfo, h1, h2]
  rw [h] at h'
  exact Value.agg.inj (Result.ok.inj h').1
theorem sets_desk (R : Array Value) (hR : R.size = 1024) (mv cv m : Value) :
    (((#[Value.slice none 0 0, Value.slice none 0 0] ++ R ++ #[Value.map none]).setIfInBounds 0 mv).setIfInBounds 1 cv).setIfInBounds 1026 m = #[mv, cv] ++ R ++ #[m] := by
  have hs : (#[Value.slice none 0 0, Value.slice none 0 0] ++ R ++ #[Value.map none]).size = 1027 := by simp [hR]
  have h1 : ((#[Value.slice none 0 0, .slice none 0 0] ++ R ++ #[Value.map none]).setIfInBounds 0 mv).setIfInBounds 1 cv = #[mv, cv] ++ R ++ #[Value.map none] := by
    apply Array.ext_getElem?
    intro i
    simp only [Array.getElem?_setIfInBounds, Array.size_setIfInBounds, hs]
    rcases i with _ | _ | i
    · simp [Array.getElem?_append, hR]
    · simp [Array.getElem?_append, hR]
    · simp [Array.getElem?_append, hR]
  rw [h1]
  exact set_last _ _ _ (by simp [hR])
theorem desk_made (w : World) (mv cv : Value) (b : Nat) : ((Try.zeroCells105.setIfInBounds 0 mv).setIfInBounds 1 cv).setIfInBounds 1026 (.map (some b)) = deskA mv cv (fun _ => 0) b := by
  obtain ⟨it, h1, h2, h3⟩ := zero105
  rw [zc_of (Try.zeroValue105 w) h1 h2, rowI_zero]
  unfold deskA deskN
  exact sets_desk (rowI 1024 fun _ => 0) (rowI_size _ _) mv cv (.map (some b))
@[local go_sem ↓] theorem mk103 (w : World) : (Instr.makeMap 103 none).run Try.prog w = .ok (.map (some w.heap.size)) (w.alloc (.map #[] 0)) := by
  simp [Instr.makeMap, Result.andThen]
set_option maxHeartbeats 1000000 in
theorem newDesk_c (w : World) (mv cv : Value) :
    Calls Try.prog 68 #[.agg #[mv, cv]] w fun e w' => ∃ db mb, e = .returned (.pointer (some ⟨db, 0, none⟩)) ∧ DeskAt w' db mb mv cv (fun _ => 0) VM.empty ∧ w.heap.size ≤ db ∧ w.heap.size ≤ mb ∧ w.grows w' := by
  go_enter Try.func68, Try.ntmps68
  go_wp2
  go_ret
  have hm : ((w.alloc (.cells #[mv, cv] 25)).alloc (.map #[] 0)).heap[w.heap.size + 1]? = some (Obj.map #[] 0) := World.heap_at _ _ _ (by simp)
  have hsz : ((w.alloc (.cells #[mv, cv] 25)).alloc (.map #[] 0)).heap.size = w.heap.size + 2 := by simp
  obtain ⟨W, hW⟩ : ∃ W, W = ((w.alloc (.cells #[mv, cv] 25)).alloc (.map #[] 0)) := ⟨_, rfl⟩
  have hg : w.grows W := by rw [hW]; (repeat (first | exact World.grows.refl _ | assumption | refine World.grows.alloc ?_ _ | refine World.grows.plus ?_ _ _ | refine World.grows.drew ?_))
  rw [← hW] at hm hsz
  rw [← hW]
  rw [desk_made w mv cv (w.heap.size + 1)]
  obtain ⟨A, hA⟩ : ∃ A, A = deskA mv cv (fun _ => 0) (w.heap.size + 1) := ⟨_, rfl⟩
  rw [← hA]
  have hd : (W.alloc (.cells A 105)).heap[w.heap.size + 2]? = some (.cells A 105) := World.heap_at _ _ _ hsz.symm
  have hm2 : (W.alloc (.cells A 105)).heap[w.heap.size + 1]? = some (.map #[] 0) := by rw [World.heap_a _ _ _ (by rw [hm]; rfl), hm]
  exact ⟨w.heap.size + 2, w.heap.size + 1, rfl, ⟨by rw [hd, hA], hm2, by omega⟩, by omega, by omega, hg.trans (by (repeat (first | exact World.grows.refl _ | assumption | refine World.grows.alloc ?_ _ | refine World.grows.plus ?_ _ _ | refine World.grows.drew ?_)))⟩

/-- a desk of a valid register -/
def DeskR (w : World) (db mb : Nat) (r : Reg) (f : Nat → Int) (m : VM) : Prop :=
  ∃ kb ko mc cb co cc rb ro rc, DeskAt w db mb (.slice (some ⟨kb, ko, none⟩) r.nm mc) (.slice (some ⟨cb, co, none⟩) r.nc cc) f m ∧ r.nm ≤ mc ∧ mc ≤ maxLen ∧ r.nc ≤ cc ∧ cc ≤ maxLen ∧ RegIn w kb ko cb co rb ro rc r
theorem DeskR.mono {w w' : World} {db mb : Nat} {r : Reg} {f : Nat → Int} {m : VM} (h : DeskR w db mb r f m) (g : w.grows w') : DeskR w' db mb r f m := by
  obtain ⟨kb, ko, mc, cb, co, cc, rb, ro, rc, h1, h2, h3, h4, h5, h6⟩ := h
  exact ⟨kb, ko, mc, cb, co, cc, rb, ro, rc, h1.mono g, h2, h3, h4, h5, h6.mono g⟩

set_option maxHeartbeats 1000000 in
theorem all_c (w : World) (db mb : Nat) (r : Reg) (f : Nat → Int) (m : VM) (h : DeskR w db mb r f m) (hr : r.Ok) :
    Calls Try.prog 63 #[.pointer (some ⟨db, 0, none⟩)] w fun e w' => e = .returned (.int .i64 ((2 ^ r.nm - 1 : Nat) : Int)) ∧ w.grows w' := by
  obtain ⟨kb, ko, mc, cb, co, cc, rb, ro, rc, h1, h2, h3, h4, h5, h6⟩ := h
  have q0 := h1.mv
  have hm10 := hr.m10
  obtain ⟨A, hA⟩ : ∃ A, 2 ^ r.nm = A + 1 := ⟨2 ^ r.nm - 1, by have := Nat.two_pow_pos r.nm; omega⟩
  have hA10 : A + 1 ≤ 1024 := by rw [← hA]; exact Nat.pow_le_pow_right (by omega) hm10
  have Hwz := Lib.hid (shl_one (k := r.nm) (by omega) hA)
  have hw1 : IntKind.i64.wrap (((A + 1 : Nat) : Int) - 1) = ((A : Nat) : Int) := wrapI (by omega) (by omega)
  have hres : Hid (2 ^ r.nm - 1 = A) := Lib.hid (by rw [hA]; rfl)
  rw [hres.out]
  clear hA h1 h6
  unfold maxLen at h3 h5
  have hwz := Hwz.out
  go_enter Try.func63, Try.ntmps63
  go_wp2
  clear hwz
  (refine bodyPost_ret (v := .int .i64 (A : Nat)) (by simp [results, Try.results63, go_sem]) rfl ?_)
  exact ⟨rfl, by (repeat (first | exact World.grows.refl _ | assumption | refine World.grows.alloc ?_ _ | refine World.grows.plus ?_ _ _ | refine World.grows.drew ?_))⟩
end Go.Proofs.Ytdminglglapnlaa

/-
  What is proved: whether marks have one maker (70), what features cost (79), in the program.
-/
namespace Go.Proofs.Ytdminglglapnlaa
open Go.RowKit
attribute [local irreducible] Go.wpCalm deskA rowI

theorem Reg.alike_no {r : Reg} {s j : Nat} (hj : j < (bitsL r.nm s).length) (h : r.who ((bitsL r.nm s).getD j 0) ≠ r.who ((bitsL r.nm s).getD 0 0)) : r.mixed s = true := by
  have h1 := mem_bitsL.1 (getD_mem hj)
  have h2 := mem_bitsL.1 (getD_mem (L := bitsL r.nm s) (k := 0) (by omega))
  exact (r.mixed_iff s).2 ⟨_, _, h1.1, h2.1, h1.2, h2.2, h⟩
theorem Reg.alike_yes {r : Reg} {s : Nat} (h : ∀ j, j < (bitsL r.nm s).length → r.who ((bitsL r.nm s).getD j 0) = r.who ((bitsL r.nm s).getD 0 0)) : r.mixed s = false := by
  cases hm : r.mixed s with
  | false => rfl
  | true =>
    obtain ⟨a, b, ha, hb, h1, h2, h3⟩ := (r.mixed_iff s).1 hm
    have key : ∀ a, a < r.nm → s.testBit a = true → r.who a = r.who ((bitsL r.nm s).getD 0 0) := fun a ha hs => by
      obtain ⟨j, hj, e⟩ := List.getElem_of_mem (mem_bitsL.2 ⟨ha, hs⟩)
      have := h j hj
      rw [show (bitsL r.nm s).getD j 0 = a by simp [hj, e]] at this
      exact this
    exact absurd ((key a ha h1).trans (key b hb h2).symm) h3

set_option maxHeartbeats 2000000 in
theorem alike_c (w : World) (db mb : Nat) (r : Reg) (f : Nat → Int) (m : VM) (h : DeskR w db mb r f m) (hr : r.Ok) (s : Nat) (hs : s < 2 ^ r.nm) :
    Calls Try.prog 70 #[.pointer (some ⟨db, 0, none⟩), .int .i64 s] w fun e w' => e = .returned (.bool (!r.mixed s)) ∧ w.grows w' := by
  obtain ⟨kb, ko, mc, cb, co, cc, rb, ro, rc, hD, h2, h3, h4, h5, hR⟩ := h
  have q0 := hD.mv
  have HR := Lib.hid hR
  have hm10 := hr.m10
  have h64 := fun W => list64 W s r.nm hs (by omega)
  have hyes := Lib.hid (Reg.alike_yes (r := r) (s := s))
  have hno := Lib.hid fun j => Reg.alike_no (r := r) (s := s) (j := j)
  have hmem := Lib.hid fun j (hj : j < (bitsL r.nm s).length) => (mem_bitsL.1 (getD_mem hj)).1
  have hlen := bitsL_length_le r.nm s
  obtain ⟨L, hL⟩ : ∃ L, bitsL r.nm s = L := ⟨_, rfl⟩
  rw [hL] at h64 hyes hno hmem hlen
  unfold maxLen at h3 h5
  clear hD hR hr hs hL
  go_enter Try.func70, Try.ntmps70
  go_wp2_with (go_at_call 64; refine (h64 _).mono ?_; rintro e W1 ⟨lv, rfl, hL, hg⟩; obtain ⟨la, lc, rfl, l1, l2, hLc⟩ := hL; have HL := Lib.hid hLc; have Hg := Lib.hid hg; have q1 := hg.cell_of q0; clear hLc hg)
  unfold maxLen at l2
  go_loopw [12] (fun i wr => ∃ k : Nat, k ≤ L.length ∧ i = .int .i64 k ∧ Hid (∀ j, j < k → r.who (L.getD j 0) = r.who (L.getD 0 0)) ∧ W1.grows wr) (fun i _ => L.length - (intOf i).toNat)
  case atStart => exact ⟨0, by omega, rfl, Lib.hid fun j hj => by omega, by (repeat (first | exact World.grows.refl _ | assumption | refine World.grows.alloc ?_ _ | refine World.grows.plus ?_ _ _ | refine World.grows.drew ?_))⟩
  case round =>
    obtain ⟨k, hk, rfl, hl, hg2⟩ := hrel
    obtain ⟨n1, x1, rfl⟩ := World.plus_of hg2
    by_cases hlt : k < L.length
    · obtain ⟨b, o, rfl, e1⟩ := HL.out k 0 hlt (by omega)
      obtain ⟨_, _, he, e2⟩ := HL.out 0 0 (by omega) (by omega)
      cases he
      simp only [Nat.mul_one, Nat.add_zero, Nat.zero_mul] at e1 e2
      have hL0 : 0 < L.length := by omega
      have m1 := hmem.out k hlt
      have m2 := hmem.out 0 hL0
      have hnok := hno.out k hlt
      have hlk := hl.out
      have hstep : r.who (L.getD k 0) = r.who (L.getD 0 0) → Hid (∀ j, j < k + 1 → r.who (L.getD j 0) = r.who (L.getD 0 0)) := fun h => Lib.hid (upto_succ hlk h)
      obtain ⟨x, hx⟩ : ∃ x, L.getD k 0 = x := ⟨_, rfl⟩
      obtain ⟨y, hy⟩ : ∃ y, L.getD 0 0 = y := ⟨_, rfl⟩
      rw [hx] at e1 m1 hnok hstep
      rw [hy] at e2 m2 hnok
      have c1 := Hg.out.cell_of (HR.out.who x m1)
      have c2 := Hg.out.cell_of (HR.out.who y m2)
      by_cases hw : r.who x = r.who y
      · have hnx := hstep (by rw [hy]; exact hw)
        rw [hw] at c1
        clear hstep hnok hlk hx hy hw
        go_wp2
        (refine wp_region_calm (by kernel_rfl) (by kernel_rfl) ?_; (repeat (refine wpCalm_step (fun K hK => ?_); go_simp; first | (refine hK _ ?_; clear hK K) | (apply Exists.intro; refine ⟨fun n' x' => ?_, hK _ ?_⟩; (fail); clear hK K))); refine wpCalm_nil ?_; intro nq xq)
        go_wp2
        go_roundw
        case rel => exact ⟨k + 1, by omega, by go_num, hnx, by (repeat (first | exact World.grows.refl _ | assumption | refine World.grows.alloc ?_ _ | refine World.grows.plus ?_ _ _ | refine World.grows.drew ?_))⟩
        case measure => simp [intOf]; omega
      · have hmx := Lib.hid (hnok hw)
        have hwb : (r.who x == r.who y) = false := beq_eq_false_iff_ne.2 hw
        clear hstep hnok hlk hx hy
        go_wp2
        (refine wp_region_calm (by kernel_rfl) (by kernel_rfl) ?_; (repeat (refine wpCalm_step (fun K hK => ?_); go_simp; first | (refine hK _ ?_; clear hK K) | (apply Exists.intro; refine ⟨fun n' x' => ?_, hK _ ?_⟩; (fail); clear hK K))); refine wpCalm_nil ?_; intro nq xq)
        go_wp2
        (refine bodyPost_ret (v := .bool false) (by simp [results, Try.results70, go_sem]) rfl ?_)
        exact ⟨by rw [hmx.out]; rfl, Hg.out.trans (by (repeat (first | exact World.grows.refl _ | assumption | refine World.grows.alloc ?_ _ | refine World.grows.plus ?_ _ _ | refine World.grows.drew ?_)))⟩
    · have hke : k = L.length := by omega
      have hmx := Lib.hid (hyes.out (by rw [← hke]; exact hl.out))
      subst hke
      go_wp2
      (refine bodyPost_ret (v := .bool true) (by simp [results, Try.results70, go_sem]) rfl ?_)
      exact ⟨by rw [hmx.out]; rfl, Hg.out.trans (by (repeat (first | exact World.grows.refl _ | assumption | refine World.grows.alloc ?_ _ | refine World.grows.plus ?_ _ _ | refine World.grows.drew ?_)))⟩

set_option maxHeartbeats 2000000 in
theorem price_c (w : World) (db mb : Nat) (r : Reg) (f : Nat → Int) (m : VM) (h : DeskR w db mb r f m) (hr : r.Ok) (s : Nat) (hs : s < 2 ^ r.nc) :
    Calls Try.prog 79 #[.pointer (some ⟨db, 0, none⟩), .int .i64 s] w fun e w' => e = .returned (.int .i64 (r.price (bitsL 8 s))) ∧ w.grows w' := by
  obtain ⟨kb, ko, mc, cb, co, cc, rb, ro, rc, hD, h2, h3, h4, h5, hR⟩ := h
  have q0 := hD.cv
  have HR := Lib.hid hR
  have hc8 := hr.c8
  have h64 := fun W => list64 W s 8 (Nat.lt_of_lt_of_le hs (Nat.pow_le_pow_right (by omega) hc8)) (by omega)
  have hlt8 := Lib.hid fun j (hj : j ∈ bitsL 8 s) => bitsL_lt hs hj
  have hlen := bitsL_length_le 8 s
  have Hcb := Lib.hid hr.cost
  rw [r.price_eq]
  obtain ⟨L, hL⟩ : ∃ L, bitsL 8 s = L := ⟨_, rfl⟩
  rw [hL] at h64 hlt8 hlen
  rw [hL]
  unfold maxLen at h3 h5
  clear hD hR hr hs hL
  go_enter Try.func79, Try.ntmps79
  go_wp2_with (go_at_call 64; refine (h64 _).mono ?_; rintro e W1 ⟨lv, rfl, hL, hg⟩; obtain ⟨la, lc, rfl, l1, l2, hLc⟩ := hL; have HL := Lib.hid hLc; have Hg := Lib.hid hg; have q1 := hg.cell_of q0; clear hLc hg)
  unfold maxLen at l2
  go_loopw [5, 11] (fun n i wr => ∃ k : Nat, k ≤ L.length ∧ i = .int .i64 k ∧ n = .int .i64 (costSum r.cost (L.take k)) ∧ W1.grows wr) (fun _ i _ => L.length - (intOf i).toNat)
  case atStart => exact ⟨0, by omega, rfl, rfl, by (repeat (first | exact World.grows.refl _ | assumption | refine World.grows.alloc ?_ _ | refine World.grows.plus ?_ _ _ | refine World.grows.drew ?_))⟩
  case round =>
    obtain ⟨k, hk, rfl, rfl, hg2⟩ := hrel
    obtain ⟨n1, x1, rfl⟩ := World.plus_of hg2
    by_cases hlt : k < L.length
    · obtain ⟨b, o, rfl, h0⟩ := HL.out k 0 hlt (by omega)
      simp only [Nat.mul_one, Nat.add_zero] at h0
      have hts := Lib.hid (take_snoc L hlt)
      have hfn := hlt8.out _ (getD_mem hlt)
      obtain ⟨g, hf⟩ : ∃ g, L.getD k 0 = g := ⟨_, rfl⟩
      rw [hf] at h0 hfn hts
      have h3' := Hg.out.cell_of (HR.out.cost g hfn)
      have hb := costSum_bd Hcb.out (L.take k) fun j hj => hlt8.out j (List.mem_of_mem_take hj)
      have hlen2 : (L.take k).length ≤ 8 := by rw [List.length_take]; omega
      have hcf := Hcb.out g hfn
      obtain ⟨S, hS⟩ : ∃ S, costSum r.cost (L.take k) = S := ⟨_, rfl⟩
      have hS2 : Hid (S + r.cost g = costSum r.cost (L.take (k + 1))) := Lib.hid (by rw [hts.out, costSum_snoc, hS])
      rw [hS] at hb ⊢
      have hw : IntKind.i64.wrap (S + r.cost g) = S + r.cost g := wrapI rfl (by omega)
      clear hb hlen2 hcf hf hts
      go_wp2
      go_roundw
      case rel => exact ⟨k + 1, by omega, by go_num, by rw [hS2.out], by (repeat (first | exact World.grows.refl _ | assumption | refine World.grows.alloc ?_ _ | refine World.grows.plus ?_ _ _ | refine World.grows.drew ?_))⟩
      case measure => simp [intOf]; omega
    · have hke : k = L.length := by omega
      subst hke
      simp only [List.take_length]
      go_wp2
      (refine bodyPost_ret (v := .int .i64 (costSum r.cost L)) (by simp [results, Try.results79, go_sem]) rfl ?_)
      exact ⟨rfl, Hg.out.trans (by (repeat (first | exact World.grows.refl _ | assumption | refine World.grows.alloc ?_ _ | refine World.grows.plus ?_ _ _ | refine World.grows.drew ?_)))⟩
end Go.Proofs.Ytdminglglapnlaa

/-
  What is proved: the parts of marks by a feature (99), and the iterator that yields them (104), in the program.
-/
namespace Go.Proofs.Ytdminglglapnlaa
open Go.RowKit
attribute [local irreducible] Go.wpCalm deskA rowI rowA

/-- the parts by the first k of some marks -/
def accP (r : Reg) (f : Nat) (L : List Nat) : Nat → Nat → Nat
  | 0, _ => 0
  | k + 1, v => if r.val (L.getD k 0) f = (v : Int) then accP r f L k v ||| 2 ^ (L.getD k 0) else accP r f L k v
theorem accP_succ (r : Reg) (f : Nat) (L : List Nat) {k x : Nat} (h : r.val (L.getD k 0) f = (x : Int)) : updN (accP r f L k) x (accP r f L k x ||| 2 ^ (L.getD k 0)) = accP r f L (k + 1) := by
  funext v
  unfold updN
  simp only [accP]
  by_cases hv : v = x
  · subst hv; rw [if_pos rfl, if_pos h]
  · rw [if_neg hv, if_neg (by rw [h]; omega)]
theorem accP_bit (r : Reg) (f : Nat) (L : List Nat) (v m : Nat) : ∀ k, (accP r f L k v).testBit m = (List.range k).any fun i => decide (L.getD i 0 = m) && decide (r.val (L.getD i 0) f = (v : Int))
  | 0 => by simp [accP]
  | k + 1 => by
    have ih := accP_bit r f L v m k
    rw [List.range_succ, List.any_append, ← ih]
    simp only [accP, List.any_cons, List.any_nil, Bool.or_false]
    obtain ⟨y, hy⟩ : ∃ y, L.getD k 0 = y := ⟨_, rfl⟩
    rw [hy]
    by_cases h : r.val y f = (v : Int)
    · rw [if_pos h, Nat.testBit_or, Nat.testBit_two_pow]
      simp [h]
    · rw [if_neg h]
      simp [h]
theorem accP_part (r : Reg) (f s v : Nat) (hs : s < 2 ^ r.nm) : accP r f (bitsL r.nm s) (bitsL r.nm s).length v = r.part s f (v : Nat) := by
  apply Nat.eq_of_testBit_eq
  intro m
  rw [accP_bit, r.testBit_part]
  rw [Bool.eq_iff_iff]
  simp only [List.any_eq_true, List.mem_range, Bool.and_eq_true, decide_eq_true_eq]
  constructor
  · rintro ⟨i, hi, h1, h2⟩
    have := mem_bitsL.1 (getD_mem hi)
    rw [h1] at this h2
    exact ⟨this.1, this.2, h2⟩
  · rintro ⟨h1, h2, h3⟩
    obtain ⟨i, hi, e⟩ := List.getElem_of_mem (mem_bitsL.2 ⟨h1, h2⟩)
    have e' : (bitsL r.nm s).getD i 0 = m := by simp [hi, e]
    exact ⟨i, hi, e', by rw [e']; exact h3⟩
theorem accP_lt {r : Reg} {f : Nat} {L : List Nat} {n : Nat} (hL : ∀ m ∈ L, m < n) (v : Nat) : ∀ k, k ≤ L.length → accP r f L k v < 2 ^ n
  | 0, _ => Nat.two_pow_pos n
  | k + 1, hk => by
    have ih := accP_lt (r := r) (f := f) hL v k (by omega)
    simp only [accP]
    split
    · exact Nat.or_lt_two_pow ih (Nat.pow_lt_pow_right (by omega) (hL _ (getD_mem (by omega))))
    · exact ih

theorem rowA_zero10 : #[Value.int .i64 0, .int .i64 0, .int .i64 0, .int .i64 0, .int .i64 0, .int .i64 0, .int .i64 0, .int .i64 0, .int .i64 0, .int .i64 0] = rowA 10 (fun _ => 0) := by
  rw [rowA_zero]; rfl
theorem wpList_clear {P : Program} {w w2 : World} {ops : Array Oper} {rest : List Oper} {o : Oper} {a : Act} {Q : Exit → Act → World → Prop} (hgd : o.guard = none) (s : Operand) (t : TypeId)
    (ho : o.op = .call { callee := .builtin .clear, args := #[s], argTypes := #[t] }) (x : Value) (hs : a.eval s = x)
    (hr : (Builtin.clear_ #[t] o.type #[x]).run P w = .ok (.tuple #[]) w2) (h : wpList P ops Q rest (a.put o.dst (.tuple #[])) w2) : wpList P ops Q (o :: rest) a w := by
  refine wpList_plain hgd fun K hK => ?_
  unfold Oper.wp execOp
  simp only [ho, resolve, invoke, builtin, Sem.run_bind, Sem.run_pure, Result.andThen_ok, List.map_toArray, List.map_cons, List.map_nil, hs, hr]
  exact hK _ _ h
def Z10 : Array Value := #[Value.int .i64 0, .int .i64 0, .int .i64 0, .int .i64 0, .int .i64 0, .int .i64 0, .int .i64 0, .int .i64 0, .int .i64 0, .int .i64 0]
theorem clearZ (w : World) (ty : TypeId) :
    (Builtin.clear_ #[122] ty #[.slice (some ⟨w.heap.size, 0, none⟩) 10 10]).run Try.prog (w.alloc (.cells Z10 152)) = .ok (.tuple #[]) (w.alloc (.cells Z10 152)) := by
  rw [Lib.run_clear_slice _ 122 106 ty (.int .i64 0) Try.underlying122 Try.zeroValue106 rfl rfl _ _ 10 10 (by omega)]
  · simp [List.replicate, World.setCells, Z10, go_sem]
  · intro j hj
    have : j = 0 ∨ j = 1 ∨ j = 2 ∨ j = 3 ∨ j = 4 ∨ j = 5 ∨ j = 6 ∨ j = 7 ∨ j = 8 ∨ j = 9 := by omega
    rcases this with rfl | rfl | rfl | rfl | rfl | rfl | rfl | rfl | rfl | rfl <;> simp [Z10, go_sem]
  · intro j hj
    exact frozen_of_heap (heap_alloc_new w _) _
@[local go_sem ↓] theorem clear10 (w : World) (ty : TypeId) :
    (Builtin.clear_ #[122] ty #[.slice (some ⟨w.heap.size, 0, none⟩) 10 10]).run Try.prog (w.alloc (.cells #[Value.int .i64 0, .int .i64 0, .int .i64 0, .int .i64 0, .int .i64 0, .int .i64 0, .int .i64 0, .int .i64 0, .int .i64 0, .int .i64 0] 152)) = .ok (.tuple #[]) (w.alloc (.cells #[Value.int .i64 0, .int .i64 0, .int .i64 0, .int .i64 0, .int .i64 0, .int .i64 0, .int .i64 0, .int .i64 0, .int .i64 0, .int .i64 0] 152)) := clearZ w ty
theorem row_cell {W : World} {b n : Nat} {p : Nat → Nat} {t : TypeId} (h : W.heap[b]? = some (.cells (rowA n p) t)) {i : Nat} (hi : i < n) : W.cell? ⟨b, i, none⟩ = some (.int .i64 (p i : Nat)) := cell_of_heap h (rowA_get n p i hi)
theorem row_store {W : World} {b n : Nat} {p : Nat → Nat} {t : TypeId} (h : W.heap[b]? = some (.cells (rowA n p) t)) {i : Nat} (hi : i < n) (x : Nat) : (W.setCell ⟨b, i, none⟩ (.int .i64 (x : Nat))).heap[b]? = some (.cells (rowA n (updN p i x)) t) := by
  rw [store_of_heap h, rowA_set n p i x hi]
set_option maxHeartbeats 4000000 in
theorem parts_c (w : World) (db mb : Nat) (r : Reg) (g : Nat → Int) (m : VM) (h : DeskR w db mb r g m) (hr : r.Ok) (s f : Nat) (hs : s < 2 ^ r.nm) (hf : f < r.nc) :
    Calls Try.prog 99 #[.pointer (some ⟨db, 0, none⟩), .int .i64 s, .int .i64 f] w fun e w' => e = .returned (.func (.func 104) #[] #[.pointer (some ⟨w.heap.size, 0, none⟩)]) ∧
      w'.heap[w.heap.size]? = some (.cells (rowA 10 fun v => r.part s f (v : Nat)) 152) ∧ w.grows w' := by
  obtain ⟨kb, ko, mc, cb, co, cc, rb, ro, rc, hD, h2, h3, h4, h5, hR⟩ := h
  have q0 := hD.mv
  have HR := Lib.hid hR
  have hm10 := hr.m10
  have Hval := Lib.hid hr.val
  have h64 := fun W => list64o W s r.nm hs (by omega)
  have hmem := Lib.hid fun j (hj : j < (bitsL r.nm s).length) => (mem_bitsL.1 (getD_mem hj)).1
  have hlen := bitsL_length_le r.nm s
  have hacc := Lib.hid (funext fun v => accP_part r f s v hs)
  have halt := Lib.hid fun v k (hk : k ≤ (bitsL r.nm s).length) => accP_lt (r := r) (f := f) (L := bitsL r.nm s) (n := r.nm) (fun m hm => (mem_bitsL.1 hm).1) v k hk
  rw [← hacc.out]
  obtain ⟨L, hL⟩ : ∃ L, bitsL r.nm s = L := ⟨_, rfl⟩
  rw [hL] at h64 hmem hlen halt
  rw [hL]
  unfold maxLen at h3 h5
  clear hD hR hr hs hL hacc
  go_enter Try.func99, Try.ntmps99
  go_upto_region 2 with fail
  (iterate 4 go_step)
  refine wpList_clear rfl _ _ (by rfl) _ (by rfl) (clear10 w _) ?_
  rw [rowA_zero10]
  have hz : (fun _ => 0) = accP r f L 0 := rfl
  rw [hz]
  go_wp2_with (go_at_call 64; refine (h64 _).mono ?_; rintro e W1 ⟨lv, rfl, hL, hg⟩; obtain ⟨la, lc, rfl, l1, l2, -⟩ := hL.listAt rfl; have HL := Lib.hid hL; have Hg := Lib.hid hg; clear hL hg)
  unfold maxLen at l2
  have hb0 : W1.heap[w.heap.size]? = some (.cells (rowA 10 (accP r f L 0)) 152) := Hg.out.heap_of (heap_alloc_new w _)
  have Hb0 := Lib.hid hb0
  have Hgw : Hid (w.grows W1) := Lib.hid (World.grows.trans (by (repeat (first | exact World.grows.refl _ | assumption | refine World.grows.alloc ?_ _ | refine World.grows.plus ?_ _ _ | refine World.grows.drew ?_))) Hg.out)
  have HL2 : Hid (W1.ownsRow (w.heap.size + 1) 3 1 (.slice la L.length lc) L.length (ilist L)) := Lib.hid (by have := HL.out; simpa using this)
  clear hb0 hz HL Hg
  go_loopw [14] (fun i wr => ∃ k : Nat, k ≤ L.length ∧ i = .int .i64 k ∧ Hid (wr.ownsRow (w.heap.size + 1) 3 1 (.slice la L.length lc) L.length (ilist L)) ∧ Hid (wr.heap[w.heap.size]? = some (.cells (rowA 10 (accP r f L k)) 152)) ∧ Hid (w.grows wr)) (fun i _ => L.length - (intOf i).toNat)
  case atStart => exact ⟨0, by omega, rfl, HL2, Hb0, Hgw⟩
  case round =>
    obtain ⟨k, hk, rfl, HO, HB, HG⟩ := hrel
    by_cases hlt : k < L.length
    · obtain ⟨_, _, he, _, _, hc⟩ := HO.out.listAt rfl
      simp only [Value.slice.injEq, true_and] at he
      obtain ⟨rfl, rfl⟩ := he
      obtain ⟨b, o, rfl, h0⟩ := hc k 0 hlt (by omega)
      simp only [Nat.mul_one, Nat.add_zero] at h0
      have hxm := hmem.out k hlt
      obtain ⟨x, hx⟩ : ∃ x, L.getD k 0 = x := ⟨_, rfl⟩
      have hv := Hval.out x f (by rw [← hx]; exact hxm) hf
      obtain ⟨u, hu⟩ : ∃ u : Nat, r.val x f = u := ⟨(r.val x f).toNat, by omega⟩
      have hsu := Lib.hid (accP_succ r f L (k := k) (x := u) (by rw [hx]; exact hu))
      have hT := halt.out u k hk
      have hT10 : accP r f L k u < 2 ^ 10 := Nat.lt_of_lt_of_le hT (Nat.pow_le_pow_right (by omega) hm10)
      rw [hx] at h0 hxm hsu
      have c1 := HG.out.cell_of (HR.out.row x hxm)
      have c2 := HG.out.cell_of (HR.out.val x f hxm hf)
      obtain ⟨k1, k2⟩ := HR.out.cap x hxm
      unfold maxLen at k2
      rw [hu] at c2
      have q1 := HG.out.cell_of q0
      have hu10 : u < 10 := by omega
      have hu10I : (u : Int) < 10 := by omega
      have c3 := row_cell HB.out hu10
      have f3 := frozen_of_heap HB.out u
      obtain ⟨T, hTT⟩ : ∃ T, accP r f L k u = T := ⟨_, rfl⟩
      obtain ⟨Pw, hP⟩ : ∃ Pw : Nat, 2 ^ x = Pw := ⟨_, rfl⟩
      have hPw : Pw ≤ 2 ^ 10 := by rw [← hP]; exact Nat.pow_le_pow_right (by omega) (by omega)
      have Hwz := Lib.hid (shlI_one (k := x) (by omega) hP)
      have Hhor := Lib.hid (or_nat T Pw (by omega) (by omega))
      rw [hTT] at c3 hsu
      rw [hP] at hsu
      have hwz := Hwz.out
      have hor := Hhor.out
      clear hc hv hu hT hT10 hTT hP hPw hx
      go_wp2
      (refine wp_region_tail 17 (by kernel_rfl) (by kernel_rfl) (by decide) ?_; simp only [List.take_succ_cons, List.take_zero, List.drop_succ_cons, List.drop_zero, List.take_nil, List.drop_nil, List.append_nil, List.nil_append, List.cons_append, Nat.reduceAdd, Nat.reduceSub]; (repeat (refine wpCalm_step (fun K hK => ?_); go_simp; first | (refine hK _ ?_; clear hK K) | (apply Exists.intro; refine ⟨fun n' x' => ?_, hK _ ?_⟩; (fail); clear hK K))); refine wpCalm_nil ?_; intro nq xq)
      clear hwz
      go_wp2
      clear hor
      go_roundw
      case rel => exact ⟨k + 1, by omega, by go_num, Lib.hid ((HO.out.set (Nat.lt_succ_self _) _).grow (by (repeat (first | exact World.grows.refl _ | assumption | refine World.grows.alloc ?_ _ | refine World.grows.plus ?_ _ _ | refine World.grows.drew ?_)))), Lib.hid (by rw [← hsu.out]; exact World.grows.heap_of (World.grows_plus _ _ _) (row_store HB.out hu10 _)), Lib.hid ((HG.out.setCell (Nat.le_refl _) _).trans (by (repeat (first | exact World.grows.refl _ | assumption | refine World.grows.alloc ?_ _ | refine World.grows.plus ?_ _ _ | refine World.grows.drew ?_))))⟩
      case measure => simp [intOf]; omega
    · have hke : k = L.length := by omega
      subst hke
      go_wp2
      (refine bodyPost_ret (v := .func (.func 104) #[] #[.pointer (some ⟨w.heap.size, 0, none⟩)]) (by simp [results, Try.results99, go_sem]) rfl ?_)
      exact ⟨rfl, HB.out, HG.out⟩
end Go.Proofs.Ytdminglglapnlaa

/-
  What is proved: the iterator that yields the parts (104), in the program.
-/
namespace Go.Proofs.Ytdminglglapnlaa
open Go.RowKit
attribute [local irreducible] Go.wpCalm deskA rowI rowA

def partsL (P : Nat → Nat) : Nat → List (Array Value)
  | 0 => []
  | v + 1 => partsL P v ++ (if P v = 0 then [] else [#[.int .i64 (v : Nat), .int .i64 (P v : Nat)]])
theorem partsL_at (P : Nat → Nat) {v n : Nat} (hv : v < n) (h : P v ≠ 0) : (partsL P n)[(partsL P v).length]? = some #[.int .i64 (v : Nat), .int .i64 (P v : Nat)] := by
  induction n with
  | zero => exact absurd hv (by omega)
  | succ n ih =>
    simp only [partsL]
    rcases Nat.lt_or_ge v n with h1 | h1
    · have := ih h1
      rw [List.getElem?_append_left]
      · exact this
      · exact (List.getElem?_eq_some_iff.1 this).1
    · have : v = n := by omega
      subst this
      rw [if_neg h, List.getElem?_append_right (Nat.le_refl _)]
      simp
@[local go_sem ↓] theorem index152 (W : World) (P : Nat → Nat) (k : Nat) (hk : k < 10) : (Instr.index 152 (.agg #[.int .i64 (P 0 : Nat), .int .i64 (P 1 : Nat), .int .i64 (P 2 : Nat), .int .i64 (P 3 : Nat), .int .i64 (P 4 : Nat), .int .i64 (P 5 : Nat), .int .i64 (P 6 : Nat), .int .i64 (P 7 : Nat), .int .i64 (P 8 : Nat), .int .i64 (P 9 : Nat)]) (.int .i64 (k : Nat))).run Try.prog W = .ok (.int .i64 (P k : Nat)) W := by
  have hc : k = 0 ∨ k = 1 ∨ k = 2 ∨ k = 3 ∨ k = 4 ∨ k = 5 ∨ k = 6 ∨ k = 7 ∨ k = 8 ∨ k = 9 := by omega
  rcases hc with rfl | rfl | rfl | rfl | rfl | rfl | rfl | rfl | rfl | rfl <;> simp [Instr.index, asIntOf, run_underlying Try.underlying152, Result.andThen, go_sem]
set_option maxHeartbeats 4000000 in
theorem parts_seq (b : Nat) (P : Nat → Nat) :
    SeqC Try.prog 104 #[.pointer (some ⟨b, 0, none⟩)] (partsL P 10) (fun W => W.heap[b]? = some (.cells (rowA 10 P) 152)) := by
  intro l I X W hst hsx hRo hY h0
  have c0 := row_cell (hRo _ _ h0) (show 0 < 10 by omega)
  have c1 := row_cell (hRo _ _ h0) (show 1 < 10 by omega)
  have c2 := row_cell (hRo _ _ h0) (show 2 < 10 by omega)
  have c3 := row_cell (hRo _ _ h0) (show 3 < 10 by omega)
  have c4 := row_cell (hRo _ _ h0) (show 4 < 10 by omega)
  have c5 := row_cell (hRo _ _ h0) (show 5 < 10 by omega)
  have c6 := row_cell (hRo _ _ h0) (show 6 < 10 by omega)
  have c7 := row_cell (hRo _ _ h0) (show 7 < 10 by omega)
  have c8 := row_cell (hRo _ _ h0) (show 8 < 10 by omega)
  have c9 := row_cell (hRo _ _ h0) (show 9 < 10 by omega)
  show CallsIn Fence.wide 0 Try.prog 104 #[.func (.yield l) #[] #[], .pointer (some ⟨b, 0, none⟩)] W _
  (refine callsIn_of_wp Try.func104 rfl trivial ?_ rfl; simp only [Try.ntmps104, List.size_toArray, List.length_cons, List.length_nil, Nat.reduceAdd, Nat.reduceSub, Array.replicate_succ, Array.replicate_zero, List.push_toArray, List.append_toArray, List.nil_append, List.cons_append])
  gi_wp2
  clear c0 c1 c2 c3 c4 c5 c6 c7 c8 c9
  gi_loopw [6] (fun i wr => ∃ k : Nat, k ≤ 10 ∧ i = .int .i64 k ∧ I (partsL P k).length wr) (fun i _ => 10 - (intOf i).toNat)
  case atStart => exact ⟨0, by omega, rfl, h0⟩
  case round =>
    obtain ⟨k, hk, rfl, hI⟩ := hrel
    by_cases hlt : k < 10
    · have hat := fun (h : P k ≠ 0) => partsL_at P hlt h
      have hnx0 : P k = 0 → Hid (partsL P (k + 1) = partsL P k) := fun h => Lib.hid (by simp only [partsL]; rw [if_pos h, List.append_nil])
      have hnx1 : P k ≠ 0 → Hid ((partsL P (k + 1)).length = (partsL P k).length + 1) := fun h => Lib.hid (by simp only [partsL]; rw [if_neg h, List.length_append]; rfl)
      by_cases hz : P k = 0
      · have hn := hnx0 hz
        clear hat hnx0 hnx1
        gi_wp2
        go_roundw
        case rel => exact ⟨_, Nat.succ_le_of_lt hlt, by go_num, by rw [hn.out]; exact hI⟩
        case measure => simp [intOf]; omega
      · have hzb : ((P k : Int) == 0) = false := beq_eq_false_iff_ne.2 (by omega)
        have hzI : ¬ ((P k : Int) = 0) := by omega
        have hn := hnx1 hz
        have hy := hat hz
        clear hat hnx0 hnx1
        obtain ⟨fn, tmps, assign, body, hyy, hR⟩ := hY _ _ hy _ hI
        gi_wp2
        refine hR.mono ?_
        rintro e W2 (⟨rfl, hI2⟩ | ⟨rfl, hX⟩)
        · gi_wp2
          go_roundw
          case rel => exact ⟨_, Nat.succ_le_of_lt hlt, by go_num, by rw [hn.out]; exact hI2⟩
          case measure => simp [intOf]; omega
        · gi_wp2
          refine bodyPost_ret (results_none rfl _ _ _) rfl ?_
          exact ⟨⟨_, rfl⟩, .inr hX⟩
    · have hke : k = 10 := by omega
      subst hke
      gi_wp2
      go_end0
      exact ⟨⟨_, rfl⟩, .inl hI⟩
end Go.Proofs.Ytdminglglapnlaa

