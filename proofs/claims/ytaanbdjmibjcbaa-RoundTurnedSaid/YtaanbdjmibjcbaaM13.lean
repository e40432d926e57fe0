/-
  What is proved: the kind of two visits, in the definition (38).
-/
import Derived.Test.YtaanbdjmibjcbaaM12
import Derived.Test.YtaanbdjmibjcbaaM11
import Derived.Test.YtaanbdjmibjcbaaM9
import Derived.Test.YtaanbdjmibjcbaaM7
import Derived.Lib.QuoteBits
import Derived.Test.YtaanbdjmibjcbaaM2
import Derived.Test.YtaanbdjmibjcbaaM8
import Derived.Laws.Tables
import Derived.Test.YtaanbdjmibjcbaaM6
set_option linter.all false
namespace Go.Proofs.Ytaanbdjmibjcbaa
open Go.RowKit
attribute [local irreducible] Go.wpCalm rowI
/-- a block whose first 256 cells are numbers -/
def RowF (W : World) (b : Nat) (f : Nat → Int) : Prop := ∃ cur, W.heap[b]? = some (.cells cur 3) ∧ ∀ x, x < 256 → cur[x]? = some (.int .i64 (f x))
section
variable {W W' : World} {b : Nat} {f g : Nat → Int}
theorem RowF.congr (h : RowF W b f) (e : ∀ x, x < 256 → f x = g x) : RowF W b g := by
  obtain ⟨cur, h1, h2⟩ := h
  exact ⟨cur, h1, fun x hx => by rw [← e x hx]; exact h2 x hx⟩
theorem RowF.mono (h : RowF W b f) (g : W.grows W') : RowF W' b f := by
  obtain ⟨cur, h1, h2⟩ := h
  exact ⟨cur, g.heap_of h1, h2⟩
theorem RowF.cell (h : RowF W b f) {x : Nat} (hx : x < 256) : W.cell? ⟨b, x, none⟩ = some (.int .i64 (f x)) := by
  obtain ⟨cur, h1, h2⟩ := h
  exact cell_of_heap h1 (h2 x hx)
theorem RowF.frozen (h : RowF W b f) (x : Nat) : W.frozen? ⟨b, x, none⟩ = false := by
  obtain ⟨cur, h1, h2⟩ := h
  exact frozen_of_heap h1 x
theorem RowF.set (h : RowF W b f) (i : Nat) (z : Int) : RowF (W.setCell ⟨b, i, none⟩ (.int .i64 z)) b (updI f i z) := by
  obtain ⟨cur, h1, h2⟩ := h
  refine ⟨_, store_of_heap h1 i _, fun x hx => ?_⟩
  rw [Array.getElem?_setIfInBounds]
  unfold updI
  have hs := (Array.getElem?_eq_some_iff.1 (h2 x hx)).1
  by_cases e : i = x
  · subst e; rw [if_pos rfl, if_pos hs, if_pos rfl]
  · rw [if_neg e, if_neg (fun h => e h.symm)]; exact h2 x hx
theorem RowF.can (h : RowF W b f) {cc : Nat} (h1 : 256 ≤ cc) (h2 : cc ≤ maxLen) {A : Nat → Nat → Bool} {n : Nat} (hf : ∀ i k, i < n → k < n → f (16 * i + k) = if A i k then 1 else 0) : CanA W (.slice (some ⟨b, 0, none⟩) 256 cc) A n :=
  ⟨b, cc, f, rfl, h1, h2, fun x hx => h.cell hx, hf⟩
theorem RowF.ints (h : RowF W b f) : IntsAt W (.slice (some ⟨b, 0, none⟩) 256 256) 256 f := by
  refine ⟨_, _, rfl, Nat.le_refl _, by unfold maxLen; omega, fun i j hi hj => ⟨_, _, rfl, ?_⟩⟩
  have : j = 0 := by omega
  subst this
  simpa using h.cell hi
theorem rowF_own {base : Nat} {v : Value} (ho : W.ownsRow base 3 1 v 256 (tableL 256 1 fun i _ => .int .i64 (f i))) : ∃ b cap, v = .slice (some ⟨b, 0, none⟩) 256 cap ∧ base ≤ b ∧ 256 ≤ cap ∧ cap ≤ maxLen ∧ RowF W b f := by
  obtain ⟨-, ⟨rfl, h⟩ | ⟨b, cap, cur, rfl, hb, hcur, h1, h2, h3, h4⟩⟩ := ho
  · omega
  · refine ⟨b, cap, rfl, hb, h1, h2, cur, hcur, fun j hj => ?_⟩
    have h := tableL_get (m := 256) (sz := 1) (fun i _ => .int .i64 (f i)) hj (show 0 < 1 by omega)
    rw [← h4, Nat.mul_one, Nat.mul_one, Nat.add_zero, List.getElem?_take, if_pos hj] at h
    rw [← h, Array.getElem?_toList]
end
theorem aftI_at {t : Town} {slow : Bool} {i k : Nat} (hn : t.nv ≤ 16) (hi : i < t.nv) (hk : k < t.nv) : aftI t slow (16 * i + k) = if aft t slow i k then 1 else 0 := by
  unfold aftI
  rw [show (16 * i + k) / 16 = i by omega, show (16 * i + k) % 16 = k by omega]
  cases aft t slow i k
  · rw [if_neg (fun h => by cases h.2.2)]; rfl
  · rw [if_pos ⟨hi, hk, rfl⟩]; rfl
theorem part_at {t : Town} {slow : Bool} {a b i k : Nat} (hn : t.nv ≤ 16) (hb : b < 16) (hi : i < t.nv) (hk : k < t.nv) : updI (aftI t slow) (16 * a + b) 0 (16 * i + k) = if partA (aft t slow) a b i k then 1 else 0 := by
  unfold updI partA
  by_cases e : i = a ∧ k = b
  · obtain ⟨rfl, rfl⟩ := e
    rw [if_pos rfl]; simp
  · rw [if_neg (by omega), aftI_at hn hi hk]
    have : ((i == a) && (k == b)) = false := by
      cases h1 : (i == a)
      · rfl
      · cases h2 : (k == b)
        · rfl
        · exact absurd ⟨by simpa using h1, by simpa using h2⟩ e
    rw [this, Bool.not_false, Bool.and_true]
/-- what is left after k steps, where only one pair is held -/
def heldI (f : Nat → Int) (a b k x : Nat) : Int := if (x / 16 = a ∧ x % 16 ≠ b ∧ x % 16 < k) ∨ (x % 16 = b ∧ x / 16 ≠ a ∧ x / 16 < k) then 0 else f x
theorem held_zero (f : Nat → Int) (a b x : Nat) : f x = heldI f a b 0 x := by unfold heldI; rw [if_neg (by omega)]
theorem held_both {f : Nat → Int} {a b k : Nat} (hk : k < 16) (ha : a < 16) (hb : b < 16) (h1 : k ≠ b) (h2 : k ≠ a) (x : Nat) (hx : x < 256) : updI (updI (heldI f a b k) (16 * a + k) 0) (16 * k + b) 0 x = heldI f a b (k + 1) x := by
  unfold updI heldI
  repeat' split
  all_goals first | rfl | omega
theorem held_a {f : Nat → Int} {a b k : Nat} (hk : k < 16) (hb : b < 16) (h1 : k ≠ b) (h2 : k = a) (x : Nat) (hx : x < 256) : updI (heldI f a b k) (16 * a + k) 0 x = heldI f a b (k + 1) x := by
  unfold updI heldI
  repeat' split
  all_goals first | rfl | omega
theorem held_b {f : Nat → Int} {a b k : Nat} (hk : k < 16) (ha : a < 16) (h1 : k = b) (h2 : k ≠ a) (x : Nat) (hx : x < 256) : updI (heldI f a b k) (16 * k + b) 0 x = heldI f a b (k + 1) x := by
  unfold updI heldI
  repeat' split
  all_goals first | rfl | omega
theorem held_at {t : Town} {slow : Bool} {a b i k : Nat} (hn : t.nv ≤ 16) (hab : aft t slow a b = true) (hi : i < t.nv) (hk : k < t.nv) : heldI (aftI t slow) a b 16 (16 * i + k) = if heldA (aft t slow) a b i k then 1 else 0 := by
  unfold heldI heldA
  rw [show (16 * i + k) / 16 = i by omega, show (16 * i + k) % 16 = k by omega, aftI_at hn hi hk]
  by_cases e1 : i = a
  · subst e1
    rw [if_pos rfl]
    by_cases e2 : k = b
    · subst e2
      rw [if_neg (by omega), hab]; simp
    · rw [if_pos (by omega)]; simp [e2]
  · rw [if_neg e1]
    by_cases e2 : k = b
    · subst e2
      rw [if_pos (by omega)]; simp
    · rw [if_neg (by omega)]; simp [e2]
def kindX (t : Town) (slow : Bool) (a b : Int) : Nat := if askE t slow a b = 0 then kindA (aft t slow) t.nv a.toNat b.toNat else 0
theorem tab_one {n : Nat} {f : Nat → Int} : ∀ u ∈ tableL n 1 (fun i _ => Value.int .i64 (f i)), u.oneCell' = true := fun u hu => by
  unfold tableL at hu
  obtain ⟨i, _, rfl⟩ := List.mem_map.1 hu
  rfl
theorem ask_ret {t : Town} {slow : Bool} {a b : Int} {E : Nat} (h : askE t slow a b = E) (h0 : E ≠ 0) : kindX t slow a b = 0 := by unfold kindX; rw [if_neg (by rw [h]; exact h0)]
set_option maxRecDepth 100000 in
set_option maxHeartbeats 8000000 in
theorem rkind_c (w : World) (tv : Value) (t : Town) (slow : Bool) (ht : TownAt w tv t) (a b : Int) : Calls Try.prog 38 #[tv, .int .i64 a, .int .i64 b, .bool slow] w fun e w' => e = .returned (.tuple #[.int .i64 (kindX t slow a b : Nat), .int .i64 (askE t slow a b : Nat)]) ∧ w.grows w' := by
  have Ht := Lib.hid ht
  have h20 := fun W (g : w.grows W) => rcheck_c W _ t (Ht.out.mono g)
  have h63 := fun W (g : w.grows W) x => rvisit_c W _ t (Ht.out.mono g) x
  have h64 := fun W (g : w.grows W) (hok : t.Ok) => afters_c W _ t slow (Ht.out.mono g) hok
  have h66 := fun W (g : w.grows W) (hok : t.Ok) => rlate_c W _ t slow (Ht.out.mono g) hok
  obtain ⟨sv, vv, rfl, ⟨sa, sc, rfl, -⟩, ⟨va, vc, rfl, -⟩⟩ := ht
  by_cases hc : t.check = 0
  case neg =>
    have HR : Hid (askE t slow a b = t.check) := Lib.hid (by unfold askE; rw [if_pos hc])
    obtain ⟨C, hC⟩ : ∃ C : Nat, t.check = C := ⟨_, rfl⟩
    simp only [hC] at h20
    rw [hC] at hc HR
    have hc0 : ¬ (C : Int) = 0 := by omega
    clear h63 h64 h66 hC
    go_enter Try.func38, Try.ntmps38
    go_wp2_with (go_at_call 99; fail)
    refine (h20 _ (by (repeat (first | exact World.grows.refl _ | assumption | refine World.grows.alloc ?_ _ | refine World.grows.plus ?_ _ _ | refine World.grows.drew ?_)))).mono ?_
    rintro e W ⟨rfl, g⟩
    obtain ⟨n2, x2, rfl⟩ := World.plus_of g
    go_wp2_with (go_at_call 99; fail)
    refine (h20 _ (by (repeat (first | exact World.grows.refl _ | assumption | refine World.grows.alloc ?_ _ | refine World.grows.plus ?_ _ _ | refine World.grows.drew ?_)))).mono ?_
    rintro e W ⟨rfl, g⟩
    obtain ⟨n3, x3, rfl⟩ := World.plus_of g
    clear h20
    go_wp2
    (refine bodyPost_ret (v := .tuple #[.int .i64 0, .int .i64 (C : Int)]) (by simp [results, Try.results38, go_sem]) rfl ?_)
    exact ⟨ret_plan (a := 0) (ask_ret HR.out hc).symm HR.out.symm, by (repeat (first | exact World.grows.refl _ | assumption | refine World.grows.alloc ?_ _ | refine World.grows.plus ?_ _ _ | refine World.grows.drew ?_))⟩
  have hE : Hid (askE t slow a b = if isV t.nv a && isV t.nv b && !decide (a = b) then (if anyLate t slow then 12 else 0) else 2) := Lib.hid (by unfold askE; rw [if_neg (by omega)])
  have Hok := Lib.hid (t.ok_iff.1 hc)
  simp only [hc] at h20
  have h16 := Hok.out.v16
  clear hc
  go_enter Try.func38, Try.ntmps38
  go_wp2_with (go_at_call 99; fail)
  refine (h20 _ (by (repeat (first | exact World.grows.refl _ | assumption | refine World.grows.alloc ?_ _ | refine World.grows.plus ?_ _ _ | refine World.grows.drew ?_)))).mono ?_
  rintro e W ⟨rfl, g⟩
  have HB : Hid (W.heap[w.heap.size]? = some (.cells #[.int .i64 t.pl, .slice sa t.ns sc, .slice va t.nv vc] 25)) := Lib.hid (World.grows.heap_of g (World.heap_at _ _ _ rfl))
  have HGW : Hid (w.grows W) := Lib.hid (World.grows.trans (by (repeat (first | exact World.grows.refl _ | assumption | refine World.grows.alloc ?_ _ | refine World.grows.plus ?_ _ _ | refine World.grows.drew ?_))) g)
  have H63 := Lib.hid h63
  have H64 := Lib.hid h64
  have H66 := Lib.hid h66
  have q0 := cell_of_heap (i := 0) HB.out rfl
  have q1 := cell_of_heap (i := 1) HB.out rfl
  have q2 := cell_of_heap (i := 2) HB.out rfl
  clear h20 h63 h64 h66 g
  go_wp2_with (go_at_call 99; fail)
  refine (H63.out _ HGW.out _).mono ?_
  rintro e W ⟨rfl, g⟩
  obtain ⟨n3, x3, rfl⟩ := World.plus_of g
  cases p1 : isV t.nv a with
  | false =>
    have HR : Hid (askE t slow a b = 2) := Lib.hid (by rw [hE.out, p1]; rfl)
    clear p1
    go_wp2
    (refine bodyPost_ret (v := .tuple #[.int .i64 0, .int .i64 2]) (by simp [results, Try.results38, go_sem]) rfl ?_)
    exact ⟨ret_plan (a := 0) (b := 2) (ask_ret HR.out (by decide)).symm HR.out.symm, HGW.out.trans (by (repeat (first | exact World.grows.refl _ | assumption | refine World.grows.alloc ?_ _ | refine World.grows.plus ?_ _ _ | refine World.grows.drew ?_)))⟩
  | true =>
  go_wp2_with (go_at_call 99; fail)
  refine (H63.out _ (HGW.out.trans (by (repeat (first | exact World.grows.refl _ | assumption | refine World.grows.alloc ?_ _ | refine World.grows.plus ?_ _ _ | refine World.grows.drew ?_)))) _).mono ?_
  rintro e W3 ⟨rfl, g⟩
  obtain ⟨n4, x4, rfl⟩ := World.plus_of g
  cases p2 : isV t.nv b with
  | false =>
    have HR : Hid (askE t slow a b = 2) := Lib.hid (by rw [hE.out, p1, p2]; rfl)
    clear p1 p2
    go_wp2
    (refine bodyPost_ret (v := .tuple #[.int .i64 0, .int .i64 2]) (by simp [results, Try.results38, go_sem]) rfl ?_)
    exact ⟨ret_plan (a := 0) (b := 2) (ask_ret HR.out (by decide)).symm HR.out.symm, HGW.out.trans (by (repeat (first | exact World.grows.refl _ | assumption | refine World.grows.alloc ?_ _ | refine World.grows.plus ?_ _ _ | refine World.grows.drew ?_)))⟩
  | true =>
  by_cases hab : a = b
  · have HR : Hid (askE t slow a b = 2) := Lib.hid (by rw [hE.out, p1, p2, decide_eq_true hab]; rfl)
    subst hab
    clear p1 p2
    go_wp2
    (refine bodyPost_ret (v := .tuple #[.int .i64 0, .int .i64 2]) (by simp [results, Try.results38, go_sem]) rfl ?_)
    exact ⟨ret_plan (a := 0) (b := 2) (ask_ret HR.out (by decide)).symm HR.out.symm, HGW.out.trans (by (repeat (first | exact World.grows.refl _ | assumption | refine World.grows.alloc ?_ _ | refine World.grows.plus ?_ _ _ | refine World.grows.drew ?_)))⟩
  have hE2 : Hid (askE t slow a b = if anyLate t slow then 12 else 0) := Lib.hid (by rw [hE.out, p1, p2, decide_eq_false hab]; rfl)
  have HGp : Hid (w.grows ((W.plus n3 x3).plus n4 x4)) := Lib.hid (HGW.out.trans (by (repeat (first | exact World.grows.refl _ | assumption | refine World.grows.alloc ?_ _ | refine World.grows.plus ?_ _ _ | refine World.grows.drew ?_))))
  have HBp : Hid (((W.plus n3 x3).plus n4 x4).heap[w.heap.size]? = some (.cells #[.int .i64 t.pl, .slice sa t.ns sc, .slice va t.nv vc] 25)) := Lib.hid (World.grows.heap_of (show W.grows _ by (repeat (first | exact World.grows.refl _ | assumption | refine World.grows.alloc ?_ _ | refine World.grows.plus ?_ _ _ | refine World.grows.drew ?_))) HB.out)
  clear hE g
  go_wp2_with (go_at_call 99; fail)
  refine (H66.out _ (HGW.out.trans (by (repeat (first | exact World.grows.refl _ | assumption | refine World.grows.alloc ?_ _ | refine World.grows.plus ?_ _ _ | refine World.grows.drew ?_)))) Hok.out).mono ?_
  rintro e W2 ⟨lv, rfl, g2, hL⟩
  obtain ⟨la, lc, rfl, -⟩ := hL
  have HA := Lib.hid (anyLate_iff t slow)
  obtain ⟨L, hL⟩ : ∃ L, (filtL (lateV t slow) t.nv).length = L := ⟨_, rfl⟩
  rw [hL] at HA ⊢
  have HG2 := Lib.hid (HGp.out.trans g2)
  have HB2 := Lib.hid (g2.heap_of HBp.out)
  clear hL g2 q0 q1 q2 HGp HBp
  by_cases hL0 : 0 < L
  · have hLI : (0 : Int) < L := by omega
    have HR : Hid (askE t slow a b = 12) := Lib.hid (by rw [hE2.out, if_pos (HA.out.2 hL0)])
    clear p1 p2
    go_wp2
    (refine bodyPost_ret (v := .tuple #[.int .i64 0, .int .i64 12]) (by simp [results, Try.results38, go_sem]) rfl ?_)
    exact ⟨ret_plan (a := 0) (b := 12) (ask_ret HR.out (by decide)).symm HR.out.symm, HG2.out.trans (by (repeat (first | exact World.grows.refl _ | assumption | refine World.grows.alloc ?_ _ | refine World.grows.plus ?_ _ _ | refine World.grows.drew ?_)))⟩
  have hLz : L = 0 := by omega
  have HR0 : Hid (askE t slow a b = 0) := Lib.hid (by rw [hE2.out, if_neg (fun h => hL0 (HA.out.1 h))])
  have HK : Hid (kindX t slow a b = kindA (aft t slow) t.nv a.toNat b.toNat) := Lib.hid (by unfold kindX; rw [if_pos HR0.out])
  simp only [Bool.and_eq_true, isV, decide_eq_true_eq] at p1 p2
  obtain ⟨A, rfl⟩ : ∃ A : Nat, a = A := ⟨a.toNat, by omega⟩
  obtain ⟨B, rfl⟩ : ∃ B : Nat, b = B := ⟨b.toNat, by omega⟩
  rw [Int.toNat_natCast, Int.toNat_natCast] at HK
  have hAn : A < t.nv := by omega
  have hBn : B < t.nv := by omega
  have hABn : A ≠ B := fun e => hab (by rw [e])
  have q0 := cell_of_heap (i := 0) HB2.out rfl
  have q1 := cell_of_heap (i := 1) HB2.out rfl
  have q2 := cell_of_heap (i := 2) HB2.out rfl
  clear p1 p2 HA hE2 hab
  subst hLz
  go_wp2_with (go_at_call 99; fail)
  refine (H64.out _ HG2.out Hok.out).mono ?_
  rintro e W3 ⟨p, rfl, g3, hpl, hp⟩
  have HF : Hid (RowF W3 p (aftI t slow)) := Lib.hid ⟨_, hp, fun x hx => rowI_get 256 _ x hx⟩
  have HG3 := Lib.hid (HG2.out.trans g3)
  have HB3 := Lib.hid (g3.heap_of HB2.out)
  clear q0 q1 q2 hp g3 hpl
  have q2 := cell_of_heap (i := 2) HB3.out rfl
  obtain ⟨I, hI⟩ : ∃ I, 16 * A + B = I := ⟨_, rfl⟩
  have cX := HF.out.cell (x := I) (by omega)
  rw [← hI, aftI_at h16 hAn hBn, hI] at cX
  have hw1 : IntKind.i64.wrap (16 * (A : Int)) = 16 * (A : Int) := wrapI rfl (by omega)
  have hw2 : IntKind.i64.wrap (16 * (A : Int) + B) = (I : Nat) := wrapI (by omega) (by omega)
  have hXI : (I : Int) < 256 := by omega
  have hI256 : I < 256 := by omega
  have HI := Lib.hid hI
  clear hI
  cases hr0 : aft t slow A B with
  | false =>
    rw [hr0, if_neg (by decide)] at cX
    have HZ : Hid (kindX t slow A B = 0) := Lib.hid (by rw [HK.out]; unfold kindA; rw [if_pos hr0])
    clear hr0
    go_wp2
    (refine bodyPost_ret (v := .tuple #[.int .i64 0, .int .i64 0]) (by simp [results, Try.results38, go_sem]) rfl ?_)
    exact ⟨ret_plan (a := 0) (b := 0) HZ.out.symm HR0.out.symm, HG3.out.trans (by (repeat (first | exact World.grows.refl _ | assumption | refine World.grows.alloc ?_ _ | refine World.grows.plus ?_ _ _ | refine World.grows.drew ?_)))⟩
  | true =>
  rw [hr0, if_pos rfl] at cX
  have HK2 : Hid (kindX t slow A B = if mm (partA (aft t slow) A B) t.nv < mm (aft t slow) t.nv then 2 else if mm (heldA (aft t slow) A B) t.nv = mm (aft t slow) t.nv then 1 else 0) := Lib.hid (by rw [HK.out]; unfold kindA; rw [if_neg (by rw [hr0]; decide)])
  have HR1 := Lib.hid hr0
  clear hr0 HK
  go_wp2_with (go_at_call 99; fail)
  refine (fewest_c _ _ (aft t slow) t.nv (HF.out.can (Nat.le_refl _) (by unfold maxLen; omega) fun i k hi hk => aftI_at h16 hi hk) h16).mono ?_
  rintro e W4 ⟨rfl, g4⟩
  obtain ⟨N0, hN0⟩ : ∃ N0, t.nv - mm (aft t slow) t.nv = N0 := ⟨_, rfl⟩
  have HN0 := Lib.hid hN0
  rw [hN0]
  have HF4 := Lib.hid (HF.out.mono g4)
  have HG4 := Lib.hid (HG3.out.trans g4)
  have HB4 := Lib.hid (g4.heap_of HB3.out)
  clear q2 cX g4 hN0 HF HB3 HG3
  go_upto_region 11 with fail
  iterate 7 go_step
  refine wpList_append_r _ rfl (.tmp 56) (.tmp 57) 35 (by rfl) W4.heap.size 3 (.int .i64 0) 1 8 Try.underlying35 el3 (by rfl) (by omega) _ 0 [] (by rfl) (ownsRow_empty (b := W4.heap.size) (World.heap_at _ _ _ rfl) rfl (Nat.le_refl _)) (.slice (some ⟨p, 0, none⟩) 256 256) (by rfl) 256 (tableL 256 1 fun i _ => .int .i64 (aftI t slow i)) (SliceAt.src (by omega) (SliceAt.mono HF4.out.ints (by (repeat (first | exact World.grows.refl _ | assumption | refine World.grows.alloc ?_ _ | refine World.grows.plus ?_ _ _ | refine World.grows.drew ?_))))) tab_one (by unfold maxLen; omega) (by omega) (by simp) ?_
  intro v5 W5 hown5 hgb5
  have HG5 : Hid (W4.grows W5) := Lib.hid (hgb5.grows (ownsRow_empty (b := W4.heap.size) (w := W4.alloc (.cells #[] 3)) (e := 3) (size := 1) (World.heap_at _ _ _ rfl) rfl (Nat.le_refl _)) (World.grows.alloc (World.grows.refl W4) _) (Nat.le_refl _))
  rw [Nat.zero_add, List.nil_append] at hown5
  obtain ⟨b5, cap5, rfl, hb5, hc5, hm5, hF5⟩ := rowF_own hown5
  have HF5 := Lib.hid hF5
  have cX := hF5.cell hI256
  have fX := hF5.frozen I
  have hm5' := hm5
  unfold maxLen at hm5'
  have hI256c : (I : Int) < 256 := by omega
  clear hown5 hgb5 hF5
  go_upto_region 13 with fail
  have HP6 : Hid (RowF (W5.setCell ⟨b5, I, none⟩ (.int .i64 0)) b5 (updI (aftI t slow) I 0)) := Lib.hid (HF5.out.set I 0)
  have HG6 : Hid (W4.grows (W5.setCell ⟨b5, I, none⟩ (.int .i64 0))) := Lib.hid (HG5.out.setCell (p := ⟨b5, I, none⟩) hb5 _)
  obtain ⟨W6, hW6⟩ : ∃ W6, W6 = W5.setCell ⟨b5, I, none⟩ (.int .i64 0) := ⟨_, rfl⟩
  rw [← hW6] at HP6 HG6 ⊢
  clear hW6 cX fX HF5 HG5
  have q2 := cell_of_heap (i := 2) (HG6.out.heap_of HB4.out) rfl
  go_wp2_with (go_at_call 99; fail)
  refine (fewest_c _ _ (partA (aft t slow) A B) t.nv (HP6.out.can hc5 hm5 fun i k hi hk => by rw [← HI.out]; exact part_at h16 (by omega) hi hk) h16).mono ?_
  rintro e W7 ⟨rfl, g7⟩
  obtain ⟨N1, hN1⟩ : ∃ N1, t.nv - mm (partA (aft t slow) A B) t.nv = N1 := ⟨_, rfl⟩
  rw [hN1]
  have hle0 := mm_le (aft t slow) t.nv
  have hle1 := mm_le (partA (aft t slow) A B) t.nv
  have hN01 : N0 < N1 ↔ mm (partA (aft t slow) A B) t.nv < mm (aft t slow) t.nv := by have := HN0.out; omega
  have HG7 := Lib.hid (HG6.out.trans g7)
  have HN01 := Lib.hid hN01
  clear q2 hN1 hle0 hle1 hN01 g7 HP6 HG6 hm5 hc5 hb5 hm5'
  by_cases h01 : N0 < N1
  · have h01I : (N0 : Int) < N1 := by omega
    have HZ : Hid (kindX t slow A B = 2) := Lib.hid (by rw [HK2.out, if_pos (HN01.out.1 h01)])
    go_wp2
    (refine bodyPost_ret (v := .tuple #[.int .i64 2, .int .i64 0]) (by simp [results, Try.results38, go_sem]) rfl ?_)
    exact ⟨ret_plan (a := 2) (b := 0) HZ.out.symm HR0.out.symm, HG4.out.trans (HG7.out.trans (by (repeat (first | exact World.grows.refl _ | assumption | refine World.grows.alloc ?_ _ | refine World.grows.plus ?_ _ _ | refine World.grows.drew ?_))))⟩
  have HK3 : Hid (kindX t slow A B = if mm (heldA (aft t slow) A B) t.nv = mm (aft t slow) t.nv then 1 else 0) := Lib.hid (by rw [HK2.out, if_neg (fun h => h01 (HN01.out.2 h))])
  have h01d : decide (N0 < N1) = false := decide_eq_false h01
  clear HK2 HN01
  go_upto_region 15 with fail
  iterate 7 go_step
  refine wpList_append_r _ rfl (.tmp 72) (.tmp 73) 35 (by rfl) W7.heap.size 3 (.int .i64 0) 1 8 Try.underlying35 el3 (by rfl) (by omega) _ 0 [] (by rfl) (ownsRow_empty (b := W7.heap.size) (World.heap_at _ _ _ rfl) rfl (Nat.le_refl _)) (.slice (some ⟨p, 0, none⟩) 256 256) (by rfl) 256 (tableL 256 1 fun i _ => .int .i64 (aftI t slow i)) (SliceAt.src (by omega) (SliceAt.mono HF4.out.ints (HG7.out.trans (by (repeat (first | exact World.grows.refl _ | assumption | refine World.grows.alloc ?_ _ | refine World.grows.plus ?_ _ _ | refine World.grows.drew ?_)))))) tab_one (by unfold maxLen; omega) (by omega) (by simp) ?_
  intro v8 W8 hown8 hgb8
  have HG8 : Hid (W7.grows W8) := Lib.hid (hgb8.grows (ownsRow_empty (b := W7.heap.size) (w := W7.alloc (.cells #[] 3)) (e := 3) (size := 1) (World.heap_at _ _ _ rfl) rfl (Nat.le_refl _)) (World.grows.alloc (World.grows.refl W7) _) (Nat.le_refl _))
  rw [Nat.zero_add, List.nil_append] at hown8
  obtain ⟨b8, cap8, rfl, hb8, hc8, hm8, hF8⟩ := rowF_own hown8
  have HF8 : Hid (RowF W8 b8 (heldI (aftI t slow) A B 0)) := Lib.hid (hF8.congr fun x _ => held_zero _ _ _ x)
  have Hm8 := Lib.hid hm8
  unfold maxLen at hm8
  clear hown8 hgb8 hF8
  go_wp2
  clear h01d
  go_loopw [14] (fun i wr => ∃ k : Nat, k ≤ 16 ∧ i = .int .i64 k ∧ Hid (W7.grows wr) ∧ Hid (RowF wr b8 (heldI (aftI t slow) A B k))) (fun i _ => 16 - (intOf i).toNat)
  case atStart => exact ⟨0, by omega, rfl, HG8, HF8⟩
  case round =>
    clear HG8 HF8
    obtain ⟨k, hk, rfl, hg, hF⟩ := hrel
    by_cases hlt : k < 16
    · have hkI : (k : Int) < 16 := by omega
      obtain ⟨X, hX⟩ : ∃ X, 16 * A + k = X := ⟨_, rfl⟩
      obtain ⟨Y, hY⟩ : ∃ Y, 16 * k + B = Y := ⟨_, rfl⟩
      have hw3 : IntKind.i64.wrap (16 * (A : Int) + k) = (X : Nat) := wrapI (by omega) (by omega)
      have hw4 : IntKind.i64.wrap (16 * (k : Int)) = 16 * (k : Int) := wrapI rfl (by omega)
      have hw5 : IntKind.i64.wrap (16 * (k : Int) + B) = (Y : Nat) := wrapI (by omega) (by omega)
      have hX256 : X < 256 := by omega
      have hY256 : Y < 256 := by omega
      have hXI' : (X : Int) < 256 := by omega
      have hYI' : (Y : Int) < 256 := by omega
      have hXY : k ≠ B → k ≠ A → X ≠ Y := by omega
      have cX := hF.out.cell hX256
      have fX := hF.out.frozen X
      have cY := hF.out.cell hY256
      have fY := hF.out.frozen Y
      by_cases hkB : k = B
      · have hkA : ¬ k = A := by omega
        have hkAI : ¬ (k : Int) = A := by omega
        have HF2 : Hid (RowF (wr.setCell ⟨b8, Y, none⟩ (.int .i64 0)) b8 (heldI (aftI t slow) A B (k + 1))) := Lib.hid (by rw [← hY]; exact (hF.out.set (16 * k + B) 0).congr fun x hx => held_b hlt (by omega) hkB hkA x hx)
        have HG9 := Lib.hid (hg.out.setCell (p := ⟨b8, Y, none⟩) hb8 (.int .i64 0))
        clear hX hY hXY cX fX hF
        subst hkB
        go_wp2
        exact ⟨⟨k + 1, by omega, by go_num, HG9, HF2⟩, by simp [intOf]; omega⟩
      · have hkBI : ¬ (k : Int) = B := by omega
        by_cases hkA : k = A
        · have HF2 : Hid (RowF (wr.setCell ⟨b8, X, none⟩ (.int .i64 0)) b8 (heldI (aftI t slow) A B (k + 1))) := Lib.hid (by rw [← hX]; exact (hF.out.set (16 * A + k) 0).congr fun x hx => held_a hlt (by omega) hkB hkA x hx)
          have HG9 := Lib.hid (hg.out.setCell (p := ⟨b8, X, none⟩) hb8 (.int .i64 0))
          clear hX hY hXY cY fY hF hw4 hw5
          subst hkA
          go_wp2
          exact ⟨⟨k + 1, by omega, by go_num, HG9, HF2⟩, by simp [intOf]; omega⟩
        · have hkAI : ¬ (k : Int) = A := by omega
          have hXY' := hXY hkB hkA
          have HF2 : Hid (RowF ((wr.setCell ⟨b8, X, none⟩ (.int .i64 0)).setCell ⟨b8, Y, none⟩ (.int .i64 0)) b8 (heldI (aftI t slow) A B (k + 1))) := Lib.hid (by rw [← hX, ← hY]; exact ((hF.out.set (16 * A + k) 0).set (16 * k + B) 0).congr fun x hx => held_both hlt (by omega) (by omega) hkB hkA x hx)
          have HG9 := Lib.hid ((hg.out.setCell (p := ⟨b8, X, none⟩) hb8 (.int .i64 0)).setCell (p := ⟨b8, Y, none⟩) hb8 (.int .i64 0))
          have cY2 := (hF.out.set X 0).cell hY256
          have fY2 := (hF.out.set X 0).frozen Y
          clear hX hY hXY cY fY hF
          go_wp2
          exact ⟨⟨k + 1, by omega, by go_num, HG9, HF2⟩, by simp [intOf]; omega⟩
    · have hke : k = 16 := by omega
      subst hke
      have q2 := cell_of_heap (i := 2) ((HG7.out.trans hg.out).heap_of HB4.out) rfl
      simp only [show ((16 : Nat) : Int) = (16 : Int) from rfl]
      go_wp2_with (go_at_call 99; fail)
      refine (fewest_c _ _ (heldA (aft t slow) A B) t.nv (hF.out.can hc8 Hm8.out fun i k hi hk => held_at h16 HR1.out hi hk) h16).mono ?_
      rintro e W9 ⟨rfl, g9⟩
      obtain ⟨N2, hN2⟩ : ∃ N2, t.nv - mm (heldA (aft t slow) A B) t.nv = N2 := ⟨_, rfl⟩
      rw [hN2]
      have hle0 := mm_le (aft t slow) t.nv
      have hle1 := mm_le (heldA (aft t slow) A B) t.nv
      have hN02 : N2 = N0 ↔ mm (heldA (aft t slow) A B) t.nv = mm (aft t slow) t.nv := by have := HN0.out; omega
      have HG9 := Lib.hid (HG7.out.trans (hg.out.trans g9))
      clear q2 hN2 hle0 hle1 g9 hF hg
      by_cases h02 : N2 = N0
      · have HZ : Hid (kindX t slow A B = 1) := Lib.hid (by rw [HK3.out, if_pos (hN02.1 h02)])
        subst h02
        clear hN02
        go_wp2
        (refine bodyPost_ret (v := .tuple #[.int .i64 1, .int .i64 0]) (by simp [results, Try.results38, go_sem]) rfl ?_)
        exact ⟨ret_plan (a := 1) (b := 0) HZ.out.symm HR0.out.symm, HG4.out.trans (HG9.out.trans (by (repeat (first | exact World.grows.refl _ | assumption | refine World.grows.alloc ?_ _ | refine World.grows.plus ?_ _ _ | refine World.grows.drew ?_))))⟩
      · have h02I : ¬ (N2 : Int) = N0 := by omega
        have HZ : Hid (kindX t slow A B = 0) := Lib.hid (by rw [HK3.out, if_neg (fun h => h02 (hN02.2 h))])
        clear hN02
        go_wp2
        (refine bodyPost_ret (v := .tuple #[.int .i64 0, .int .i64 0]) (by simp [results, Try.results38, go_sem]) rfl ?_)
        exact ⟨ret_plan (a := 0) (b := 0) HZ.out.symm HR0.out.symm, HG4.out.trans (HG9.out.trans (by (repeat (first | exact World.grows.refl _ | assumption | refine World.grows.alloc ?_ _ | refine World.grows.plus ?_ _ _ | refine World.grows.drew ?_))))⟩
end Go.Proofs.Ytaanbdjmibjcbaa

/-
  What is proved: a town without a visit, in the definition (44).
-/
namespace Go.Proofs.Ytaanbdjmibjcbaa
open Go.RowKit
attribute [local irreducible] Go.wpCalm rowI
theorem el71 : Try.prog.knows 71 (.agg #[.int .i64 0, .int .i64 0, .int .i64 0]) 3 24 := Program.knows_of (by kernel_rfl)
theorem tableL_add (c : Nat → Nat → Value) (a sz : Nat) : ∀ b, tableL (a + b) sz c = tableL a sz c ++ tableL b sz (fun i j => c (a + i) j)
  | 0 => by simp [tableL]
  | b + 1 => by
    rw [← Nat.add_assoc, tableL_snoc, tableL_add c a sz b, tableL_snoc, List.append_assoc]
theorem table_one {m sz : Nat} {c : Nat → Nat → Value} (hs : 0 < sz) (h : ∀ i j, i < m → j < sz → (c i j).oneCell' = true) : ∀ u ∈ tableL m sz c, u.oneCell' = true := by
  intro u hu
  obtain ⟨x, hx, rfl⟩ := List.mem_map.1 hu
  rw [List.mem_range] at hx
  exact h _ _ ((Nat.div_lt_iff_lt_mul hs).2 hx) (Nat.mod_lt _ hs)
theorem SliceAt.first {w : World} {A : Option Addr} {n sz cap k : Nat} {c : Nat → Nat → Value} (h : SliceAt w (.slice A n cap) n sz c) (hk : k ≤ n) (cap' : Nat) (hc : k ≤ cap') (hc2 : cap' ≤ maxLen) : SliceAt w (.slice A k cap') k sz c := by
  obtain ⟨a, cap2, he, h2, h3, h4⟩ := h
  cases he
  exact ⟨_, _, rfl, hc, hc2, fun i j hi hj => h4 i j (by omega) hj⟩
theorem tailO {w : World} {b o n sz cap S : Nat} {c : Nat → Nat → Value} (hs : 0 < sz) (h : SliceAt w (.slice (some ⟨b, o, none⟩) n cap) n sz c) (hS : S ≤ n) (A : Option Addr) (hA : cap ≠ S → A = some ⟨b, o + S * sz, none⟩) : SrcAt w (.slice A (n - S) (cap - S)) (n - S) sz (tableL (n - S) sz fun i j => c (S + i) j) := by
  obtain ⟨a, cap2, he, h2, h3, h4⟩ := h
  cases he
  by_cases e : cap = S
  · exact ⟨_, _, rfl, tableL_length _ _ _, fun h => by omega⟩
  · rw [hA e]
    refine SliceAt.src hs ⟨_, _, rfl, by omega, by omega, fun i j hi hj => ?_⟩
    obtain ⟨b', o', e, h5⟩ := h4 (S + i) j (by omega) hj
    cases e
    exact ⟨_, _, rfl, by rw [← h5]; congr 2; rw [Nat.add_mul]; omega⟩
theorem tableL_congr2 {m sz : Nat} {c d : Nat → Nat → Value} (h : ∀ i j, i < m → j < sz → c i j = d i j) (hs : 0 < sz) : tableL m sz c = tableL m sz d := by
  unfold tableL
  apply List.map_congr_left
  intro x hx
  rw [List.mem_range] at hx
  exact h _ _ ((Nat.div_lt_iff_lt_mul hs).2 hx) (Nat.mod_lt _ hs)
theorem own_set {W : World} {base e sz n b i : Nat} {v x : Value} {xs : List Value} (h : W.ownsRow base e sz v n xs) (hb : b < base) : (W.setCell ⟨b, i, none⟩ x).ownsRow base e sz v n xs := by
  obtain ⟨h0, ⟨h1, h2⟩ | ⟨g, cap, cur, h1, h2, h3, h4⟩⟩ := h
  · exact ⟨h0, .inl ⟨h1, h2⟩⟩
  · exact ⟨h0, .inr ⟨g, cap, cur, h1, h2, by rw [World.heap_setCell_map _ _ _ _ (show b ≠ g by omega)]; exact h3, h4⟩⟩
theorem less_visits (t : Town) {k : Nat} (hk : k < t.nv) : tableL k 3 (vcell t) ++ tableL (t.nv - (k + 1)) 3 (fun i j => vcell t (k + 1 + i) j) = tableL (t.nv - 1) 3 (vcell (t.less k)) := by
  have hc : ∀ i j, vcell (t.less k) i j = vcell t (sk k i) j := fun i j => rfl
  rw [show t.nv - 1 = k + (t.nv - (k + 1)) by omega, tableL_add]
  congr 1
  · exact tableL_congr2 (fun i j hi hj => by rw [hc]; unfold sk; rw [if_pos hi]) (by omega)
  · exact tableL_congr2 (fun i j hi hj => by rw [hc]; unfold sk; rw [if_neg (show ¬ k + i < k by omega), show k + i + 1 = k + 1 + i by omega]) (by omega)
theorem vcell_one (t : Town) (i j : Nat) : (vcell t i j).oneCell' = true := by
  unfold vcell
  split
  · rfl
  · split <;> rfl
set_option maxRecDepth 100000 in
set_option maxHeartbeats 4000000 in
theorem less_town_c (w : World) (tv : Value) (t : Town) (ht : TownAt w tv t) (k : Nat) (hk : k < t.nv) (h20 : t.nv ≤ 1000000) : Calls Try.prog 44 #[tv, .int .i64 k] w fun e w' => ∃ v, e = .returned v ∧ w.grows w' ∧ TownAt w' v (t.less k) := by
  obtain ⟨sv, vv, rfl, hs, hv⟩ := ht
  have HS := Lib.hid hs
  obtain ⟨sa, sc, rfl, -⟩ := hs
  obtain ⟨va, vc, rfl, v1, v2, hvc⟩ := hv
  have HV := Lib.hid hvc
  obtain ⟨b, o, rfl, -⟩ := hvc 0 0 (by omega) (by omega)
  unfold maxLen at v2
  clear hvc
  go_enter Try.func44, Try.ntmps44
  have h1 : (k : Int) ≤ vc := by omega
  have h2 : (k : Int) + 1 ≤ vc := by omega
  have h3 : (k : Int) + 1 ≤ t.nv := by omega
  have h4 : (k : Int) ≤ t.nv := by omega
  have HSl : Hid (SliceAt w (.slice (some ⟨b, o, none⟩) t.nv vc) t.nv 3 (vcell t)) := Lib.hid ⟨_, _, rfl, v1, v2, HV.out⟩
  go_upto_region 1 with fail
  obtain ⟨q, hq⟩ : ∃ q, w.heap.size = q := ⟨_, rfl⟩
  obtain ⟨Y, hY⟩ : ∃ Y, Y = ((w.alloc (.cells #[.int .i64 t.pl, .slice sa t.ns sc, .slice (some ⟨b, o, none⟩) t.nv vc] 25)).alloc (.cells #[.int .i64 0, .slice none 0 0, .slice none 0 0] 25)) := ⟨_, rfl⟩
  have gY : w.grows Y := by rw [hY]; (repeat (first | exact World.grows.refl _ | assumption | refine World.grows.alloc ?_ _ | refine World.grows.plus ?_ _ _ | refine World.grows.drew ?_))
  have B0 : Y.heap[q]? = some (.cells #[.int .i64 t.pl, .slice sa t.ns sc, .slice (some ⟨b, o, none⟩) t.nv vc] 25) := by rw [hY]; exact World.grows.heap_of (by (repeat (first | exact World.grows.refl _ | assumption | refine World.grows.alloc ?_ _ | refine World.grows.plus ?_ _ _ | refine World.grows.drew ?_))) (World.heap_at _ _ _ hq.symm)
  have B1 : Y.heap[q + 1]? = some (.cells #[.int .i64 0, .slice none 0 0, .slice none 0 0] 25) := by rw [hY]; exact World.heap_at _ _ _ (by simp [hq])
  rw [← hY]
  simp only [hq]
  clear hY
  have HB0 := Lib.hid B0
  have HB1 := Lib.hid B1
  have q2 := cell_of_heap (i := 2) B0 rfl
  obtain ⟨S, hS⟩ : ∃ x : Nat, k + 1 = x := ⟨_, rfl⟩
  have eS : IntKind.i64.wrap ((k : Int) + 1) = S := wrapI (by omega) (by omega)
  have sI : (S : Int) ≤ t.nv := by omega
  have sI2 : (S : Int) ≤ vc := by omega
  have hSl : S ≤ t.nv := by omega
  clear B0 B1 h2 h3
  (refine wp_region_chain 12 [0, 5, 11] (by kernel_rfl) (by kernel_rfl) (by decide) ?_; simp only [without, only, withNo, List.take_succ_cons, List.take_zero, List.drop_succ_cons, List.drop_zero, List.take_nil, List.drop_nil, Nat.reduceAdd, Nat.reduceSub, List.filter, List.contains_cons, List.contains_nil, Nat.reduceBEq, Bool.or_false, Bool.false_or, Bool.true_or, Bool.or_true, Bool.or_self, Bool.not_true, Bool.not_false, List.map_cons, List.map_nil]; (repeat (refine wpCalm_step (fun K hK => ?_); go_simp; first | (refine hK _ ?_; clear hK K) | (apply Exists.intro; refine ⟨fun n' x' => ?_, hK _ ?_⟩; (fail); clear hK K))); refine wpCalm_nil ?_)
  (refine wpChain_step (fun K hK nc xc => ?_); go_simp)
  refine ⟨by (repeat (first | exact World.grows.refl _ | assumption | refine World.grows.alloc ?_ _ | refine World.grows.plus ?_ _ _ | refine World.grows.drew ?_)), hK _ _ ?_⟩
  clear hK K
  refine wpChain_append_own rfl (.tmp 5) (.tmp 9) 23 (by rfl) Y.heap.size 71 (.agg #[.int .i64 0, .int .i64 0, .int .i64 0]) 3 24 Try.underlying23 el71 (by rfl) (by omega) _ 0 [] (by rfl) (ownsRow_empty (b := Y.heap.size + nc) (World.heap_at _ _ _ (by simp)) rfl (by omega)) _ (by rfl) k (tableL k 3 (vcell t)) (fun W0 g => ?_) (table_one (by omega) (fun i j hi hj => vcell_one t i j)) (by unfold maxLen; omega) (by omega) (Nat.le_refl _) (by simp; omega) ?_
  · show SrcAt W0 (.slice (some ⟨b, o, none⟩) k vc) k 3 _
    exact SliceAt.src (by omega) (SliceAt.mono (SliceAt.first HSl.out (by omega) vc (by omega) (by unfold maxLen; omega)) (World.grows.trans (gY.trans (by (repeat (first | exact World.grows.refl _ | assumption | refine World.grows.alloc ?_ _ | refine World.grows.plus ?_ _ _ | refine World.grows.drew ?_)))) g))
  intro v1 W1 hv1 hW1 hs1
  refine wpChain_append_own rfl (.tmp 10) (.tmp 15) 23 (by rfl) Y.heap.size 71 (.agg #[.int .i64 0, .int .i64 0, .int .i64 0]) 3 24 Try.underlying23 el71 (by rfl) (by omega) v1 (0 + k) ([] ++ tableL k 3 (vcell t)) (by rfl) hv1 _ (by rfl) (t.nv - S) (tableL (t.nv - S) 3 (fun i j => vcell t (S + i) j)) (fun W0 g => ?_) (table_one (by omega) (fun i j hi hj => vcell_one t _ j)) (by unfold maxLen; omega) (by omega) (Nat.le_refl _) hW1.size ?_
  · simp [Act.eval, Act.put]
    exact tailO (by omega) (SliceAt.mono HSl.out (gY.trans (hW1.trans g))) hSl _ (fun h => by rw [if_neg h])
  intro v2' W2 hv2 hW2 hs2
  (refine wpChain_nil (fun nc xc => ?_))
  rw [show 0 + k + (t.nv - S) = t.nv - 1 by omega, List.nil_append, ← hS, less_visits t hk] at hv2
  clear hv1 hW1 hs1 hs2
  obtain ⟨va1, vc1, rfl, -, -⟩ := row_form hv2
  have g5 : Y.grows (W2.plus nc xc) := hW2.trans (World.grows_plus _ _ _)
  have hv5 := hv2.grow (World.grows_plus W2 nc xc)
  clear hv2 hW2 sI sI2 eS
  generalize W2.plus nc xc = W5 at g5 hv5 ⊢
  generalize (ite (vc = S) _ _ : Option Addr) = A96
  have C0 := g5.heap_of HB0.out
  have C1 := g5.heap_of HB1.out
  have y2 := cell_of_heap (i := 2) C0 rfl
  have yf := frozen_of_heap C0 2
  have D0 : Hid ((W5.setCell ⟨q, 2, none⟩ (.slice va1 (t.nv - 1) vc1)).heap[q]? = some (.cells #[.int .i64 t.pl, .slice sa t.ns sc, .slice va1 (t.nv - 1) vc1] 25)) := Lib.hid (store_of_heap C0 2 _)
  have D1 : Hid ((W5.setCell ⟨q, 2, none⟩ (.slice va1 (t.nv - 1) vc1)).heap[q + 1]? = some (.cells #[.int .i64 0, .slice none 0 0, .slice none 0 0] 25)) := Lib.hid (by rw [World.heap_setCell_map _ _ _ _ (show q ≠ q + 1 by omega)]; exact C1)
  have hgW : w.grows (W5.setCell ⟨q, 2, none⟩ (.slice va1 (t.nv - 1) vc1)) := (gY.trans g5).setCell (p := ⟨q, 2, none⟩) (by rw [← hq]; exact Nat.le_refl _) _
  have hq1 : q + 1 < Y.heap.size := World.lt_of_block HB1.out
  have hv6 := own_set (b := q) (i := 2) (x := .slice va1 (t.nv - 1) vc1) hv5 (by omega)
  go_upto_region 2 with fail
  generalize World.setCell _ _ _ = W6 at D0 D1 hgW hv6 ⊢
  have z0 := cell_of_heap (i := 0) D0.out rfl
  have z1 := cell_of_heap (i := 1) D0.out rfl
  have z2 := cell_of_heap (i := 2) D0.out rfl
  have u0 := cell_of_heap (i := 0) D1.out rfl
  have u1 := cell_of_heap (i := 1) D1.out rfl
  have u2 := cell_of_heap (i := 2) D1.out rfl
  have v0 := frozen_of_heap D1.out 0
  have v1 := frozen_of_heap D1.out 1
  have v2 := frozen_of_heap D1.out 2
  clear y2 yf C0 C1
  go_wp2
  have hv7 := own_set (b := q + 1) (i := 2) (x := .slice va1 (t.nv - 1) vc1) (own_set (b := q + 1) (i := 1) (x := .slice sa t.ns sc) (own_set (b := q + 1) (i := 0) (x := .int .i64 t.pl) hv6 hq1) hq1) hq1
  have hg7 : w.grows (((W6.setCell ⟨q + 1, 0, none⟩ (.int .i64 t.pl)).setCell ⟨q + 1, 1, none⟩ (.slice sa t.ns sc)).setCell ⟨q + 1, 2, none⟩ (.slice va1 (t.nv - 1) vc1)) := ((hgW.setCell (p := ⟨q + 1, 0, none⟩) (by dsimp only; omega) _).setCell (p := ⟨q + 1, 1, none⟩) (by dsimp only; omega) _).setCell (p := ⟨q + 1, 2, none⟩) (by dsimp only; omega) _
  have E := store_of_heap (store_of_heap (store_of_heap D1.out 0 (.int .i64 t.pl)) 1 (.slice sa t.ns sc)) 2 (.slice va1 (t.nv - 1) vc1)
  generalize World.setCell _ _ _ = W7 at hv7 hg7 E ⊢
  have e0 := cell_of_heap (v := .int .i64 t.pl) (i := 0) E rfl
  have e1 := cell_of_heap (v := .slice sa t.ns sc) (i := 1) E rfl
  have e2 := cell_of_heap (v := .slice va1 (t.nv - 1) vc1) (i := 2) E rfl
  refine bodyPost_ret (v := .agg #[.int .i64 t.pl, .slice sa t.ns sc, .slice va1 (t.nv - 1) vc1]) (by simp [results, Try.results44, go_sem, e0, e1, e2]) rfl ?_
  exact ⟨_, rfl, hg7, _, _, rfl, SliceAt.mono HS.out hg7, hv7.sliceAt fun i j hi hj => tableL_get (vcell (t.less k)) hi hj⟩
end Go.Proofs.Ytaanbdjmibjcbaa

/-
  What is proved: which visits cost a cart, in the definition (40).
-/
namespace Go.Proofs.Ytaanbdjmibjcbaa
open Go.RowKit
attribute [local irreducible] Go.wpCalm rowI
/-- a visit that costs a cart -/
def costB (t : Town) (slow : Bool) (i : Nat) : Bool := decide (few (t.less i) slow < few t slow)
theorem few_le (t : Town) (slow : Bool) : few t slow ≤ t.nv := by unfold few; omega
set_option maxRecDepth 100000 in
set_option maxHeartbeats 4000000 in
theorem rcosts_c (w : World) (tv : Value) (t : Town) (slow : Bool) (ht : TownAt w tv t) : Calls Try.prog 40 #[tv, .bool slow] w fun e w' => ∃ v, e = .returned (.tuple #[v, .int .i64 (needE t slow : Nat)]) ∧ w.grows w' ∧ if needE t slow = 0 then ListAt w' v (filtL (costB t slow) t.nv) else v = .slice none 0 0 := by
  have Ht := Lib.hid ht
  have h31 := fun W (g : w.grows W) => needs_c W _ t slow (Ht.out.mono g)
  have h32 := fun W (g : w.grows W) (hok : t.Ok) => fewestT_c W _ t slow (Ht.out.mono g) hok
  have h44 := fun W (g : w.grows W) k (hk : k < t.nv) (h16 : t.nv ≤ 1000000) => less_town_c W _ t (Ht.out.mono g) k hk h16
  have hok : needE t slow = 0 → t.Ok := fun h => by
    by_cases hc : t.check = 0
    · exact t.ok_iff.1 hc
    · unfold needE at h; rw [if_pos hc] at h; exact absurd h hc
  obtain ⟨sv, vv, rfl, ⟨sa, sc, rfl, -⟩, ⟨va, vc, rfl, -⟩⟩ := ht
  obtain ⟨C, hC⟩ : ∃ C : Nat, needE t slow = C := ⟨_, rfl⟩
  rw [hC] at hok ⊢
  simp only [hC] at h31
  clear hC
  go_enter Try.func40, Try.ntmps40
  go_wp2_with (go_at_call 99; fail)
  refine (h31 _ (by (repeat (first | exact World.grows.refl _ | assumption | refine World.grows.alloc ?_ _ | refine World.grows.plus ?_ _ _ | refine World.grows.drew ?_)))).mono ?_
  rintro e W ⟨rfl, g⟩
  have HB : Hid (W.heap[w.heap.size]? = some (.cells #[.int .i64 t.pl, .slice sa t.ns sc, .slice va t.nv vc] 25)) := Lib.hid (World.grows.heap_of g (World.heap_at _ _ _ rfl))
  have HGW : Hid (w.grows W) := Lib.hid (World.grows.trans (by (repeat (first | exact World.grows.refl _ | assumption | refine World.grows.alloc ?_ _ | refine World.grows.plus ?_ _ _ | refine World.grows.drew ?_))) g)
  have q0 := cell_of_heap (i := 0) HB.out rfl
  have q1 := cell_of_heap (i := 1) HB.out rfl
  have q2 := cell_of_heap (i := 2) HB.out rfl
  clear g
  by_cases hc0 : C = 0
  case neg =>
    have hcI : ¬ (C : Int) = 0 := by omega
    go_wp2_with (go_at_call 99; fail)
    refine (h31 _ HGW.out).mono ?_
    rintro e W2 ⟨rfl, g2⟩
    clear h31 h32 h44 q0 q1 q2 hok
    go_wp2
    (refine bodyPost_ret (v := .tuple #[.slice none 0 0, .int .i64 (C : Int)]) (by simp [results, Try.results40, go_sem]) rfl ?_)
    exact ⟨rfl, HGW.out.trans (g2.trans (by (repeat (first | exact World.grows.refl _ | assumption | refine World.grows.alloc ?_ _ | refine World.grows.plus ?_ _ _ | refine World.grows.drew ?_))))⟩
  subst hc0
  have Hok := Lib.hid (hok rfl)
  have h16 := Hok.out.v16
  have H44 := Lib.hid h44
  clear h31 hok h44
  go_wp2_with (go_at_call 99; fail)
  refine (h32 _ HGW.out Hok.out).mono ?_
  rintro e W2 ⟨rfl, g2⟩
  obtain ⟨F, hF⟩ : ∃ F, few t slow = F := ⟨_, rfl⟩
  have HFw : Hid (∀ i, costB t slow i = decide (few (t.less i) slow < F)) := Lib.hid fun i => by unfold costB; rw [hF]
  rw [hF]
  have HG2 := Lib.hid (HGW.out.trans g2)
  have HB2 := Lib.hid (g2.heap_of HB.out)
  clear q0 q1 q2 g2 hF h32
  go_wp2
  go_loopw [7, 8] (fun l i wr => ∃ k : Nat, k ≤ t.nv ∧ i = .int .i64 k ∧ Hid (wr.ownsRow W2.heap.size 3 1 l (filtL (costB t slow) k).length (ilist (filtL (costB t slow) k))) ∧ Hid (W2.grows wr)) (fun _ i _ => t.nv - (intOf i).toNat)
  case atStart => exact ⟨0, by omega, rfl, Lib.hid (World.ownsRow_nil _ _ _ _), Lib.hid (World.grows.refl _)⟩
  case round =>
    obtain ⟨k, hk, rfl, ho, hg⟩ := hrel
    obtain ⟨la, lc, rfl, -, -⟩ := row_form ho.out
    have q2 := cell_of_heap (i := 2) (hg.out.heap_of HB2.out) rfl
    by_cases hlt : k < t.nv
    · have q0 := cell_of_heap (i := 0) (hg.out.heap_of HB2.out) rfl
      have q1 := cell_of_heap (i := 1) (hg.out.heap_of HB2.out) rfl
      have hkI : (k : Int) < t.nv := by omega
      have hS := filtL_succ (costB t slow) k
      rw [HFw.out] at hS
      have hlen := filtL_len (costB t slow) k
      go_wp2_with (go_at_call 99; fail)
      refine (H44.out _ (HG2.out.trans hg.out) k hlt (by omega)).mono ?_
      rintro e W3 ⟨tv3, rfl, g3, ht3⟩
      go_wp2_with (go_at_call 99; fail)
      refine (fewestT_c W3 tv3 (t.less k) slow ht3 (Hok.out.less hlt)).mono ?_
      rintro e W4 ⟨rfl, g4⟩
      have g34 := g3.trans g4
      replace ho := Lib.hid (ho.out.grow g34)
      replace hg := Lib.hid (hg.out.trans g34)
      have hsz := hg.out.size
      obtain ⟨_, _, e3, -⟩ := ht3
      obtain ⟨N, hN⟩ : ∃ N, few (t.less k) slow = N := ⟨_, rfl⟩
      rw [hN] at hS ⊢
      clear q0 q1 q2 g3 g4 g34 hN
      by_cases hNF : N < F
      · rw [decide_eq_true hNF, if_pos rfl] at hS
        have HS := Lib.hid hS
        obtain ⟨n, hn⟩ : ∃ n, (filtL (costB t slow) k).length = n := ⟨_, rfl⟩
        rw [hn] at ho hlen ⊢
        have Hn := Lib.hid hn
        clear hn hS
        go_upto_region 9 with fail
        iterate 10 go_step
        refine wpList_append_r _ rfl (.tmp 33) (.tmp 35) 35 (by rfl) W2.heap.size 3 (.int .i64 0) 1 8 Try.underlying35 el3 (by rfl) (by omega) (.slice la n lc) n _ (by rfl) (ho.out.grow (by (repeat (first | exact World.grows.refl _ | assumption | refine World.grows.alloc ?_ _ | refine World.grows.plus ?_ _ _ | refine World.grows.drew ?_)))) (.slice (some ⟨W4.heap.size, 0, none⟩) 1 1) (by rfl) 1 _ (SliceAt.src (by omega) (one_slice _ _ _ _ (by simp))) (one_cell _) (by unfold maxLen; omega) (by omega) (by simp; omega) ?_
        intro v' w3 hown3 hgb
        obtain ⟨la3, lc3, rfl, -, -⟩ := row_form hown3
        have ho3 : Hid (w3.ownsRow W2.heap.size 3 1 (.slice la3 (n + 1) lc3) (filtL (costB t slow) (k + 1)).length (ilist (filtL (costB t slow) (k + 1)))) := Lib.hid (by rw [HS.out, ilist_snoc, List.length_append, Hn.out]; exact hown3)
        have hg3 := Lib.hid (hgb.grows (ho.out.grow (World.grows.alloc (World.grows.refl W4) _)) (World.grows.trans hg.out (World.grows.alloc (World.grows.refl W4) _)) (Nat.le_refl _))
        clear hown3 hgb
        go_wp2
        have hlen2 : (filtL (costB t slow) (k + 1)).length = n + 1 := by rw [HS.out, List.length_append, Hn.out]; rfl
        exact ⟨⟨k + 1, by omega, by go_num, by rw [hlen2] at ho3 ⊢; exact ho3, hg3⟩, by simp [intOf]; omega⟩
      · rw [decide_eq_false hNF, if_neg (by decide)] at hS
        have HS := Lib.hid hS
        clear hS
        go_wp2
        exact ⟨⟨k + 1, by omega, by go_num, by rw [HS.out]; exact ho, hg⟩, by simp [intOf]; omega⟩
    · have hke : k = t.nv := by omega
      have hL := ho.out.listAt rfl
      subst hke
      clear ho
      go_wp2
      (refine bodyPost_ret (v := .tuple #[.slice la (filtL (costB t slow) t.nv).length lc, .int .i64 0]) (by simp [results, Try.results40, go_sem]) rfl ?_)
      exact ⟨_, rfl, HG2.out.trans (hg.out.trans (by (repeat (first | exact World.grows.refl _ | assumption | refine World.grows.alloc ?_ _ | refine World.grows.plus ?_ _ _ | refine World.grows.drew ?_)))), hL.mono (by (repeat (first | exact World.grows.refl _ | assumption | refine World.grows.alloc ?_ _ | refine World.grows.plus ?_ _ _ | refine World.grows.drew ?_)))⟩
end Go.Proofs.Ytaanbdjmibjcbaa

/-
  What is proved: a bit is taken out of a row of bits (&^), and the rows of partA and of a column that is cut.
-/
namespace Go.Proofs.Ytaanbdjmibjcbaa
open Go.RowKit
theorem andnot_nat (a b : Nat) (ha : a < 2 ^ 62) (hb : b < 2 ^ 62) : bits .andNot .i64 (a : Int) (b : Int) = ((a &&& (2 ^ 64 - (b + 1)) : Nat) : Int) := by
  show IntKind.i64.wrap ((BitVec.ofInt 64 (a : Int) &&& ~~~BitVec.ofInt 64 (b : Int)).toNat : Int) = _
  have e : (BitVec.ofInt 64 (a : Int) &&& ~~~BitVec.ofInt 64 (b : Int)).toNat = a &&& (2 ^ 64 - (b + 1)) := by
    rw [BitVec.toNat_and, BitVec.toNat_not, BitVec.ofInt_natCast, BitVec.ofInt_natCast, BitVec.toNat_ofNat, BitVec.toNat_ofNat, Nat.mod_eq_of_lt (by omega), Nat.mod_eq_of_lt (by omega)]
    congr 1
    omega
  have hle : a &&& (2 ^ 64 - (b + 1)) ≤ a := Nat.and_le_left
  rw [e]
  exact wrapI rfl (by omega)
theorem andnot_bit {B k N : Nat} (hB : B < 65536) (hk : k ≤ 16) (hN : 2 ^ k = N) : ∃ Z : Nat, bits .andNot .i64 (B : Int) (N : Int) = (Z : Int) ∧ Z < 65536 ∧ ∀ j, Z.testBit j = (B.testBit j && !(j == k)) := by
  have hn := pow_le16 hk
  rw [hN] at hn
  refine ⟨_, andnot_nat B N (by omega) (by omega), Nat.lt_of_le_of_lt Nat.and_le_left hB, fun j => ?_⟩
  rw [Nat.testBit_and, Nat.testBit_two_pow_sub_succ (by omega), ← hN, Nat.testBit_two_pow]
  by_cases h : j < 64
  · rw [decide_eq_true h, Bool.true_and]
    congr 2
    by_cases e : k = j
    · subst e; simp
    · have : ¬ j = k := fun h => e h.symm
      simp [e, this]
  · have hz : B.testBit j = false := Nat.testBit_lt_two_pow (Nat.lt_of_lt_of_le hB (by rw [show 65536 = 2 ^ 16 from rfl]; exact Nat.pow_le_pow_right (by omega) (by omega)))
    rw [hz, Bool.false_and, Bool.false_and]
/-- all sixteen rows are rows of bits, those of visits say what can come after which -/
def Rows16 (F : Nat → Int) (A : Nat → Nat → Bool) (n : Nat) : Prop := ∀ i, i < 16 → ∃ B : Nat, F i = (B : Int) ∧ B < 65536 ∧ (i < n → ∀ k, k < n → B.testBit k = A i k)
theorem Rows16.rows {F : Nat → Int} {A : Nat → Nat → Bool} {n : Nat} (h : Rows16 F A n) (hn : n ≤ 16) : RowsA F A n := ⟨fun i hi => by
  obtain ⟨B, h1, h2, h3⟩ := h i (by omega)
  exact ⟨B, h1, h2, h3 hi⟩⟩
theorem rows16_aft (t : Town) (slow : Bool) (h : t.nv ≤ 16) : Rows16 (aftF t slow t.nv) (aft t slow) t.nv := fun i _ => by
  unfold aftF
  by_cases e : i < t.nv
  · rw [if_pos e]
    exact ⟨bitsN (aft t slow i) t.nv, rfl, bitsN_lt h, fun _ k hk => by rw [bitsN_bit, decide_eq_true hk]; rfl⟩
  · rw [if_neg e]
    exact ⟨0, rfl, by omega, fun h => absurd h e⟩
theorem Rows16.congr {F : Nat → Int} {A A' : Nat → Nat → Bool} {n : Nat} (h : Rows16 F A n) (e : ∀ i k, i < n → k < n → A i k = A' i k) : Rows16 F A' n := fun i hi => by
  obtain ⟨B, h1, h2, h3⟩ := h i hi
  exact ⟨B, h1, h2, fun hin k hk => by rw [h3 hin k hk, e i k hin hk]⟩
/-- one pair is taken out -/
theorem Rows16.part {F : Nat → Int} {A : Nat → Nat → Bool} {n : Nat} (h : Rows16 F A n) {a b N : Nat} (ha : a < 16) (hb : b ≤ 16) (hN : 2 ^ b = N) : ∃ B Z : Nat, F a = (B : Int) ∧ bits .andNot .i64 (B : Int) (N : Int) = (Z : Int) ∧ Rows16 (updI F a (Z : Int)) (partA A a b) n := by
  obtain ⟨B, h1, h2, h3⟩ := h a ha
  obtain ⟨Z, z1, z2, z3⟩ := andnot_bit h2 hb hN
  refine ⟨B, Z, h1, z1, fun i hi => ?_⟩
  unfold updI partA
  by_cases e : i = a
  · subst e
    rw [if_pos rfl]
    exact ⟨Z, rfl, z2, fun hin k hk => by rw [z3, h3 hin k hk]; simp⟩
  · rw [if_neg e]
    obtain ⟨C, c1, c2, c3⟩ := h i hi
    exact ⟨C, c1, c2, fun hin k hk => by rw [c3 hin k hk]; simp [e]⟩
/-- a row is written over -/
theorem Rows16.row {F : Nat → Int} {A : Nat → Nat → Bool} {n : Nat} (h : Rows16 F A n) (a : Nat) {Z : Nat} (hZ : Z < 65536) : Rows16 (updI F a (Z : Int)) (fun i k => if i = a then Z.testBit k else A i k) n := fun i hi => by
  unfold updI
  by_cases e : i = a
  · subst e
    rw [if_pos rfl]
    exact ⟨Z, rfl, hZ, fun _ k _ => by simp⟩
  · rw [if_neg e]
    obtain ⟨C, c1, c2, c3⟩ := h i hi
    exact ⟨C, c1, c2, fun hin k hk => by rw [c3 hin k hk]; simp [e]⟩
end Go.Proofs.Ytaanbdjmibjcbaa

/-
  What is proved: a yard is copied whole: its load, and its store into a block that was made for it.
-/
namespace Go.Proofs.Ytaanbdjmibjcbaa
open Go.RowKit
attribute [local irreducible] Go.wpCalm rowI
/-- the cells of a yard, hidden -/
def yardC (x y z : Value) (P F : Nat → Int) : Array Value := yardN 64 16 x y z P F
theorem yardC_size (x y z : Value) (P F : Nat → Int) : (yardC x y z P F).size = 83 := by unfold yardC; rw [yardN_size]
theorem rowI_all (n : Nat) (f : Nat → Int) : (rowI n f).all (·.oneCell') = true := rowI_one n f
theorem yardC_one {x y z : Value} (hx : x.oneCell' = true) (hy : y.oneCell' = true) (hz : z.oneCell' = true) (P F : Nat → Int) : (yardC x y z P F).all (·.oneCell') = true := by
  unfold yardC yardN
  rw [Array.all_append, Array.all_append, rowI_all, rowI_all]
  simp [hx, hy, hz]
theorem cells_range {W : World} {b : Nat} {cur : Array Value} {t : TypeId} (h : W.heap[b]? = some (.cells cur t)) : W.rangeAt b 0 cur.toList := fun j v hv => by
  rw [Nat.zero_add]
  exact cell_of_heap h (by rw [← Array.getElem?_toList]; exact hv)
theorem load85 {W : World} {b : Nat} {cur : Array Value} (h : W.heap[b]? = some (.cells cur 85)) (hs : cur.size = 83) : (Instr.loadAt 85 (.pointer (some ⟨b, 0, none⟩))).run Try.prog W = .ok (.agg cur) W := by
  have := run_loadAt_mid (P := Try.prog) W b 0 85 cur.toList _ (cells_range h) Try.underlying85 rfl (by rw [s85, Array.length_toList, hs])
  rwa [Array.toArray_toList] at this
theorem setRow_put {W : World} {b : Nat} {c c' : Array Value} {t : TypeId} (h : W.heap[b]? = some (.cells c t)) : W.setRow b c' = W.putObj b (.cells c' t) := by
  unfold World.setRow World.putObj
  congr 1
  apply Array.ext_getElem?
  intro i
  rw [Array.getElem?_modify]
  by_cases e : b = i
  · subst e
    obtain ⟨hl, hv⟩ := Array.getElem?_eq_some_iff.1 h
    simp [hl, hv]
  · simp [e]
theorem wpList_store_row {ops : Array Oper} {rest : List Oper} {op : Oper} {a : Act} {w : World} {Q : Exit → Act → World → Prop} (hgd : op.guard = none) (ty : TypeId) (x y : Operand) (ho : op.op = .store ty x y) (b : Nat) (c c' : Array Value)
    (hb : w.heap[b]? = some (.cells c ty)) (hx : a.eval x = .pointer (some ⟨b, 0, none⟩)) (hy : a.eval y = .agg c') (hi : (Try.prog.info? ty).map (·.size) = some c'.size) (hs : c.size = c'.size) (h1 : c'.all (·.oneCell') = true)
    (h : wpList Try.prog ops Q rest (a.put op.dst undef) (w.putObj b (.cells c' ty))) : wpList Try.prog ops Q (op :: rest) a w := by
  refine wpList_plain hgd fun K hK => ?_
  unfold Oper.wp execOp
  simp only [ho, hx, hy, Instr.storeAt, Instr.sureAddr, Sem.run_bind, Sem.run_pure, Result.andThen_ok, run_storeVar_row (P := Try.prog) w b ty ty c c' hb hi hs h1, setRow_put hb]
  exact hK _ _ h
theorem goes_load85 {o : Oper} {a : Act} {W : World} {K : Value → World → Prop} {b : Nat} {cur : Array Value} (x : Operand) (ho : o.op = .load 85 x) (hx : a.eval x = .pointer (some ⟨b, 0, none⟩)) (h : W.heap[b]? = some (.cells cur 85)) (hs : cur.size = 83) (hK : K (.agg cur) W) : o.goes Try.prog a W K := by
  have hl := load85 h hs
  unfold Oper.goes execOp
  simp only [ho, hx, Sem.run_bind, Sem.run_pure, Result.andThen_ok, hl]
  exact ⟨World.grows.refl _, hK⟩
theorem len105 {W : World} {b : Nat} {m : PM Int} (h : W.heap[b]? = some (m.obj eV)) (ty : TypeId) : (Builtin.len_ #[105] ty #[.map (some b)]).run Try.prog W = .ok (.int .i64 (m.l.length : Nat)) W := by
  have h' : W.heap[b]? = some (.map (PM.ents eV m.l).toArray m.clock) := h
  have := run_len_map (P := Try.prog) (w := W) 105 ty b _ _ (by simp only [Program.mapKeyOf, Program.mapElemOf, Try.underlying105]) h'
  rw [this]
  simp [goInt, PM.ents]
theorem JIs.many {m : PM Int} {A : Nat → Nat → Bool} {n : Nat} (h : JIs m (joinF A n n)) : m.l.length = mm A n := by
  rw [h.length (fun l k e => ((join_upto A n n (Nat.le_refl n)).mat.lt l k e).1), join_size]
theorem zc85_size : Try.zeroCells85.size = 83 := by kernel_rfl
end Go.Proofs.Ytaanbdjmibjcbaa

/-
  What is proved: the law of a region that draws its order, by properties, where the blocks that some operations make are pairwise different; behind the head a tail in order.
-/
namespace Go
open Go.RowKit
variable {P : Program} {ops : Array Oper}

theorem wpAny_of_invT {w0 : World} {a : Act} {R : List (Value → World → Prop)} {Q : Exit → Act → World → Prop} {n : Nat} {ds : List (List Nat)} {dl : List (Option Tmp)} (hB : Region.invB ops n ds dl = true)
    (hheads0 : ∀ (listed : Array Bool) (i0 : Nat), HeadInv .any ops n listed → i0 < n → listed.getD i0 true = false → ∀ t ∈ Region.ready .any ops listed, t < n)
    (hR : ∀ i, Stays (R.getD i (fun _ _ => True)))
    {N : Nat → Value → World → Prop} {D : Nat → Nat → Value → Value → Prop} (hD : ∀ i j, i < n → j < n → i ≠ j → ∀ v u W, N i v W → R.getD j (fun _ _ => True) u W → D i j v u ∧ D j i u v)
    (hop : ∀ i o, i < n → ops[i]? = some o → ∀ W, w0.grows W → depQ dl R W (fun a' => o.goes P a' W (fun v W' => R.getD i (fun _ _ => True) v W' ∧ N i v W)) (ds.getD i []) a)
    (hK : ∀ val W, w0.grows W → (∀ i, i < n → R.getD i (fun _ _ => True) (val i) W) → (∀ i j, i < n → j < n → i ≠ j → D i j (val i) (val j)) → ∀ listed, HeadInv .any ops n listed → (∀ i, i < n → listed.getD i false = true) → wpAny P .any ops Q (ops.size - n) listed (putL dl val (List.range n) a) W) :
    ∀ (cnt : Nat) (L U : List Nat) (listed : Array Bool) (val : Nat → Value) (W : World), U.length = cnt → L.Nodup → U.Nodup → (∀ i, i ∈ L ↔ i < n ∧ listed.getD i false = true) → (∀ i, i ∈ U ↔ i < n ∧ listed.getD i false = false) →
      HeadInv .any ops n listed → w0.grows W → (∀ i ∈ L, R.getD i (fun _ _ => True) (val i) W) → (∀ i ∈ L, ∀ j ∈ L, i ≠ j → D i j (val i) (val j)) → wpAny P .any ops Q (cnt + (ops.size - n)) listed (putL dl val L a) W := by
  simp only [Region.invB, Bool.and_eq_true, decide_eq_true_eq] at hB
  obtain ⟨⟨hmix, hnle⟩, hall⟩ := hB
  simp only [Region.mixB, Bool.and_eq_true, decide_eq_true_eq] at hmix
  obtain ⟨⟨⟨hsel, _⟩, _⟩, hedge⟩ := hmix
  have hsp := Region.noSelect_spec hsel
  have spec : ∀ i o, i < n → ops[i]? = some o → o.guard = none ∧ dl.getD i none = o.dst ∧ (∀ j ∈ ds.getD i [], j < n ∧ Region.waitsFor .any ops i j = true) ∧ (ds.getD i []).Nodup ∧
      ∀ j, j < n → j ≠ i → (∀ d, dl.getD i none = some d → dl.getD j none ≠ some d) ∧ (j ∉ ds.getD i [] → ∀ d, dl.getD j none = some d → d ∉ o.looksAt ops) := by
    intro i o hi ho
    have h1 := List.all_eq_true.1 hall i (List.mem_range.2 hi)
    simp only [ho, Bool.and_eq_true, decide_eq_true_eq] at h1
    obtain ⟨⟨⟨⟨g1, g2⟩, g3⟩, g4⟩, g5⟩ := h1
    refine ⟨by simpa using g1, g2, fun j hj => ?_, g4, fun j hj hji => ?_⟩
    · have := List.all_eq_true.1 g3 j hj
      simpa using this
    · have h2 := List.all_eq_true.1 g5 j (List.mem_range.2 hj)
      simp only [Bool.or_eq_true, Bool.and_eq_true, decide_eq_true_eq] at h2
      rcases h2 with h2 | ⟨h2, h3⟩
      · exact absurd h2 hji
      · refine ⟨fun d hd hj' => ?_, fun hnd d hd => ?_⟩
        · rcases h2 with h2 | h2
          · rw [hd] at h2; cases h2
          · exact h2 (hj'.trans hd.symm)
        · rcases h3 with h3 | h3
          · exact absurd (by simpa using h3) hnd
          · rw [hd] at h3
            simpa using h3
  have edgeOf : ∀ i o, i < n → ops[i]? = some o → ∀ e ∈ o.after, Region.binds .any e = true → e.on < i := by
    intro i o hi ho e he hb
    have h1 := List.all_eq_true.1 hedge i (List.mem_range.2 hi)
    simp only [ho, Bool.and_eq_true] at h1
    have h2 := Array.all_eq_true_iff_forall_mem.1 h1.1 e he
    simpa only [hb, Bool.not_true, Bool.false_or, decide_eq_true_eq] using h2
  have unwait : ∀ (listed : Array Bool) (i j : Nat), i ∈ Region.ready .any ops listed → Region.waitsFor .any ops i j = true → listed.getD j false = true := by
    intro listed i j hi hw
    obtain ⟨oi, hoi, e, he, hb, hon⟩ := Region.waitsFor_spec hw
    obtain ⟨_, o', ho', hall⟩ := mem_ready.1 hi
    rw [hoi] at ho'; cases ho'
    have := hall e he hb
    rwa [hon] at this
  have at_lt : ∀ i, i < n → ∃ o, ops[i]? = some o := fun i hi => ⟨ops[i]'(by omega), Array.getElem?_eq_getElem (by omega)⟩
  have dst_ne : ∀ i, i < n → ∀ j, j < n → i ≠ j → ∀ d, dl.getD i none = some d → dl.getD j none ≠ some d := fun i hi j hj hij => by
    obtain ⟨o, ho⟩ := at_lt i hi
    exact ((spec i o hi ho).2.2.2.2 j hj (Ne.symm hij)).1
  intro cnt
  induction cnt with
  | zero =>
    intro L U listed val W hc hL hU hLm hUm inv hg hv hdd
    have he : U = [] := List.eq_nil_of_length_eq_zero hc
    have hl : ∀ i, i < n → listed.getD i false = true := fun i hi => by
      cases h : listed.getD i false with
      | true => rfl
      | false =>
        have := (hUm i).2 ⟨hi, h⟩
        rw [he] at this
        cases this
    have hp : L.Perm (List.range n) := (List.perm_ext_iff_of_nodup hL List.nodup_range).2 fun i => by
      rw [hLm, List.mem_range]
      exact ⟨fun h => h.1, fun h => ⟨h, hl i h⟩⟩
    rw [Nat.zero_add, putL_perm hp (fun i hi j hj hij => dst_ne i ((hLm i).1 hi).1 j ((hLm j).1 hj).1 hij)]
    exact hK val W hg (fun i hi => hv i ((hLm i).2 ⟨hi, hl i hi⟩)) (fun i j hi hj hij => hdd i ((hLm i).2 ⟨hi, hl i hi⟩) j ((hLm j).2 ⟨hj, hl j hj⟩) hij) listed inv hl
  | succ cnt ih =>
    intro L U listed val W hc hL hU hLm hUm inv hg hv hdd
    rw [show cnt + 1 + (ops.size - n) = (cnt + (ops.size - n)) + 1 by omega]
    obtain ⟨i0, hi0⟩ : ∃ i, i ∈ U := by
      cases U with
      | nil => simp at hc
      | cons x _ => exact ⟨x, List.mem_cons_self ..⟩
    have hi0' := (hUm i0).1 hi0
    have hheads := hheads0 listed i0 inv hi0'.1 (getD_in (by rw [inv.size]; omega) hi0'.2)
    have least : ∀ i, i < n → listed.getD i false = false → ∃ t, t ∈ Region.ready .any ops listed := by
      intro i
      induction i using Nat.strongRecOn with
      | _ i ih2 =>
        intro hi hl
        obtain ⟨o, ho⟩ := at_lt i hi
        by_cases h : ∃ e ∈ o.after, Region.binds .any e = true ∧ listed.getD e.on false = false
        · obtain ⟨e, he, hb, hel⟩ := h
          have := edgeOf i o hi ho e he hb
          exact ih2 e.on this (by omega) hel
        · refine ⟨i, mem_ready.2 ⟨getD_in (by rw [inv.size]; omega) hl, o, ho, fun e he hb => ?_⟩⟩
          cases hq : listed.getD e.on false with
          | true => rfl
          | false => exact absurd ⟨e, he, hb, hq⟩ h
    refine ⟨fun hnil => ?_, fun i hi => ?_⟩
    · exfalso
      obtain ⟨t, ht⟩ := least i0 hi0'.1 hi0'.2
      rw [hnil] at ht
      cases ht
    · have hin := hheads i hi
      have hl : listed.getD i false = false := getD_both (mem_ready.1 hi).1
      have inv' := inv.set hi hin
      obtain ⟨o, ho⟩ := at_lt i hin
      obtain ⟨sg, sd, sw, snd, sl⟩ := spec i o hin ho
      have set_ne : ∀ j, j ≠ i → (listed.setIfInBounds i true).getD j false = listed.getD j false := fun j hji => getD_set_ne false (Ne.symm hji)
      have set_self : (listed.setIfInBounds i true).getD i false = true := by
        have : i < listed.size := by rw [inv.size]; omega
        simp [this]
      have hiL : i ∉ L := fun h => by
        have := ((hLm i).1 h).2
        rw [hl] at this; cases this
      have hDL : ∀ j ∈ ds.getD i [], j ∈ L := fun j hj => (hLm j).2 ⟨(sw j hj).1, unwait listed i j hi (sw j hj).2⟩
      have hexec : execOp (putL dl val L a).eval o = execOp (putL dl val (ds.getD i []) a).eval o := by
        have hp : L.Perm (ds.getD i [] ++ L.filter fun j => !(ds.getD i []).contains j) := by
          refine (List.perm_ext_iff_of_nodup hL (List.nodup_append.2 ⟨snd, hL.filter _, fun x hx y hy e => ?_⟩)).2 fun j => ?_
          · subst e
            have h3 : (ds.getD i []).contains x = true := List.contains_iff_mem.2 hx
            have h4 := (List.mem_filter.1 hy).2
            simp only [h3] at h4
            cases h4
          · rw [List.mem_append, List.mem_filter]
            constructor
            · intro hj
              by_cases h : j ∈ ds.getD i []
              · exact .inl h
              · exact .inr ⟨hj, by simpa using h⟩
            · rintro (h | h)
              · exact hDL j h
              · exact h.1
        rw [putL_perm hp (fun i hi j hj hij => dst_ne i ((hLm i).1 hi).1 j ((hLm j).1 hj).1 hij), putL_append]
        refine execOp_putL (ops := ops) (fun cs b => hsp i o cs b ho) _ _ fun j hj d hd => ?_
        obtain ⟨h1, h2⟩ := List.mem_filter.1 hj
        refine (sl j ((hLm j).1 h1).1 (fun e => hiL (e ▸ h1))).2 (by simpa using h2) d hd
      have hgo := depQ_of (val := val) _ _ (hop i o hin ho W hg) (fun j hj => hv j (hDL j hj))
      have hrest : ∀ v W', W.grows W' → R.getD i (fun _ _ => True) v W' ∧ N i v W → wpAny P .any ops Q (cnt + (ops.size - n)) (listed.setIfInBounds i true) ((putL dl val L a).put o.dst v) W' := by
        intro v W' g hrn
        obtain ⟨hr, hnw⟩ := hrn
        have e : (putL dl val L a).put o.dst v = putL dl (fun k => if k = i then v else val k) (L ++ [i]) a := by
          rw [putL_append, putL_congr (val' := fun k => if k = i then v else val k) L a (fun j hj => (if_neg (fun h => hiL (by rw [← h]; exact hj))).symm)]
          simp only [putL, if_true, sd]
        rw [e]
        refine ih (L ++ [i]) (U.erase i) _ _ W' ?_ ?_ (hU.erase _) (fun j => ?_) (fun j => ?_) inv' (hg.trans g) (fun j hj => ?_) (fun j hj k hk hjk => ?_)
        · have := List.length_erase_of_mem ((hUm i).2 ⟨hin, hl⟩)
          omega
        · rw [List.nodup_append]
          refine ⟨hL, List.nodup_cons.2 ⟨by simp, List.nodup_nil⟩, fun x hx y hy e => ?_⟩
          rw [List.mem_singleton] at hy
          exact hiL (by rw [← hy, ← e]; exact hx)
        · rw [List.mem_append, List.mem_singleton, hLm]
          by_cases hji : j = i
          · subst hji
            simp [set_self, hin]
          · rw [set_ne j hji]
            simp [hji]
        · rw [hU.mem_erase_iff, hUm]
          by_cases hji : j = i
          · subst hji
            simp [set_self]
          · rw [set_ne j hji]
            simp [hji]
        · rcases List.mem_append.1 hj with hj | hj
          · have : j ≠ i := fun h => hiL (by rw [← h]; exact hj)
            show R.getD j _ (if j = i then v else val j) W'
            rw [if_neg this]
            exact hR j _ _ _ (hv j hj) g
          · rw [List.mem_singleton] at hj
            subst hj
            show R.getD j _ (if j = j then v else val j) W'
            rw [if_pos rfl]
            exact hr
        · show D j k (if j = i then v else val j) (if k = i then v else val k)
          rcases List.mem_append.1 hj with hj1 | hj1 <;> rcases List.mem_append.1 hk with hk1 | hk1
          · rw [if_neg (fun h => hiL (by rw [← h]; exact hj1)), if_neg (fun h => hiL (by rw [← h]; exact hk1))]
            exact hdd j hj1 k hk1 hjk
          · rw [List.mem_singleton] at hk1
            subst hk1
            rw [if_neg hjk, if_pos rfl]
            exact (hD k j hin ((hLm j).1 hj1).1 (Ne.symm hjk) v (val j) W hnw (hv j hj1)).2
          · rw [List.mem_singleton] at hj1
            subst hj1
            rw [if_pos rfl, if_neg (Ne.symm hjk)]
            exact (hD j k hin ((hLm k).1 hk1).1 hjk v (val k) W hnw (hv k hk1)).1
          · rw [List.mem_singleton] at hj1 hk1
            exact absurd (hj1.trans hk1.symm) hjk
      unfold wpOp
      simp only [ho]
      rw [if_pos (by simp [Region.wanted, sg])]
      refine .inl ?_
      unfold Oper.wp
      unfold Oper.goes at hgo
      rw [hexec]
      generalize (execOp (putL dl val (ds.getD i []) a).eval o).run P W = r at *
      cases r with
      | halt z w' => simp only [goesUpon] at hgo
      | ok nx w' =>
        cases nx <;> simp only [goesUpon] at hgo <;> simp only [Oper.upon]
        case value u => exact hrest _ _ hgo.1 hgo.2
        case skip => exact hrest _ _ hgo.1 hgo.2
        case enter f args =>
          obtain ⟨rfl, hcall⟩ := hgo
          refine hcall.mono fun e w'' ⟨v, he, g, hp⟩ => ?_
          subst he
          exact hrest _ _ g hp


def Region.invTailB (ops : Array Oper) (n : Nat) (ds : List (List Nat)) (dl : List (Option Tmp)) : Bool :=
  Region.invB ops n ds dl && (decide (n = ops.size) || (decide (n < ops.size) && Region.sinkB .any ops n && Region.chainB .any ops n)) &&
  Region.seqB .any ops (ops.size - n) n ((List.range ops.size).map fun i => decide (i < n)).toArray
/-- what is asked of the operations of the head; each may be asked to answer something new, too -/
def oblT (P : Program) (dl : List (Option Tmp)) (R : List (Value → World → Prop)) (w0 : World) (a : Act) : List (Oper × List Nat × (Value → World → Prop) × (Value → World → Prop)) → Prop
  | [] => True
  | (o, D, r, N) :: l => (∀ K : Value → World → Prop, ∀ n x, (∀ v W, r v W → N v (w0.plus n x) → K v W) → depQ dl R (w0.plus n x) (fun a' => o.goes P a' (w0.plus n x) K) D a) ∧ oblT P dl R w0 a l
theorem oblT_at {dl : List (Option Tmp)} {R : List (Value → World → Prop)} {w0 : World} {a : Act} : ∀ (l : List (Oper × List Nat × (Value → World → Prop) × (Value → World → Prop))), oblT P dl R w0 a l → ∀ (i : Nat) (o : Oper) (D : List Nat) (r N : Value → World → Prop), l[i]? = some (o, D, r, N) →
    ∀ W, w0.grows W → depQ dl R W (fun a' => Oper.goes P o a' W (fun v W' => r v W' ∧ N v W)) D a
  | [], _, i, o, D, r, N, h => by simp at h
  | _ :: l, hl, 0, o, D, r, N, h => by
    cases Option.some.inj h
    intro W hg
    obtain ⟨n, x, rfl⟩ := World.plus_of hg
    exact hl.1 _ n x (fun _ _ h1 h2 => ⟨h1, h2⟩)
  | _ :: l, hl, i + 1, o, D, r, N, h => oblT_at l hl.2 i o D r N (by simpa using h)
def zipT : List Oper → List (List Nat) → List (Value → World → Prop) → List (Value → World → Prop) → List (Oper × List Nat × (Value → World → Prop) × (Value → World → Prop))
  | o :: l, D :: ds, r :: R, m :: N => (o, D, r, m) :: zipT l ds R N
  | _, _, _, _ => []
theorem zipT_at : ∀ (l : List Oper) (ds : List (List Nat)) (R N : List (Value → World → Prop)), l.length ≤ ds.length → l.length ≤ R.length → l.length ≤ N.length → ∀ i o, l[i]? = some o → (zipT l ds R N)[i]? = some (o, ds.getD i [], R.getD i (fun _ _ => True), N.getD i (fun _ _ => True))
  | [], _, _, _, _, _, _, i, o, h => by simp at h
  | _ :: _, [], _, _, h1, _, _, _, _, _ => by simp at h1
  | _ :: _, _ :: _, [], _, _, h2, _, _, _, _ => by simp at h2
  | _ :: _, _ :: _, _ :: _, [], _, _, h3, _, _, _ => by simp at h3
  | x :: l, D :: ds, r :: R, m :: N, _, _, _, 0, o, h => by cases Option.some.inj h; rfl
  | x :: l, D :: ds, r :: R, m :: N, h1, h2, h3, i + 1, o, h => by
    have := zipT_at l ds R N (by simpa using h1) (by simpa using h2) (by simpa using h3) i o (by simpa using h)
    simpa [zipT] using this
/-- operations that make memory, each with a property that stays, and something new; behind them a tail in order -/
theorem wp_region_invT {id : Nat} {Q : Exit → Act → World → Prop} {a : Act} {w : World} {l : List Oper} (n : Nat) (ds : List (List Nat)) (dl : List (Option Tmp)) (R N : List (Value → World → Prop)) (D : Nat → Nat → Value → Value → Prop) (hm : P.follows .mixedOrders = true)
    (hB : (Region.invTailB l.toArray n ds dl && decide (n ≤ ds.length)) = true) (hn : n ≤ l.length) (hRn : n ≤ R.length) (hNn : n ≤ N.length) (hR : ∀ r ∈ R, Stays r)
    (hD : ∀ i j, i < n → j < n → i ≠ j → ∀ v u W, N.getD i (fun _ _ => True) v W → R.getD j (fun _ _ => True) u W → D i j v u ∧ D j i u v)
    (hop : oblT P dl R w a (zipT (l.take n) ds R N))
    (h : ∀ (val : Nat → Value) n' x, (∀ i, i < n → R.getD i (fun _ _ => True) (val i) (w.plus n' x)) → (∀ i j, i < n → j < n → i ≠ j → D i j (val i) (val j)) → wpList P l.toArray Q (l.drop n) (putL dl val (List.range n) a) (w.plus n' x)) : (Code.region id l.toArray true).wp P Q a w := by
  simp only [Region.invTailB, Bool.and_eq_true, Bool.or_eq_true, decide_eq_true_eq] at hB
  obtain ⟨⟨⟨hinv, hplan⟩, hseq⟩, hds⟩ := hB
  have hnle : n ≤ l.toArray.size := by simpa using hn
  refine wp_region_any hm ?_
  obtain ⟨n0, x0, h0⟩ := World.more_drew w
  rw [h0]
  have key := wpAny_of_invT (P := P) (ops := l.toArray) (w0 := w) (a := a) (R := R) (Q := Q) (n := n) (ds := ds) (dl := dl) hinv
    (fun listed i0 inv hi0 hun0 => by
      rcases hplan with h | ⟨⟨h1, h2⟩, h3⟩
      · subst h; exact heads_of_all listed
      · exact heads_of_tail h1 h2 h3 listed i0 inv hi0 hun0)
    (fun i => by
      rw [List.getD_eq_getElem?_getD]
      cases hi : R[i]? with
      | none => exact fun _ _ _ _ _ => trivial
      | some r => exact hR r (List.mem_of_getElem? hi))
    (N := fun i => N.getD i (fun _ _ => True)) (D := D) hD
    (fun i o hi ho W hg => oblT_at _ hop i o _ _ _ (zipT_at (l.take n) ds R N (by simp; omega) (by simp; omega) (by simp; omega) i o (by rw [List.getElem?_take, if_pos hi]; simpa using ho)) W hg)
    (fun val W hg hv hdd listed inv hall => by
      obtain ⟨n', x, rfl⟩ := World.plus_of hg
      have hl := seq_listed inv hnle hall
      subst hl
      have hd : (l.drop n).length = l.toArray.size - n := by simp
      have := wpAny_of_seq (Q' := Q) (l.drop n) n _ (putL dl val (List.range n) a) (w.plus n' x) (fun j => by simp [List.getElem?_drop]) (by rw [hd]; exact hseq) (h val n' x hv hdd)
      rwa [hd] at this)
    n [] (List.range n) (Array.replicate l.toArray.size false) (fun _ => undef) (w.plus n0 x0) (by simp) List.nodup_nil List.nodup_range
    (fun i => ⟨fun h => absurd h List.not_mem_nil, fun h => by rw [getD_replicate_false] at h; exact absurd h.2 (by decide)⟩)
    (fun i => by rw [List.mem_range, getD_replicate_false]; exact ⟨fun h => ⟨h, rfl⟩, fun h => h.1⟩)
    (headInv_start n) (World.grows_plus _ _ _) (fun i hi => by cases hi) (fun i hi => by cases hi)
  rw [show n + (l.toArray.size - n) = l.toArray.size by omega] at key
  exact key
end Go

/-
  What is proved: the kind of two visits, in the program (37).
-/
namespace Go.Proofs.Ytaanbdjmibjcbaa
open Go.RowKit
attribute [local irreducible] Go.wpCalm rowI
theorem ask0 {t : Town} {slow : Bool} {a b : Int} (h : askE t slow a b = 0) : t.check = 0 ∧ isV t.nv a = true ∧ isV t.nv b = true ∧ a ≠ b := by
  unfold askE at h
  split at h
  · rename_i h1; exact absurd h h1
  · rename_i h1
    split at h
    · rename_i h2
      simp only [Bool.and_eq_true, Bool.not_eq_true', decide_eq_false_iff_not] at h2
      exact ⟨by omega, h2.1.1, h2.1.2, h2.2⟩
    · cases h
/-- what is left after k rows where only one pair is held -/
def heldK (A : Nat → Nat → Bool) (a b k : Nat) : Nat → Nat → Bool := fun i j => if i < k ∧ i ≠ a then A i j && !(j == b) else A i j
theorem heldK_part {A : Nat → Nat → Bool} {a b k : Nat} (h : k ≠ a) (i j : Nat) : partA (heldK A a b k) k b i j = heldK A a b (k + 1) i j := by
  unfold partA heldK
  by_cases e : i = k
  · subst e
    rw [if_neg (by omega), if_pos ⟨by omega, h⟩]; simp
  · have e2 : (i == k) = false := by simpa using e
    rw [e2, Bool.false_and, Bool.not_false, Bool.and_true]
    by_cases e3 : i < k ∧ i ≠ a
    · rw [if_pos e3, if_pos ⟨by omega, e3.2⟩]
    · rw [if_neg e3, if_neg (fun h => e3 ⟨by omega, h.2⟩)]
theorem heldK_same {A : Nat → Nat → Bool} {a b : Nat} (i j : Nat) : heldK A a b a i j = heldK A a b (a + 1) i j := by
  unfold heldK
  by_cases e : i < a ∧ i ≠ a
  · rw [if_pos e, if_pos ⟨by omega, e.2⟩]
  · rw [if_neg e, if_neg (fun h => e ⟨by omega, h.2⟩)]
theorem heldK_end {A : Nat → Nat → Bool} {a b n N : Nat} (hN : 2 ^ b = N) (i k : Nat) (hi : i < n) : (if i = a then N.testBit k else heldK A a b n i k) = heldA A a b i k := by
  unfold heldA heldK
  by_cases e : i = a
  · rw [if_pos e, if_pos e, ← hN, Nat.testBit_two_pow]
    by_cases e2 : b = k
    · subst e2; simp
    · have : ¬ k = b := fun h => e2 h.symm
      simp [e2, this]
  · rw [if_neg e, if_neg e, if_pos ⟨hi, e⟩]
/-- two blocks for copies of a yard -/
def kV7 (c : Value) (v : Value) (_ : World) : Prop := v = c
def kA7 (n : Nat) (v : Value) (W : World) : Prop := ∃ b, v = .pointer (some ⟨b, 0, none⟩) ∧ n ≤ b ∧ W.heap[b]? = some (.cells Try.zeroCells85 85)
def kT7 (_ : Value) (_ : World) : Prop := True
def kN7 (v : Value) (W : World) : Prop := v = .pointer (some ⟨W.heap.size, 0, none⟩)
def kD7 (i j : Nat) (v u : Value) : Prop := 6 ≤ i → 6 ≤ j → v ≠ u
theorem st_kV7 (c : Value) : Stays (kV7 c) := fun _ _ _ h _ => h
theorem st_kA7 (n : Nat) : Stays (kA7 n) := fun _ _ _ h g => by
  obtain ⟨b, h1, h2, h3⟩ := h
  exact ⟨b, h1, h2, g.heap_of h3⟩
theorem kA7_ne {n : Nat} {v u : Value} {W : World} (h : kN7 v W) (h' : kA7 n u W) : v ≠ u := by
  obtain ⟨b, rfl, -, h2⟩ := h'
  unfold kN7 at h
  subst h
  intro e
  cases e
  exact absurd (World.lt_of_block h2) (by omega)
def R7 (p c : Value) (n : Nat) : List (Value → World → Prop) := [kV7 p, kV7 p, kV7 c, kV7 p, kV7 p, kV7 c, kA7 n, kA7 n]
def N7 : List (Value → World → Prop) := [kT7, kT7, kT7, kT7, kT7, kT7, kN7, kN7]
theorem hD7 (p c : Value) (n : Nat) : ∀ i j, i < 8 → j < 8 → i ≠ j → ∀ v u W, N7.getD i (fun _ _ => True) v W → (R7 p c n).getD j (fun _ _ => True) u W → kD7 i j v u ∧ kD7 j i u v := by
  intro i j hi hj hij v u W hN hR
  by_cases h6 : 6 ≤ i ∧ 6 ≤ j
  · have hN' : kN7 v W := by
      rcases (show i = 6 ∨ i = 7 by omega) with rfl | rfl <;> exact hN
    have hR' : kA7 n u W := by
      rcases (show j = 6 ∨ j = 7 by omega) with rfl | rfl <;> exact hR
    exact ⟨fun _ _ => kA7_ne hN' hR', fun _ _ e => kA7_ne hN' hR' e.symm⟩
  · exact ⟨fun h1 h2 => absurd ⟨h1, h2⟩ h6, fun h1 h2 => absurd ⟨h2, h1⟩ h6⟩
theorem R7_stays (p c : Value) (n : Nat) : ∀ r ∈ R7 p c n, Stays r := fun r hr => by
  simp only [R7, List.mem_cons, List.not_mem_nil, or_false] at hr
  rcases hr with rfl | rfl | rfl | rfl | rfl | rfl | rfl | rfl <;> first | exact st_kV7 _ | exact st_kA7 _
set_option maxRecDepth 100000 in
set_option maxHeartbeats 8000000 in
theorem kind_c (w : World) (tv : Value) (t : Town) (slow : Bool) (ht : TownAt w tv t) (a b : Int) : Calls Try.prog 37 #[tv, .int .i64 a, .int .i64 b, .bool slow] w fun e w' => e = .returned (.tuple #[.int .i64 (kindX t slow a b : Nat), .int .i64 (askE t slow a b : Nat)]) ∧ w.grows w' := by
  have Ht := Lib.hid ht
  obtain ⟨sv, vv, rfl, ⟨sa, sc, rfl, -⟩, ⟨va, vc, rfl, v1, v2, -⟩⟩ := ht
  unfold maxLen at v2
  have h71 := fun W (g : w.grows W) lv (hl : IntsAt W lv 2 (fun i => if i = 0 then a else b)) => ready2_c W _ t slow (Ht.out.mono g) a b lv hl
  obtain ⟨C, hC⟩ : ∃ C : Nat, askE t slow a b = C := ⟨_, rfl⟩
  have HC := Lib.hid hC
  rw [hC]
  simp only [hC] at h71
  clear hC
  go_enter Try.func37, Try.ntmps37
  go_wp2_with (go_at_call 99; fail)
  have h := h71 ((w.alloc (.cells #[.int .i64 t.pl, .slice sa t.ns sc, .slice va t.nv vc] 25)).alloc (.cells #[.int .i64 a, .int .i64 b] 3)) (by (repeat (first | exact World.grows.refl _ | assumption | refine World.grows.alloc ?_ _ | refine World.grows.plus ?_ _ _ | refine World.grows.drew ?_))) (.slice (some ⟨w.heap.size + 1, 0, none⟩) 2 2) (two_ints (w.alloc (.cells #[.int .i64 t.pl, .slice sa t.ns sc, .slice va t.nv vc] 25)) a b 3 (w.heap.size + 1) (by simp))
  refine h.mono ?_
  intro e W hR
  have hR' : RdyIs _ t slow C e W := hR
  clear hR
  unfold RdyIs at hR'
  by_cases hc0 : C = 0
  case neg =>
    rw [if_neg hc0] at hR'
    obtain ⟨rfl, g⟩ := hR'
    have gW : w.grows W := World.grows.trans (by (repeat (first | exact World.grows.refl _ | assumption | refine World.grows.alloc ?_ _ | refine World.grows.plus ?_ _ _ | refine World.grows.drew ?_))) g
    have HZ := Lib.hid (ask_ret HC.out hc0)
    clear g h71
    go_wp2
    (refine bodyPost_ret (v := .tuple #[.int .i64 0, .int .i64 (C : Int)]) (by simp [results, Try.results37, go_sem]) rfl ?_)
    exact ⟨ret_plan (a := 0) HZ.out.symm rfl, gW.trans (by (repeat (first | exact World.grows.refl _ | assumption | refine World.grows.alloc ?_ _ | refine World.grows.plus ?_ _ _ | refine World.grows.drew ?_)))⟩
  rw [if_pos hc0] at hR'
  subst hc0
  obtain ⟨y, rfl, g, hlt, hY⟩ := hR'
  obtain ⟨hc, p1, p2, hab⟩ := ask0 HC.out
  have Hok := Lib.hid (t.ok_iff.1 hc)
  have h16 := Hok.out.v16
  have HGW : Hid (w.grows W) := Lib.hid (World.grows.trans (by (repeat (first | exact World.grows.refl _ | assumption | refine World.grows.alloc ?_ _ | refine World.grows.plus ?_ _ _ | refine World.grows.drew ?_))) g)
  have HB : Hid (W.heap[w.heap.size]? = some (.cells #[.int .i64 t.pl, .slice sa t.ns sc, .slice va t.nv vc] 25)) := Lib.hid (World.grows.heap_of g (World.grows.heap_of (by (repeat (first | exact World.grows.refl _ | assumption | refine World.grows.alloc ?_ _ | refine World.grows.plus ?_ _ _ | refine World.grows.drew ?_))) (World.heap_at _ _ _ rfl)))
  have HK : Hid (kindX t slow a b = kindA (aft t slow) t.nv a.toNat b.toNat) := Lib.hid (by unfold kindX; rw [if_pos HC.out])
  have HY := Lib.hid hY
  simp only [Bool.and_eq_true, isV, decide_eq_true_eq] at p1 p2
  obtain ⟨A, rfl⟩ : ∃ A : Nat, a = A := ⟨a.toNat, by omega⟩
  obtain ⟨B, rfl⟩ : ∃ B : Nat, b = B := ⟨b.toNat, by omega⟩
  rw [Int.toNat_natCast, Int.toNat_natCast] at HK
  have hAn : A < t.nv := by omega
  have hBn : B < t.nv := by omega
  have hABn : A ≠ B := fun e => hab (by rw [e])
  have hA16 : A < 16 := by omega
  have hB16 : B < 16 := by omega
  have hAI : (A : Int) < 16 := by omega
  obtain ⟨sv2, va2, vc2, hy, vc2a, vc2b, -, ⟨sa2, sc2, rfl, -⟩⟩ := HY.out
  have HYa := Lib.hid hy
  have ca := hy.aft hA16
  obtain ⟨X, hX⟩ : ∃ X, bitsN (aft t slow A) t.nv = X := ⟨_, rfl⟩
  have hXl : X < 65536 := by rw [← hX]; exact bitsN_lt h16
  have hXb : X.testBit B = aft t slow A B := by rw [← hX, bitsN_bit, decide_eq_true hBn]; rfl
  rw [show aftF t slow t.nv A = (X : Int) by unfold aftF; rw [if_pos hAn, hX]] at ca
  obtain ⟨N, hN⟩ : ∃ N, 2 ^ B = N := ⟨_, rfl⟩
  have HN := Lib.hid hN
  have HVC := Lib.hid (And.intro vc2a vc2b)
  clear hX g h h71 hlt hab p1 p2 hY hy hc vc2a vc2b
  cases hr : aft t slow A B with
  | false =>
    have hand := bits_off hXl (by omega) hN (by rw [hXb, hr])
    have HZ : Hid (kindX t slow A B = 0) := Lib.hid (by rw [HK.out]; unfold kindA; rw [if_pos hr])
    clear hXl hXb hN hr
    go_upto_region 4 with fail
    (refine wp_region_chain 11 [7, 8, 9, 10] (by kernel_rfl) (by kernel_rfl) (by decide) ?_; simp only [without, only, withNo, List.take_succ_cons, List.take_zero, List.drop_succ_cons, List.drop_zero, List.take_nil, List.drop_nil, Nat.reduceAdd, Nat.reduceSub, List.filter, List.contains_cons, List.contains_nil, Nat.reduceBEq, Bool.or_false, Bool.false_or, Bool.true_or, Bool.or_true, Bool.or_self, Bool.not_true, Bool.not_false, List.map_cons, List.map_nil]; (repeat (refine wpCalm_step (fun K hK => ?_); go_simp; first | (refine hK _ ?_; clear hK K) | (apply Exists.intro; refine ⟨fun n' x' => ?_, hK _ ?_⟩; (fail); clear hK K))); refine wpCalm_nil ?_)
    ((refine wpChain_step (fun K hK nc xc => ?_); go_simp); refine ⟨by (repeat (first | exact World.grows.refl _ | assumption | refine World.grows.alloc ?_ _ | refine World.grows.plus ?_ _ _ | refine World.grows.drew ?_)), hK _ _ ?_⟩; clear hK K)
    ((refine wpChain_step (fun K hK nc xc => ?_); go_simp); refine (bit_c _ _ B hB16 (SliceAt.mono (one_slice _ _ _ _ (by simp)) (World.grows_plus _ _ _)) HN.out).mono ?_; rintro e W9 ⟨rfl, g⟩; refine ⟨_, rfl, g, hK _ _ ?_⟩; clear hK K; have g3 : (W).grows W9 := World.grows.trans (by (repeat (first | exact World.grows.refl _ | assumption | refine World.grows.alloc ?_ _ | refine World.grows.plus ?_ _ _ | refine World.grows.drew ?_))) g; clear g)
    ((refine wpChain_step (fun K hK nc xc => ?_); go_simp); refine ⟨World.grows.refl _, hK _ _ ?_⟩; clear hK K)
    ((refine wpChain_step (fun K hK nc xc => ?_); go_simp); refine ⟨World.grows.refl _, hK _ _ ?_⟩; clear hK K)
    (refine wpChain_nil (fun nc xc => ?_))
    clear ca
    go_wp2
    (refine bodyPost_ret (v := .tuple #[.int .i64 0, .int .i64 0]) (by simp [results, Try.results37, go_sem]) rfl ?_)
    exact ⟨ret_plan (a := 0) (b := 0) HZ.out.symm rfl, HGW.out.trans (g3.trans (by (repeat (first | exact World.grows.refl _ | assumption | refine World.grows.alloc ?_ _ | refine World.grows.plus ?_ _ _ | refine World.grows.drew ?_))))⟩
  | true =>
  obtain ⟨hand, hN0⟩ := bits_on hXl (by omega) hN (by rw [hXb, hr])
  have hN0I : ¬ (N : Int) = 0 := by omega
  have HR1 := Lib.hid hr
  have HK2 : Hid (kindX t slow A B = if mm (partA (aft t slow) A B) t.nv < mm (aft t slow) t.nv then 2 else if mm (heldA (aft t slow) A B) t.nv = mm (aft t slow) t.nv then 1 else 0) := Lib.hid (by rw [HK.out]; unfold kindA; rw [if_neg (by rw [hr]; decide)])
  clear hXl hXb hN hr HK
  go_upto_region 4 with fail
  (refine wp_region_chain 11 [7, 8, 9, 10] (by kernel_rfl) (by kernel_rfl) (by decide) ?_; simp only [without, only, withNo, List.take_succ_cons, List.take_zero, List.drop_succ_cons, List.drop_zero, List.take_nil, List.drop_nil, Nat.reduceAdd, Nat.reduceSub, List.filter, List.contains_cons, List.contains_nil, Nat.reduceBEq, Bool.or_false, Bool.false_or, Bool.true_or, Bool.or_true, Bool.or_self, Bool.not_true, Bool.not_false, List.map_cons, List.map_nil]; (repeat (refine wpCalm_step (fun K hK => ?_); go_simp; first | (refine hK _ ?_; clear hK K) | (apply Exists.intro; refine ⟨fun n' x' => ?_, hK _ ?_⟩; (fail); clear hK K))); refine wpCalm_nil ?_)
  ((refine wpChain_step (fun K hK nc xc => ?_); go_simp); refine ⟨by (repeat (first | exact World.grows.refl _ | assumption | refine World.grows.alloc ?_ _ | refine World.grows.plus ?_ _ _ | refine World.grows.drew ?_)), hK _ _ ?_⟩; clear hK K)
  ((refine wpChain_step (fun K hK nc xc => ?_); go_simp); refine (bit_c _ _ B hB16 (SliceAt.mono (one_slice _ _ _ _ (by simp)) (World.grows_plus _ _ _)) HN.out).mono ?_; rintro e W9 ⟨rfl, g⟩; refine ⟨_, rfl, g, hK _ _ ?_⟩; clear hK K; have g3 : (W).grows W9 := World.grows.trans (by (repeat (first | exact World.grows.refl _ | assumption | refine World.grows.alloc ?_ _ | refine World.grows.plus ?_ _ _ | refine World.grows.drew ?_))) g; clear g)
  ((refine wpChain_step (fun K hK nc xc => ?_); go_simp); refine ⟨World.grows.refl _, hK _ _ ?_⟩; clear hK K)
  ((refine wpChain_step (fun K hK nc xc => ?_); go_simp); refine ⟨World.grows.refl _, hK _ _ ?_⟩; clear hK K)
  (refine wpChain_nil (fun nc xc => ?_))
  rename_i n1 x1 n2 x2
  have gV : W.grows (((W9.plus n1 x1).plus n2 x2).plus nc xc) := g3.trans (by (repeat (first | exact World.grows.refl _ | assumption | refine World.grows.alloc ?_ _ | refine World.grows.plus ?_ _ _ | refine World.grows.drew ?_)))
  generalize (((W9.plus n1 x1).plus n2 x2).plus nc xc) = V at gV ⊢
  replace HGW := Lib.hid (HGW.out.trans gV)
  replace HB := Lib.hid (gV.heap_of HB.out)
  replace HYa := Lib.hid (HYa.out.grow gV)
  clear ca g3 gV hand HY
  go_wp2_with (go_at_call 99; fail)
  refine (join_c V y t.nv (aftF t slow t.nv) (aft t slow) ⟨_, _, _, _, _, HYa.out, HVC.out.1, HVC.out.2⟩ (rows_aft t slow h16) h16).mono ?_
  rintro e V2 ⟨jb, m, rfl, g4, hmb, hJ, -⟩
  have hlen := len105 hmb 3
  rw [hJ.many] at hlen
  obtain ⟨M0, hM0⟩ : ∃ M0, mm (aft t slow) t.nv = M0 := ⟨_, rfl⟩
  have hM0l : M0 ≤ 16 := by have := mm_le (aft t slow) t.nv; omega
  rw [hM0] at hlen HK2
  replace HGW := Lib.hid (HGW.out.trans g4)
  replace HB := Lib.hid (g4.heap_of HB.out)
  replace HYa := Lib.hid (HYa.out.grow g4)
  clear g4 hmb hJ hM0 hN0 hN0I
  have hwl : w.heap.size < V2.heap.size := World.lt_of_block HB.out
  go_upto_region 7 with fail
  clear hlen
  obtain ⟨cY, hcY⟩ : ∃ cY, yardC (.int .i64 t.pl) (.slice sa2 t.ns sc2) (.slice va2 t.nv vc2) (wayP t slow) (aftF t slow t.nv) = cY := ⟨_, rfl⟩
  have hYb : V2.heap[y]? = some (.cells cY 85) := by rw [← hcY]; exact HYa.out
  have hYs : cY.size = 83 := by rw [← hcY]; exact yardC_size _ _ _ _ _
  refine wp_region_invT 8 [[], [0], [1], [], [3], [4], [], []] [some 42, some 43, some 44, some 45, some 46, some 47, some 13, some 14] (R7 (.pointer (some ⟨y, 0, none⟩)) (.agg cY) V2.heap.size) N7 kD7 (by kernel_rfl) (by kernel_rfl) (by decide) (by simp [R7]) (by simp [N7]) (R7_stays _ _ _) (hD7 _ _ _) ?_ ?_
  · simp only [List.take_succ_cons, List.take_zero, R7, N7, zipT, oblT, depQ, List.getD_cons_zero, List.getD_cons_succ, and_true]
    refine ⟨?_, ?_, ?_, ?_, ?_, ?_, ?_, ?_⟩
    · intro K nc xc hK
      go_simp
      exact ⟨World.grows.refl _, hK _ _ rfl trivial⟩
    · intro K nc xc hK v0 h0
      obtain rfl : v0 = _ := h0
      go_simp
      exact ⟨World.grows.refl _, hK _ _ rfl trivial⟩
    · intro K nc xc hK v0 h0
      obtain rfl : v0 = _ := h0
      exact goes_load85 (.tmp 43) rfl (by rfl) ((World.grows_plus V2 nc xc).heap_of hYb) hYs (hK _ _ rfl trivial)
    · intro K nc xc hK
      go_simp
      exact ⟨World.grows.refl _, hK _ _ rfl trivial⟩
    · intro K nc xc hK v0 h0
      obtain rfl : v0 = _ := h0
      go_simp
      exact ⟨World.grows.refl _, hK _ _ rfl trivial⟩
    · intro K nc xc hK v0 h0
      obtain rfl : v0 = _ := h0
      exact goes_load85 (.tmp 46) rfl (by rfl) ((World.grows_plus V2 nc xc).heap_of hYb) hYs (hK _ _ rfl trivial)
    · intro K nc xc hK
      go_simp
      exact ⟨by (repeat (first | exact World.grows.refl _ | assumption | refine World.grows.alloc ?_ _ | refine World.grows.plus ?_ _ _ | refine World.grows.drew ?_)), hK _ _ ⟨_, rfl, by simp, World.heap_at _ _ _ (by simp)⟩ (by unfold kN7; simp)⟩
    · intro K nc xc hK
      go_simp
      exact ⟨by (repeat (first | exact World.grows.refl _ | assumption | refine World.grows.alloc ?_ _ | refine World.grows.plus ?_ _ _ | refine World.grows.drew ?_)), hK _ _ ⟨_, rfl, by simp, World.heap_at _ _ _ (by simp)⟩ (by unfold kN7; simp)⟩
  · intro val nc xc hv hd
    have e2 : val 2 = .agg cY := hv 2 (by omega)
    have e5 : val 5 = .agg cY := hv 5 (by omega)
    obtain ⟨b1, e6, s1, k1⟩ := hv 6 (by omega)
    obtain ⟨b2, e7, s2, k2⟩ := hv 7 (by omega)
    have hb12 : b1 ≠ b2 := fun e => hd 6 7 (by omega) (by omega) (by omega) (by omega) (by omega) (by rw [e6, e7, e])
    have e0 : val 0 = .pointer (some ⟨y, 0, none⟩) := hv 0 (by omega)
    have e1 : val 1 = .pointer (some ⟨y, 0, none⟩) := hv 1 (by omega)
    have e3 : val 3 = .pointer (some ⟨y, 0, none⟩) := hv 3 (by omega)
    have e4 : val 4 = .pointer (some ⟨y, 0, none⟩) := hv 4 (by omega)
    have gN := World.grows_plus V2 nc xc
    clear hv hd
    generalize V2.plus nc xc = V3 at k1 k2 gN ⊢
    rw [show List.range 8 = [0, 1, 2, 3, 4, 5, 6, 7] from rfl]
    simp only [putL, List.getD_cons_zero, List.getD_cons_succ, e0, e1, e2, e3, e4, e5, e6, e7, List.drop_succ_cons, List.drop_zero]
    have hone : cY.all (·.oneCell') = true := by
      rw [← hcY]
      exact yardC_one rfl rfl rfl _ _
    refine wpList_store_row rfl 85 (.tmp 13) (.tmp 44) rfl b1 _ cY k1 (by simp [go_sem]) (by simp [go_sem]) (by rw [s85, hYs]) (by rw [zc85_size, hYs]) hone ?_
    refine wpList_store_row rfl 85 (.tmp 14) (.tmp 47) rfl b2 _ cY (by rw [World.putObj_heap_other (Ne.symm hb12)]; exact k2) (by simp [go_sem]) (by simp [go_sem]) (by rw [s85, hYs]) (by rw [zc85_size, hYs]) hone ?_
    refine wpList_nil ?_
    have gV4 : V2.grows ((V3.putObj b1 (.cells cY 85)).putObj b2 (.cells cY 85)) := World.putObj_grows (World.putObj_grows gN _ s1) _ s2
    have hy1 : ((V3.putObj b1 (.cells cY 85)).putObj b2 (.cells cY 85)).heap[b1]? = some (.cells cY 85) := by rw [World.putObj_heap_other hb12]; exact World.putObj_heap_same (World.lt_of_block k1)
    have hy2 : ((V3.putObj b1 (.cells cY 85)).putObj b2 (.cells cY 85)).heap[b2]? = some (.cells cY 85) := World.putObj_heap_same (by simpa using World.lt_of_block k2)
    generalize ((V3.putObj b1 (.cells cY 85)).putObj b2 (.cells cY 85)) = V4 at gV4 hy1 hy2 ⊢
    have HY1 : Hid (YardAt V4 b1 t.pl (.slice sa2 t.ns sc2) (.slice va2 t.nv vc2) (wayP t slow) (aftF t slow t.nv)) := Lib.hid (by rw [← hcY] at hy1; exact hy1)
    have HY2 : Hid (YardAt V4 b2 t.pl (.slice sa2 t.ns sc2) (.slice va2 t.nv vc2) (wayP t slow) (aftF t slow t.nv)) := Lib.hid (by rw [← hcY] at hy2; exact hy2)
    replace HGW := Lib.hid (HGW.out.trans gV4)
    replace HB := Lib.hid (gV4.heap_of HB.out)
    obtain ⟨B0, Z, hB0, hZ, hR8⟩ := (rows16_aft t slow h16).part hA16 (show B ≤ 16 by omega) HN.out
    have ca := HY2.out.aft hA16
    rw [hB0] at ca
    have HR8 := Lib.hid hR8
    clear hB0 hR8 e0 e1 e2 e3 e4 e5 e6 e7 k1 k2 hone hcY hYb hYs gN gV4 hy1 hy2
    go_upto_region 8 with fail
    (refine wp_region_chain 9 [5, 6, 7] (by kernel_rfl) (by kernel_rfl) (by decide) ?_; simp only [without, only, withNo, List.take_succ_cons, List.take_zero, List.drop_succ_cons, List.drop_zero, List.take_nil, List.drop_nil, Nat.reduceAdd, Nat.reduceSub, List.filter, List.contains_cons, List.contains_nil, Nat.reduceBEq, Bool.or_false, Bool.false_or, Bool.true_or, Bool.or_true, Bool.or_self, Bool.not_true, Bool.not_false, List.map_cons, List.map_nil]; (repeat (refine wpCalm_step (fun K hK => ?_); go_simp; first | (refine hK _ ?_; clear hK K) | (apply Exists.intro; refine ⟨fun n' x' => ?_, hK _ ?_⟩; (fail); clear hK K))); refine wpCalm_nil ?_)
    ((refine wpChain_step (fun K hK nc xc => ?_); go_simp); refine ⟨by (repeat (first | exact World.grows.refl _ | assumption | refine World.grows.alloc ?_ _ | refine World.grows.plus ?_ _ _ | refine World.grows.drew ?_)), hK _ _ ?_⟩; clear hK K)
    ((refine wpChain_step (fun K hK nc xc => ?_); go_simp); refine (bit_c _ _ B hB16 (SliceAt.mono (one_slice _ _ _ _ (by simp)) (World.grows_plus _ _ _)) HN.out).mono ?_; rintro e W9 ⟨rfl, g⟩; refine ⟨_, rfl, g, hK _ _ ?_⟩; clear hK K; have g3 : (V4).grows W9 := World.grows.trans (by (repeat (first | exact World.grows.refl _ | assumption | refine World.grows.alloc ?_ _ | refine World.grows.plus ?_ _ _ | refine World.grows.drew ?_))) g; clear g)
    ((refine wpChain_step (fun K hK nc xc => ?_); go_simp); refine ⟨World.grows.refl _, hK _ _ ?_⟩; clear hK K)
    (refine wpChain_nil (fun nc xc => ?_))
    rename_i n9 x9
    have gV : V4.grows ((W9.plus n9 x9).plus nc xc) := g3.trans (by (repeat (first | exact World.grows.refl _ | assumption | refine World.grows.alloc ?_ _ | refine World.grows.plus ?_ _ _ | refine World.grows.drew ?_)))
    generalize ((W9.plus n9 x9).plus nc xc) = V5 at gV ⊢
    replace HGW := Lib.hid (HGW.out.trans gV)
    replace HB := Lib.hid (gV.heap_of HB.out)
    replace HY1 := Lib.hid (HY1.out.grow gV)
    replace HY2 := Lib.hid (HY2.out.grow gV)
    have fa := HY2.out.fz (67 + A)
    have ca := HY2.out.aft hA16
    have HYs2 := Lib.hid (HY2.out.setAft hA16 (Z : Int))
    have HYs1 := Lib.hid (HY1.out.other (b := b2) (i := 67 + A) (v := .int .i64 (Z : Int)) (Ne.symm hb12))
    have HGs := Lib.hid (HGW.out.setCell (p := ⟨b2, 67 + A, none⟩) (show w.heap.size ≤ b2 by omega) (.int .i64 (Z : Int)))
    have HBs := Lib.hid ((World.heap_setCell_map V5 ⟨b2, 67 + A, none⟩ (.int .i64 (Z : Int)) w.heap.size (show b2 ≠ w.heap.size by omega)).trans HB.out)
    clear HGW HB HY1 HY2 gV g3
    generalize hV6 : V5.setCell ⟨b2, 67 + A, none⟩ (.int .i64 (Z : Int)) = V6 at HYs2 HYs1 HGs HBs
    go_upto_region 9 with fail
    clear hV6 fa ca
    have HRa : Hid (Rows16 (aftF t slow t.nv) (heldK (aft t slow) A B 0) t.nv) := Lib.hid ((rows16_aft t slow h16).congr fun i k _ _ => by unfold heldK; rw [if_neg (by omega)])
    have q2 : V6.cell? ⟨w.heap.size, 2, none⟩ = some (.slice va t.nv vc) := cell_of_heap HBs.out rfl
    go_wp2
    clear q2
    go_loopw [61] (fun i wr => ∃ (k : Nat) (F' : Nat → Int), k ≤ t.nv ∧ i = .int .i64 k ∧ Hid (YardAt wr b1 t.pl (.slice sa2 t.ns sc2) (.slice va2 t.nv vc2) (wayP t slow) F') ∧ Hid (Rows16 F' (heldK (aft t slow) A B k) t.nv) ∧ Hid (YardAt wr b2 t.pl (.slice sa2 t.ns sc2) (.slice va2 t.nv vc2) (wayP t slow) (updI (aftF t slow t.nv) A (Z : Int))) ∧ Hid (w.grows wr) ∧ Hid (wr.heap[w.heap.size]? = some (.cells #[.int .i64 t.pl, .slice sa t.ns sc, .slice va t.nv vc] 25))) (fun i _ => t.nv - (intOf i).toNat)
    case atStart => exact ⟨0, _, by omega, rfl, HYs1, HRa, HYs2, HGs, HBs⟩
    case round =>
      clear HYs1 HRa HYs2 HGs HBs
      obtain ⟨k, F', hk, rfl, hy1, hr1, hy2, hg, hb⟩ := hrel
      by_cases hlt : k < t.nv
      · have hkI : (k : Int) < t.nv := by omega
        by_cases hkA : k = A
        · have HR2 : Hid (Rows16 F' (heldK (aft t slow) A B (k + 1)) t.nv) := Lib.hid (hr1.out.congr fun i j _ _ => by rw [hkA]; exact heldK_same i j)
          subst hkA
          go_wp2
          exact ⟨⟨k + 1, F', by omega, by go_num, hy1, HR2, hy2, hg, hb⟩, by simp [intOf]; omega⟩
        · have hkAI : ¬ (k : Int) = A := by omega
          obtain ⟨B1, Z1, hB1, hZ1, hR9⟩ := hr1.out.part (show k < 16 by omega) (show B ≤ 16 by omega) HN.out
          have HR2 : Hid (Rows16 (updI F' k (Z1 : Int)) (heldK (aft t slow) A B (k + 1)) t.nv) := Lib.hid (hR9.congr fun i j _ _ => heldK_part hkA i j)
          have ca := hy1.out.aft (show k < 16 by omega)
          rw [hB1] at ca
          have hk16 : k < 16 := by omega
          have hkI16 : (k : Int) < 16 := by omega
          clear hB1 hR9 hr1
          go_upto_region 13 with fail
          (refine wp_region_chain 9 [5, 6, 7] (by kernel_rfl) (by kernel_rfl) (by decide) ?_; simp only [without, only, withNo, List.take_succ_cons, List.take_zero, List.drop_succ_cons, List.drop_zero, List.take_nil, List.drop_nil, Nat.reduceAdd, Nat.reduceSub, List.filter, List.contains_cons, List.contains_nil, Nat.reduceBEq, Bool.or_false, Bool.false_or, Bool.true_or, Bool.or_true, Bool.or_self, Bool.not_true, Bool.not_false, List.map_cons, List.map_nil]; (repeat (refine wpCalm_step (fun K hK => ?_); go_simp; first | (refine hK _ ?_; clear hK K) | (apply Exists.intro; refine ⟨fun n' x' => ?_, hK _ ?_⟩; (fail); clear hK K))); refine wpCalm_nil ?_)
          ((refine wpChain_step (fun K hK nc xc => ?_); go_simp); refine ⟨by (repeat (first | exact World.grows.refl _ | assumption | refine World.grows.alloc ?_ _ | refine World.grows.plus ?_ _ _ | refine World.grows.drew ?_)), hK _ _ ?_⟩; clear hK K)
          ((refine wpChain_step (fun K hK nc xc => ?_); go_simp); refine (bit_c _ _ B hB16 (SliceAt.mono (one_slice _ _ _ _ (by simp)) (World.grows_plus _ _ _)) HN.out).mono ?_; rintro e W9 ⟨rfl, g⟩; refine ⟨_, rfl, g, hK _ _ ?_⟩; clear hK K; have g3 : (wr).grows W9 := World.grows.trans (by (repeat (first | exact World.grows.refl _ | assumption | refine World.grows.alloc ?_ _ | refine World.grows.plus ?_ _ _ | refine World.grows.drew ?_))) g; clear g)
          ((refine wpChain_step (fun K hK nc xc => ?_); go_simp); refine ⟨World.grows.refl _, hK _ _ ?_⟩; clear hK K)
          (refine wpChain_nil (fun nc xc => ?_))
          rename_i n9 x9
          have gV : wr.grows ((W9.plus n9 x9).plus nc xc) := g3.trans (by (repeat (first | exact World.grows.refl _ | assumption | refine World.grows.alloc ?_ _ | refine World.grows.plus ?_ _ _ | refine World.grows.drew ?_)))
          generalize ((W9.plus n9 x9).plus nc xc) = V5 at gV ⊢
          replace hg := Lib.hid (hg.out.trans gV)
          replace hb := Lib.hid (gV.heap_of hb.out)
          replace hy1 := Lib.hid (hy1.out.grow gV)
          replace hy2 := Lib.hid (hy2.out.grow gV)
          have fa := hy1.out.fz (67 + k)
          have ca := hy1.out.aft hk16
          have hs1 := Lib.hid (hy1.out.setAft hk16 (Z1 : Int))
          have hs2 := Lib.hid (hy2.out.other (b := b1) (i := 67 + k) (v := .int .i64 (Z1 : Int)) hb12)
          have hsg := Lib.hid (hg.out.setCell (p := ⟨b1, 67 + k, none⟩) (show w.heap.size ≤ b1 by omega) (.int .i64 (Z1 : Int)))
          have hsb := Lib.hid ((World.heap_setCell_map V5 ⟨b1, 67 + k, none⟩ (.int .i64 (Z1 : Int)) w.heap.size (show b1 ≠ w.heap.size by omega)).trans hb.out)
          clear hg hb hy1 hy2 gV g3
          go_wp2
          exact ⟨⟨k + 1, _, by omega, by go_num, hs1, HR2, hs2, hsg, hsb⟩, by simp [intOf]; omega⟩
      · have hke : k = t.nv := by omega
        subst hke
        have HR2 : Hid (Rows16 (updI F' A (N : Int)) (heldA (aft t slow) A B) t.nv) := Lib.hid ((hr1.out.row A (Z := N) (by rw [← HN.out]; exact Nat.lt_of_lt_of_le (Nat.pow_lt_pow_right (by omega) hB16) (by decide))).congr fun i k hi _ => heldK_end HN.out i k hi)
        clear hr1
        go_wp2_with (go_at_call 99; fail)
        refine (bit_c _ _ B hB16 (SliceAt.mono (one_slice wr _ _ _ (by simp)) (World.grows.refl _)) HN.out).mono ?_
        rintro e V5 ⟨rfl, g3⟩
        have gV : wr.grows V5 := World.grows.trans (by (repeat (first | exact World.grows.refl _ | assumption | refine World.grows.alloc ?_ _ | refine World.grows.plus ?_ _ _ | refine World.grows.drew ?_))) g3
        replace hg := Lib.hid (hg.out.trans gV)
        replace hy1 := Lib.hid (hy1.out.grow gV)
        replace hy2 := Lib.hid (hy2.out.grow gV)
        have fa := hy1.out.fz (67 + A)
        have ca := hy1.out.aft hA16
        have hs1 := Lib.hid (hy1.out.setAft hA16 (N : Int))
        have hs2 := Lib.hid (hy2.out.other (b := b1) (i := 67 + A) (v := .int .i64 (N : Int)) hb12)
        have hsg := Lib.hid (hg.out.setCell (p := ⟨b1, 67 + A, none⟩) (show w.heap.size ≤ b1 by omega) (.int .i64 (N : Int)))
        clear hg hb hy1 hy2 gV g3
        generalize hV6 : V5.setCell ⟨b1, 67 + A, none⟩ (.int .i64 (N : Int)) = V6 at hs1 hs2 hsg
        go_upto_region 16 with fail
        clear hV6 fa ca
        go_wp2_with (go_at_call 99; fail)
        refine (join_c V6 b2 t.nv _ (partA (aft t slow) A B) ⟨_, _, _, _, _, hs2.out, HVC.out.1, HVC.out.2⟩ (HR8.out.rows h16) h16).mono ?_
        rintro e V7 ⟨jb1, m1, rfl, g7, hmb, hJ, -⟩
        have hlen := len105 hmb 3
        rw [hJ.many] at hlen
        obtain ⟨M1, hM1⟩ : ∃ M1, mm (partA (aft t slow) A B) t.nv = M1 := ⟨_, rfl⟩
        have hM1l : M1 ≤ 16 := by have := mm_le (partA (aft t slow) A B) t.nv; omega
        rw [hM1] at hlen HK2
        replace hsg := Lib.hid (hsg.out.trans g7)
        replace hs1 := Lib.hid (hs1.out.grow g7)
        clear g7 hmb hJ hM1 hs2
        by_cases h01 : M1 < M0
        · have h01I : (M1 : Int) < M0 := by omega
          have HZ : Hid (kindX t slow A B = 2) := Lib.hid (by rw [HK2.out, if_pos h01])
          go_wp2
          (refine bodyPost_ret (v := .tuple #[.int .i64 2, .int .i64 0]) (by simp [results, Try.results37, go_sem]) rfl ?_)
          exact ⟨ret_plan (a := 2) (b := 0) HZ.out.symm rfl, hsg.out.trans (by (repeat (first | exact World.grows.refl _ | assumption | refine World.grows.alloc ?_ _ | refine World.grows.plus ?_ _ _ | refine World.grows.drew ?_)))⟩
        have h01I : ¬ (M1 : Int) < M0 := by omega
        have HK3 : Hid (kindX t slow A B = if mm (heldA (aft t slow) A B) t.nv = M0 then 1 else 0) := Lib.hid (by rw [HK2.out, if_neg h01])
        clear HK2
        go_wp2_with (go_at_call 99; fail)
        refine (join_c V7 b1 t.nv _ (heldA (aft t slow) A B) ⟨_, _, _, _, _, hs1.out, HVC.out.1, HVC.out.2⟩ (HR2.out.rows h16) h16).mono ?_
        rintro e V8 ⟨jb2, m2, rfl, g8, hmb2, hJ2, -⟩
        have hlen2 := len105 hmb2 3
        rw [hJ2.many] at hlen2
        obtain ⟨M2, hM2⟩ : ∃ M2, mm (heldA (aft t slow) A B) t.nv = M2 := ⟨_, rfl⟩
        rw [hM2] at hlen2 HK3
        replace hsg := Lib.hid (hsg.out.trans g8)
        clear g8 hmb2 hJ2 hM2 hs1 hlen
        by_cases h02 : M2 = M0
        · have HZ : Hid (kindX t slow A B = 1) := Lib.hid (by rw [HK3.out, if_pos h02])
          subst h02
          go_wp2
          (refine bodyPost_ret (v := .tuple #[.int .i64 1, .int .i64 0]) (by simp [results, Try.results37, go_sem]) rfl ?_)
          exact ⟨ret_plan (a := 1) (b := 0) HZ.out.symm rfl, hsg.out.trans (by (repeat (first | exact World.grows.refl _ | assumption | refine World.grows.alloc ?_ _ | refine World.grows.plus ?_ _ _ | refine World.grows.drew ?_)))⟩
        · have h02I : ¬ (M2 : Int) = M0 := by omega
          have HZ : Hid (kindX t slow A B = 0) := Lib.hid (by rw [HK3.out, if_neg h02])
          go_wp2
          (refine bodyPost_ret (v := .tuple #[.int .i64 0, .int .i64 0]) (by simp [results, Try.results37, go_sem]) rfl ?_)
          exact ⟨ret_plan (a := 0) (b := 0) HZ.out.symm rfl, hsg.out.trans (by (repeat (first | exact World.grows.refl _ | assumption | refine World.grows.alloc ?_ _ | refine World.grows.plus ?_ _ _ | refine World.grows.drew ?_)))⟩
end Go.Proofs.Ytaanbdjmibjcbaa

