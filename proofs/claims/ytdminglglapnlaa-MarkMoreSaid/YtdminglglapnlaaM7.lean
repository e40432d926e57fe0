/-
  What is proved: a row of whole numbers in a block, as a function of the place.
-/
import Derived.Test.YtdminglglapnlaaM1
import Derived.Test.YtdminglglapnlaaM6
set_option linter.all false
namespace Go
open Go.RowKit

def updI (f : Nat → Int) (i : Nat) (x : Int) : Nat → Int := fun k => if k = i then x else f k
def rowI (n : Nat) (f : Nat → Int) : Array Value := ((List.range n).map fun i => Value.int .i64 (f i)).toArray
@[go_sem] theorem rowI_size (n : Nat) (f : Nat → Int) : (rowI n f).size = n := by simp [rowI]
@[go_sem] theorem rowI_get (n : Nat) (f : Nat → Int) (i : Nat) (h : i < n) : (rowI n f)[i]? = some (.int .i64 (f i)) := by
  simp [rowI, h]
@[go_sem] theorem rowI_getElem (n : Nat) (f : Nat → Int) (i : Nat) (h : i < (rowI n f).size) : (rowI n f)[i]'h = .int .i64 (f i) := by
  simp [rowI]
@[go_sem] theorem rowI_set (n : Nat) (f : Nat → Int) (i : Nat) (x : Int) (h : i < n) : (rowI n f).setIfInBounds i (.int .i64 x) = rowI n (updI f i x) := by
  unfold rowI updI
  apply Array.ext_getElem?
  intro k
  rw [Array.getElem?_setIfInBounds]
  by_cases hk : k < n
  · by_cases hki : i = k
    · subst hki; simp [h]
    · simp [hk, hki, Ne.symm hki]
  · by_cases hki : i = k
    · omega
    · simp [hk, hki]
theorem rowI_congr {n : Nat} {f g : Nat → Int} (h : ∀ i, i < n → f i = g i) : rowI n f = rowI n g := by
  unfold rowI
  congr 1
  apply List.map_congr_left
  intro i hi
  rw [h i (by simpa using hi)]
theorem rowI_rowA (n : Nat) (f : Nat → Nat) : rowA n f = rowI n (fun i => (f i : Int)) := rfl
theorem run_make_rowI {P : Program} (w : World) (t e : TypeId) (bytes : Nat) (ht : P.underlying t = some (.slice e)) (hi : P.knows e (.int .i64 0) 1 bytes) (n : Nat) (hb : bytes * n ≤ 281474976710656) (hn : n ≤ 9223372036854775807) :
    (Instr.makeSlice t (.int .i64 n) (.int .i64 n)).run P w = .ok (.slice (some ⟨w.heap.size, 0, none⟩) n n) (w.alloc (.cells (rowI n fun _ => 0) e)) := by
  rw [run_make_row w t e bytes ht hi n hb hn]; rfl
theorem rowI_ints (w : World) (n : Nat) (p : Nat → Int) (t b : Nat) (hb : b = w.heap.size) (hn : n ≤ maxLen) : IntsAt (w.alloc (.cells (rowI n p) t)) (.slice (some ⟨b, 0, none⟩) n n) n p := by
  subst hb
  refine ⟨_, _, rfl, Nat.le_refl _, hn, fun i j hi hj => ⟨_, _, rfl, ?_⟩⟩
  have : j = 0 := by omega
  subst this
  simp only [Nat.mul_one, Nat.add_zero, Nat.zero_add]
  simp [go_sem, rowI_get, hi]
end Go

/-
  What is proved: what a best tree costs at worst, in the reference (29).
-/
namespace Go.Proofs.Ytdminglglapnlaa
open Go.RowKit
attribute [local irreducible] Go.wpCalm

theorem el2 : Try.prog.knows 2 (.int .i64 0) 1 8 := Program.knows_of (by kernel_rfl)
@[go_sem ↓] theorem make23 (w : World) (n : Nat) (h : n ≤ 1000000000) :
    (Instr.makeSlice 23 (.int .i64 n) (.int .i64 n)).run Try.prog w = .ok (.slice (some ⟨w.heap.size, 0, none⟩) n n) (w.alloc (.cells (rowI n fun _ => 0) 2)) :=
  run_make_rowI w 23 2 8 Try.underlying23 el2 n (by omega) (by omega)
@[go_sem ↓] theorem make23s (w : World) (n : Nat) (h : n ≤ 1000000000) :
    (Instr.makeSlice 23 (.int .i64 ((n : Int) + 1)) (.int .i64 ((n : Int) + 1))).run Try.prog w = .ok (.slice (some ⟨w.heap.size, 0, none⟩) (n + 1) (n + 1)) (w.alloc (.cells (rowI (n + 1) fun _ => 0) 2)) := by
  have := run_make_rowI w 23 2 8 Try.underlying23 el2 (n + 1) (by omega) (by omega)
  simpa using this

/-- what the sets below k cost, and x for k -/
def Reg.tabR (r : Reg) (k : Nat) (x : Int) : Nat → Int := fun s => if s < k then r.cst s else if s = k then x else 0
theorem Reg.tabR_up (r : Reg) (k : Nat) (x y : Int) : updI (r.tabR k x) k y = r.tabR k y := by
  funext s
  unfold updI Reg.tabR
  by_cases h : s = k
  · subst h; simp
  · simp [h]
theorem Reg.tabR_at (r : Reg) (k : Nat) (x : Int) : r.tabR k x k = x := by simp [Reg.tabR]
theorem Reg.tabR_next (r : Reg) (k : Nat) : r.tabR k (r.cst k) = r.tabR (k + 1) 0 := by
  funext s
  unfold Reg.tabR
  by_cases h : s < k
  · rw [if_pos h, if_pos (by omega)]
  · by_cases h2 : s = k
    · subst h2; simp
    · rw [if_neg h, if_neg h2, if_neg (by omega)]; split <;> rfl
theorem Reg.tabR_zero (r : Reg) : (fun _ => 0) = r.tabR 0 0 := by
  funext s
  unfold Reg.tabR
  simp
theorem Reg.tabR_part (r : Reg) {s f v : Nat} (hs : s < 2 ^ r.nm) (hp : r.parted s f = true) (hv : v < 10) (x : Int) : r.tabR s x (r.part s f (v : Nat)) = r.cst (r.part s f (v : Nat)) := by
  unfold Reg.tabR
  rw [if_pos (r.part_less hs hp hv)]
theorem min_if (a b : Int) : (if b < a then b else a) = min a b := by
  by_cases h : b < a
  · rw [if_pos h]; omega
  · rw [if_neg h]; omega
theorem Reg.Ok.c0 {r : Reg} (h : r.Ok) : ∀ f, f < r.nc → 0 ≤ r.cost f := fun f hf => by have := h.cost f hf; omega
theorem Reg.looksR_le' (r : Reg) (c : Nat → Int) (s n : Nat) : r.looksR c s n ≤ 1099511627776 := (r.looksR_le c s n).1
theorem Reg.cst_le_big {r : Reg} {s : Nat} (hs : s < 2 ^ r.nm) : r.cst s ≤ 1099511627776 := by
  rw [r.cst_eq hs]
  split
  · exact r.looksR_le' _ _ _
  · omega
theorem Reg.mostR_le_big {r : Reg} {s f n : Nat} : r.mostR r.cst s f n ≤ 1099511627776 :=
  (r.mostR_le _ _ _ _ _).2 ⟨by omega, fun v _ => Reg.cst_le_big (r.part_lt _ _ _)⟩

set_option maxHeartbeats 4000000 in
theorem worst_c (w : World) (v : Value) (r : Reg) (hv : RegOk w v r) (hr : r.Ok) :
    Calls Try.prog 29 #[v] w fun e w' => e = .returned (.int .i64 (r.cst (2 ^ r.nm - 1))) ∧ w.grows w' := by
  have Hv := Lib.hid hv
  obtain ⟨mb, mo, mc, cb, co, cc, rb, ro, rc, rfl, hm1, hm2, hc1, hc2, hR⟩ := hv
  have HR := Lib.hid hR
  clear hR
  have hm10 := hr.m10
  have hmm := hr.m1
  unfold maxLen at hm2 hc2
  have h75 := fun W h s hs => makers_c W (.agg #[.slice (some ⟨mb, mo, none⟩) r.nm mc, .slice (some ⟨cb, co, none⟩) r.nc cc]) r h hr s hs
  have h76 := fun W h s f hs hf => rparts_c W (.agg #[.slice (some ⟨mb, mo, none⟩) r.nm mc, .slice (some ⟨cb, co, none⟩) r.nc cc]) r h hr s f hs hf
  have h77 := fun W h s f hs hf x => part77 W (.agg #[.slice (some ⟨mb, mo, none⟩) r.nm mc, .slice (some ⟨cb, co, none⟩) r.nc cc]) r h hr s f hs hf x
  have Hr := Lib.hid hr
  clear hr
  obtain ⟨A, hA⟩ : ∃ A, 2 ^ r.nm = A + 1 := ⟨2 ^ r.nm - 1, by have := Nat.two_pow_pos r.nm; omega⟩
  have hA10 : A + 1 ≤ 1024 := by rw [← hA]; exact Nat.pow_le_pow_right (by omega) hm10
  have HA := Lib.hid hA
  have hAb : A ≤ 1000000000 := by omega
  have hpc := two_pow_cast r.nm
  rw [hA] at hpc
  have hwp := wrap_pow (k := r.nm) (by omega)
  rw [hpc] at hwp
  have hw1 : IntKind.i64.wrap (((A + 1 : Nat) : Int) - 1) = ((A : Nat) : Int) := wrapI (by omega) (by omega)
  have hres : Hid (r.cst (2 ^ r.nm - 1) = r.cst A) := Lib.hid (by rw [hA]; rfl)
  rw [hres.out]
  have h1 : Hid ((fun _ => 0) = r.tabR 1 0) := Lib.hid (by rw [r.tabR_zero]; have := r.tabR_next 0; rw [r.cst_not (Nat.two_pow_pos _) (by cases h : r.mixed 0 with | false => rfl | true => (obtain ⟨a, b, _, _, h1, _⟩ := (r.mixed_iff 0).1 h; simp at h1))] at this; exact this)
  clear hA
  go_enter Try.func29, Try.ntmps29
  go_wp2
  go_loopw [5] (fun i wr => ∃ s : Nat, s ≤ A + 1 ∧ i = .int .i64 s ∧ ((w.alloc (.cells #[.slice (some ⟨mb, mo, none⟩) r.nm mc, .slice (some ⟨cb, co, none⟩) r.nc cc] 25)).alloc (.cells (rowI (A + 1) (r.tabR s 0)) 2)).grows wr) (fun i _ => A + 1 - (intOf i).toNat)
  case atStart => exact ⟨1, by omega, rfl, by rw [h1.out]; (repeat (first | exact World.grows.refl _ | assumption | refine World.grows.alloc ?_ _ | refine World.grows.plus ?_ _ _ | refine World.grows.drew ?_))⟩
  case round =>
    obtain ⟨s, hs, rfl, hg⟩ := hrel
    obtain ⟨n1, x1, rfl⟩ := World.plus_of hg
    by_cases hlt : s < A + 1
    · have hsN : Hid (s < 2 ^ r.nm) := Lib.hid (by rw [HA.out]; exact hlt)
      have hs62 : s < 2 ^ 62 := by omega
      have hsA : s ≤ A := by omega
      have hsI : (s : Int) < (A : Int) + 1 := by omega
      cases hmx : r.mixed s with
      | false =>
        have hc0 := r.cst_not hsN.out hmx
        have htn := Lib.hid (r.tabR_next s)
        rw [hc0] at htn
        have h7 := fun W h => h75 W h s hs62
        rw [hmx] at h7
        clear hc0 hmx h75 h76 h77
        go_wp2_with (go_at_call 75; refine (h7 _ (Hv.out.mono (by (repeat (first | exact World.grows.refl _ | assumption | refine World.grows.alloc ?_ _ | refine World.grows.plus ?_ _ _ | refine World.grows.drew ?_))))).mono ?_; rintro e w' ⟨rfl, hg2⟩; obtain ⟨n2, x2, rfl⟩ := World.plus_of hg2)
        go_roundw
        case rel => exact ⟨s + 1, by omega, by go_num, by rw [← htn.out]; (repeat (first | exact World.grows.refl _ | assumption | refine World.grows.alloc ?_ _ | refine World.grows.plus ?_ _ _ | refine World.grows.drew ?_))⟩
        case measure => simp [intOf]; omega
      | true =>
        have hcs := Lib.hid (r.cst_eq hsN.out)
        rw [hmx] at hcs
        have h7 := fun W h => h75 W h s hs62
        rw [hmx] at h7
        have hup := fun x y => r.tabR_up s x y
        have hat := fun x => r.tabR_at s x
        clear hmx h75
        go_wp2_with (go_at_call 75; refine (h7 _ (Hv.out.mono (by (repeat (first | exact World.grows.refl _ | assumption | refine World.grows.alloc ?_ _ | refine World.grows.plus ?_ _ _ | refine World.grows.drew ?_))))).mono ?_; rintro e w' ⟨rfl, hg2⟩; obtain ⟨n2, x2, rfl⟩ := World.plus_of hg2)
        go_loopw [6] (fun i wr => ∃ f : Nat, f ≤ r.nc ∧ i = .int .i64 f ∧ ((w.alloc (.cells #[.slice (some ⟨mb, mo, none⟩) r.nm mc, .slice (some ⟨cb, co, none⟩) r.nc cc] 25)).alloc (.cells (rowI (A + 1) (r.tabR s (r.looksR r.cst s f))) 2)).grows wr) (fun i _ => r.nc - (intOf i).toNat)
        case atStart => exact ⟨0, by omega, rfl, by simp only [Reg.looksR, hup]; (repeat (first | exact World.grows.refl _ | assumption | refine World.grows.alloc ?_ _ | refine World.grows.plus ?_ _ _ | refine World.grows.drew ?_))⟩
        case round =>
          obtain ⟨f, hf, rfl, hg3⟩ := hrel
          obtain ⟨n3, x3, rfl⟩ := World.plus_of hg3
          by_cases hltf : f < r.nc
          · have hcf := HR.out.cost f hltf
            have hL : Hid (r.looksR r.cst s (f + 1) = if r.parted s f = true then min (r.looksR r.cst s f) (r.cost f + r.mostR r.cst s f 10) else r.looksR r.cst s f) := Lib.hid rfl
            obtain ⟨X, hX⟩ : ∃ X, r.looksR r.cst s f = X := ⟨_, rfl⟩
            rw [hX] at hL
            rw [hX]
            cases hpd : r.parted s f with
            | false =>
              have h8 := fun W h => h76 W h s f hs62 hltf
              rw [hpd] at h8 hL
              clear hpd h76 h77 h7 hX
              go_wp2_with (go_at_call 76; refine (h8 _ (Hv.out.mono (by (repeat (first | exact World.grows.refl _ | assumption | refine World.grows.alloc ?_ _ | refine World.grows.plus ?_ _ _ | refine World.grows.drew ?_))))).mono ?_; rintro e w' ⟨rfl, hg2⟩; obtain ⟨n2, x2, rfl⟩ := World.plus_of hg2)
              go_roundw
              case rel => exact ⟨f + 1, by omega, by go_num, by rw [hL.out]; (repeat (first | exact World.grows.refl _ | assumption | refine World.grows.alloc ?_ _ | refine World.grows.plus ?_ _ _ | refine World.grows.drew ?_))⟩
              case measure => simp [intOf]; omega
            | true =>
              have Hpd := Lib.hid hpd
              have h8 := fun W h => h76 W h s f hs62 hltf
              have h9 := fun W h x => h77 W h s f hs62 hltf x
              have hc1000 := Hr.out.cost f hltf
              rw [hpd] at h8 hL
              clear hpd h76 h77 h7 hX
              go_wp2_with (go_at_call 76; refine (h8 _ (Hv.out.mono (by (repeat (first | exact World.grows.refl _ | assumption | refine World.grows.alloc ?_ _ | refine World.grows.plus ?_ _ _ | refine World.grows.drew ?_))))).mono ?_; rintro e w' ⟨rfl, hg2⟩; obtain ⟨n2, x2, rfl⟩ := World.plus_of hg2)
              go_loopw [7, 8] (fun mo' v wr => ∃ k : Nat, k ≤ 10 ∧ v = .int .i64 k ∧ mo' = .int .i64 (r.mostR r.cst s f k) ∧ ((w.alloc (.cells #[.slice (some ⟨mb, mo, none⟩) r.nm mc, .slice (some ⟨cb, co, none⟩) r.nc cc] 25)).alloc (.cells (rowI (A + 1) (r.tabR s X)) 2)).grows wr) (fun _ v _ => 10 - (intOf v).toNat)
              case atStart => exact ⟨0, by omega, rfl, rfl, by (repeat (first | exact World.grows.refl _ | assumption | refine World.grows.alloc ?_ _ | refine World.grows.plus ?_ _ _ | refine World.grows.drew ?_))⟩
              case round =>
                obtain ⟨k, hk, rfl, rfl, hg4⟩ := hrel
                obtain ⟨n4, x4, rfl⟩ := World.plus_of hg4
                by_cases hltk : k < 10
                · have hpl := r.part_less hsN.out Hpd.out hltk
                  have htp := r.tabR_part hsN.out Hpd.out hltk X
                  have hM : Hid (r.mostR r.cst s f (k + 1) = max (r.mostR r.cst s f k) (r.cst (r.part s f (k : Nat)))) := Lib.hid rfl
                  have h10 := fun W h => h9 W h (k : Nat)
                  obtain ⟨p, hp⟩ : ∃ p, r.part s f (k : Nat) = p := ⟨_, rfl⟩
                  rw [hp] at hpl htp hM h10
                  obtain ⟨M, hMM⟩ : ∃ M, r.mostR r.cst s f k = M := ⟨_, rfl⟩
                  obtain ⟨C, hC⟩ : ∃ C, r.cst p = C := ⟨_, rfl⟩
                  rw [hMM, hC] at hM
                  rw [hC] at htp
                  rw [hMM]
                  have hpA : p < A + 1 := by omega
                  clear hp hMM hC h9 h8
                  go_wp2_with (go_at_call 77; refine (h10 _ (Hv.out.mono (by (repeat (first | exact World.grows.refl _ | assumption | refine World.grows.alloc ?_ _ | refine World.grows.plus ?_ _ _ | refine World.grows.drew ?_))))).mono ?_; rintro e w' ⟨rfl, hg2⟩; obtain ⟨n5, x5, rfl⟩ := World.plus_of hg2)
                  go_roundw
                  case rel => exact ⟨k + 1, by omega, by go_num, by rw [hM.out, max_if], by (repeat (first | exact World.grows.refl _ | assumption | refine World.grows.alloc ?_ _ | refine World.grows.plus ?_ _ _ | refine World.grows.drew ?_))⟩
                  case measure => simp [intOf]; omega
                · have hke : k = 10 := by omega
                  subst hke
                  obtain ⟨M, hMM⟩ : ∃ M, r.mostR r.cst s f 10 = M := ⟨_, rfl⟩
                  have hM1 := r.mostR_nonneg r.cst s f 10
                  have hM2 := Reg.mostR_le_big (r := r) (s := s) (f := f) (n := 10)
                  rw [hMM] at hL hM1 hM2
                  rw [hMM]
                  have hwc : IntKind.i64.wrap (r.cost f + M) = r.cost f + M := wrapI rfl (by omega)
                  have hmin : (if X ≤ r.cost f + M then X else r.cost f + M) = min X (r.cost f + M) := rfl
                  clear hMM
                  go_wp2
                  (refine wp_region_tail 14 (by kernel_rfl) (by kernel_rfl) (by decide) ?_; simp only [List.take_succ_cons, List.take_zero, List.drop_succ_cons, List.drop_zero, List.take_nil, List.drop_nil, List.append_nil, List.nil_append, List.cons_append, Nat.reduceAdd, Nat.reduceSub]; (repeat (refine wpCalm_step (fun K hK => ?_); go_simp; first | (refine hK _ ?_; clear hK K) | (apply Exists.intro; refine ⟨fun n' x' => ?_, hK _ ?_⟩; (fail); clear hK K))); refine wpCalm_nil ?_; intro nq xq)
                  go_wp2
                  go_roundw
                  case rel => exact ⟨f + 1, by omega, by go_num, by rw [hL.out, if_pos trivial, ← min_if]; (repeat (first | exact World.grows.refl _ | assumption | refine World.grows.alloc ?_ _ | refine World.grows.plus ?_ _ _ | refine World.grows.drew ?_))⟩
                  case measure => simp [intOf]; omega
          · have hfe : f = r.nc := by omega
            subst hfe
            have htn := Lib.hid (r.tabR_next s)
            rw [hcs.out] at htn
            go_wp2
            go_roundw
            case rel => exact ⟨s + 1, by omega, by go_num, by rw [← htn.out]; (repeat (first | exact World.grows.refl _ | assumption | refine World.grows.alloc ?_ _ | refine World.grows.plus ?_ _ _ | refine World.grows.drew ?_))⟩
            case measure => simp [intOf]; omega
    · have hse : s = A + 1 := by omega
      subst hse
      have htA : r.tabR (A + 1) 0 A = r.cst A := by unfold Reg.tabR; rw [if_pos (by omega)]
      have hcb := Reg.cst_le_big (r := r) (s := A) (by rw [HA.out]; omega)
      go_wp2
      (refine bodyPost_ret (v := .int .i64 (r.cst A)) (by simp [results, Try.results29, go_sem]) rfl ?_)
      exact ⟨rfl, by (repeat (first | exact World.grows.refl _ | assumption | refine World.grows.alloc ?_ _ | refine World.grows.plus ?_ _ _ | refine World.grows.drew ?_))⟩
end Go.Proofs.Ytdminglglapnlaa

