/-
  What is proved: which visits are late, in the program (65).
-/
import Derived.Test.YtaanbdjmibjcbaaM7
import Derived.Test.YtaanbdjmibjcbaaM6
import Derived.Deep.CutRange
import Derived.Test.YtaanbdjmibjcbaaM10
import Derived.Laws.CopyOwn
import Derived.Test.YtaanbdjmibjcbaaM9
set_option linter.all false
namespace Go.Proofs.Ytaanbdjmibjcbaa
open Go.RowKit
attribute [local irreducible] Go.wpCalm rowI

theorem late_up {t : Town} (h : t.Ok) (slow : Bool) {i : Nat} (hi : i < t.nv) : decide (t.vf i < upW (dist t slow 0 (t.vp i).toNat)) = lateV t slow i := by
  have h1 := h.vt i hi
  have h3 := (dist_is h slow).pos 0 (t.vp i).toNat
  have hnev : nev = 1099511627776 := rfl
  have hnon : non = 1125899906842624 := rfl
  unfold lateV
  have e : ∀ {a b : Bool}, (a = true ↔ b = true) → a = b := fun {a b} h => by cases a <;> cases b <;> simp_all
  apply e
  rw [decide_eq_true_eq, decide_eq_true_eq]
  unfold upW
  split <;> omega
set_option maxRecDepth 100000 in
set_option maxHeartbeats 2000000 in
theorem late_c (w : World) (y : Nat) (t : Town) (slow : Bool) (hy : YardOf w y t slow) (hok : t.Ok) : Calls Try.prog 65 #[.pointer (some ⟨y, 0, none⟩)] w fun e w' => ∃ v, e = .returned v ∧ w.grows w' ∧ ListAt w' v (filtL (lateV t slow) t.nv) := by
  obtain ⟨sv, va, vc, hY, v1, v2, hv, -⟩ := hy
  obtain ⟨_, _, hve, -, -, hv⟩ := hv
  cases hve
  have HY := Lib.hid hY
  have Hv := Lib.hid hv
  have Hok := Lib.hid hok
  have h16 := hok.v16
  have c2 := hY.c2
  unfold maxLen at v2
  clear hY hv hok
  go_enter Try.func65, Try.ntmps65
  go_wp2
  clear c2
  go_loopw [3, 12] (fun l i wr => ∃ k : Nat, k ≤ t.nv ∧ i = .int .i64 k ∧ Hid (wr.ownsRow w.heap.size 3 1 l (filtL (lateV t slow) k).length (ilist (filtL (lateV t slow) k))) ∧ Hid (w.grows wr)) (fun _ i _ => t.nv - (intOf i).toNat)
  case atStart => exact ⟨0, by omega, rfl, Lib.hid (World.ownsRow_nil _ _ _ _), Lib.hid (World.grows.refl _)⟩
  case round =>
    obtain ⟨k, hk, rfl, ho, hg⟩ := hrel
    obtain ⟨la, lc, rfl, -, -⟩ := row_form ho.out
    by_cases hlt : k < t.nv
    · obtain ⟨b, o, rfl, c0⟩ := Hv.out k 0 hlt (by omega)
      obtain ⟨_, _, e1, c1⟩ := Hv.out k 1 hlt (by omega); cases e1
      obtain ⟨_, _, e1, c2⟩ := Hv.out k 2 hlt (by omega); cases e1
      have hvk := Hok.out.vp k hlt
      have h8 := Hok.out.p8
      obtain ⟨Z, hZ⟩ : ∃ Z : Nat, t.vp k = Z := ⟨(t.vp k).toNat, by omega⟩
      have hZ8 : Z < 8 := by omega
      replace c0 : wr.cell? ⟨b, o + k * 3, none⟩ = some (.int .i64 Z) := by rw [← hZ]; exact hg.out.cell_of c0
      replace c1 : wr.cell? ⟨b, o + k * 3 + 1, none⟩ = some (.int .i64 (t.vf k)) := hg.out.cell_of c1
      replace c2 : wr.cell? ⟨b, o + k * 3 + 2, none⟩ = some (.int .i64 (t.vb k)) := hg.out.cell_of c2
      have hkI : (k : Int) < t.nv := by omega
      have hZI : (Z : Int) < 8 := by omega
      have hl := late_up Hok.out slow hlt
      rw [hZ, Int.toNat_natCast] at hl
      obtain ⟨D, hD⟩ : ∃ D, upW (dist t slow 0 Z) = D := ⟨_, rfl⟩
      rw [hD] at hl
      have cw := (HY.out.grow hg.out).way2 (a := 0) (b := Z) (by omega) hZ8
      rw [show wayP t slow (0 * 8 + Z) = D by unfold wayP; rw [show (0 * 8 + Z) / 8 = 0 by omega, show (0 * 8 + Z) % 8 = Z by omega, hD], Nat.zero_mul, Nat.add_zero] at cw
      clear hvk h8 hZ hD
      go_upto_region 5 with fail
      have gA : wr.grows (wr.alloc (.cells #[.int .i64 Z, .int .i64 (t.vf k), .int .i64 (t.vb k)] 71)) := by (repeat (first | exact World.grows.refl _ | assumption | refine World.grows.alloc ?_ _ | refine World.grows.plus ?_ _ _ | refine World.grows.drew ?_))
      obtain ⟨q, hq⟩ : ∃ q, wr.heap.size = q := ⟨_, rfl⟩
      have hS : (wr.alloc (.cells #[.int .i64 Z, .int .i64 (t.vf k), .int .i64 (t.vb k)] 71)).heap[q]? = some (.cells #[.int .i64 Z, .int .i64 (t.vf k), .int .i64 (t.vb k)] 71) := World.heap_at _ _ _ hq.symm
      replace cw := World.grows.cell_of gA cw
      replace ho := Lib.hid (ho.out.grow gA)
      replace hg := Lib.hid (World.grows.trans hg.out gA)
      simp only [hq]
      clear gA hq c0 c1 c2
      generalize World.alloc wr _ = V1 at ho hg hS cw ⊢
      have z0 := cell_of_heap (i := 0) hS rfl
      have z1 := cell_of_heap (i := 1) hS rfl
      by_cases hvs : t.vf k < D
      case neg =>
        rw [decide_eq_false hvs] at hl
        have HF : Hid (filtL (lateV t slow) (k + 1) = filtL (lateV t slow) k) := Lib.hid (by rw [filtL_succ, ← hl]; rfl)
        clear hl
        (refine wp_region_calm (by kernel_rfl) (by kernel_rfl) ?_; (repeat (refine wpCalm_step (fun K hK => ?_); go_simp; first | (refine hK _ ?_; clear hK K) | (apply Exists.intro; refine ⟨fun n' x' => ?_, hK _ ?_⟩; (fail); clear hK K))); refine wpCalm_nil ?_; intro nq xq)
        have gp := World.grows_plus V1 nq xq
        replace ho : Hid ((V1.plus nq xq).ownsRow w.heap.size 3 1 (.slice la (filtL (lateV t slow) k).length lc) (filtL (lateV t slow) (k + 1)).length (ilist (filtL (lateV t slow) (k + 1)))) := Lib.hid (by rw [HF.out]; exact ho.out.grow gp)
        replace hg := Lib.hid (World.grows.trans hg.out gp)
        clear cw z0 z1 hS gp
        generalize World.plus V1 _ _ = V2 at ho hg ⊢
        go_wp2
        case roundEnd => exact ⟨⟨k + 1, by omega, by go_num, ho, hg⟩, by simp [intOf]; omega⟩
      case pos =>
        rw [decide_eq_true hvs] at hl
        have HF : Hid (filtL (lateV t slow) (k + 1) = filtL (lateV t slow) k ++ [k]) := Lib.hid (by rw [filtL_succ, ← hl]; rfl)
        have hlen := filtL_len (lateV t slow) k
        clear hl
        (refine wp_region_calm (by kernel_rfl) (by kernel_rfl) ?_; (repeat (refine wpCalm_step (fun K hK => ?_); go_simp; first | (refine hK _ ?_; clear hK K) | (apply Exists.intro; refine ⟨fun n' x' => ?_, hK _ ?_⟩; (fail); clear hK K))); refine wpCalm_nil ?_; intro nq xq)
        have gp := World.grows_plus V1 nq xq
        replace ho := Lib.hid (ho.out.grow gp)
        replace hg := Lib.hid (World.grows.trans hg.out gp)
        have hsz := hg.out.size
        clear cw z0 z1 hS gp
        generalize World.plus V1 _ _ = V2 at ho hg hsz ⊢
        obtain ⟨n, hn⟩ : ∃ n, (filtL (lateV t slow) k).length = n := ⟨_, rfl⟩
        rw [hn] at ho hlen ⊢
        have Hn := Lib.hid hn
        clear hn
        go_wp2_with (at_builtin; go_loud (refine wpList_append_r _ rfl _ _ _ (by rfl) w.heap.size 3 (.int .i64 0) 1 8 Try.underlying35 el3 (by rfl) (by omega) _ n _ (by rfl) (ho.out.grow (by (repeat (first | exact World.grows.refl _ | assumption | refine World.grows.alloc ?_ _ | refine World.grows.plus ?_ _ _ | refine World.grows.drew ?_)))) _ (by rfl) 1 _ (SliceAt.src (by omega) (one_slice _ _ _ _ (by simp))) (one_cell _) (by unfold maxLen; omega) (by omega) (by simp; omega) ?_; intro v' w3 hown3 hgb; obtain ⟨la3, lc3, rfl, -, -⟩ := row_form hown3; have ho3 : Hid (w3.ownsRow w.heap.size 3 1 (.slice la3 (n + 1) lc3) (filtL (lateV t slow) (k + 1)).length (ilist (filtL (lateV t slow) (k + 1)))) := Lib.hid (by rw [HF.out, ilist_snoc, List.length_append, Hn.out]; exact hown3); have hg3 := Lib.hid (hgb.grows (ho.out.grow (World.grows.alloc (World.grows.refl V2) _)) (World.grows.trans hg.out (World.grows.alloc (World.grows.refl V2) _)) (Nat.le_refl _)); clear hown3 hgb))
        case roundEnd =>
          have hlen2 : (filtL (lateV t slow) (k + 1)).length = n + 1 := by rw [HF.out, List.length_append, Hn.out]; rfl
          exact ⟨⟨k + 1, by omega, by go_num, by rw [hlen2] at ho3 ⊢; exact ho3, hg3⟩, by simp [intOf]; omega⟩
    · have hke : k = t.nv := by omega
      subst hke
      have hL := Lib.hid (ho.out.listAt rfl)
      clear ho
      go_wp2
      go_ret
      exact ⟨_, rfl, hg.out, hL.out⟩
end Go.Proofs.Ytaanbdjmibjcbaa

/-
  What is proved: the minutes of ways, in the definition (51).
-/
namespace Go.Proofs.Ytaanbdjmibjcbaa
open Go.RowKit
attribute [local irreducible] Go.wpCalm rowI

theorem el2 : Try.prog.knows 2 (.int .i64 0) 1 8 := Program.knows_of (by kernel_rfl)
@[local go_sem ↓] theorem make64 (w : World) : (Instr.makeSlice 87 (.int .i64 64) (.int .i64 64)).run Try.prog w = .ok (.slice (some ⟨w.heap.size, 0, none⟩) 64 64) (w.alloc (.cells (rowI 64 fun _ => 0) 2)) :=
  run_make_rowI w 87 2 8 Try.underlying87 el2 64 (by omega) (by omega)
theorem quo_at {a b x : Nat} (h : a / b = x) : (a : Int).tdiv (b : Int) = (x : Nat) := by
  rw [Int.tdiv_eq_ediv_of_nonneg (Int.natCast_nonneg _), ← h]
  exact (Int.natCast_ediv _ _).symm
theorem rem_at {a b x : Nat} (h : a % b = x) : (a : Int).tmod (b : Int) = (x : Nat) := by
  rw [Int.tmod_eq_emod_of_nonneg (Int.natCast_nonneg _), ← h]
  exact (Int.natCast_emod _ _).symm
/-- the list at the start -/
def wst (k x : Nat) : Int := if x < k then (if x / 8 = x % 8 then 0 else nev) else 0
theorem w0_row (t : Town) (slow : Bool) (k A B : Nat) (hA : t.sa k = A) (hB : t.sb k = B) (hA8 : A < 8) (hB8 : B < 8) (hAB : A ≠ B) :
    rowI 64 (updI (updI (fun x => w0 t slow k (x / 8) (x % 8)) (8 * A + B) (min (w0 t slow k A B) (t.mn slow k))) (8 * B + A) (min (w0 t slow k B A) (t.mn slow k))) = rowI 64 (fun x => w0 t slow (k + 1) (x / 8) (x % 8)) := by
  refine rowI_congr fun x hx => ?_
  unfold updI
  rw [w0_succ, hA, hB]
  by_cases e : x = 8 * B + A
  · have e1 : x / 8 = B := by omega
    have e2 : x % 8 = A := by omega
    rw [if_pos e, e1, e2, if_pos (by right; exact ⟨rfl, rfl⟩)]
  · rw [if_neg e]
    by_cases e' : x = 8 * A + B
    · have e1 : x / 8 = A := by omega
      have e2 : x % 8 = B := by omega
      rw [if_pos e', e1, e2, if_pos (by left; exact ⟨rfl, rfl⟩)]
    · rw [if_neg e', if_neg (by omega)]
/-- the list in round k, before the place m -/
def fst (t : Town) (slow : Bool) (k m x : Nat) : Int := if x < m then fw t slow (k + 1) (x / 8) (x % 8) else fw t slow k (x / 8) (x % 8)
section
variable {t : Town} {slow : Bool} (h : ∀ k, k ≤ 8 → (∀ a, fw t slow k a a = 0) ∧ (∀ a b, 0 ≤ fw t slow k a b) ∧ (∀ a b, fw t slow k a b = nev ∨ fw t slow k a b ≤ 1000 * 2 ^ k) ∧ (∀ i, i < t.ns → fw t slow k (t.sa i).toNat (t.sb i).toNat ≤ t.mn slow i ∧ fw t slow k (t.sb i).toNat (t.sa i).toNat ≤ t.mn slow i) ∧
    (∀ φ, Pot t slow φ → ∀ a b, fw t slow k a b = nev ∨ φ b ≤ φ a + fw t slow k a b) ∧ ∀ a b c, c < k → fw t slow k a b ≤ fw t slow k a c + fw t slow k c b)
include h
theorem fst_at {k : Nat} (_ : k < 8) {m x : Nat} : fst t slow k m x = if x < m then fw t slow (k + 1) (x / 8) (x % 8) else fw t slow k (x / 8) (x % 8) := rfl
theorem fst_row {k : Nat} (hk : k < 8) {m x : Nat} (hx : x % 8 = k) : fst t slow k m x = fw t slow k (x / 8) k := by
  rw [fst_at h hk, hx]
  split
  · show min (fw t slow k (x / 8) k) (fw t slow k (x / 8) k + fw t slow k k k) = _
    have := (h k (by omega)).1 k
    omega
  · rfl
theorem fst_col {k : Nat} (hk : k < 8) {m x : Nat} (hx : x / 8 = k) : fst t slow k m x = fw t slow k k (x % 8) := by
  rw [fst_at h hk, hx]
  split
  · show min (fw t slow k k (x % 8)) (fw t slow k k k + fw t slow k k (x % 8)) = _
    have := (h k (by omega)).1 k
    omega
  · rfl
theorem fw_bd {k : Nat} (hk : k ≤ 8) (a b : Nat) : 0 ≤ fw t slow k a b ∧ fw t slow k a b ≤ 1099511627776 := by
  have h1 := (h k hk).2.1 a b
  have h2 := (h k hk).2.2.1 a b
  have hp8 : (2 : Int) ^ k ≤ 256 := by
    have : k = 0 ∨ k = 1 ∨ k = 2 ∨ k = 3 ∨ k = 4 ∨ k = 5 ∨ k = 6 ∨ k = 7 ∨ k = 8 := by omega
    rcases this with rfl | rfl | rfl | rfl | rfl | rfl | rfl | rfl | rfl <;> decide
  have hnev : nev = 1099511627776 := rfl
  omega
end
set_option maxRecDepth 100000 in
set_option maxHeartbeats 4000000 in
theorem rways_c (w : World) (tv : Value) (t : Town) (slow : Bool) (ht : TownAt w tv t) (hok : t.Ok) : Calls Try.prog 51 #[tv, .bool slow] w fun e w' => ∃ p, e = .returned (.slice (some ⟨p, 0, none⟩) 64 64) ∧ w.grows w' ∧ w.heap.size ≤ p ∧ w'.heap[p]? = some (.cells (rowI 64 fun x => dist t slow (x / 8) (x % 8)) 2) := by
  obtain ⟨sv, vv, rfl, hs, hv⟩ := ht
  obtain ⟨sa, sc, rfl, s1, s2, hs⟩ := hs
  obtain ⟨va, vc, rfl, v1, v2, -⟩ := hv
  have Hs := Lib.hid hs
  have Hok := Lib.hid hok
  clear hs hok
  unfold maxLen at s2 v2
  go_enter Try.func51, Try.ntmps51
  go_wp2
  obtain ⟨p, hp⟩ : ∃ p, w.heap.size + 1 = p := ⟨_, rfl⟩
  have g0 : w.grows ((w.alloc (.cells #[.int .i64 t.pl, .slice sa t.ns sc, .slice va t.nv vc] 25)).alloc (.cells (rowI 64 fun _ => 0) 2)) := by (repeat (first | exact World.grows.refl _ | assumption | refine World.grows.alloc ?_ _ | refine World.grows.plus ?_ _ _ | refine World.grows.drew ?_))
  have b0 : ((w.alloc (.cells #[.int .i64 t.pl, .slice sa t.ns sc, .slice va t.nv vc] 25)).alloc (.cells (rowI 64 fun _ => 0) 2)).heap[w.heap.size]? = some (.cells #[.int .i64 t.pl, .slice sa t.ns sc, .slice va t.nv vc] 25) := World.grows.heap_of (by (repeat (first | exact World.grows.refl _ | assumption | refine World.grows.alloc ?_ _ | refine World.grows.plus ?_ _ _ | refine World.grows.drew ?_))) (World.heap_at _ _ _ rfl)
  have p0 : ((w.alloc (.cells #[.int .i64 t.pl, .slice sa t.ns sc, .slice va t.nv vc] 25)).alloc (.cells (rowI 64 fun _ => 0) 2)).heap[p]? = some (.cells (rowI 64 fun _ => 0) 2) := World.heap_at _ _ _ (by simp [← hp])
  simp only [World.size_alloc, hp]
  have hpw : w.heap.size < p := by omega
  generalize World.alloc _ _ = W0 at g0 b0 p0 ⊢
  have G0 := Lib.hid g0
  have B0 := Lib.hid b0
  have P0 : Hid (W0.heap[p]? = some (.cells (rowI 64 (wst 0)) 2)) := Lib.hid (by rw [p0]; congr 2)
  clear g0 b0 p0 hp
  go_loopw [6] (fun i wr => ∃ k : Nat, k ≤ 64 ∧ i = .int .i64 k ∧ Hid (w.grows wr) ∧ Hid (wr.heap[w.heap.size]? = some (.cells #[.int .i64 t.pl, .slice sa t.ns sc, .slice va t.nv vc] 25)) ∧ Hid (wr.heap[p]? = some (.cells (rowI 64 (wst k)) 2))) (fun i _ => 64 - (intOf i).toNat)
  case atStart => exact ⟨0, by omega, rfl, G0, B0, P0⟩
  case round =>
    clear G0 B0 P0
    obtain ⟨k, hk, rfl, hg, hb, hr⟩ := hrel
    by_cases hlt : k < 64
    · obtain ⟨A, hA⟩ : ∃ A : Nat, k / 8 = A := ⟨_, rfl⟩
      obtain ⟨B, hB⟩ : ∃ B : Nat, k % 8 = B := ⟨_, rfl⟩
      have hA1 : (k : Int).tdiv 8 = A := quo_at hA
      have hB1 : (k : Int).tmod 8 = B := rem_at hB
      have hA2 : (k : Int) / 8 = A := by rw [← hA]; exact (Int.natCast_ediv _ _).symm
      have hB2 : (k : Int) % 8 = B := by rw [← hB]; exact (Int.natCast_emod _ _).symm
      have HAB := Lib.hid (And.intro hA hB)
      clear hA hB
      have c0 : wr.cell? ⟨p, k, none⟩ = some (.int .i64 (wst k k)) := rowI_cell hr.out hlt
      have f0 : wr.frozen? ⟨p, k, none⟩ = false := rowI_frozen hr.out k
      have r1 := rowI_store hr.out hlt nev
      have g1 := hg.out.setCell (p := ⟨p, k, none⟩) (by dsimp only; omega) (.int .i64 nev)
      have b1 := rowI_other (i := k) (v := .int .i64 nev) hb.out (show p ≠ w.heap.size by omega)
      have hI : (k : Int) < 64 := by omega
      have hnv : nev = 1099511627776 := rfl
      rw [hnv] at r1 g1 b1
      go_upto_region 6 with fail
      generalize World.setCell wr _ _ = W1 at r1 g1 b1 ⊢
      clear c0 f0 hg hb hr
      by_cases hab : A = B
      · subst hab
        have c0 := rowI_cell r1 hlt
        have f0 := rowI_frozen r1 k
        have r2 := Lib.hid (rowI_store r1 hlt 0)
        have g2 := Lib.hid (g1.setCell (p := ⟨p, k, none⟩) (by dsimp only; omega) (.int .i64 0))
        have b2 := Lib.hid (rowI_other (i := k) (v := .int .i64 0) b1 (show p ≠ w.heap.size by omega))
        have HF : Hid (rowI 64 (updI (updI (wst k) k 1099511627776) k 0) = rowI 64 (wst (k + 1))) := Lib.hid (rowI_congr fun x hx => by
          unfold updI wst
          by_cases e : x = k
          · rw [if_pos e, if_pos (show x < k + 1 by omega), e, if_pos (by rw [HAB.out.1, HAB.out.2])]
          · rw [if_neg e, if_neg e]
            by_cases e2 : x < k
            · rw [if_pos e2, if_pos (show x < k + 1 by omega)]
            · rw [if_neg e2, if_neg (show ¬ x < k + 1 by omega)])
        clear r1 g1 b1
        go_wp2
        case roundEnd => exact ⟨⟨k + 1, by omega, by go_num, g2, b2, Lib.hid (by rw [← HF.out]; exact r2.out)⟩, by simp [intOf]; omega⟩
      · have r2 := Lib.hid r1
        have g2 := Lib.hid g1
        have b2 := Lib.hid b1
        have HF : Hid (rowI 64 (updI (wst k) k 1099511627776) = rowI 64 (wst (k + 1))) := Lib.hid (rowI_congr fun x hx => by
          unfold updI wst
          by_cases e : x = k
          · rw [if_pos e, if_pos (show x < k + 1 by omega), e, if_neg (by rw [HAB.out.1, HAB.out.2]; exact hab)]; rfl
          · rw [if_neg e]
            by_cases e2 : x < k
            · rw [if_pos e2, if_pos (show x < k + 1 by omega)]
            · rw [if_neg e2, if_neg (show ¬ x < k + 1 by omega)])
        clear r1 g1 b1
        go_wp2
        case roundEnd => exact ⟨⟨k + 1, by omega, by go_num, g2, b2, Lib.hid (by rw [← HF.out]; exact r2.out)⟩, by simp [intOf]; omega⟩
    · have hke : k = 64 := by omega
      subst hke
      have R0 : Hid (wr.heap[p]? = some (.cells (rowI 64 fun x => w0 t slow 0 (x / 8) (x % 8)) 2)) := Lib.hid (by
        rw [hr.out, rowI_congr fun x hx => ?_]
        unfold wst
        rw [if_pos hx]
        rfl)
      clear hr hk hlt
      obtain ⟨W2, rfl⟩ : ∃ W2, W2 = wr := ⟨_, rfl⟩
      simp only [show ((64 : Nat) : Int) = (64 : Int) from rfl]
      go_wp2
      go_loopw [7] (fun i wr => ∃ k : Nat, k ≤ t.ns ∧ i = .int .i64 k ∧ Hid (w.grows wr) ∧ Hid (wr.heap[w.heap.size]? = some (.cells #[.int .i64 t.pl, .slice sa t.ns sc, .slice va t.nv vc] 25)) ∧ Hid (wr.heap[p]? = some (.cells (rowI 64 fun x => w0 t slow k (x / 8) (x % 8)) 2))) (fun i _ => t.ns - (intOf i).toNat)
      case atStart => exact ⟨0, by omega, rfl, hg, hb, R0⟩
      case round =>
        clear hg hb R0
        obtain ⟨k, hk, rfl, hg, hb, hr⟩ := hrel
        have q1 : wr.cell? ⟨w.heap.size, 1, none⟩ = some (.slice sa t.ns sc) := cell_of_heap hb.out rfl
        by_cases hlt : k < t.ns
        · have ha := Hok.out.na hlt
          have hsa := Hok.out.sa k hlt
          have hsb := Hok.out.sb k hlt
          have hne := Hok.out.ne k hlt
          obtain ⟨A, hA⟩ : ∃ A : Nat, t.sa k = A := ⟨(t.sa k).toNat, by omega⟩
          obtain ⟨B, hB⟩ : ∃ B : Nat, t.sb k = B := ⟨(t.sb k).toNat, by omega⟩
          have hA8 : A < 8 := by omega
          have hB8 : B < 8 := by omega
          have hAB : A ≠ B := by omega
          obtain ⟨b, o, rfl, c0⟩ := Hs.out k 0 hlt (by omega)
          obtain ⟨_, _, e1, c1⟩ := Hs.out k 1 hlt (by omega); cases e1
          obtain ⟨_, _, e1, c2⟩ := Hs.out k 2 hlt (by omega); cases e1
          obtain ⟨_, _, e1, c3⟩ := Hs.out k 3 hlt (by omega); cases e1
          replace c0 : wr.cell? ⟨b, o + k * 4, none⟩ = some (.int .i64 A) := by rw [← hA]; exact hg.out.cell_of c0
          replace c1 : wr.cell? ⟨b, o + k * 4 + 1, none⟩ = some (.int .i64 B) := by rw [← hB]; exact hg.out.cell_of c1
          replace c2 : wr.cell? ⟨b, o + k * 4 + 2, none⟩ = some (.int .i64 (t.slo k)) := hg.out.cell_of c2
          replace c3 : wr.cell? ⟨b, o + k * 4 + 3, none⟩ = some (.int .i64 (t.shi k)) := hg.out.cell_of c3
          have hm := Hok.out.mn slow hlt
          have HAe := Lib.hid (And.intro hA hB)
          have hkI : (k : Int) < t.ns := by omega
          clear ha hsa hsb hne hA hB
          obtain ⟨A8, hA8e⟩ : ∃ x : Nat, 8 * A = x := ⟨_, rfl⟩
          obtain ⟨B8, hB8e⟩ : ∃ x : Nat, 8 * B = x := ⟨_, rfl⟩
          obtain ⟨X, hX⟩ : ∃ x : Nat, A8 + B = x := ⟨_, rfl⟩
          obtain ⟨Y, hY⟩ : ∃ x : Nat, B8 + A = x := ⟨_, rfl⟩
          have w1 : IntKind.i64.wrap (8 * (A : Int)) = A8 := wrapI (by omega) (by omega)
          have w2 : IntKind.i64.wrap ((A8 : Int) + B) = X := wrapI (by omega) (by omega)
          have w3 : IntKind.i64.wrap (8 * (B : Int)) = B8 := wrapI (by omega) (by omega)
          have w4 : IntKind.i64.wrap ((B8 : Int) + A) = Y := wrapI (by omega) (by omega)
          have hX64 : (X : Int) < 64 := by omega
          have hY64 : (Y : Int) < 64 := by omega
          have hX8 : X / 8 = A ∧ X % 8 = B := by omega
          have hY8 : Y / 8 = B ∧ Y % 8 = A := by omega
          have hXY : X ≠ Y := by omega
          have cX : wr.cell? ⟨p, X, none⟩ = some (.int .i64 (w0 t slow k A B)) := by
            have h1 := rowI_cell hr.out (i := X) (by omega)
            rw [hX8.1, hX8.2] at h1
            exact h1
          have fX : wr.frozen? ⟨p, X, none⟩ = false := rowI_frozen hr.out X
          have HXY := Lib.hid (And.intro hX8 (And.intro hY8 hXY))
          have hXp : Hid (8 * A + B = X ∧ 8 * B + A = Y) := Lib.hid (by omega)
          have HAB8 := Lib.hid (And.intro hA8 (And.intro hB8 hAB))
          clear hX8 hY8 hXY hX hY hA8e hB8e hA8 hB8 hAB
          obtain ⟨M, hM⟩ : ∃ M, t.mn slow k = M := ⟨_, rfl⟩
          cases slow with
          | false =>
            have hM2 : t.slo k = M := hM
            rw [hM2] at c2
            have HMM := Lib.hid hM
            clear hM
            obtain ⟨V, hV⟩ : ∃ V, min (w0 t false k A B) M = V := ⟨_, rfl⟩; obtain ⟨U, hU⟩ : ∃ U, min (w0 t false k B A) M = U := ⟨_, rfl⟩; have hV1 : (if M < w0 t false k A B then M else w0 t false k A B) = V := (by split <;> omega); have hU1 : (if M < w0 t false k B A then M else w0 t false k B A) = U := (by split <;> omega); have hVU := Lib.hid (And.intro hV hU); clear hV hU; go_upto_region 15 with fail; (refine wp_region_tail 18 (by kernel_rfl) (by kernel_rfl) (by decide) ?_; simp only [List.take_succ_cons, List.take_zero, List.drop_succ_cons, List.drop_zero, List.take_nil, List.drop_nil, List.append_nil, List.nil_append, List.cons_append, Nat.reduceAdd, Nat.reduceSub]; (repeat (refine wpCalm_step (fun K hK => ?_); go_simp; first | (refine hK _ ?_; clear hK K) | (apply Exists.intro; refine ⟨fun n' x' => ?_, hK _ ?_⟩; (fail); clear hK K))); refine wpCalm_nil ?_; intro nq xq); have hq := World.lt_of_block hr.out; obtain ⟨q, hqe⟩ : ∃ q, wr.heap.size = q := ⟨_, rfl⟩; have gp : wr.grows (World.plus (World.alloc wr (.cells #[.int .i64 A, .int .i64 B, .int .i64 (t.slo k), .int .i64 (t.shi k)] 62)) nq xq) := (by (repeat (first | exact World.grows.refl _ | assumption | refine World.grows.alloc ?_ _ | refine World.grows.plus ?_ _ _ | refine World.grows.drew ?_))); have sb : (World.plus (World.alloc wr (.cells #[.int .i64 A, .int .i64 B, .int .i64 (t.slo k), .int .i64 (t.shi k)] 62)) nq xq).heap[q]? = some (.cells #[.int .i64 A, .int .i64 B, .int .i64 (t.slo k), .int .i64 (t.shi k)] 62) := World.grows.heap_of (World.grows_plus _ _ _) (World.heap_at _ _ _ hqe.symm); (try rw [hM2] at gp sb); simp only [hqe]; generalize World.plus (World.alloc wr _) _ _ = W5 at gp sb ⊢; rw [hqe] at hq; have r5 := gp.heap_of hr.out; have b5 := gp.heap_of hb.out; have g5 := hg.out.trans gp; clear gp hr hb hg cX fX c0 c1 c2 c3 q1 hqe; have hXl : X < 64 := (by omega); have hYl : Y < 64 := (by omega); have cX := rowI_cell r5 hXl; rw [HXY.out.1.1, HXY.out.1.2] at cX; have fX := rowI_frozen r5 X; go_upto_region 16 with fail; have r6 := rowI_store r5 hXl V; have g6 := g5.setCell (p := ⟨p, X, none⟩) (by dsimp only; omega) (.int .i64 V); have b6 := rowI_other (i := X) (v := .int .i64 V) b5 (show p ≠ w.heap.size by omega); have s6 := rowI_other (i := X) (v := .int .i64 V) sb (show p ≠ q by omega); generalize World.setCell W5 _ _ = W6 at r6 g6 b6 s6 ⊢; clear r5 g5 b5 sb cX fX; have d0 := cell_of_heap (i := 0) s6 rfl; have d1 := cell_of_heap (i := 1) s6 rfl; have cY := rowI_cell r6 hYl; rw [show updI (fun x => w0 t false k (x / 8) (x % 8)) X V Y = w0 t false k B A from (by unfold updI; rw [if_neg (Ne.symm HXY.out.2.2)]; show w0 t false k (Y / 8) (Y % 8) = _; rw [HXY.out.2.1.1, HXY.out.2.1.2])] at cY; (refine wp_region_tail 18 (by kernel_rfl) (by kernel_rfl) (by decide) ?_; simp only [List.take_succ_cons, List.take_zero, List.drop_succ_cons, List.drop_zero, List.take_nil, List.drop_nil, List.append_nil, List.nil_append, List.cons_append, Nat.reduceAdd, Nat.reduceSub]; (repeat (refine wpCalm_step (fun K hK => ?_); go_simp; first | (refine hK _ ?_; clear hK K) | (apply Exists.intro; refine ⟨fun n' x' => ?_, hK _ ?_⟩; (fail); clear hK K))); refine wpCalm_nil ?_; intro nq xq); have gy := World.grows_plus W6 nq xq; generalize World.plus W6 _ _ = W7 at gy ⊢; have r7 := gy.heap_of r6; have cY := rowI_cell r7 hYl; have fY := rowI_frozen r7 Y; have r8 := Lib.hid (rowI_store r7 hYl U); have g8 := Lib.hid ((g6.trans gy).setCell (p := ⟨p, Y, none⟩) (by dsimp only; omega) (.int .i64 U)); have b8 := Lib.hid (rowI_other (i := Y) (v := .int .i64 U) (gy.heap_of b6) (show p ≠ w.heap.size by omega)); clear r6 g6 b6 s6 gy r7 d0 d1; have HF : Hid (rowI 64 (updI (updI (fun x => w0 t false k (x / 8) (x % 8)) X V) Y U) = rowI 64 (fun x => w0 t false (k + 1) (x / 8) (x % 8))) := Lib.hid (by rw [← w0_row t false k A B HAe.out.1 HAe.out.2 HAB8.out.1 HAB8.out.2.1 HAB8.out.2.2, hXp.out.1, hXp.out.2, HMM.out, hVU.out.1, hVU.out.2]); have r9 : Hid ((W7.setCell ⟨p, Y, none⟩ (.int .i64 U)).heap[p]? = some (.cells (rowI 64 fun x => w0 t false (k + 1) (x / 8) (x % 8)) 2)) := Lib.hid (by rw [← HF.out]; exact r8.out); clear r8 HF; go_upto_region 10 with fail; generalize World.setCell W7 _ _ = W8 at g8 b8 r9 ⊢; clear cY fY; go_wp2
            case roundEnd => exact ⟨⟨k + 1, by omega, by go_num, g8, b8, r9⟩, by simp [intOf]; omega⟩
          | true =>
            have hM2 : t.shi k = M := hM
            rw [hM2] at c3
            have HMM := Lib.hid hM
            clear hM
            obtain ⟨V, hV⟩ : ∃ V, min (w0 t true k A B) M = V := ⟨_, rfl⟩; obtain ⟨U, hU⟩ : ∃ U, min (w0 t true k B A) M = U := ⟨_, rfl⟩; have hV1 : (if M < w0 t true k A B then M else w0 t true k A B) = V := (by split <;> omega); have hU1 : (if M < w0 t true k B A then M else w0 t true k B A) = U := (by split <;> omega); have hVU := Lib.hid (And.intro hV hU); clear hV hU; go_upto_region 15 with fail; (refine wp_region_tail 18 (by kernel_rfl) (by kernel_rfl) (by decide) ?_; simp only [List.take_succ_cons, List.take_zero, List.drop_succ_cons, List.drop_zero, List.take_nil, List.drop_nil, List.append_nil, List.nil_append, List.cons_append, Nat.reduceAdd, Nat.reduceSub]; (repeat (refine wpCalm_step (fun K hK => ?_); go_simp; first | (refine hK _ ?_; clear hK K) | (apply Exists.intro; refine ⟨fun n' x' => ?_, hK _ ?_⟩; (fail); clear hK K))); refine wpCalm_nil ?_; intro nq xq); have hq := World.lt_of_block hr.out; obtain ⟨q, hqe⟩ : ∃ q, wr.heap.size = q := ⟨_, rfl⟩; have gp : wr.grows (World.plus (World.alloc wr (.cells #[.int .i64 A, .int .i64 B, .int .i64 (t.slo k), .int .i64 (t.shi k)] 62)) nq xq) := (by (repeat (first | exact World.grows.refl _ | assumption | refine World.grows.alloc ?_ _ | refine World.grows.plus ?_ _ _ | refine World.grows.drew ?_))); have sb : (World.plus (World.alloc wr (.cells #[.int .i64 A, .int .i64 B, .int .i64 (t.slo k), .int .i64 (t.shi k)] 62)) nq xq).heap[q]? = some (.cells #[.int .i64 A, .int .i64 B, .int .i64 (t.slo k), .int .i64 (t.shi k)] 62) := World.grows.heap_of (World.grows_plus _ _ _) (World.heap_at _ _ _ hqe.symm); (try rw [hM2] at gp sb); simp only [hqe]; generalize World.plus (World.alloc wr _) _ _ = W5 at gp sb ⊢; rw [hqe] at hq; have r5 := gp.heap_of hr.out; have b5 := gp.heap_of hb.out; have g5 := hg.out.trans gp; clear gp hr hb hg cX fX c0 c1 c2 c3 q1 hqe; have hXl : X < 64 := (by omega); have hYl : Y < 64 := (by omega); have cX := rowI_cell r5 hXl; rw [HXY.out.1.1, HXY.out.1.2] at cX; have fX := rowI_frozen r5 X; go_upto_region 16 with fail; have r6 := rowI_store r5 hXl V; have g6 := g5.setCell (p := ⟨p, X, none⟩) (by dsimp only; omega) (.int .i64 V); have b6 := rowI_other (i := X) (v := .int .i64 V) b5 (show p ≠ w.heap.size by omega); have s6 := rowI_other (i := X) (v := .int .i64 V) sb (show p ≠ q by omega); generalize World.setCell W5 _ _ = W6 at r6 g6 b6 s6 ⊢; clear r5 g5 b5 sb cX fX; have d0 := cell_of_heap (i := 0) s6 rfl; have d1 := cell_of_heap (i := 1) s6 rfl; have cY := rowI_cell r6 hYl; rw [show updI (fun x => w0 t true k (x / 8) (x % 8)) X V Y = w0 t true k B A from (by unfold updI; rw [if_neg (Ne.symm HXY.out.2.2)]; show w0 t true k (Y / 8) (Y % 8) = _; rw [HXY.out.2.1.1, HXY.out.2.1.2])] at cY; (refine wp_region_tail 18 (by kernel_rfl) (by kernel_rfl) (by decide) ?_; simp only [List.take_succ_cons, List.take_zero, List.drop_succ_cons, List.drop_zero, List.take_nil, List.drop_nil, List.append_nil, List.nil_append, List.cons_append, Nat.reduceAdd, Nat.reduceSub]; (repeat (refine wpCalm_step (fun K hK => ?_); go_simp; first | (refine hK _ ?_; clear hK K) | (apply Exists.intro; refine ⟨fun n' x' => ?_, hK _ ?_⟩; (fail); clear hK K))); refine wpCalm_nil ?_; intro nq xq); have gy := World.grows_plus W6 nq xq; generalize World.plus W6 _ _ = W7 at gy ⊢; have r7 := gy.heap_of r6; have cY := rowI_cell r7 hYl; have fY := rowI_frozen r7 Y; have r8 := Lib.hid (rowI_store r7 hYl U); have g8 := Lib.hid ((g6.trans gy).setCell (p := ⟨p, Y, none⟩) (by dsimp only; omega) (.int .i64 U)); have b8 := Lib.hid (rowI_other (i := Y) (v := .int .i64 U) (gy.heap_of b6) (show p ≠ w.heap.size by omega)); clear r6 g6 b6 s6 gy r7 d0 d1; have HF : Hid (rowI 64 (updI (updI (fun x => w0 t true k (x / 8) (x % 8)) X V) Y U) = rowI 64 (fun x => w0 t true (k + 1) (x / 8) (x % 8))) := Lib.hid (by rw [← w0_row t true k A B HAe.out.1 HAe.out.2 HAB8.out.1 HAB8.out.2.1 HAB8.out.2.2, hXp.out.1, hXp.out.2, HMM.out, hVU.out.1, hVU.out.2]); have r9 : Hid ((W7.setCell ⟨p, Y, none⟩ (.int .i64 U)).heap[p]? = some (.cells (rowI 64 fun x => w0 t true (k + 1) (x / 8) (x % 8)) 2)) := Lib.hid (by rw [← HF.out]; exact r8.out); clear r8 HF; go_upto_region 10 with fail; generalize World.setCell W7 _ _ = W8 at g8 b8 r9 ⊢; clear cY fY; go_wp2
            case roundEnd => exact ⟨⟨k + 1, by omega, by go_num, g8, b8, r9⟩, by simp [intOf]; omega⟩
        · have hke : k = t.ns := by omega
          subst hke
          have R0 : Hid (wr.heap[p]? = some (.cells (rowI 64 (fst t slow 0 0)) 2)) := Lib.hid (by rw [hr.out]; rfl)
          clear hr hk hlt Hs
          have Hfw := Lib.hid (fun k (hk : k ≤ 8) => fw_props (slow := slow) Hok.out k hk)
          clear Hok
          obtain ⟨W3, rfl⟩ : ∃ W3, W3 = wr := ⟨_, rfl⟩
          go_wp2
          go_loopw [10] (fun i wr => ∃ k : Nat, k ≤ 8 ∧ i = .int .i64 k ∧ Hid (w.grows wr) ∧ Hid (wr.heap[p]? = some (.cells (rowI 64 (fst t slow k 0)) 2))) (fun i _ => 8 - (intOf i).toNat)
          case atStart => exact ⟨0, by omega, rfl, hg, R0⟩
          case round =>
            clear hg hb R0
            obtain ⟨k, hk, rfl, hg, hr⟩ := hrel
            by_cases hlt : k < 8
            · have hkI : (k : Int) < 8 := by omega
              go_wp2
              obtain ⟨W4, rfl⟩ : ∃ W4, W4 = wr := ⟨_, rfl⟩
              go_loopw [11] (fun i wr => ∃ a : Nat, a ≤ 8 ∧ i = .int .i64 a ∧ Hid (w.grows wr) ∧ Hid (wr.heap[p]? = some (.cells (rowI 64 (fst t slow k (8 * a))) 2))) (fun i _ => 8 - (intOf i).toNat)
              case atStart => exact ⟨0, by omega, rfl, hg, hr⟩
              case round =>
                clear hg hr
                obtain ⟨a, ha, rfl, hg, hr⟩ := hrel
                by_cases hal : a < 8
                · have haI : (a : Int) < 8 := by omega
                  go_wp2
                  obtain ⟨W5, rfl⟩ : ∃ W5, W5 = wr := ⟨_, rfl⟩
                  go_loopw [12] (fun i wr => ∃ b : Nat, b ≤ 8 ∧ i = .int .i64 b ∧ Hid (w.grows wr) ∧ Hid (wr.heap[p]? = some (.cells (rowI 64 (fst t slow k (8 * a + b))) 2))) (fun i _ => 8 - (intOf i).toNat)
                  case atStart => exact ⟨0, by omega, rfl, hg, hr⟩
                  case round =>
                    clear hg hr
                    obtain ⟨b, hb, rfl, hg, hr⟩ := hrel
                    by_cases hbl : b < 8
                    · have hbI : (b : Int) < 8 := by omega
                      obtain ⟨A8, hA8e⟩ : ∃ x : Nat, 8 * a = x := ⟨_, rfl⟩
                      obtain ⟨K8, hK8e⟩ : ∃ x : Nat, 8 * k = x := ⟨_, rfl⟩
                      obtain ⟨X, hX⟩ : ∃ x : Nat, A8 + b = x := ⟨_, rfl⟩
                      obtain ⟨Y, hY⟩ : ∃ x : Nat, A8 + k = x := ⟨_, rfl⟩
                      obtain ⟨Z, hZ⟩ : ∃ x : Nat, K8 + b = x := ⟨_, rfl⟩
                      have w1 : IntKind.i64.wrap (8 * (a : Int)) = A8 := wrapI (by omega) (by omega)
                      have w2 : IntKind.i64.wrap ((A8 : Int) + b) = X := wrapI (by omega) (by omega)
                      have w3 : IntKind.i64.wrap ((A8 : Int) + k) = Y := wrapI (by omega) (by omega)
                      have w4 : IntKind.i64.wrap (8 * (k : Int)) = K8 := wrapI (by omega) (by omega)
                      have w5 : IntKind.i64.wrap ((K8 : Int) + b) = Z := wrapI (by omega) (by omega)
                      have hX64 : (X : Int) < 64 := by omega
                      have hY64 : (Y : Int) < 64 := by omega
                      have hZ64 : (Z : Int) < 64 := by omega
                      have hXn : X < 64 := by omega
                      obtain ⟨DX, hDX⟩ : ∃ x, fw t slow k a b = x := ⟨_, rfl⟩
                      obtain ⟨DY, hDY⟩ : ∃ x, fw t slow k a k = x := ⟨_, rfl⟩
                      obtain ⟨DZ, hDZ⟩ : ∃ x, fw t slow k k b = x := ⟨_, rfl⟩
                      have cX : wr.cell? ⟨p, X, none⟩ = some (.int .i64 DX) := by
                        have h1 := rowI_cell hr.out hXn
                        rw [fst_at Hfw.out hlt, show X / 8 = a by omega, show X % 8 = b by omega, if_neg (by omega), hDX] at h1
                        exact h1
                      have cY : wr.cell? ⟨p, Y, none⟩ = some (.int .i64 DY) := by
                        have h1 := rowI_cell hr.out (i := Y) (by omega)
                        rw [fst_row Hfw.out hlt (by omega), show Y / 8 = a by omega, hDY] at h1
                        exact h1
                      have cZ : wr.cell? ⟨p, Z, none⟩ = some (.int .i64 DZ) := by
                        have h1 := rowI_cell hr.out (i := Z) (by omega)
                        rw [fst_col Hfw.out hlt (by omega), show Z % 8 = b by omega, hDZ] at h1
                        exact h1
                      have hbd := fw_bd Hfw.out (show k ≤ 8 by omega)
                      have hy := hbd a k
                      have hz := hbd k b
                      have hx := hbd a b
                      rw [hDY] at hy; rw [hDZ] at hz; rw [hDX] at hx
                      have w6 : IntKind.i64.wrap (DY + DZ) = DY + DZ := wrapI rfl (by omega)
                      obtain ⟨V, hV⟩ : ∃ V, min DX (DY + DZ) = V := ⟨_, rfl⟩
                      have hV1 : (if DY + DZ < DX then DY + DZ else DX) = V := by split <;> omega
                      have HF : Hid (rowI 64 (updI (fst t slow k (8 * a + b)) X V) = rowI 64 (fst t slow k (8 * a + (b + 1)))) := Lib.hid (by
                        refine rowI_congr fun x hx => ?_
                        unfold updI
                        by_cases e : x = X
                        · rw [if_pos e, fst_at Hfw.out hlt, if_pos (by omega), e, show X / 8 = a by omega, show X % 8 = b by omega]
                          show V = min (fw t slow k a b) (fw t slow k a k + fw t slow k k b)
                          rw [hDX, hDY, hDZ, hV]
                        · rw [if_neg e, fst_at Hfw.out hlt, fst_at Hfw.out hlt]
                          by_cases e2 : x < 8 * a + b
                          · rw [if_pos e2, if_pos (show x < 8 * a + (b + 1) by omega)]
                          · rw [if_neg e2, if_neg (show ¬ x < 8 * a + (b + 1) by omega)])
                      clear hV hbd hx hy hz hDX hDY hDZ hA8e hK8e hX hY hZ
                      go_upto_region 26 with fail
                      (refine wp_region_tail 28 (by kernel_rfl) (by kernel_rfl) (by decide) ?_; simp only [List.take_succ_cons, List.take_zero, List.drop_succ_cons, List.drop_zero, List.take_nil, List.drop_nil, List.append_nil, List.nil_append, List.cons_append, Nat.reduceAdd, Nat.reduceSub]; (repeat (refine wpCalm_step (fun K hK => ?_); go_simp; first | (refine hK _ ?_; clear hK K) | (apply Exists.intro; refine ⟨fun n' x' => ?_, hK _ ?_⟩; (fail); clear hK K))); refine wpCalm_nil ?_; intro nq xq)
                      have gp := World.grows_plus wr nq xq
                      have g6 := hg.out.trans gp
                      have r6 := gp.heap_of hr.out
                      clear hg hr cX cY cZ
                      generalize World.plus wr _ _ = W6 at g6 r6 ⊢
                      have cX := rowI_cell r6 hXn
                      have fX := rowI_frozen r6 X
                      have r7 : Hid ((W6.setCell ⟨p, X, none⟩ (.int .i64 V)).heap[p]? = some (.cells (rowI 64 (fst t slow k (8 * a + (b + 1)))) 2)) := Lib.hid (by rw [← HF.out]; exact rowI_store r6 hXn V)
                      have g7 := Lib.hid (g6.setCell (p := ⟨p, X, none⟩) (by dsimp only; omega) (.int .i64 V))
                      clear r6 g6 HF gp
                      go_upto_region 25 with fail
                      generalize World.setCell W6 _ _ = W7 at r7 g7 ⊢
                      clear cX fX w1 w2 w3 w4 w5 w6 hV1
                      go_wp2
                      case roundEnd => exact ⟨⟨b + 1, by omega, by go_num, g7, r7⟩, by simp [intOf]; omega⟩
                    · have hbe : b = 8 := by omega
                      subst hbe
                      have r7 : Hid (wr.heap[p]? = some (.cells (rowI 64 (fst t slow k (8 * (a + 1)))) 2)) := hr
                      clear hr
                      go_wp2
                      case roundEnd => exact ⟨⟨a + 1, by omega, by go_num, hg, r7⟩, by simp [intOf]; omega⟩
                · have hae : a = 8 := by omega
                  subst hae
                  have r7 : Hid (wr.heap[p]? = some (.cells (rowI 64 (fst t slow (k + 1) 0)) 2)) := Lib.hid (by
                    rw [hr.out, rowI_congr fun x hx => ?_]
                    unfold fst
                    rw [if_pos (by omega), if_neg (by omega)])
                  clear hr
                  go_wp2
                  case roundEnd => exact ⟨⟨k + 1, by omega, by go_num, hg, r7⟩, by simp [intOf]; omega⟩
            · have hke : k = 8 := by omega
              subst hke
              clear Hfw
              go_wp2
              (refine bodyPost_ret (v := .slice (some ⟨p, 0, none⟩) 64 64) (by simp [results, Try.results51, go_sem]) rfl ?_)
              refine ⟨p, rfl, hg.out, by omega, ?_⟩
              rw [hr.out, rowI_congr fun x hx => ?_]
              rfl
end Go.Proofs.Ytaanbdjmibjcbaa

/-
  What is proved: which visits are late, in the definition (66).
-/
namespace Go.Proofs.Ytaanbdjmibjcbaa
open Go.RowKit
attribute [local irreducible] Go.wpCalm rowI

set_option maxRecDepth 100000 in
set_option maxHeartbeats 2000000 in
theorem rlate_c (w : World) (tv : Value) (t : Town) (slow : Bool) (ht : TownAt w tv t) (hok : t.Ok) : Calls Try.prog 66 #[tv, .bool slow] w fun e w' => ∃ v, e = .returned v ∧ w.grows w' ∧ ListAt w' v (filtL (lateV t slow) t.nv) := by
  have Ht := Lib.hid ht
  obtain ⟨sv, vv, rfl, hs, hv⟩ := ht
  obtain ⟨sa, sc, rfl, s1, s2, -⟩ := hs
  obtain ⟨va, vc, rfl, v1, v2, hv⟩ := hv
  have Hv := Lib.hid hv
  have Hok := Lib.hid hok
  have h16 := hok.v16
  unfold maxLen at v2 s2
  have h51 := fun W (g : w.grows W) => rways_c W _ t slow (Ht.out.mono g) Hok.out
  clear hv hok
  go_enter Try.func66, Try.ntmps66
  go_wp2_with (go_at_call 99; fail)
  refine (h51 _ (by (repeat (first | exact World.grows.refl _ | assumption | refine World.grows.alloc ?_ _ | refine World.grows.plus ?_ _ _ | refine World.grows.drew ?_)))).mono ?_
  rintro e W ⟨p, rfl, g, hlt, hp⟩
  have gW := Lib.hid (World.grows.trans (show w.grows _ by (repeat (first | exact World.grows.refl _ | assumption | refine World.grows.alloc ?_ _ | refine World.grows.plus ?_ _ _ | refine World.grows.drew ?_))) g)
  have HP := Lib.hid hp
  have HB : Hid (W.heap[w.heap.size]? = some (.cells #[.int .i64 t.pl, .slice sa t.ns sc, .slice va t.nv vc] 25)) := Lib.hid (World.grows.heap_of g (World.heap_at _ _ _ rfl))
  clear h51 g hlt hp
  go_wp2
  go_loopw [6, 7] (fun l i wr => ∃ k : Nat, k ≤ t.nv ∧ i = .int .i64 k ∧ Hid (wr.ownsRow W.heap.size 3 1 l (filtL (lateV t slow) k).length (ilist (filtL (lateV t slow) k))) ∧ Hid (W.grows wr)) (fun _ i _ => t.nv - (intOf i).toNat)
  case atStart => exact ⟨0, by omega, rfl, Lib.hid (World.ownsRow_nil _ _ _ _), Lib.hid (World.grows.refl _)⟩
  case round =>
    obtain ⟨k, hk, rfl, ho, hg⟩ := hrel
    obtain ⟨la, lc, rfl, -, -⟩ := row_form ho.out
    have q2 : wr.cell? ⟨w.heap.size, 2, none⟩ = some (.slice va t.nv vc) := cell_of_heap (World.grows.heap_of hg.out HB.out) rfl
    by_cases hlt : k < t.nv
    · obtain ⟨b, o, rfl, c0⟩ := Hv.out k 0 hlt (by omega)
      obtain ⟨_, _, e1, c1⟩ := Hv.out k 1 hlt (by omega); cases e1
      have hvk := Hok.out.vp k hlt
      have h8 := Hok.out.p8
      obtain ⟨Z, hZ⟩ : ∃ Z : Nat, t.vp k = Z := ⟨(t.vp k).toNat, by omega⟩
      have hZ8 : Z < 8 := by omega
      have gww := World.grows.trans gW.out hg.out
      replace c0 : wr.cell? ⟨b, o + k * 3, none⟩ = some (.int .i64 Z) := by rw [← hZ]; exact World.grows.cell_of gww c0
      replace c1 : wr.cell? ⟨b, o + k * 3 + 1, none⟩ = some (.int .i64 (t.vf k)) := World.grows.cell_of gww c1
      have hkI : (k : Int) < t.nv := by omega
      have hZI : (Z : Int) < 64 := by omega
      obtain ⟨D, hD⟩ : ∃ D, dist t slow 0 Z = D := ⟨_, rfl⟩
      have hl : lateV t slow k = decide (t.vf k < D) := by unfold lateV; rw [hZ, Int.toNat_natCast, hD]
      have cw := rowI_cell (World.grows.heap_of hg.out HP.out) (i := Z) (by omega)
      rw [show Z / 8 = 0 by omega, show Z % 8 = Z by omega, hD] at cw
      clear hvk h8 hZ hD gww
      go_upto_region 6 with fail
      by_cases hvs : t.vf k < D
      case neg =>
        rw [decide_eq_false hvs] at hl
        have HF : Hid (filtL (lateV t slow) (k + 1) = filtL (lateV t slow) k) := Lib.hid (by rw [filtL_succ, hl]; rfl)
        clear hl
        (refine wp_region_calm (by kernel_rfl) (by kernel_rfl) ?_; (repeat (refine wpCalm_step (fun K hK => ?_); go_simp; first | (refine hK _ ?_; clear hK K) | (apply Exists.intro; refine ⟨fun n' x' => ?_, hK _ ?_⟩; (fail); clear hK K))); refine wpCalm_nil ?_; intro nq xq)
        have gp := World.grows_plus wr nq xq
        replace ho : Hid ((wr.plus nq xq).ownsRow W.heap.size 3 1 (.slice la (filtL (lateV t slow) k).length lc) (filtL (lateV t slow) (k + 1)).length (ilist (filtL (lateV t slow) (k + 1)))) := Lib.hid (by rw [HF.out]; exact ho.out.grow gp)
        replace hg := Lib.hid (World.grows.trans hg.out gp)
        clear cw c0 c1 q2 gp
        generalize World.plus wr _ _ = V2 at ho hg ⊢
        go_wp2
        case roundEnd => exact ⟨⟨k + 1, by omega, by go_num, ho, hg⟩, by simp [intOf]; omega⟩
      case pos =>
        rw [decide_eq_true hvs] at hl
        have HF : Hid (filtL (lateV t slow) (k + 1) = filtL (lateV t slow) k ++ [k]) := Lib.hid (by rw [filtL_succ, hl]; rfl)
        have hlen := filtL_len (lateV t slow) k
        clear hl
        (refine wp_region_calm (by kernel_rfl) (by kernel_rfl) ?_; (repeat (refine wpCalm_step (fun K hK => ?_); go_simp; first | (refine hK _ ?_; clear hK K) | (apply Exists.intro; refine ⟨fun n' x' => ?_, hK _ ?_⟩; (fail); clear hK K))); refine wpCalm_nil ?_; intro nq xq)
        have gp := World.grows_plus wr nq xq
        replace ho := Lib.hid (ho.out.grow gp)
        replace hg := Lib.hid (World.grows.trans hg.out gp)
        have hsz := hg.out.size
        clear cw c0 c1 q2 gp
        generalize World.plus wr _ _ = V2 at ho hg hsz ⊢
        obtain ⟨n, hn⟩ : ∃ n, (filtL (lateV t slow) k).length = n := ⟨_, rfl⟩
        rw [hn] at ho hlen ⊢
        have Hn := Lib.hid hn
        clear hn
        go_wp2_with (at_builtin; go_loud (refine wpList_append_r _ rfl _ _ _ (by rfl) W.heap.size 3 (.int .i64 0) 1 8 Try.underlying35 el3 (by rfl) (by omega) _ n _ (by rfl) (ho.out.grow (by (repeat (first | exact World.grows.refl _ | assumption | refine World.grows.alloc ?_ _ | refine World.grows.plus ?_ _ _ | refine World.grows.drew ?_)))) _ (by rfl) 1 _ (SliceAt.src (by omega) (one_slice _ _ _ _ (by simp))) (one_cell _) (by unfold maxLen; omega) (by omega) (by simp; omega) ?_; intro v' w3 hown3 hgb; obtain ⟨la3, lc3, rfl, -, -⟩ := row_form hown3; have ho3 : Hid (w3.ownsRow W.heap.size 3 1 (.slice la3 (n + 1) lc3) (filtL (lateV t slow) (k + 1)).length (ilist (filtL (lateV t slow) (k + 1)))) := Lib.hid (by rw [HF.out, ilist_snoc, List.length_append, Hn.out]; exact hown3); have hg3 := Lib.hid (hgb.grows (ho.out.grow (World.grows.alloc (World.grows.refl V2) _)) (World.grows.trans hg.out (World.grows.alloc (World.grows.refl V2) _)) (Nat.le_refl _)); clear hown3 hgb))
        case roundEnd =>
          have hlen2 : (filtL (lateV t slow) (k + 1)).length = n + 1 := by rw [HF.out, List.length_append, Hn.out]; rfl
          exact ⟨⟨k + 1, by omega, by go_num, by rw [hlen2] at ho3 ⊢; exact ho3, hg3⟩, by simp [intOf]; omega⟩
    · have hke : k = t.nv := by omega
      subst hke
      have hL := Lib.hid (ho.out.listAt rfl)
      have gw := Lib.hid (World.grows.trans gW.out hg.out)
      clear ho
      go_wp2
      (refine bodyPost_ret (v := .slice la (filtL (lateV t slow) t.nv).length lc) (by simp [results, Try.results66, go_sem]) rfl ?_)
      exact ⟨_, rfl, gw.out, hL.out⟩
end Go.Proofs.Ytaanbdjmibjcbaa

/-
  What is proved: Late, in the program (23) and in the definition (24).
-/
namespace Go.Proofs.Ytaanbdjmibjcbaa
open Go.RowKit
attribute [local irreducible] Go.wpCalm rowI

/-- what Late answers -/
def lateL (t : Town) (slow : Bool) : List Nat := if t.check = 0 then filtL (lateV t slow) t.nv else []
theorem ListAt.nil (w : World) : ListAt w (.slice none 0 0) [] := ⟨none, 0, rfl, Nat.le_refl _, Nat.zero_le _, fun i j hi => by simp at hi⟩
set_option maxHeartbeats 1000000 in
theorem lateX_c (w : World) (tv : Value) (t : Town) (slow : Bool) (ht : TownAt w tv t) : Calls Try.prog 23 #[tv, .bool slow] w fun e w' => ∃ v, e = .returned (.tuple #[v, .int .i64 (t.check : Int)]) ∧ w.grows w' ∧ ListAt w' v (lateL t slow) := by
  have Ht := Lib.hid ht
  obtain ⟨sv, vv, rfl, ⟨sa, sc, rfl, -⟩, ⟨va, vc, rfl, -⟩⟩ := ht
  by_cases hc : t.check = 0
  · have hok := t.ok_iff.1 hc
    have Hok := Lib.hid hok
    have HR : Hid (lateL t slow = filtL (lateV t slow) t.nv) := Lib.hid (by unfold lateL; rw [if_pos hc])
    have Hc := Lib.hid hc
    have h48 := fun W (g : w.grows W) => open_ok W _ t slow (Ht.out.mono g) Hok.out
    clear hok hc
    go_enter Try.func23, Try.ntmps23
    go_wp2_with (go_at_call 99; fail)
    refine (h48 _ (by (repeat (first | exact World.grows.refl _ | assumption | refine World.grows.alloc ?_ _ | refine World.grows.plus ?_ _ _ | refine World.grows.drew ?_)))).mono ?_
    rintro e W ⟨y, rfl, g, hlt, hY⟩
    have gW : w.grows W := World.grows.trans (by (repeat (first | exact World.grows.refl _ | assumption | refine World.grows.alloc ?_ _ | refine World.grows.plus ?_ _ _ | refine World.grows.drew ?_))) g
    have HY := Lib.hid hY
    clear hY g hlt h48
    go_wp2_with (go_at_call 99; fail)
    refine (late_c _ y t slow (HY.out.mono (by (repeat (first | exact World.grows.refl _ | assumption | refine World.grows.alloc ?_ _ | refine World.grows.plus ?_ _ _ | refine World.grows.drew ?_)))) Hok.out).mono ?_
    rintro e W2 ⟨v, rfl, g, hL⟩
    have gW2 : w.grows W2 := World.grows.trans gW (World.grows.trans (by (repeat (first | exact World.grows.refl _ | assumption | refine World.grows.alloc ?_ _ | refine World.grows.plus ?_ _ _ | refine World.grows.drew ?_))) g)
    have HL := Lib.hid hL
    obtain ⟨la, lc, rfl, -⟩ := hL
    clear g
    go_wp2
    (refine bodyPost_ret (v := .tuple #[.slice la (filtL (lateV t slow) t.nv).length lc, .int .i64 0]) (by simp [results, Try.results23, go_sem]) rfl ?_)
    exact ⟨_, by rw [Hc.out]; rfl, gW2, by rw [HR.out]; exact HL.out⟩
  · have HR : Hid (lateL t slow = []) := Lib.hid (by unfold lateL; rw [if_neg hc])
    obtain ⟨C, hC⟩ : ∃ C : Nat, t.check = C := ⟨_, rfl⟩
    have h48 := fun W (g : w.grows W) => open_bad W _ t slow (Ht.out.mono g) hc
    simp only [hC] at h48
    have hc0 : ¬ (C : Int) = 0 := by omega
    have HC := Lib.hid hC
    clear hc hC
    go_enter Try.func23, Try.ntmps23
    go_wp2_with (go_at_call 99; fail)
    refine (h48 _ (by (repeat (first | exact World.grows.refl _ | assumption | refine World.grows.alloc ?_ _ | refine World.grows.plus ?_ _ _ | refine World.grows.drew ?_)))).mono ?_
    rintro e W ⟨rfl, g⟩
    have gW : w.grows W := World.grows.trans (by (repeat (first | exact World.grows.refl _ | assumption | refine World.grows.alloc ?_ _ | refine World.grows.plus ?_ _ _ | refine World.grows.drew ?_))) g
    clear h48 g
    go_wp2
    (refine bodyPost_ret (v := .tuple #[.slice none 0 0, .int .i64 (C : Int)]) (by simp [results, Try.results23, go_sem]) rfl ?_)
    exact ⟨_, by rw [HC.out], gW, by rw [HR.out]; exact ListAt.nil _⟩
set_option maxHeartbeats 1000000 in
theorem rlateX_c (w : World) (tv : Value) (t : Town) (slow : Bool) (ht : TownAt w tv t) : Calls Try.prog 24 #[tv, .bool slow] w fun e w' => ∃ v, e = .returned (.tuple #[v, .int .i64 (t.check : Int)]) ∧ w.grows w' ∧ ListAt w' v (lateL t slow) := by
  have Ht := Lib.hid ht
  obtain ⟨sv, vv, rfl, ⟨sa, sc, rfl, -⟩, ⟨va, vc, rfl, -⟩⟩ := ht
  have h20 := fun W (g : w.grows W) => rcheck_c W _ t (Ht.out.mono g)
  by_cases hc : t.check = 0
  · have hok := t.ok_iff.1 hc
    have Hok := Lib.hid hok
    have HR : Hid (lateL t slow = filtL (lateV t slow) t.nv) := Lib.hid (by unfold lateL; rw [if_pos hc])
    have Hc := Lib.hid hc
    simp only [hc] at h20
    have h66 := fun W (g : w.grows W) => rlate_c W _ t slow (Ht.out.mono g) Hok.out
    clear hok hc
    go_enter Try.func24, Try.ntmps24
    go_wp2_with (go_at_call 99; fail)
    refine (h20 _ (by (repeat (first | exact World.grows.refl _ | assumption | refine World.grows.alloc ?_ _ | refine World.grows.plus ?_ _ _ | refine World.grows.drew ?_)))).mono ?_
    rintro e W ⟨rfl, g⟩
    obtain ⟨n2, x2, rfl⟩ := World.plus_of g
    clear h20
    go_wp2_with (go_at_call 99; fail)
    refine (h66 _ (by (repeat (first | exact World.grows.refl _ | assumption | refine World.grows.alloc ?_ _ | refine World.grows.plus ?_ _ _ | refine World.grows.drew ?_)))).mono ?_
    rintro e W2 ⟨v, rfl, g, hL⟩
    have gW2 : w.grows W2 := World.grows.trans (by (repeat (first | exact World.grows.refl _ | assumption | refine World.grows.alloc ?_ _ | refine World.grows.plus ?_ _ _ | refine World.grows.drew ?_))) g
    have HL := Lib.hid hL
    obtain ⟨la, lc, rfl, -⟩ := hL
    clear g h66
    go_wp2
    (refine bodyPost_ret (v := .tuple #[.slice la (filtL (lateV t slow) t.nv).length lc, .int .i64 0]) (by simp [results, Try.results24, go_sem]) rfl ?_)
    exact ⟨_, by rw [Hc.out]; rfl, gW2, by rw [HR.out]; exact HL.out⟩
  · have HR : Hid (lateL t slow = []) := Lib.hid (by unfold lateL; rw [if_neg hc])
    obtain ⟨C, hC⟩ : ∃ C : Nat, t.check = C := ⟨_, rfl⟩
    simp only [hC] at h20
    have hc0 : ¬ (C : Int) = 0 := by omega
    have HC := Lib.hid hC
    clear hc hC
    go_enter Try.func24, Try.ntmps24
    go_wp2_with (go_at_call 99; fail)
    refine (h20 _ (by (repeat (first | exact World.grows.refl _ | assumption | refine World.grows.alloc ?_ _ | refine World.grows.plus ?_ _ _ | refine World.grows.drew ?_)))).mono ?_
    rintro e W ⟨rfl, g⟩
    obtain ⟨n2, x2, rfl⟩ := World.plus_of g
    go_wp2_with (go_at_call 99; fail)
    refine (h20 _ (by (repeat (first | exact World.grows.refl _ | assumption | refine World.grows.alloc ?_ _ | refine World.grows.plus ?_ _ _ | refine World.grows.drew ?_)))).mono ?_
    rintro e W ⟨rfl, g⟩
    obtain ⟨n3, x3, rfl⟩ := World.plus_of g
    clear h20
    go_wp2
    (refine bodyPost_ret (v := .tuple #[.slice none 0 0, .int .i64 (C : Int)]) (by simp [results, Try.results24, go_sem]) rfl ?_)
    exact ⟨_, by rw [HC.out], by (repeat (first | exact World.grows.refl _ | assumption | refine World.grows.alloc ?_ _ | refine World.grows.plus ?_ _ _ | refine World.grows.drew ?_)), by rw [HR.out]; exact ListAt.nil _⟩
end Go.Proofs.Ytaanbdjmibjcbaa

/-
  What is proved: the yard of a town whose visits are not late, or its error (71).
-/
namespace Go.Proofs.Ytaanbdjmibjcbaa
open Go.RowKit
attribute [local irreducible] Go.wpCalm rowI

theorem anyLate_iff (t : Town) (slow : Bool) : anyLate t slow = true ↔ 0 < (filtL (lateV t slow) t.nv).length := by
  unfold anyLate filtL
  rw [List.length_pos_iff_exists_mem, List.any_eq_true]
  constructor
  · rintro ⟨x, h1, h2⟩
    exact ⟨x, List.mem_filter.2 ⟨h1, h2⟩⟩
  · rintro ⟨x, h⟩
    exact ⟨x, (List.mem_filter.1 h).1, (List.mem_filter.1 h).2⟩
/-- the error where two visits are asked for -/
def askE (t : Town) (slow : Bool) (a b : Int) : Nat := if t.check ≠ 0 then t.check else if isV t.nv a && isV t.nv b && !decide (a = b) then (if anyLate t slow then 12 else 0) else 2
/-- what ready answers -/
def RdyIs (w : World) (t : Town) (slow : Bool) (E : Nat) (e : Ending) (w' : World) : Prop := if E = 0 then ∃ y, e = .returned (.tuple #[.pointer (some ⟨y, 0, none⟩), .int .i64 0]) ∧ w.grows w' ∧ w.heap.size < y ∧ YardOf w' y t slow else e = .returned (.tuple #[.pointer none, .int .i64 (E : Int)]) ∧ w.grows w'
theorem ready_bad (w : World) (tv lv : Value) (t : Town) (slow : Bool) (ht : TownAt w tv t) (hc : t.check ≠ 0) : Calls Try.prog 71 #[tv, .bool slow, lv] w fun e w' => e = .returned (.tuple #[.pointer none, .int .i64 (t.check : Int)]) ∧ w.grows w' := by
  have Ht := Lib.hid ht
  obtain ⟨sv, vv, rfl, ⟨sa, sc, rfl, -⟩, ⟨va, vc, rfl, -⟩⟩ := ht
  obtain ⟨C, hC⟩ : ∃ C : Nat, t.check = C := ⟨_, rfl⟩
  have h48 := fun W (g : w.grows W) => open_bad W _ t slow (Ht.out.mono g) hc
  rw [hC] at hc ⊢
  simp only [hC] at h48
  have hc0 : ¬ (C : Int) = 0 := by omega
  go_enter Try.func71, Try.ntmps71
  go_wp2_with (go_at_call 99; fail)
  refine (h48 _ (by (repeat (first | exact World.grows.refl _ | assumption | refine World.grows.alloc ?_ _ | refine World.grows.plus ?_ _ _ | refine World.grows.drew ?_)))).mono ?_
  rintro e w' ⟨rfl, hg⟩
  have gW : w.grows w' := World.grows.trans (by (repeat (first | exact World.grows.refl _ | assumption | refine World.grows.alloc ?_ _ | refine World.grows.plus ?_ _ _ | refine World.grows.drew ?_))) hg
  clear h48 hC hg
  go_wp2
  (refine bodyPost_ret (v := .tuple #[.pointer none, .int .i64 (C : Int)]) (by simp [results, Try.results71, go_sem]) rfl ?_)
  exact ⟨rfl, gW.trans (by (repeat (first | exact World.grows.refl _ | assumption | refine World.grows.alloc ?_ _ | refine World.grows.plus ?_ _ _ | refine World.grows.drew ?_)))⟩
set_option maxRecDepth 100000 in
set_option maxHeartbeats 2000000 in
theorem ready0_c (w : World) (tv : Value) (t : Town) (slow : Bool) (ht : TownAt w tv t) : Calls Try.prog 71 #[tv, .bool slow, .slice none 0 0] w fun e w' => RdyIs w t slow (needE t slow) e w' := by
  by_cases hc : t.check = 0
  case neg =>
    refine (ready_bad w tv (.slice none 0 0) t slow ht hc).mono ?_
    intro e w' h
    have : needE t slow = t.check := by unfold needE; rw [if_pos hc]
    unfold RdyIs
    rw [this, if_neg hc]
    exact h
  have hE : Hid (needE t slow = if anyLate t slow then 12 else 0) := Lib.hid (by unfold needE; rw [if_neg (by omega)])
  have Ht := Lib.hid ht
  have Hok := Lib.hid (t.ok_iff.1 hc)
  obtain ⟨sv, vv, rfl, ⟨sa, sc, rfl, -⟩, ⟨va, vc, rfl, -⟩⟩ := ht
  have h48 := fun W (g : w.grows W) => open_ok W _ t slow (Ht.out.mono g) Hok.out
  clear hc
  go_enter Try.func71, Try.ntmps71
  go_wp2_with (go_at_call 99; fail)
  refine (h48 _ (by (repeat (first | exact World.grows.refl _ | assumption | refine World.grows.alloc ?_ _ | refine World.grows.plus ?_ _ _ | refine World.grows.drew ?_)))).mono ?_
  rintro e W ⟨y, rfl, g, hlt, hY⟩
  have gW : w.grows W := World.grows.trans (by (repeat (first | exact World.grows.refl _ | assumption | refine World.grows.alloc ?_ _ | refine World.grows.plus ?_ _ _ | refine World.grows.drew ?_))) g
  have hylt : w.heap.size < y := by simp at hlt; omega
  have HY := Lib.hid hY
  have h61 := fun n x => yvisits_c (W.plus n x) y t slow (HY.out.mono (by (repeat (first | exact World.grows.refl _ | assumption | refine World.grows.alloc ?_ _ | refine World.grows.plus ?_ _ _ | refine World.grows.drew ?_)))) 0 (fun _ => 0) (.slice none 0 0) ⟨none, 0, rfl, Nat.le_refl _, Nat.zero_le _, fun i j hi => by omega⟩
  clear hY g hlt h48
  go_upto_region 4 with fail
  (refine wp_region_calm (by kernel_rfl) (by kernel_rfl) ?_; (repeat (refine wpCalm_step (fun K hK => ?_); go_simp; first | (refine hK _ ?_; clear hK K) | (apply Exists.intro; refine ⟨fun n' x' => ?_, hK _ ?_⟩; (exact h61 _ _); clear hK K))); refine wpCalm_nil ?_; intro nq xq)
  replace gW := gW.trans (World.grows_plus W nq xq)
  replace HY := Lib.hid (HY.out.mono (World.grows_plus W nq xq))
  clear h61
  go_wp2_with (go_at_call 99; fail); refine (late_c _ y t slow (HY.out.mono (by (repeat (first | exact World.grows.refl _ | assumption | refine World.grows.alloc ?_ _ | refine World.grows.plus ?_ _ _ | refine World.grows.drew ?_)))) Hok.out).mono ?_; rintro e W3 ⟨v, rfl, g, hL⟩; have gW3 := gW.trans (World.grows.trans (by (repeat (first | exact World.grows.refl _ | assumption | refine World.grows.alloc ?_ _ | refine World.grows.plus ?_ _ _ | refine World.grows.drew ?_))) g); have HY3 := Lib.hid (HY.out.mono (World.grows.trans (by (repeat (first | exact World.grows.refl _ | assumption | refine World.grows.alloc ?_ _ | refine World.grows.plus ?_ _ _ | refine World.grows.drew ?_))) g)); obtain ⟨la, lc, rfl, -⟩ := hL; have HA := Lib.hid (anyLate_iff t slow); obtain ⟨L, hL⟩ : ∃ L, (filtL (lateV t slow) t.nv).length = L := ⟨_, rfl⟩; rw [hL] at HA ⊢; clear g hL
  by_cases hL0 : 0 < L
  · have hLI : (0 : Int) < L := by omega
    have HR : Hid (needE t slow = 12) := Lib.hid (by rw [hE.out, if_pos (HA.out.2 hL0)])
    clear hL0
    go_wp2
    (refine bodyPost_ret (v := .tuple #[.pointer none, .int .i64 12]) (by simp [results, Try.results71, go_sem]) rfl ?_)
    unfold RdyIs
    rw [HR.out, if_neg (by decide)]
    exact ⟨rfl, gW3.trans (by (repeat (first | exact World.grows.refl _ | assumption | refine World.grows.alloc ?_ _ | refine World.grows.plus ?_ _ _ | refine World.grows.drew ?_)))⟩
  · have hLI : ¬ (0 : Int) < L := by omega
    have HR : Hid (needE t slow = 0) := Lib.hid (by rw [hE.out, if_neg (fun h => hL0 (HA.out.1 h))])
    clear hL0
    go_wp2
    (refine bodyPost_ret (v := .tuple #[.pointer (some ⟨y, 0, none⟩), .int .i64 0]) (by simp [results, Try.results71, go_sem]) rfl ?_)
    unfold RdyIs
    rw [HR.out, if_pos rfl]
    exact ⟨y, rfl, gW3.trans (by (repeat (first | exact World.grows.refl _ | assumption | refine World.grows.alloc ?_ _ | refine World.grows.plus ?_ _ _ | refine World.grows.drew ?_))), hylt, HY3.out.mono (by (repeat (first | exact World.grows.refl _ | assumption | refine World.grows.alloc ?_ _ | refine World.grows.plus ?_ _ _ | refine World.grows.drew ?_)))⟩
set_option maxRecDepth 100000 in
set_option maxHeartbeats 2000000 in
theorem ready2_c (w : World) (tv : Value) (t : Town) (slow : Bool) (ht : TownAt w tv t) (a b : Int) (lv : Value) (hl : IntsAt w lv 2 (fun i => if i = 0 then a else b)) : Calls Try.prog 71 #[tv, .bool slow, lv] w fun e w' => RdyIs w t slow (askE t slow a b) e w' := by
  by_cases hc : t.check = 0
  case neg =>
    refine (ready_bad w tv lv t slow ht hc).mono ?_
    intro e w' h
    have : askE t slow a b = t.check := by unfold askE; rw [if_pos hc]
    unfold RdyIs
    rw [this, if_neg hc]
    exact h
  have hE : Hid (askE t slow a b = if isV t.nv a && isV t.nv b && !decide (a = b) then (if anyLate t slow then 12 else 0) else 2) := Lib.hid (by unfold askE; rw [if_neg (by omega)])
  have Ht := Lib.hid ht
  have Hok := Lib.hid (t.ok_iff.1 hc)
  obtain ⟨sv, vv, rfl, ⟨sa, sc, rfl, -⟩, ⟨va, vc, rfl, -⟩⟩ := ht
  have h48 := fun W (g : w.grows W) => open_ok W _ t slow (Ht.out.mono g) Hok.out
  have HL := Lib.hid hl
  obtain ⟨la0, lc0, rfl, l1, l2, hl⟩ := hl
  obtain ⟨lb, lo, rfl, k0⟩ := hl 0 0 (by omega) (by omega)
  obtain ⟨_, _, e1, k1⟩ := hl 1 0 (by omega) (by omega)
  cases e1
  simp only [Nat.zero_mul, Nat.add_zero, Nat.one_mul, if_true, Nat.one_ne_zero, if_false] at k0 k1
  unfold maxLen at l2
  clear hc hl
  go_enter Try.func71, Try.ntmps71
  go_wp2_with (go_at_call 99; fail)
  refine (h48 _ (by (repeat (first | exact World.grows.refl _ | assumption | refine World.grows.alloc ?_ _ | refine World.grows.plus ?_ _ _ | refine World.grows.drew ?_)))).mono ?_
  rintro e W ⟨y, rfl, g, hlt, hY⟩
  have gW : w.grows W := World.grows.trans (by (repeat (first | exact World.grows.refl _ | assumption | refine World.grows.alloc ?_ _ | refine World.grows.plus ?_ _ _ | refine World.grows.drew ?_))) g
  have hylt : w.heap.size < y := by simp at hlt; omega
  have HY := Lib.hid hY
  have h61 := fun n x => yvisits_c (W.plus n x) y t slow (HY.out.mono (by (repeat (first | exact World.grows.refl _ | assumption | refine World.grows.alloc ?_ _ | refine World.grows.plus ?_ _ _ | refine World.grows.drew ?_)))) 2 _ _ (HL.out.mono (gW.trans (World.grows_plus W n x)))
  simp only [two_visits] at h61
  replace k0 := gW.cell_of k0
  replace k1 := gW.cell_of k1
  clear hY g hlt h48 HL
  cases hq : isV t.nv a && isV t.nv b with
  | false =>
    rw [hq] at h61
    have HR : Hid (askE t slow a b = 2) := Lib.hid (by rw [hE.out, hq]; rfl)
    clear hq
    go_upto_region 4 with fail
    (refine wp_region_calm (by kernel_rfl) (by kernel_rfl) ?_; (repeat (refine wpCalm_step (fun K hK => ?_); go_simp; first | (refine hK _ ?_; clear hK K) | (apply Exists.intro; refine ⟨fun n' x' => ?_, hK _ ?_⟩; (exact h61 _ _); clear hK K))); refine wpCalm_nil ?_; intro nq xq)
    replace gW := gW.trans (World.grows_plus W nq xq)
    clear h61 k0 k1
    go_wp2
    (refine bodyPost_ret (v := .tuple #[.pointer none, .int .i64 2]) (by simp [results, Try.results71, go_sem]) rfl ?_)
    unfold RdyIs
    rw [HR.out, if_neg (by decide)]
    exact ⟨rfl, gW.trans (by (repeat (first | exact World.grows.refl _ | assumption | refine World.grows.alloc ?_ _ | refine World.grows.plus ?_ _ _ | refine World.grows.drew ?_)))⟩
  | true =>
    rw [hq] at h61
    by_cases hab : a = b
    · subst hab
      have HR : Hid (askE t slow a a = 2) := Lib.hid (by rw [hE.out, hq]; simp)
      clear hq
      go_upto_region 4 with fail
      (refine wp_region_calm (by kernel_rfl) (by kernel_rfl) ?_; (repeat (refine wpCalm_step (fun K hK => ?_); go_simp; first | (refine hK _ ?_; clear hK K) | (apply Exists.intro; refine ⟨fun n' x' => ?_, hK _ ?_⟩; (exact h61 _ _); clear hK K))); refine wpCalm_nil ?_; intro nq xq)
      replace gW := gW.trans (World.grows_plus W nq xq)
      clear h61 k0 k1
      go_wp2
      (refine bodyPost_ret (v := .tuple #[.pointer none, .int .i64 2]) (by simp [results, Try.results71, go_sem]) rfl ?_)
      unfold RdyIs
      rw [HR.out, if_neg (by decide)]
      exact ⟨rfl, gW.trans (by (repeat (first | exact World.grows.refl _ | assumption | refine World.grows.alloc ?_ _ | refine World.grows.plus ?_ _ _ | refine World.grows.drew ?_)))⟩
    · have hE2 : Hid (askE t slow a b = if anyLate t slow then 12 else 0) := Lib.hid (by rw [hE.out, hq]; simp [hab])
      clear hq hE
      go_upto_region 4 with fail
      (refine wp_region_calm (by kernel_rfl) (by kernel_rfl) ?_; (repeat (refine wpCalm_step (fun K hK => ?_); go_simp; first | (refine hK _ ?_; clear hK K) | (apply Exists.intro; refine ⟨fun n' x' => ?_, hK _ ?_⟩; (exact h61 _ _); clear hK K))); refine wpCalm_nil ?_; intro nq xq)
      replace gW := gW.trans (World.grows_plus W nq xq)
      replace HY := Lib.hid (HY.out.mono (World.grows_plus W nq xq))
      clear h61 k0 k1
      go_wp2_with (go_at_call 99; fail); refine (late_c _ y t slow (HY.out.mono (by (repeat (first | exact World.grows.refl _ | assumption | refine World.grows.alloc ?_ _ | refine World.grows.plus ?_ _ _ | refine World.grows.drew ?_)))) Hok.out).mono ?_; rintro e W3 ⟨v, rfl, g, hL⟩; have gW3 := gW.trans (World.grows.trans (by (repeat (first | exact World.grows.refl _ | assumption | refine World.grows.alloc ?_ _ | refine World.grows.plus ?_ _ _ | refine World.grows.drew ?_))) g); have HY3 := Lib.hid (HY.out.mono (World.grows.trans (by (repeat (first | exact World.grows.refl _ | assumption | refine World.grows.alloc ?_ _ | refine World.grows.plus ?_ _ _ | refine World.grows.drew ?_))) g)); obtain ⟨la, lc, rfl, -⟩ := hL; have HA := Lib.hid (anyLate_iff t slow); obtain ⟨L, hL⟩ : ∃ L, (filtL (lateV t slow) t.nv).length = L := ⟨_, rfl⟩; rw [hL] at HA ⊢; clear g hL
      by_cases hL0 : 0 < L
      · have hLI : (0 : Int) < L := by omega
        have HR : Hid (askE t slow a b = 12) := Lib.hid (by rw [hE2.out, if_pos (HA.out.2 hL0)])
        clear hL0
        go_wp2
        (refine bodyPost_ret (v := .tuple #[.pointer none, .int .i64 12]) (by simp [results, Try.results71, go_sem]) rfl ?_)
        unfold RdyIs
        rw [HR.out, if_neg (by decide)]
        exact ⟨rfl, gW3.trans (by (repeat (first | exact World.grows.refl _ | assumption | refine World.grows.alloc ?_ _ | refine World.grows.plus ?_ _ _ | refine World.grows.drew ?_)))⟩
      · have hLI : ¬ (0 : Int) < L := by omega
        have HR : Hid (askE t slow a b = 0) := Lib.hid (by rw [hE2.out, if_neg (fun h => hL0 (HA.out.1 h))])
        clear hL0
        go_wp2
        (refine bodyPost_ret (v := .tuple #[.pointer (some ⟨y, 0, none⟩), .int .i64 0]) (by simp [results, Try.results71, go_sem]) rfl ?_)
        unfold RdyIs
        rw [HR.out, if_pos rfl]
        exact ⟨y, rfl, gW3.trans (by (repeat (first | exact World.grows.refl _ | assumption | refine World.grows.alloc ?_ _ | refine World.grows.plus ?_ _ _ | refine World.grows.drew ?_))), hylt, HY3.out.mono (by (repeat (first | exact World.grows.refl _ | assumption | refine World.grows.alloc ?_ _ | refine World.grows.plus ?_ _ _ | refine World.grows.drew ?_)))⟩
end Go.Proofs.Ytaanbdjmibjcbaa

/-
  What is proved: the visits that stand apart, of a town (34).
-/
namespace Go.Proofs.Ytaanbdjmibjcbaa
open Go.RowKit
attribute [local irreducible] Go.wpCalm rowI
@[local go_sem ↓] theorem make35 (w : World) (n : Nat) (h : n ≤ 1000000000) : (Instr.makeSlice 35 (.int .i64 (n : Nat)) (.int .i64 (n : Nat))).run Try.prog w = .ok (.slice (some ⟨w.heap.size, 0, none⟩) n n) (w.alloc (.cells (rowI n fun _ => 0) 3)) :=
  run_make_rowI w 35 3 8 Try.underlying35 el3 n (by omega) (by omega)
theorem rowI_len (n : Nat) (f : Nat → Int) : (rowI n f).toList.length = n := by unfold rowI; simp
/-- what apart answers -/
def ApIs (w' : World) (t : Town) (slow : Bool) (v : Value) : Prop := ∃ X : Nat → Bool, ListAt w' v (filtL X t.nv) ∧ (∀ i k, i < t.nv → k < t.nv → X i = true → X k = true → aft t slow i k = false) ∧ t.nv ≤ mm (aft t slow) t.nv + cntB X t.nv
set_option maxRecDepth 100000 in
set_option maxHeartbeats 2000000 in
theorem apartT_c (w : World) (tv : Value) (t : Town) (slow : Bool) (ht : TownAt w tv t) : Calls Try.prog 34 #[tv, .bool slow] w fun e w' => ∃ v, e = .returned (.tuple #[v, .int .i64 (needE t slow : Nat)]) ∧ w.grows w' ∧ if needE t slow = 0 then ApIs w' t slow v else v = .slice none 0 0 := by
  have Ht := Lib.hid ht
  obtain ⟨sv, vv, rfl, ⟨sa, sc, rfl, -⟩, ⟨va, vc, rfl, -⟩⟩ := ht
  have h71 := fun W (g : w.grows W) => ready0_c W _ t slow (Ht.out.mono g)
  have hok : needE t slow = 0 → t.Ok := fun h => by
    by_cases hc : t.check = 0
    · exact t.ok_iff.1 hc
    · unfold needE at h; rw [if_pos hc] at h; exact absurd h hc
  obtain ⟨C, hC⟩ : ∃ C : Nat, needE t slow = C := ⟨_, rfl⟩
  rw [hC] at hok ⊢
  simp only [hC] at h71
  clear hC
  go_enter Try.func34, Try.ntmps34
  go_wp2_with (go_at_call 99; fail)
  refine (h71 _ (by (repeat (first | exact World.grows.refl _ | assumption | refine World.grows.alloc ?_ _ | refine World.grows.plus ?_ _ _ | refine World.grows.drew ?_)))).mono ?_
  intro e W1 hR
  have hR' : RdyIs _ t slow C e W1 := hR
  clear hR
  unfold RdyIs at hR'
  by_cases hc0 : C = 0
  · subst hc0
    rw [if_pos rfl] at hR'
    obtain ⟨y, rfl, g, hlt, hY⟩ := hR'
    have gW : Hid (w.grows W1) := Lib.hid (World.grows.trans (by (repeat (first | exact World.grows.refl _ | assumption | refine World.grows.alloc ?_ _ | refine World.grows.plus ?_ _ _ | refine World.grows.drew ?_))) g)
    have Hok := Lib.hid (hok rfl)
    have h78 := apart_c W1 y t.nv (aftF t slow t.nv) (aft t slow) hY.ya (rows_aft t slow Hok.out.v16) Hok.out.v16
    clear hY g hlt hok h71
    go_wp2_with (go_at_call 99; fail)
    refine h78.mono ?_
    rintro e W2 ⟨X, v, rfl, g2, hL, hX1, hX2⟩
    rw [join_size] at hX2
    have HX := Lib.hid (And.intro hX1 hX2)
    have hlen := filtL_len X t.nv
    have hnv := Hok.out.v16
    obtain ⟨L, hLe⟩ : ∃ L, filtL X t.nv = L := ⟨_, rfl⟩
    rw [hLe] at hL hlen
    have HL := Lib.hid hL
    have HLe := Lib.hid hLe
    replace gW := Lib.hid (gW.out.trans g2)
    obtain ⟨a, cap, rfl, k1, k2, -⟩ := hL
    unfold maxLen at k2
    have hl9 : L.length ≤ 1000000000 := by omega
    clear h78 hX1 hX2 hLe g2
    go_upto_region 6 with fail
    iterate 7 go_step
    refine wpList_copy_splice rfl (.tmp 24) (.tmp 25) 35 35 rfl 3 Try.underlying35 (by kernel_rfl) _ _ _ _ _ _ (by rfl) (by rfl) W2.heap.size 0 (rowI L.length fun _ => 0).toList 3 (by simpa using heap_alloc_new W2 _) (ilist L) (by rw [ilist_len]; exact (Nat.min_self _).symm) (fun h0 => ⟨rfl, ?_⟩) (by simp [ilist_len, rowI_size]) (ilist_one L) W2.heap.size W2 (by exact World.grows.alloc (World.grows.refl _) _) (Nat.le_refl _) ?_
    · rw [ilist_len] at h0
      obtain ⟨a, c, e, -, -, hc⟩ := HL.out
      cases e
      obtain ⟨fb, fo, rfl, -⟩ := hc 0 0 h0 (by omega)
      refine ⟨_, rfl, fun j v hv => ?_⟩
      have hj : j < L.length := by
        have := (List.getElem?_eq_some_iff.1 hv).1
        rwa [ilist_len] at this
      obtain ⟨b', o', e', h⟩ := hc j 0 hj (by omega)
      cases e'
      rw [ilist_get L hj] at hv
      cases hv
      rw [add_plain]
      have h2 : W2.cell? ⟨fb, fo + j, none⟩ = some (.int .i64 ((L.getD j 0 : Nat) : Int)) := by simpa using h
      exact World.grows.cell_of (by (repeat (first | exact World.grows.refl _ | assumption | refine World.grows.alloc ?_ _ | refine World.grows.plus ?_ _ _ | refine World.grows.drew ?_))) h2
    · intro w5 H5 hg5
      have hsp : splice (rowI L.length fun _ => 0).toList 0 (ilist L) = ilist L := by
        simp [splice, ilist_len, rowI_size]
      rw [hsp] at H5
      have G5 := Lib.hid (show W2.grows w5 from hg5)
      clear hg5 hsp
      go_wp2
      (refine bodyPost_ret (v := .tuple #[.slice (some ⟨W2.heap.size, 0, none⟩) L.length L.length, .int .i64 0]) (by simp [results, Try.results34, go_sem]) rfl ?_)
      refine ⟨_, rfl, gW.out.trans (G5.out.trans (by (repeat (first | exact World.grows.refl _ | assumption | refine World.grows.alloc ?_ _ | refine World.grows.plus ?_ _ _ | refine World.grows.drew ?_)))), ?_⟩
      refine ⟨X, ?_, HX.out.1, HX.out.2⟩
      rw [HLe.out]
      refine ListAt.mono (w := w5) ?_ (by (repeat (first | exact World.grows.refl _ | assumption | refine World.grows.alloc ?_ _ | refine World.grows.plus ?_ _ _ | refine World.grows.drew ?_)))
      refine ⟨_, _, rfl, Nat.le_refl _, by unfold maxLen; omega, fun i j hi hj => ⟨_, _, rfl, ?_⟩⟩
      have : j = 0 := by omega
      subst this
      rw [Nat.zero_add, Nat.mul_one, Nat.add_zero]
      exact cell_of_heap H5.out (by rw [List.getElem?_toArray]; exact ilist_get L hi)
  · rw [if_neg hc0] at hR'
    obtain ⟨rfl, g⟩ := hR'
    have gW : w.grows W1 := World.grows.trans (by (repeat (first | exact World.grows.refl _ | assumption | refine World.grows.alloc ?_ _ | refine World.grows.plus ?_ _ _ | refine World.grows.drew ?_))) g
    clear g hok h71
    go_wp2
    (refine bodyPost_ret (v := .tuple #[.slice none 0 0, .int .i64 (C : Int)]) (by simp [results, Try.results34, go_sem]) rfl ?_)
    exact ⟨rfl, gW⟩
end Go.Proofs.Ytaanbdjmibjcbaa

/-
  What is proved: the program's check whether visits stand apart (35).
-/
namespace Go.Proofs.Ytaanbdjmibjcbaa
open Go.RowKit
attribute [local irreducible] Go.wpCalm rowI
def riseF (f : Nat → Int) (m : Nat) : Bool := decide (∀ i, i < m → i + 1 < m → f i < f (i + 1))
def okL (n m : Nat) (f : Nat → Int) : Bool := (!(List.range m).any fun i => !isV n (f i)) && riseF f m
def hitL (A : Nat → Nat → Bool) (m : Nat) (f : Nat → Int) : Bool := (List.range m).any fun i => (List.range m).any fun k => A (f i).toNat (f k).toNat
/-- what the check of visits that stand apart answers -/
def apE (t : Town) (slow : Bool) (m : Nat) (f : Nat → Int) : Nat := if t.check ≠ 0 then t.check else if okL t.nv m f then (if hitL (aft t slow) m f then 14 else 0) else 3
theorem rise_iff {f : Nat → Int} {m : Nat} : riseF f m = true ↔ upto f m = true ∧ apartI f m := by
  unfold riseF upto apartI
  rw [decide_eq_true_eq, decide_eq_true_eq]
  constructor
  · intro h
    exact ⟨fun i h1 h2 => Int.le_of_lt (h i h1 h2), fun i h1 => by have := h i (by omega) h1; omega⟩
  · rintro ⟨h1, h2⟩ i h3 h4
    have a := h1 i h3 h4
    have b := h2 i h4
    omega
set_option maxRecDepth 100000 in
set_option maxHeartbeats 4000000 in
theorem checkApart_c (w : World) (tv lv : Value) (t : Town) (slow : Bool) (ht : TownAt w tv t) (m : Nat) (f : Nat → Int) (hl : IntsAt w lv m f) (hm : m ≤ 1000000) : Calls Try.prog 35 #[tv, lv, .bool slow] w fun e w' => e = .returned (.int .i64 (apE t slow m f : Nat)) ∧ w.grows w' := by
  have Ht := Lib.hid ht
  obtain ⟨sv, vv, rfl, ⟨sa, sc, rfl, -⟩, ⟨va, vc, rfl, -⟩⟩ := ht
  have HL := Lib.hid hl
  obtain ⟨la, lc, rfl, l1, l2, -⟩ := hl
  unfold maxLen at l2
  by_cases hc : t.check = 0
  case neg =>
    have HR : Hid (apE t slow m f = t.check) := Lib.hid (by unfold apE; rw [if_pos hc])
    obtain ⟨C, hC⟩ : ∃ C : Nat, t.check = C := ⟨_, rfl⟩
    have h48 := fun W (g : w.grows W) => open_bad W _ t slow (Ht.out.mono g) hc
    rw [hC] at hc HR
    simp only [hC] at h48
    have hc0 : ¬ (C : Int) = 0 := by omega
    go_enter Try.func35, Try.ntmps35
    go_wp2_with (go_at_call 99; fail)
    refine (h48 _ (by (repeat (first | exact World.grows.refl _ | assumption | refine World.grows.alloc ?_ _ | refine World.grows.plus ?_ _ _ | refine World.grows.drew ?_)))).mono ?_
    rintro e w' ⟨rfl, hg⟩
    have gW : w.grows w' := World.grows.trans (by (repeat (first | exact World.grows.refl _ | assumption | refine World.grows.alloc ?_ _ | refine World.grows.plus ?_ _ _ | refine World.grows.drew ?_))) hg
    clear h48 hC hg
    go_wp2
    (refine bodyPost_ret (v := .int .i64 (C : Int)) (by simp [results, Try.results35, go_sem]) rfl ?_)
    exact ⟨by rw [HR.out], gW.trans (by (repeat (first | exact World.grows.refl _ | assumption | refine World.grows.alloc ?_ _ | refine World.grows.plus ?_ _ _ | refine World.grows.drew ?_)))⟩
  have hE : Hid (apE t slow m f = if okL t.nv m f then (if hitL (aft t slow) m f then 14 else 0) else 3) := Lib.hid (by unfold apE; rw [if_neg (by omega)])
  have Hok := Lib.hid (t.ok_iff.1 hc)
  have h48 := fun W (g : w.grows W) => open_ok W _ t slow (Ht.out.mono g) Hok.out
  clear hc
  go_enter Try.func35, Try.ntmps35
  go_wp2_with (go_at_call 99; fail)
  refine (h48 _ (by (repeat (first | exact World.grows.refl _ | assumption | refine World.grows.alloc ?_ _ | refine World.grows.plus ?_ _ _ | refine World.grows.drew ?_)))).mono ?_
  rintro e W ⟨y, rfl, g, hlt, hY⟩
  have gW : w.grows W := World.grows.trans (by (repeat (first | exact World.grows.refl _ | assumption | refine World.grows.alloc ?_ _ | refine World.grows.plus ?_ _ _ | refine World.grows.drew ?_))) g
  have HY := Lib.hid hY
  replace HL := Lib.hid (HL.out.mono gW)
  clear hY g hlt h48
  have h61 := yvisits_c W y t slow HY.out m f _ HL.out
  cases hq : !(List.range m).any fun i => !isV t.nv (f i) with
  | false =>
    rw [hq] at h61
    have HR : Hid (apE t slow m f = 3) := Lib.hid (by rw [hE.out]; unfold okL; rw [hq]; rfl)
    clear hq
    go_wp2_with (go_at_call 99; fail)
    refine h61.mono ?_
    rintro e W2 ⟨rfl, g⟩
    go_wp2
    (refine bodyPost_ret (v := .int .i64 3) (by simp [results, Try.results35, go_sem]) rfl ?_)
    exact ⟨by rw [HR.out]; rfl, gW.trans (g.trans (by (repeat (first | exact World.grows.refl _ | assumption | refine World.grows.alloc ?_ _ | refine World.grows.plus ?_ _ _ | refine World.grows.drew ?_))))⟩
  | true =>
    rw [hq] at h61
    go_wp2_with (go_at_call 99; fail)
    refine h61.mono ?_
    rintro e W2 ⟨rfl, g⟩
    replace gW := gW.trans g
    replace HY := Lib.hid (HY.out.mono g)
    replace HL := Lib.hid (HL.out.mono g)
    clear g h61
    have h79 := sorted_c W2 _ m f HL.out hm
    cases hs : upto f m with
    | false =>
      rw [hs] at h79
      have HR : Hid (apE t slow m f = 3) := Lib.hid (by
        rw [hE.out]
        unfold okL
        have h0 : riseF f m = false := by
          cases hr : riseF f m
          · rfl
          · rw [rise_iff, hs] at hr; cases hr.1
        rw [h0, Bool.and_false]
        rfl)
      clear hq hs
      go_wp2_with (go_at_call 99; fail)
      refine h79.mono ?_
      rintro e W3 ⟨rfl, g⟩
      go_wp2
      (refine bodyPost_ret (v := .int .i64 3) (by simp [results, Try.results35, go_sem]) rfl ?_)
      exact ⟨by rw [HR.out]; rfl, gW.trans (g.trans (by (repeat (first | exact World.grows.refl _ | assumption | refine World.grows.alloc ?_ _ | refine World.grows.plus ?_ _ _ | refine World.grows.drew ?_))))⟩
    | true =>
      rw [hs] at h79
      go_wp2_with (go_at_call 99; fail)
      refine h79.mono ?_
      rintro e W3 ⟨rfl, g⟩
      replace gW := gW.trans g
      replace HY := Lib.hid (HY.out.mono g)
      replace HL := Lib.hid (HL.out.mono g)
      clear g h79
      go_wp2_with (go_at_call 99; fail)
      refine (clone_c W3 _ m f HL.out hm).mono ?_
      rintro e W4 ⟨cv, rfl, g4, hown⟩
      have h80 := compact_c W3 W4 cv m f g4 hown hm
      go_wp2_with (go_at_call 99; fail)
      refine h80.mono ?_
      rintro e W5 ⟨ca, m2, c2, rfl, g5, hm2⟩
      replace gW := gW.trans g5
      replace HY := Lib.hid (HY.out.mono g5)
      replace HL := Lib.hid (HL.out.mono g5)
      have Hm2 := Lib.hid hm2
      clear g4 g5 h80 hm2 hown
      by_cases hm3 : m2 = m
      case neg =>
        have HR : Hid (apE t slow m f = 3) := Lib.hid (by
          rw [hE.out]
          unfold okL
          have h0 : riseF f m = false := by
            cases hr : riseF f m
            · rfl
            · exact absurd (Hm2.out.2 (rise_iff.1 hr).2) hm3
          rw [h0, Bool.and_false]
          rfl)
        have hm4 : ¬ (m2 : Int) = m := by omega
        clear hq hs
        go_wp2
        (refine bodyPost_ret (v := .int .i64 3) (by simp [results, Try.results35, go_sem]) rfl ?_)
        exact ⟨by rw [HR.out]; rfl, gW.trans (by (repeat (first | exact World.grows.refl _ | assumption | refine World.grows.alloc ?_ _ | refine World.grows.plus ?_ _ _ | refine World.grows.drew ?_)))⟩
      subst hm3
      have hE2 : Hid (apE t slow m2 f = if hitL (aft t slow) m2 f then 14 else 0) := Lib.hid (by
        rw [hE.out, if_pos]
        unfold okL
        rw [hq, rise_iff.2 ⟨hs, Hm2.out.1 rfl⟩]; rfl)
      have hV : ∀ i, i < m2 → ∃ a : Nat, f i = (a : Int) ∧ a < t.nv := fun i hi => by
        have h : isV t.nv (f i) = true := by
          cases hv : isV t.nv (f i)
          · rw [any_true_of hi (by rw [hv]; rfl)] at hq; cases hq
          · rfl
        simp only [Bool.and_eq_true, isV, decide_eq_true_eq] at h
        exact ⟨(f i).toNat, by omega, by omega⟩
      have HV := Lib.hid hV
      clear hq hs hV hE Hm2
      have h16 := Hok.out.v16
      obtain ⟨O, hO⟩ : ∃ O, orB (fun i => (f i).toNat) m2 = O := ⟨_, rfl⟩
      have hO16 : O < 65536 := by rw [← hO]; exact orB_lt fun i hi => by obtain ⟨a, ha, hb⟩ := HV.out i hi; show (f i).toNat < 16; rw [ha, Int.toNat_natCast]; omega
      have HO : Hid (∀ k, O.testBit k = (List.range m2).any fun i => (f i).toNat == k) := Lib.hid fun k => by rw [← hO]; exact orB_bit k m2
      have h62 := fun V (g : W5.grows V) => bits_c V _ m2 f (fun i => (f i).toNat) (HL.out.mono g) (fun i hi => by obtain ⟨a, ha, hb⟩ := HV.out i hi; rw [ha, Int.toNat_natCast]) (fun i hi => by obtain ⟨a, ha, hb⟩ := HV.out i hi; show (f i).toNat < 16; rw [ha, Int.toNat_natCast]; omega)
      simp only [hO] at h62
      clear hO
      go_wp2
      go_loopw [42] (fun i wr => ∃ k : Nat, k ≤ m2 ∧ i = .int .i64 k ∧ Hid (W5.grows wr) ∧ Hid (∀ j, j < k → ((List.range m2).any fun i => aft t slow (f j).toNat (f i).toNat) = false)) (fun i _ => m2 - (intOf i).toNat)
      case atStart => exact ⟨0, by omega, rfl, Lib.hid (World.grows.refl _), Lib.hid fun j hj => by omega⟩
      case round =>
        obtain ⟨k, hk, rfl, hg, hall⟩ := hrel
        by_cases hlt : k < m2
        · obtain ⟨A, hA, hAn⟩ := HV.out k hlt
          obtain ⟨_, _, e, -, -, hcell⟩ := HL.out
          cases e
          obtain ⟨b, o, rfl, c0⟩ := hcell k 0 hlt (by omega)
          simp only [Nat.mul_one, Nat.add_zero, hA] at c0
          replace c0 := hg.out.cell_of c0
          obtain ⟨sv2, va2, vc2, hy, -, -⟩ := (HY.out.mono hg.out).at
          have ca := hy.aft (show A < 16 by omega)
          obtain ⟨X, hX⟩ : ∃ X, bitsN (aft t slow A) t.nv = X := ⟨_, rfl⟩
          have hXl : X < 65536 := by rw [← hX]; exact bitsN_lt h16
          have hXb : ∀ B, B < t.nv → X.testBit B = aft t slow A B := fun B hB => by rw [← hX, bitsN_bit, decide_eq_true hB]; rfl
          rw [show aftF t slow t.nv A = (X : Int) by unfold aftF; rw [if_pos hAn, hX]] at ca
          have hand := and_nat X O (by omega) (by omega)
          have hZ : X &&& O = 0 ↔ ((List.range m2).any fun i => aft t slow (f k).toNat (f i).toNat) = false := by
            rw [hA, Int.toNat_natCast]
            constructor
            · intro h
              refine any_false_of fun i hi => ?_
              obtain ⟨B, hB, hBn⟩ := HV.out i hi
              rw [hB, Int.toNat_natCast, ← hXb B hBn]
              have h2 : (X &&& O).testBit B = false := by rw [h, Nat.zero_testBit]
              rw [Nat.testBit_and, HO.out B, any_true_of hi (by rw [hB, Int.toNat_natCast]; exact beq_self_eq_true B), Bool.and_true] at h2
              exact h2
            · intro h
              apply Nat.eq_of_testBit_eq
              intro B
              rw [Nat.zero_testBit, Nat.testBit_and, HO.out B]
              cases h2 : (List.range m2).any fun i => (f i).toNat == B
              · rw [Bool.and_false]
              · obtain ⟨i, hi, hiB⟩ := List.any_eq_true.1 h2
                rw [List.mem_range] at hi
                have hiB : (f i).toNat = B := by simpa using hiB
                obtain ⟨B', hB', hBn⟩ := HV.out i hi
                rw [hB', Int.toNat_natCast] at hiB
                subst hiB
                rw [hXb B' hBn, Bool.and_true]
                have h3 := (List.any_eq_false.1 h) i (List.mem_range.2 hi)
                rw [hB', Int.toNat_natCast] at h3
                simpa using h3
          have HZ := Lib.hid hZ
          obtain ⟨Z, hZe⟩ : ∃ Z, X &&& O = Z := ⟨_, rfl⟩
          rw [hZe] at hand HZ
          have hkI : (k : Int) < m2 := by omega
          have hA16 : (A : Int) < 16 := by omega
          have h62' := fun n x => h62 (wr.plus n x) (hg.out.trans (by (repeat (first | exact World.grows.refl _ | assumption | refine World.grows.alloc ?_ _ | refine World.grows.plus ?_ _ _ | refine World.grows.drew ?_))))
          clear hX hXl hXb hZ hZe hO16 hy
          go_upto_region 9 with fail
          (refine wp_region_calm (by kernel_rfl) (by kernel_rfl) ?_; (repeat (refine wpCalm_step (fun K hK => ?_); go_simp; first | (refine hK _ ?_; clear hK K) | (apply Exists.intro; refine ⟨fun n' x' => ?_, hK _ ?_⟩; (exact h62' _ _); clear hK K))); refine wpCalm_nil ?_; intro nq xq)
          by_cases hZ0 : Z = 0
          · subst hZ0
            have HA : Hid (∀ j, j < k + 1 → ((List.range m2).any fun i => aft t slow (f j).toNat (f i).toNat) = false) := Lib.hid (upto_succ hall.out (HZ.out.1 rfl))
            go_wp2
            case roundEnd => exact ⟨⟨k + 1, by omega, by go_num, Lib.hid (hg.out.trans (by (repeat (first | exact World.grows.refl _ | assumption | refine World.grows.alloc ?_ _ | refine World.grows.plus ?_ _ _ | refine World.grows.drew ?_)))), HA⟩, by simp [intOf]; omega⟩
          · have hZI : ¬ (Z : Int) = 0 := by omega
            have HR : Hid (apE t slow m2 f = 14) := Lib.hid (by
              rw [hE2.out, if_pos]
              refine any_true_of hlt ?_
              cases hh : (List.range m2).any fun i => aft t slow (f k).toNat (f i).toNat
              · exact absurd (HZ.out.2 hh) hZ0
              · rfl)
            go_wp2
            (refine bodyPost_ret (v := .int .i64 14) (by simp [results, Try.results35, go_sem]) rfl ?_)
            exact ⟨by rw [HR.out]; rfl, gW.trans (hg.out.trans (by (repeat (first | exact World.grows.refl _ | assumption | refine World.grows.alloc ?_ _ | refine World.grows.plus ?_ _ _ | refine World.grows.drew ?_))))⟩
        · have hke : k = m2 := by omega
          subst hke
          have HR : Hid (apE t slow k f = 0) := Lib.hid (by
            rw [hE2.out, if_neg]
            unfold hitL
            rw [any_false_of hall.out]; decide)
          go_wp2
          (refine bodyPost_ret (v := .int .i64 0) (by simp [results, Try.results35, go_sem]) rfl ?_)
          exact ⟨by rw [HR.out]; rfl, gW.trans (hg.out.trans (by (repeat (first | exact World.grows.refl _ | assumption | refine World.grows.alloc ?_ _ | refine World.grows.plus ?_ _ _ | refine World.grows.drew ?_))))⟩
end Go.Proofs.Ytaanbdjmibjcbaa

/-
  What is proved: plans in memory; slices.Grow of nil (92), slices.Concat (69), the closure of CheckPlan (68); when the bits of a plan are all.
-/
namespace Go.Proofs.Ytaanbdjmibjcbaa
open Go.RowKit
attribute [local irreducible] Go.wpCalm rowI
def RowAt (w : World) (v : Value) (c : List Int) : Prop := IntsAt w v c.length (fun i => c.getD i 0)
/-- a plan: a slice of slices -/
def PlanAt (w : World) (v : Value) (P : List (List Int)) : Prop := ∃ row : Nat → Value, SliceAt w v P.length 1 (fun i _ => row i) ∧ ∀ i, i < P.length → RowAt w (row i) (P.getD i [])
theorem PlanAt.mono {w w' : World} {v : Value} {P : List (List Int)} (h : PlanAt w v P) (g : w.grows w') : PlanAt w' v P := by
  obtain ⟨row, h1, h2⟩ := h
  exact ⟨row, h1.mono g, fun i hi => IntsAt.mono (h2 i hi) g⟩
def intsL (c : List Int) : List Value := c.map fun x => .int .i64 x
theorem intsL_len (c : List Int) : (intsL c).length = c.length := by simp [intsL]
theorem intsL_append (c d : List Int) : intsL (c ++ d) = intsL c ++ intsL d := by simp [intsL]
theorem intsL_one (c : List Int) : ∀ u ∈ intsL c, u.oneCell' = true := fun u hu => by
  obtain ⟨n, _, rfl⟩ := List.mem_map.1 hu
  rfl
theorem intsL_get (c : List Int) {i : Nat} (h : i < c.length) : (intsL c)[i]? = some (.int .i64 (c.getD i 0)) := by simp [intsL, h]
theorem intsL_table (c : List Int) : tableL c.length 1 (fun i _ => Value.int .i64 (c.getD i 0)) = intsL c := by
  apply List.ext_getElem?
  intro i
  by_cases h : i < c.length
  · rw [intsL_get c h]
    have := tableL_get (m := c.length) (sz := 1) (fun i _ => Value.int .i64 (c.getD i 0)) h (show 0 < 1 by omega)
    simpa using this
  · rw [List.getElem?_eq_none (by rw [tableL_length]; omega), List.getElem?_eq_none (by rw [intsL_len]; omega)]
theorem _root_.Go.World.ownsRow.rowAt {w : World} {base e : Nat} {v : Value} {L : List Int} {n : Nat} (h : w.ownsRow base e 1 v n (intsL L)) (hn : n = L.length) : RowAt w v L := by
  subst hn
  exact h.sliceAt fun i j hi hj => by
    have : j = 0 := by omega
    subst this
    simpa using intsL_get L hi
theorem any_getD {q : Int → Bool} : ∀ (c : List Int), ((List.range c.length).any fun i => q (c.getD i 0)) = c.any q := fun c => by
  cases h : c.any q with
  | true =>
    obtain ⟨x, hx, hq⟩ := List.any_eq_true.1 h
    obtain ⟨i, hi, rfl⟩ := List.mem_iff_getElem.1 hx
    exact any_true_of hi (by rw [List.getD_eq_getElem?_getD, List.getElem?_eq_getElem hi]; exact hq)
  | false =>
    refine any_false_of fun i hi => ?_
    have := (List.any_eq_false.1 h) _ (List.getElem_mem hi)
    rw [List.getD_eq_getElem?_getD, List.getElem?_eq_getElem hi]
    simpa using this
theorem any_getDL {q : List Int → Bool} : ∀ (P : List (List Int)), ((List.range P.length).any fun i => q (P.getD i [])) = P.any q := fun c => by
  cases h : c.any q with
  | true =>
    obtain ⟨x, hx, hq⟩ := List.any_eq_true.1 h
    obtain ⟨i, hi, rfl⟩ := List.mem_iff_getElem.1 hx
    exact any_true_of hi (by rw [List.getD_eq_getElem?_getD, List.getElem?_eq_getElem hi]; exact hq)
  | false =>
    refine any_false_of fun i hi => ?_
    have := (List.any_eq_false.1 h) _ (List.getElem_mem hi)
    rw [List.getD_eq_getElem?_getD, List.getElem?_eq_getElem hi]
    simpa using this
/-! ### all visits once, told by bits -/
theorem perm_of_sub : ∀ {l L : List Int}, l.Nodup → (∀ a ∈ l, a ∈ L) → ∃ r, L.Perm (l ++ r)
  | [], L, _, _ => ⟨L, List.Perm.refl _⟩
  | a :: l, L, hn, hs => by
    obtain ⟨h1, h2⟩ := List.nodup_cons.1 hn
    have ha := hs a (List.mem_cons_self ..)
    obtain ⟨r, hr⟩ := perm_of_sub (L := L.erase a) h2 fun b hb => (List.mem_erase_of_ne (fun e => h1 (by rw [← e]; exact hb))).2 (hs b (List.mem_cons_of_mem _ hb))
    exact ⟨r, (List.perm_cons_erase ha).trans (hr.cons a)⟩
def rangeI (n : Nat) : List Int := (List.range n).map fun v : Nat => (v : Int)
theorem rangeI_mem {n : Nat} {x : Int} : x ∈ rangeI n ↔ isV n x = true := by
  unfold rangeI isV
  rw [List.mem_map, Bool.and_eq_true, decide_eq_true_eq, decide_eq_true_eq]
  constructor
  · rintro ⟨v, hv, rfl⟩
    rw [List.mem_range] at hv
    omega
  · rintro ⟨h1, h2⟩
    exact ⟨x.toNat, List.mem_range.2 (by omega), by omega⟩
theorem rangeI_nodup (n : Nat) : (rangeI n).Nodup := by
  unfold rangeI
  exact List.Pairwise.map _ (fun a b (h : a ≠ b) e => h (by omega)) List.nodup_range
theorem once_iff {n : Nat} {P : List (List Int)} (hV : ∀ x ∈ P.flatten, isV n x = true) : onceP n P = true ↔ P.flatten.length = n ∧ ∀ v, v < n → (v : Int) ∈ P.flatten := by
  have hO : onceP n P = true ↔ ∀ v, v < n → P.flatten.count (v : Int) = 1 := by
    unfold onceP
    rw [List.all_eq_true]
    constructor
    · intro h v hv; simpa using h v (List.mem_range.2 hv)
    · intro h v hv; simpa using h v (List.mem_range.1 hv)
  rw [hO]
  have hl : (rangeI n).length = n := by simp [rangeI]
  constructor
  · intro h
    have hm : ∀ v, v < n → (v : Int) ∈ P.flatten := fun v hv => List.count_pos_iff.1 (by rw [h v hv]; omega)
    refine ⟨?_, hm⟩
    have hnd : P.flatten.Nodup := nodup_of_count fun a ha => by
      obtain ⟨v, hv, rfl⟩ := List.mem_map.1 (rangeI_mem.2 (hV a ha))
      rw [h v (List.mem_range.1 hv)]; exact Nat.le_refl _
    obtain ⟨r, hr⟩ := perm_of_sub (rangeI_nodup n) (L := P.flatten) fun a ha => by
      obtain ⟨v, hv, rfl⟩ := List.mem_map.1 ha
      exact hm v (List.mem_range.1 hv)
    obtain ⟨s, hs⟩ := perm_of_sub hnd (L := rangeI n) fun a ha => rangeI_mem.2 (hV a ha)
    have e1 := hr.length_eq
    have e2 := hs.length_eq
    rw [List.length_append, hl] at e1
    rw [List.length_append, hl] at e2
    omega
  · rintro ⟨h1, h2⟩ v hv
    obtain ⟨r, hr⟩ := perm_of_sub (rangeI_nodup n) (L := P.flatten) fun a ha => by
      obtain ⟨v, hv, rfl⟩ := List.mem_map.1 ha
      exact h2 v (List.mem_range.1 hv)
    have e1 := hr.length_eq
    rw [List.length_append, hl] at e1
    have hr0 : r = [] := List.eq_nil_of_length_eq_zero (by omega)
    rw [hr0, List.append_nil] at hr
    rw [hr.count_eq]
    exact count_of_nodup (rangeI_nodup n) (List.mem_map.2 ⟨v, List.mem_range.2 hv, rfl⟩)
/-- the bits of a list are all -/
theorem orB_all {n : Nat} {L : List Int} (hV : ∀ x ∈ L, isV n x = true) : orB (fun i => (L.getD i 0).toNat) L.length = 2 ^ n - 1 ↔ ∀ v, v < n → (v : Int) ∈ L := by
  have hbit : ∀ k, (orB (fun i => (L.getD i 0).toNat) L.length).testBit k = true ↔ (k : Int) ∈ L := fun k => by
    rw [orB_bit, any_getD (q := fun x => x.toNat == k)]
    rw [List.any_eq_true]
    constructor
    · rintro ⟨x, hx, hk⟩
      have h := hV x hx
      simp only [Bool.and_eq_true, isV, decide_eq_true_eq] at h
      have : x.toNat = k := by simpa using hk
      have : x = (k : Int) := by omega
      rw [← this]; exact hx
    · intro h
      exact ⟨_, h, by simp⟩
  constructor
  · intro h v hv
    rw [← hbit, h, Nat.testBit_two_pow_sub_one]
    exact decide_eq_true hv
  · intro h
    apply Nat.eq_of_testBit_eq
    intro k
    rw [Nat.testBit_two_pow_sub_one]
    by_cases hk : k < n
    · rw [decide_eq_true hk, hbit]; exact h k hk
    · rw [decide_eq_false hk]
      cases hb : (orB (fun i => (L.getD i 0).toNat) L.length).testBit k
      · rfl
      · have := hV _ ((hbit k).1 hb)
        simp only [Bool.and_eq_true, isV, decide_eq_true_eq] at this
        omega
set_option maxHeartbeats 1000000 in
theorem grow92 (w : World) (m : Nat) (hm : m ≤ 1000000) : Calls Try.prog 92 #[.slice none 0 0, .int .i64 m] w fun e w' => ∃ v, e = .returned v ∧ w.grows w' ∧ w'.ownsRow w.heap.size 3 1 v 0 [] := by
  by_cases h0 : 0 < m
  · go_enter Try.func92, Try.ntmps92
    go_wp2_with (at_builtin; refine wpList_append_make _ rfl _ _ _ _ (by rfl) 3 (.int .i64 0) .i64 1 8 Try.underlying35 Try.underlying3 el3 (by rfl) (by omega) m h0 (by unfold maxLen; omega) (by omega) (by rfl) (by rfl) ?_; intro cap xs h1 h2 h3)
    go_ret
    exact ⟨_, rfl, by (repeat (first | exact World.grows.refl _ | assumption | refine World.grows.alloc ?_ _ | refine World.grows.plus ?_ _ _ | refine World.grows.drew ?_)), (World.ownsRow_made w xs cap (Nat.le_refl _) h2 h3).grow (World.grows.drew (World.grows.refl _))⟩
  · have : m = 0 := by omega
    subst this
    go_enter Try.func92, Try.ntmps92
    go_wp2
    go_ret
    exact ⟨_, rfl, World.grows.refl _, World.ownsRow_nil _ _ _ _⟩
theorem c68 (w : World) (yb pb : Nat) (t : Town) (slow : Bool) (hy : YardOf w yb t slow) (hp : w.cell? ⟨pb, 0, none⟩ = some (.pointer (some ⟨yb, 0, none⟩))) (cv : Value) (c : List Int) (hc : RowAt w cv c) :
    Calls Try.prog 68 #[cv, .pointer (some ⟨pb, 0, none⟩)] w fun e w' => e = .returned (.bool (badC t.nv c)) ∧ w.grows w' := by
  have h61 := yvisits_c w yb t slow hy c.length _ _ hc
  rw [any_getD (q := fun x => !isV t.nv x)] at h61
  obtain ⟨ca, cc, rfl, c1, c2, -⟩ := hc
  unfold maxLen at c2
  have HB : Hid (badC t.nv c = (c.isEmpty || c.any fun x => !isV t.nv x)) := Lib.hid rfl
  obtain ⟨q, hq⟩ : ∃ q, (c.any fun x => !isV t.nv x) = q := ⟨_, rfl⟩
  rw [hq] at h61 HB
  obtain ⟨n, hn⟩ : ∃ n, c.length = n := ⟨_, rfl⟩
  have HE : Hid (c.isEmpty = decide (n = 0)) := Lib.hid (by rw [← hn]; cases c <;> simp)
  rw [hn] at h61 c1 ⊢
  clear hq hn
  go_enter Try.func68, Try.ntmps68
  by_cases h0 : n = 0
  · subst h0
    go_wp2
    go_ret
    exact ⟨by rw [HB.out, HE.out]; rfl, World.grows.refl _⟩
  · have h0I : ¬ (n : Int) = 0 := by omega
    go_wp2_with (go_at_call 61; refine h61.mono ?_; rintro e w' ⟨rfl, hg⟩)
    refine bodyPost_ret (v := .bool q) (by simp [results, Try.results68, go_sem]; exact fun h => absurd h h0) rfl ?_
    exact ⟨by rw [HB.out, HE.out, decide_eq_false h0]; rfl, hg⟩
end Go.Proofs.Ytaanbdjmibjcbaa

/-
  What is proved: slices.Concat of a plan (69).
-/
namespace Go.Proofs.Ytaanbdjmibjcbaa
open Go.RowKit
attribute [local irreducible] Go.wpCalm rowI
theorem flatten_take_succ (P : List (List Int)) {k : Nat} (h : k < P.length) : (P.take (k + 1)).flatten = (P.take k).flatten ++ P.getD k [] := by
  rw [List.take_succ, List.getElem?_eq_getElem h, List.flatten_append, List.getD_eq_getElem?_getD, List.getElem?_eq_getElem h]
  simp
theorem flatten_take_le (P : List (List Int)) (k : Nat) : (P.take k).flatten.length ≤ P.flatten.length := by
  have : P.flatten = (P.take k).flatten ++ (P.drop k).flatten := by rw [← List.flatten_append, List.take_append_drop]
  rw [this, List.length_append]; omega
set_option maxRecDepth 100000 in
set_option maxHeartbeats 2000000 in
theorem concat_c (w : World) (pv : Value) (P : List (List Int)) (hp : PlanAt w pv P) (hF : P.flatten.length ≤ 1000000) : Calls Try.prog 69 #[pv] w fun e w' => ∃ v, e = .returned v ∧ w.grows w' ∧ w'.ownsRow w.heap.size 3 1 v P.flatten.length (intsL P.flatten) := by
  obtain ⟨row, ⟨pa, pc, rfl, p1, p2, hr⟩, hrow⟩ := hp
  unfold maxLen at p2
  have HR := Lib.hid hr
  have HRow := Lib.hid hrow
  have HS := Lib.hid fun k (h : k < P.length) => flatten_take_succ P h
  have hle : ∀ k, (P.take k).flatten.length ≤ 1000000 := fun k => Nat.le_trans (flatten_take_le P k) hF
  have HLe := Lib.hid hle
  have HAll : Hid ((P.take P.length).flatten = P.flatten) := Lib.hid (by rw [List.take_length])
  obtain ⟨m, hm⟩ : ∃ m, P.length = m := ⟨_, rfl⟩
  rw [hm] at HR HRow HS HAll p1 ⊢
  clear hr hrow hle hF hm
  go_enter Try.func69, Try.ntmps69
  go_wp2
  go_loop [3, 11] (fun s i => ∃ k : Nat, k ≤ m ∧ i = .int .i64 k ∧ s = .int .i64 ((P.take k).flatten.length : Nat)) (fun _ i => m - (intOf i).toNat)
  case atStart => exact ⟨0, by omega, rfl, rfl⟩
  case round =>
    obtain ⟨k, hk, rfl, rfl⟩ := hrel
    have h6 := HLe.out k
    have h7 := HLe.out (k + 1)
    have hs := HS.out k
    by_cases hlt : k < m
    · obtain ⟨b, o, rfl, h0⟩ := HR.out k 0 hlt (by omega)
      simp only [Nat.mul_one, Nat.add_zero] at h0
      obtain ⟨a1, cap1, hrk, hc1, hc2, -⟩ := HRow.out k hlt
      rw [hrk] at h0
      unfold maxLen at hc2
      have hs' := congrArg List.length (hs hlt)
      rw [List.length_append] at hs'
      obtain ⟨T, hT⟩ : ∃ T, (P.take k).flatten.length = T := ⟨_, rfl⟩
      obtain ⟨T2, hT2⟩ : ∃ T, (P.take (k + 1)).flatten.length = T := ⟨_, rfl⟩
      obtain ⟨L, hL⟩ : ∃ L, (P.getD k []).length = L := ⟨_, rfl⟩
      rw [hT] at h6 hs' ⊢
      rw [hT2] at h7 hs'
      rw [hL] at hs' h0 hc1
      have HT2 := Lib.hid hT2
      clear hT hT2 hL hs
      go_wp2
      case roundEnd => exact ⟨⟨k + 1, by omega, by go_num, by rw [HT2.out, hs']; go_num⟩, by simp [intOf]; omega⟩
    · have hke : k = m := by omega
      subst hke
      rw [HAll.out] at h6 ⊢
      clear hs h7
      obtain ⟨T, hT⟩ : ∃ T, P.flatten.length = T := ⟨_, rfl⟩
      rw [hT] at h6 ⊢
      have HT := Lib.hid hT
      clear hT
      go_wp2_with (go_at_call 92; refine (grow92 _ T h6).mono ?_; rintro e w0 ⟨ov, rfl, hg0, hown0⟩)
      go_loopw [6, 27] (fun s i wr => ∃ j : Nat, j ≤ k ∧ i = .int .i64 j ∧ Hid (wr.ownsRow w.heap.size 3 1 s (P.take j).flatten.length (intsL (P.take j).flatten)) ∧ Hid (w.grows wr)) (fun _ i _ => k - (intOf i).toNat)
      case atStart => exact ⟨0, by omega, rfl, Lib.hid hown0, Lib.hid hg0⟩
      case round =>
        obtain ⟨j, hj, rfl, ho, hg⟩ := hrel
        have h6 := HLe.out j
        have h7 := HLe.out (j + 1)
        by_cases hlt : j < k
        · have hs := HS.out j hlt
          obtain ⟨b, o, rfl, h0⟩ := HR.out j 0 hlt (by omega)
          simp only [Nat.mul_one, Nat.add_zero] at h0
          replace h0 := hg.out.cell_of h0
          have hsl := SliceAt.mono (HRow.out j hlt) hg.out
          have hsrc := SliceAt.src (by omega) hsl
          rw [intsL_table] at hsrc
          obtain ⟨a1, cap1, hrk, hc1, hc2, -⟩ := hsl
          rw [hrk] at h0 hsrc
          unfold maxLen at hc2
          have hs' := congrArg List.length hs
          rw [List.length_append] at hs'
          have HSj := Lib.hid hs
          obtain ⟨c, hc⟩ : ∃ c, P.getD j [] = c := ⟨_, rfl⟩
          rw [hc] at HSj hs' h0 hsrc hc1
          obtain ⟨sa, scp, rfl, -, -⟩ := row_form ho.out
          obtain ⟨T1, hT1⟩ : ∃ T, (P.take j).flatten.length = T := ⟨_, rfl⟩
          rw [hT1] at hs' h6 ho ⊢
          have hb := hg.out.size
          clear hs hc hT1 hrk
          go_upto_region 13 with fail
          iterate 7 go_step
          refine wpList_append_r _ rfl (.tmp 31) (.tmp 32) 35 (by rfl) w.heap.size 3 (.int .i64 0) 1 8 Try.underlying35 el3 (by rfl) (by omega) _ T1 _ (by rfl) ho.out (.slice a1 c.length cap1) (by rfl) c.length _ hsrc (intsL_one c) (by unfold maxLen; omega) (by omega) (by omega) ?_
          intro v' w3 hown hgb
          have hg3 := hgb.grows ho.out hg.out (Nat.le_refl _)
          rw [← intsL_append, ← HSj.out, ← hs'] at hown
          obtain ⟨va, vc, rfl, -, -⟩ := row_form hown
          go_wp2
          case roundEnd => exact ⟨⟨j + 1, by omega, by go_num, Lib.hid (by rw [hs'] at hown ⊢; exact hown), Lib.hid hg3⟩, by simp [intOf]; omega⟩
        · have hke : j = k := by omega
          subst hke
          have ho2 := ho.out
          rw [HAll.out, HT.out] at ho2
          obtain ⟨va, vc, hv, -, -⟩ := row_form ho2
          subst hv
          go_wp2
          (refine bodyPost_ret (v := .slice va T vc) (by simp [results, Try.results69, go_sem]) rfl ?_)
          exact ⟨_, rfl, hg.out, by rw [HT.out]; exact ho2⟩
end Go.Proofs.Ytaanbdjmibjcbaa

