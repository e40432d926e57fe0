/-
  What is proved: Heats of the reference.
-/
import Derived.Test.YtjpccfpmhmddjaaM4
import Derived.WalkMore
set_option linter.all false
namespace Go.Proofs.Ytjpccfpmhmddjaa
open Go.RowKit
attribute [local irreducible] Go.wpCalm

set_option maxHeartbeats 1000000 in
theorem follow_bad (w : World) (v : Value) (J : Job) (hv : RawAt w v J) (h : J.check ≠ 0) (ov : Value) :
    Calls Try.prog 49 #[v, ov] w fun e w' => e = .returned (.tuple #[.slice none 0 0, .int .i64 J.check]) ∧ w.grows w' := by
  have Hv := Lib.hid hv
  obtain ⟨rv, row, rfl, -, -⟩ := hv
  go_enter Try.func49, Try.ntmps49
  go_wp2_with (go_at_call 44; refine (open_bad _ _ J (Hv.out.mono (by (repeat (first | exact World.grows.refl _ | assumption | refine World.grows.alloc ?_ _ | refine World.grows.plus ?_ _ _ | refine World.grows.drew ?_)))) h).mono ?_; rintro e w' ⟨rfl, hg⟩; obtain ⟨n2, x2, rfl⟩ := World.plus_of hg)
  (refine bodyPost_ret (v := .tuple #[.slice none 0 0, .int .i64 J.check]) (by simp [results, Try.results49, go_sem]) rfl ?_)
  exact ⟨rfl, by (repeat (first | exact World.grows.refl _ | assumption | refine World.grows.alloc ?_ _ | refine World.grows.plus ?_ _ _ | refine World.grows.drew ?_))⟩

theorem el3 : Try.prog.knows 3 (.int .i64 0) 1 8 := Program.knows_of (by kernel_rfl)
@[go_sem ↓] theorem make25 (w : World) (n : Nat) (h : n ≤ 1000000000) :
    (Instr.makeSlice 25 (.int .i64 n) (.int .i64 n)).run Try.prog w = .ok (.slice (some ⟨w.heap.size, 0, none⟩) n n) (w.alloc (.cells (rowA n fun _ => 0) 3)) :=
  run_make_row w 25 3 8 Try.underlying25 el3 n (by omega) (by omega)

theorem upd_updN (f : Nat → Nat) (i x : Nat) : updN f i x = upd f i x := rfl

set_option maxHeartbeats 4000000 in
theorem heats_c (w : World) (v : Value) (J : Job) (hv : JobAt w v J) (hJ : J.Ok) (ov : Value) (m : Nat) (f : Nat → Int) (hov : IntsAt w ov m f) :
    Calls Try.prog 51 #[v, ov] w fun e w' => (∃ sv, e = .returned (.tuple #[sv, .int .i64 (J.ordErr m f)]) ∧ (J.ordErr m f = 0 → IntsAt w' sv m (J.hotAt (natOf f))) ∧ (J.ordErr m f ≠ 0 → sv = .slice none 0 0)) ∧ w.grows w' := by
  have Hv := Lib.hid hv
  obtain ⟨b, o, cap, rb, ro, rc, rfl, hcap, hcap2, hR⟩ := hv
  have HR := Lib.hid hR
  obtain ⟨hrow, hpk, hlv, hrc⟩ := hR
  have Hrow := Lib.hid hrow
  have Hpk := Lib.hid hpk
  have Hrc := Lib.hid hrc
  clear hrow hpk hlv hrc
  obtain ⟨oa, ocap, rfl, hoc1, hoc2, hoc⟩ := hov
  have hord : Hid (∀ k : Nat, k < m → ∃ b o, oa = some ⟨b, o, none⟩ ∧ w.cell? ⟨b, o + k, none⟩ = some (.int .i64 (f k))) := Lib.hid fun k hk => by
    obtain ⟨b, o, h1, h2⟩ := hoc k 0 hk (by omega)
    exact ⟨b, o, h1, by simpa using h2⟩
  clear hoc
  unfold maxLen at hoc2 hcap2
  have hn4 := hJ.n4
  have HJ := Lib.hid hJ
  clear hJ
  go_enter Try.func51, Try.ntmps51
  go_wp2
  go_loopw [6] (fun i wr => ∃ k : Nat, k ≤ m ∧ i = .int .i64 k ∧ Hid (∀ j, j < k → 0 ≤ f j ∧ f j < J.n) ∧ (w.alloc (.cells #[.int .i64 J.start, .slice (some ⟨b, o, none⟩) J.n cap] 24)).grows wr) (fun i _ => m - (intOf i).toNat)
  case atStart => exact ⟨0, by omega, rfl, Lib.hid fun j hj => by omega, by (repeat (first | exact World.grows.refl _ | assumption | refine World.grows.alloc ?_ _ | refine World.grows.plus ?_ _ _ | refine World.grows.drew ?_))⟩
  case round =>
    obtain ⟨k, hk, rfl, hl, hg⟩ := hrel
    obtain ⟨n1, x1, rfl⟩ := World.plus_of hg
    by_cases hlt : k < m
    · obtain ⟨ob, oo, rfl, h0⟩ := hord.out k hlt
      by_cases h1 : f k < 0
      · have hcn := Lib.hid (Job.ordErr_range (J := J) hlt (.inl h1))
        go_wp2
        (refine wp_region_calm (by kernel_rfl) (by kernel_rfl) ?_; (repeat (refine wpCalm_step (fun K hK => ?_); go_simp; first | (refine hK _ ?_; clear hK K) | (apply Exists.intro; refine ⟨fun n' x' => ?_, hK _ ?_⟩; (fail); clear hK K))); refine wpCalm_nil ?_; intro nq xq)
        go_wp2
        (refine bodyPost_ret (v := .tuple #[.slice none 0 0, .int .i64 3]) (by simp [results, Try.results51, go_sem]) rfl ?_)
        exact ⟨⟨_, by rw [hcn.out], by rw [hcn.out]; simp, fun _ => rfl⟩, by (repeat (first | exact World.grows.refl _ | assumption | refine World.grows.alloc ?_ _ | refine World.grows.plus ?_ _ _ | refine World.grows.drew ?_))⟩
      by_cases h2 : (J.n : Int) ≤ f k
      · have hcn := Lib.hid (Job.ordErr_range (J := J) hlt (.inr h2))
        go_wp2
        (refine wp_region_calm (by kernel_rfl) (by kernel_rfl) ?_; (repeat (refine wpCalm_step (fun K hK => ?_); go_simp; first | (refine hK _ ?_; clear hK K) | (apply Exists.intro; refine ⟨fun n' x' => ?_, hK _ ?_⟩; (fail); clear hK K))); refine wpCalm_nil ?_; intro nq xq)
        go_wp2
        (refine bodyPost_ret (v := .tuple #[.slice none 0 0, .int .i64 3]) (by simp [results, Try.results51, go_sem]) rfl ?_)
        exact ⟨⟨_, by rw [hcn.out], by rw [hcn.out]; simp, fun _ => rfl⟩, by (repeat (first | exact World.grows.refl _ | assumption | refine World.grows.alloc ?_ _ | refine World.grows.plus ?_ _ _ | refine World.grows.drew ?_))⟩
      have hb : Hid (0 ≤ f k ∧ f k < J.n) := Lib.hid ⟨by omega, by omega⟩
      go_wp2
      (refine wp_region_calm (by kernel_rfl) (by kernel_rfl) ?_; (repeat (refine wpCalm_step (fun K hK => ?_); go_simp; first | (refine hK _ ?_; clear hK K) | (apply Exists.intro; refine ⟨fun n' x' => ?_, hK _ ?_⟩; (fail); clear hK K))); refine wpCalm_nil ?_; intro nq xq)
      go_wp2
      go_roundw
      case rel => exact ⟨k + 1, by omega, by go_num, Lib.hid fun j hj => (by rcases Nat.lt_or_ge j k with h | h; exact hl.out j h; have hjk : j = k := (by omega); subst hjk; exact hb.out), by (repeat (first | exact World.grows.refl _ | assumption | refine World.grows.alloc ?_ _ | refine World.grows.plus ?_ _ _ | refine World.grows.drew ?_))⟩
      case measure => simp [intOf]; omega
    · have hke : k = m := by omega
      subst hke
      have hnb : J.n ≤ 1000000000 := by omega
      go_wp2
      go_loopw [8] (fun i wr => ∃ j : Nat, j ≤ k ∧ i = .int .i64 j ∧ wr = (((w.alloc (.cells #[.int .i64 J.start, .slice (some ⟨b, o, none⟩) J.n cap] 24)).plus n1 x1).alloc (.cells (rowA J.n (walkP (natOf f) j)) 3))) (fun i _ => k - (intOf i).toNat)
      case atStart => exact ⟨0, by omega, rfl, rfl⟩
      case round =>
        obtain ⟨j, hj, rfl, rfl⟩ := hrel
        by_cases hlt2 : j < k
        · obtain ⟨ob, oo, rfl, h0⟩ := hord.out j hlt2
          have hfj := hl.out j hlt2
          obtain ⟨x, hx⟩ : ∃ x : Nat, f j = x := ⟨(f j).toNat, by omega⟩
          have hs : Hid (walkP (natOf f) (j + 1) = updN (walkP (natOf f) j) x (walkP (natOf f) j x + 1)) := Lib.hid (by simp only [walkP, natOf, hx]; simp [upd_updN])
          have hwl := walkP_le (g := natOf f) x j
          rw [hx] at h0 hfj
          clear hx
          have hxn : x < J.n := by omega
          clear hfj
          go_wp2
          go_roundw
          case rel => exact ⟨j + 1, by omega, by go_num, by rw [hs.out]⟩
          case measure => simp [intOf]; omega
        · have hje : j = k := by omega
          subst hje
          go_wp2
          go_loopw [9] (fun i wr => ∃ r : Nat, r ≤ J.n ∧ i = .int .i64 r ∧ Hid (∀ q, q < r → walkP (natOf f) j q = J.len q) ∧ (((w.alloc (.cells #[.int .i64 J.start, .slice (some ⟨b, o, none⟩) J.n cap] 24)).plus n1 x1).alloc (.cells (rowA J.n (walkP (natOf f) j)) 3)).grows wr) (fun i _ => J.n - (intOf i).toNat)
          case atStart => exact ⟨0, by omega, rfl, Lib.hid fun q hq => by omega, by (repeat (first | exact World.grows.refl _ | assumption | refine World.grows.alloc ?_ _ | refine World.grows.plus ?_ _ _ | refine World.grows.drew ?_))⟩
          case round =>
            obtain ⟨r, hr, rfl, hlr, hg2⟩ := hrel
            by_cases hlt3 : r < J.n
            · obtain ⟨n2, x2, rfl⟩ := World.plus_of hg2
              have hrk := Hrow.out r hlt3
              have hrck := Hrc.out r hlt3
              unfold maxLen at hrck
              have h6 := HJ.out.l6 r hlt3
              by_cases he : walkP (natOf f) j r = J.len r
              · have he' : ((walkP (natOf f) j r : Nat) : Int) = J.len r := by omega
                have He := Lib.hid he
                clear he
                go_wp2
                (refine wp_region_calm (by kernel_rfl) (by kernel_rfl) ?_; (repeat (refine wpCalm_step (fun K hK => ?_); go_simp; first | (refine hK _ ?_; clear hK K) | (apply Exists.intro; refine ⟨fun n' x' => ?_, hK _ ?_⟩; (fail); clear hK K))); refine wpCalm_nil ?_; intro nq xq)
                go_wp2
                go_roundw
                case rel => exact ⟨r + 1, by omega, by go_num, Lib.hid fun q hq => (by rcases Nat.lt_or_ge q r with h | h; exact hlr.out q h; have hjk : q = r := (by omega); subst hjk; exact He.out), by (repeat (first | exact World.grows.refl _ | assumption | refine World.grows.alloc ?_ _ | refine World.grows.plus ?_ _ _ | refine World.grows.drew ?_))⟩
                case measure => simp [intOf]; omega
              · have he' : ¬ ((walkP (natOf f) j r : Nat) : Int) = J.len r := by omega
                have hcn := Lib.hid (Job.ordErr_rule hl.out hlt3 he)
                clear he
                go_wp2
                (refine wp_region_calm (by kernel_rfl) (by kernel_rfl) ?_; (repeat (refine wpCalm_step (fun K hK => ?_); go_simp; first | (refine hK _ ?_; clear hK K) | (apply Exists.intro; refine ⟨fun n' x' => ?_, hK _ ?_⟩; (fail); clear hK K))); refine wpCalm_nil ?_; intro nq xq)
                go_wp2
                (refine bodyPost_ret (v := .tuple #[.slice none 0 0, .int .i64 16]) (by simp [results, Try.results51, go_sem]) rfl ?_)
                exact ⟨⟨_, by rw [hcn.out], by rw [hcn.out]; simp, fun _ => rfl⟩, by (repeat (first | exact World.grows.refl _ | assumption | refine World.grows.alloc ?_ _ | refine World.grows.plus ?_ _ _ | refine World.grows.drew ?_))⟩
            · have hre : r = J.n := by omega
              subst hre
              obtain ⟨n2, x2, rfl⟩ := World.plus_of (((World.grows_plus (w.alloc (.cells #[.int .i64 J.start, .slice (some ⟨b, o, none⟩) J.n cap] 24)) n1 x1).alloc _).trans hg2)
              have hcn := Lib.hid (Job.ordErr_ok hl.out hlr.out)
              have hOk := Lib.hid (Job.ordErr_zero hcn.out)
              clear hl hlr
              go_wp2
              have hj24 := (hOk.out.2.m_bd HJ.out).2
              have hst := HJ.out.st
              go_loopw [10, 12] (fun s i wr => ∃ k : Nat, k ≤ j ∧ i = .int .i64 k ∧ wr.ownsRow (w.heap.size + 1 + n2 + 1) 2 1 s k (tableL k 1 (fun i _ => .int .i64 (J.hotAt (natOf f) i))) ∧ (((w.alloc (.cells #[.int .i64 J.start, .slice (some ⟨b, o, none⟩) J.n cap] 24)).plus n2 x2).alloc (.cells (rowA J.n (walkP (natOf f) k)) 3)).grows wr) (fun _ i _ => j - (intOf i).toNat)
              case atStart => exact ⟨0, by omega, rfl, World.ownsRow_nil _ _ _ _, by (repeat (first | exact World.grows.refl _ | assumption | refine World.grows.alloc ?_ _ | refine World.grows.plus ?_ _ _ | refine World.grows.drew ?_))⟩
              case round =>
                obtain ⟨k, hk, rfl, hown, hg3⟩ := hrel
                obtain ⟨n3, x3, rfl⟩ := World.plus_of hg3
                have Hown := Lib.hid hown
                clear hown
                by_cases hlt4 : k < j
                · obtain ⟨ob, oo, rfl, h0⟩ := hord.out k hlt4
                  have hfk := hOk.out.1 k hlt4
                  rw [hfk] at h0
                  clear hfk
                  have hgl := hOk.out.2.lt k hlt4
                  have hll := hOk.out.2.lt_len hlt4
                  have hle : Hid (∀ i, i < J.n → walkP (natOf f) k i ≤ J.len i) := Lib.hid fun i hi => hOk.out.2.le_len hk hi
                  have hws : Hid (walkP (natOf f) (k + 1) = updN (walkP (natOf f) k) (natOf f k) (walkP (natOf f) k (natOf f k) + 1)) := Lib.hid rfl
                  have hrk := Hrow.out _ hgl
                  have hrck := Hrc.out _ hgl
                  unfold maxLen at hrck
                  have hpk1 := Hpk.out _ _ hgl hll
                  have hpb := HJ.out.pk _ _ hgl hll
                  have hhb := HJ.out.heat_bd hle.out
                  have h6 := HJ.out.l6 _ hgl
                  have hwr : Hid (IntKind.i64.wrap (J.heat (walkP (natOf f) k) + J.pk (natOf f k) (walkP (natOf f) k (natOf f k))) = J.hotAt (natOf f) k) := Lib.hid (by
                    rw [IntKind.wrap_i64]
                    show _ = J.heat (walkP (natOf f) k) + J.pk (natOf f k) (walkP (natOf f) k (natOf f k))
                    omega)
                  go_wp2
                  (refine wp_region_made 18 17 _ rfl (by kernel_rfl) (by kernel_rfl) (by decide) (by decide) rfl ?_; simp only [List.take_succ_cons, List.take_zero, List.drop_succ_cons, List.drop_zero, List.take_nil, List.drop_nil, List.append_nil, List.nil_append, List.cons_append, Nat.reduceAdd, Nat.reduceSub]; (repeat (refine wpCalm_step (fun K hK => ?_); go_simp; first | (refine hK _ ?_; clear hK K) | (apply Exists.intro; refine ⟨fun n' x' => ?_, hK _ ?_⟩; (exact rheat_c _ _ _ J (walkP (natOf f) k) (Hv.out.mono (by (repeat (first | exact World.grows.refl _ | assumption | refine World.grows.alloc ?_ _ | refine World.grows.plus ?_ _ _ | refine World.grows.drew ?_)))) (SliceAt.mono (rowA_ints _ _ _ _ _ (by simp) (by unfold maxLen; omega)) ((World.grows_plus _ _ _).trans (World.grows_plus _ _ _))) HJ.out hle.out); clear hK K))); refine wpCalm_nil ⟨((fun b => .slice (some ⟨b, 0, none⟩) 1 1), _), fun n' x' => (by go_simp; first | exact ⟨rfl, rfl⟩ | rfl), ?_⟩; intro kq x1q mq x2q)
                  go_wp2_with (at_builtin; go_loud (refine wpList_append_g _ rfl _ _ _ (by rfl) (w.heap.size + 1 + n2 + 1) 2 (.int .i64 0) 1 8 Try.underlying71 el2 (by rfl) (by omega) _ k _ (by rfl) (Hown.out.grow (((World.grows_plus _ _ _).alloc _).plus _ _)) _ (by rfl) 1 _ (SliceAt.src (by omega) ((one_slice _ _ _ _ (by simp)).mono (World.grows_plus _ _ _))) (ints_one _ _) (by unfold maxLen; omega) (by omega) (by simp; omega) ?_; intro v' w3 hown hgr; have hown2 : Hid (∀ u, (w3.setCell ⟨w.heap.size + 1 + n2, natOf f k, none⟩ u).ownsRow (w.heap.size + 1 + n2 + 1) 2 1 v' (k + 1) (tableL (k + 1) 1 (fun i _ => .int .i64 (J.hotAt (natOf f) i)))) := Lib.hid (fun u => World.ownsRow.set (own_push hown hwr.out) (by simp) u); clear hown; have hg4 := hgr _ ((((World.grows_plus (((w.alloc (.cells #[.int .i64 J.start, .slice (some ⟨b, o, none⟩) J.n cap] 24)).plus n2 x2).alloc (.cells (rowA J.n (walkP (natOf f) k)) 3)) n3 x3).plus _ _).alloc _).plus _ _) (by simp); obtain ⟨n4, x4, rfl⟩ := World.plus_of hg4; clear hgr))
                  go_roundw
                  case rel => exact ⟨k + 1, by omega, by go_num, by simpa [go_sem, hgl] using hown2.out (.int .i64 (walkP (natOf f) k (natOf f k) + 1)), by rw [hws.out]; (repeat (first | exact World.grows.refl _ | assumption | refine World.grows.alloc ?_ _ | refine World.grows.plus ?_ _ _ | refine World.grows.drew ?_))⟩
                  case measure => simp [intOf]; omega
                · have hke : k = j := by omega
                  subst hke
                  go_wp2
                  (refine bodyPost_ret (v := .tuple #[u10, .int .i64 0]) (by simp [results, Try.results51, go_sem]) rfl ?_)
                  exact ⟨⟨_, by rw [hcn.out], fun _ => Hown.out.sliceAt fun i j hi hj => tableL_get _ hi hj, by rw [hcn.out]; simp⟩, by (repeat (first | exact World.grows.refl _ | assumption | refine World.grows.alloc ?_ _ | refine World.grows.plus ?_ _ _ | refine World.grows.drew ?_))⟩

end Go.Proofs.Ytjpccfpmhmddjaa

/-
  What is proved: CheckOrder of the program and of the reference.
-/
namespace Go.Proofs.Ytjpccfpmhmddjaa
open Go.RowKit
attribute [local irreducible] Go.wpCalm

def maxN (h : Nat → Int) : Nat → Int
  | 0 => h 0
  | k + 1 => max (maxN h k) (h k)
theorem max_if (a b : Int) : (if a < b then b else a) = max a b := by split <;> omega
theorem maxN_one (h : Nat → Int) : maxN h 1 = h 0 := by simp [maxN]

set_option maxHeartbeats 1000000 in
theorem max_c (w : World) (sv : Value) (m : Nat) (h : Nat → Int) (hs : IntsAt w sv m h) (hm : 1 ≤ m) :
    Calls Try.prog 50 #[sv] w fun e w' => e = .returned (.int .i64 (maxN h m)) ∧ w.grows w' := by
  obtain ⟨a, cap, rfl, hc1, hc2, hc⟩ := hs
  obtain ⟨b, o, rfl, -⟩ := hc 0 0 (by omega) (by omega)
  have hc' : Hid (∀ k : Nat, k < m → w.cell? ⟨b, o + k, none⟩ = some (.int .i64 (h k))) := Lib.hid fun k hk => by
    obtain ⟨_, _, h1, h2⟩ := hc k 0 hk (by omega)
    cases h1
    simpa using h2
  clear hc
  unfold maxLen at hc2
  have h00 := hc'.out 0 (by omega)
  simp only [Nat.add_zero] at h00
  have h01 := Lib.hid (maxN_one h)
  go_enter Try.func50, Try.ntmps50
  go_wp2
  go_loop [3, 4] (fun s i => ∃ k : Nat, k ≤ m ∧ 1 ≤ k ∧ i = .int .i64 k ∧ s = .int .i64 (maxN h k)) (fun _ i => m - (intOf i).toNat)
  case atStart => exact ⟨1, by omega, by omega, rfl, by rw [h01.out]⟩
  case round =>
    obtain ⟨k, hk, hk1, rfl, rfl⟩ := hrel
    by_cases hlt : k < m
    · have h0 := hc'.out k hlt
      go_wp2
      go_round
      case rel => exact ⟨k + 1, by omega, by omega, by go_num, by rw [maxN, ← max_if]⟩
      case measure => simp [intOf]; omega
    · have hke : k = m := by omega
      subst hke
      go_wp2
      go_ret
      exact ⟨rfl, by (repeat (first | exact World.grows.refl _ | assumption | refine World.grows.alloc ?_ _ | refine World.grows.plus ?_ _ _ | refine World.grows.drew ?_))⟩

def Job.followErr (J : Job) (m : Nat) (f : Nat → Int) : Int := if J.check = 0 then J.ordErr m f else J.check
/-- how hot it becomes in an order -/
def Job.ordAns (J : Job) (m : Nat) (f : Nat → Int) : Int := if J.followErr m f = 0 then maxN (J.hotAt (natOf f)) m else 0

theorem Job.follow_ok {J : Job} {m : Nat} {f : Nat → Int} (h : J.check = 0) : J.followErr m f = J.ordErr m f := by unfold Job.followErr; rw [if_pos h]
theorem Job.follow_bad {J : Job} {m : Nat} {f : Nat → Int} (h : J.check ≠ 0) : J.followErr m f = J.check := by unfold Job.followErr; rw [if_neg h]
theorem Job.ordAns_ok {J : Job} {m : Nat} {f : Nat → Int} (h : J.followErr m f = 0) : J.ordAns m f = maxN (J.hotAt (natOf f)) m := by unfold Job.ordAns; rw [if_pos h]
theorem Job.ordAns_bad {J : Job} {m : Nat} {f : Nat → Int} (h : J.followErr m f ≠ 0) : J.ordAns m f = 0 := by unfold Job.ordAns; rw [if_neg h]

set_option maxHeartbeats 1000000 in
theorem checkOrd_c (w : World) (v : Value) (J : Job) (hv : RawAt w v J) (ov : Value) (m : Nat) (f : Nat → Int) (hov : IntsAt w ov m f) :
    Calls Try.prog 18 #[v, ov] w fun e w' => e = .returned (.tuple #[.int .i64 (J.ordAns m f), .int .i64 (J.followErr m f)]) ∧ w.grows w' := by
  have Hv := Lib.hid hv
  have Hov := Lib.hid hov
  obtain ⟨rv, row, rfl, -, -⟩ := hv
  clear hov
  go_enter Try.func18, Try.ntmps18
  by_cases hc : J.check = 0
  · have hJ := Lib.hid ((Job.Ok_iff J).2 hc)
    have h49 := fun W hW h2 => follow_ok W (.agg #[.int .i64 J.start, rv]) J hW hJ.out ov m f h2
    have hfe := Lib.hid (Job.follow_ok (m := m) (f := f) hc)
    clear hc
    by_cases he : J.ordErr m f = 0
    · rw [he] at h49
      have hm1 := Lib.hid ((Job.ordErr_zero he).2.m_bd hJ.out).1
      have hA := Lib.hid (Job.ordAns_ok (hfe.out.trans he))
      have He := Lib.hid he
      clear he
      go_wp2_with (first
        | (go_at_call 49; refine (h49 _ (Hv.out.mono (by (repeat (first | exact World.grows.refl _ | assumption | refine World.grows.alloc ?_ _ | refine World.grows.plus ?_ _ _ | refine World.grows.drew ?_)))) (Hov.out.mono (by (repeat (first | exact World.grows.refl _ | assumption | refine World.grows.alloc ?_ _ | refine World.grows.plus ?_ _ _ | refine World.grows.drew ?_))))).mono ?_; rintro e w1 ⟨⟨sv, rfl, hI, -⟩, hg1⟩; obtain ⟨n1, x1, rfl⟩ := World.plus_of hg1)
        | (go_at_call 50; refine (max_c _ _ m _ ((hI trivial).mono (by (repeat (first | exact World.grows.refl _ | assumption | refine World.grows.alloc ?_ _ | refine World.grows.plus ?_ _ _ | refine World.grows.drew ?_)))) hm1.out).mono ?_; rintro e w2 ⟨rfl, hg2⟩; obtain ⟨n2, x2, rfl⟩ := World.plus_of hg2))
      (refine bodyPost_ret (v := .tuple #[.int .i64 (maxN (J.hotAt (natOf f)) m), .int .i64 0]) (by simp [results, Try.results18, go_sem]) rfl ?_)
      exact ⟨by rw [hA.out, hfe.out, He.out], by (repeat (first | exact World.grows.refl _ | assumption | refine World.grows.alloc ?_ _ | refine World.grows.plus ?_ _ _ | refine World.grows.drew ?_))⟩
    · have hA := Lib.hid (Job.ordAns_bad (fun h => he (hfe.out.symm.trans h)))
      go_wp2_with (go_at_call 49; refine (h49 _ (Hv.out.mono (by (repeat (first | exact World.grows.refl _ | assumption | refine World.grows.alloc ?_ _ | refine World.grows.plus ?_ _ _ | refine World.grows.drew ?_)))) (Hov.out.mono (by (repeat (first | exact World.grows.refl _ | assumption | refine World.grows.alloc ?_ _ | refine World.grows.plus ?_ _ _ | refine World.grows.drew ?_))))).mono ?_; rintro e w1 ⟨⟨sv, rfl, -, -⟩, hg1⟩; obtain ⟨n1, x1, rfl⟩ := World.plus_of hg1)
      (refine bodyPost_ret (v := .tuple #[.int .i64 0, .int .i64 (J.ordErr m f)]) (by simp [results, Try.results18, go_sem]) rfl ?_)
      exact ⟨by rw [hA.out, hfe.out], by (repeat (first | exact World.grows.refl _ | assumption | refine World.grows.alloc ?_ _ | refine World.grows.plus ?_ _ _ | refine World.grows.drew ?_))⟩
  · have hfe := Lib.hid (Job.follow_bad (m := m) (f := f) hc)
    have hA := Lib.hid (Job.ordAns_bad (fun h => hc (hfe.out.symm.trans h)))
    go_wp2_with (go_at_call 49; refine (Go.Proofs.Ytjpccfpmhmddjaa.follow_bad _ _ J (Hv.out.mono (by (repeat (first | exact World.grows.refl _ | assumption | refine World.grows.alloc ?_ _ | refine World.grows.plus ?_ _ _ | refine World.grows.drew ?_)))) hc ov).mono ?_; rintro e w1 ⟨rfl, hg1⟩; obtain ⟨n1, x1, rfl⟩ := World.plus_of hg1)
    (refine bodyPost_ret (v := .tuple #[.int .i64 0, .int .i64 J.check]) (by simp [results, Try.results18, go_sem]) rfl ?_)
    exact ⟨by rw [hA.out, hfe.out], by (repeat (first | exact World.grows.refl _ | assumption | refine World.grows.alloc ?_ _ | refine World.grows.plus ?_ _ _ | refine World.grows.drew ?_))⟩

set_option maxHeartbeats 1000000 in
theorem rcheckOrd_c (w : World) (v : Value) (J : Job) (hv : RawAt w v J) (ov : Value) (m : Nat) (f : Nat → Int) (hov : IntsAt w ov m f) :
    Calls Try.prog 19 #[v, ov] w fun e w' => e = .returned (.tuple #[.int .i64 (J.ordAns m f), .int .i64 (J.followErr m f)]) ∧ w.grows w' := by
  have Hv := Lib.hid hv
  have Hov := Lib.hid hov
  obtain ⟨rv, row, rfl, -, -⟩ := hv
  clear hov
  have h23 := fun W hW => rcheck_c W (.agg #[.int .i64 J.start, rv]) J hW
  go_enter Try.func19, Try.ntmps19
  by_cases hc : J.check = 0
  · have hJ := Lib.hid ((Job.Ok_iff J).2 hc)
    have h51 := fun W hW h2 => heats_c W (.agg #[.int .i64 J.start, rv]) J (RawAt.job hW hJ.out) hJ.out ov m f h2
    have hfe := Lib.hid (Job.follow_ok (m := m) (f := f) hc)
    rw [hc] at h23
    clear hc
    by_cases he : J.ordErr m f = 0
    · rw [he] at h51
      have hmb := (Job.ordErr_zero he).2.m_bd hJ.out
      have hA := Lib.hid (Job.ordAns_ok (hfe.out.trans he))
      have He := Lib.hid he
      clear he
      obtain ⟨hm1, hm2⟩ := hmb
      have hp : 0 < m := hm1
      go_wp2_with (first
        | (go_at_call 23; refine (h23 _ (Hv.out.mono (by (repeat (first | exact World.grows.refl _ | assumption | refine World.grows.alloc ?_ _ | refine World.grows.plus ?_ _ _ | refine World.grows.drew ?_))))).mono ?_; rintro e w2 ⟨rfl, hg2⟩; obtain ⟨n2, x2, rfl⟩ := World.plus_of hg2)
        | (go_at_call 51; refine (h51 _ (Hv.out.mono (by (repeat (first | exact World.grows.refl _ | assumption | refine World.grows.alloc ?_ _ | refine World.grows.plus ?_ _ _ | refine World.grows.drew ?_)))) (Hov.out.mono (by (repeat (first | exact World.grows.refl _ | assumption | refine World.grows.alloc ?_ _ | refine World.grows.plus ?_ _ _ | refine World.grows.drew ?_))))).mono ?_; rintro e w1 ⟨⟨sv, rfl, hI, -⟩, hg1⟩; obtain ⟨sa, scap, rfl, hs1, hs2, hsc⟩ := hI trivial; unfold maxLen at hs2; obtain ⟨sb, so, rfl, hs00⟩ := hsc 0 0 hp (by omega); simp only [Nat.zero_mul, Nat.add_zero] at hs00; clear hI))
      have hsc' : Hid (∀ k : Nat, k < m → w1.cell? ⟨sb, so + k, none⟩ = some (.int .i64 (J.hotAt (natOf f) k))) := Lib.hid fun k hk => by
        obtain ⟨_, _, h1, h2⟩ := hsc k 0 hk (by omega)
        cases h1
        simpa using h2
      clear hsc
      go_loop [8, 9] (fun s i => ∃ k : Nat, k ≤ m ∧ i = .int .i64 k ∧ s = .int .i64 (maxN (J.hotAt (natOf f)) k)) (fun _ i => m - (intOf i).toNat)
      case atStart => exact ⟨0, by omega, rfl, rfl⟩
      case round =>
        obtain ⟨k, hk, rfl, rfl⟩ := hrel
        by_cases hlt : k < m
        · have h0 := hsc'.out k hlt
          go_wp2
          go_round
          case rel => exact ⟨k + 1, by omega, by go_num, by rw [maxN, ← max_if]⟩
          case measure => simp [intOf]; omega
        · have hke : k = m := by omega
          subst hke
          go_wp2
          (refine bodyPost_ret (v := .tuple #[.int .i64 (maxN (J.hotAt (natOf f)) k), .int .i64 0]) (by simp [results, Try.results19, go_sem]) rfl ?_)
          exact ⟨by rw [hA.out, hfe.out, He.out], World.grows.trans (by (repeat (first | exact World.grows.refl _ | assumption | refine World.grows.alloc ?_ _ | refine World.grows.plus ?_ _ _ | refine World.grows.drew ?_))) hg1⟩
    · have hA := Lib.hid (Job.ordAns_bad (fun h => he (hfe.out.symm.trans h)))
      go_wp2_with (first
        | (go_at_call 23; refine (h23 _ (Hv.out.mono (by (repeat (first | exact World.grows.refl _ | assumption | refine World.grows.alloc ?_ _ | refine World.grows.plus ?_ _ _ | refine World.grows.drew ?_))))).mono ?_; rintro e w2 ⟨rfl, hg2⟩; obtain ⟨n2, x2, rfl⟩ := World.plus_of hg2)
        | (go_at_call 51; refine (h51 _ (Hv.out.mono (by (repeat (first | exact World.grows.refl _ | assumption | refine World.grows.alloc ?_ _ | refine World.grows.plus ?_ _ _ | refine World.grows.drew ?_)))) (Hov.out.mono (by (repeat (first | exact World.grows.refl _ | assumption | refine World.grows.alloc ?_ _ | refine World.grows.plus ?_ _ _ | refine World.grows.drew ?_))))).mono ?_; rintro e w1 ⟨⟨sv, rfl, -, -⟩, hg1⟩; obtain ⟨n1, x1, rfl⟩ := World.plus_of hg1))
      (refine bodyPost_ret (v := .tuple #[.int .i64 0, .int .i64 (J.ordErr m f)]) (by simp [results, Try.results19, go_sem]) rfl ?_)
      exact ⟨by rw [hA.out, hfe.out], by (repeat (first | exact World.grows.refl _ | assumption | refine World.grows.alloc ?_ _ | refine World.grows.plus ?_ _ _ | refine World.grows.drew ?_))⟩
  · have hfe := Lib.hid (Job.follow_bad (m := m) (f := f) hc)
    have hA := Lib.hid (Job.ordAns_bad (fun h => hc (hfe.out.symm.trans h)))
    go_wp2_with (go_at_call 23; refine (h23 _ (Hv.out.mono (by (repeat (first | exact World.grows.refl _ | assumption | refine World.grows.alloc ?_ _ | refine World.grows.plus ?_ _ _ | refine World.grows.drew ?_))))).mono ?_; rintro e w1 ⟨rfl, hg1⟩; obtain ⟨n1, x1, rfl⟩ := World.plus_of hg1)
    (refine bodyPost_ret (v := .tuple #[.int .i64 0, .int .i64 J.check]) (by simp [results, Try.results19, go_sem]) rfl ?_)
    exact ⟨by rw [hA.out, hfe.out], by (repeat (first | exact World.grows.refl _ | assumption | refine World.grows.alloc ?_ _ | refine World.grows.plus ?_ _ _ | refine World.grows.drew ?_))⟩

end Go.Proofs.Ytjpccfpmhmddjaa

/-
  What is proved: Blue of the program and of the reference.
-/
namespace Go.Proofs.Ytjpccfpmhmddjaa
open Go.RowKit
attribute [local irreducible] Go.wpCalm

def Job.blueQ (J : Job) (f : Nat → Int) (l : Int) (i : Nat) : Bool := decide (l < J.hotAt (natOf f) i)
def Job.blueIdx (J : Job) (m : Nat) (f : Nat → Int) (l : Int) : Int := fstIdx (J.blueQ f l) m
def Job.blueErr (J : Job) (m : Nat) (f : Nat → Int) (l : Int) : Int := if J.followErr m f = 0 then (if J.blueIdx m f l < 0 then 5 else 0) else J.followErr m f
def Job.blueAns (J : Job) (m : Nat) (f : Nat → Int) (l : Int) : Int := if J.blueErr m f l = 0 then J.blueIdx m f l else 0

theorem Job.blue_bad {J : Job} {m : Nat} {f : Nat → Int} {l : Int} (h : J.followErr m f ≠ 0) : J.blueErr m f l = J.followErr m f ∧ J.blueAns m f l = 0 := by
  have h1 : J.blueErr m f l = J.followErr m f := by unfold Job.blueErr; rw [if_neg h]
  exact ⟨h1, by unfold Job.blueAns; rw [if_neg (by rw [h1]; exact h)]⟩
theorem Job.blue_none {J : Job} {m : Nat} {f : Nat → Int} {l : Int} (h : J.followErr m f = 0) (hi : J.blueIdx m f l < 0) : J.blueErr m f l = 5 ∧ J.blueAns m f l = 0 := by
  have h1 : J.blueErr m f l = 5 := by unfold Job.blueErr; rw [if_pos h, if_pos hi]
  exact ⟨h1, by unfold Job.blueAns; rw [if_neg (by rw [h1]; decide)]⟩
theorem Job.blue_ok {J : Job} {m : Nat} {f : Nat → Int} {l : Int} (h : J.followErr m f = 0) (hi : ¬ J.blueIdx m f l < 0) : J.blueErr m f l = 0 ∧ J.blueAns m f l = J.blueIdx m f l := by
  have h1 : J.blueErr m f l = 0 := by unfold Job.blueErr; rw [if_pos h, if_neg hi]
  exact ⟨h1, by unfold Job.blueAns; rw [if_pos h1]⟩

set_option maxHeartbeats 1000000 in
theorem c53 (w : World) (b0 : Nat) (l n : Int) (h0 : w.cell? ⟨b0, 0, none⟩ = some (.int .i64 l)) :
    Calls Try.prog 53 #[.int .i64 n, .pointer (some ⟨b0, 0, none⟩)] w fun e w' => e = .returned (.bool (decide (l < n))) ∧ w.grows w' := by
  go_enter Try.func53, Try.ntmps53
  go_wp2
  go_ret
  exact ⟨rfl, by (repeat (first | exact World.grows.refl _ | assumption | refine World.grows.alloc ?_ _ | refine World.grows.plus ?_ _ _ | refine World.grows.drew ?_))⟩

set_option maxHeartbeats 1000000 in
theorem blue_c (w : World) (v : Value) (J : Job) (hv : RawAt w v J) (ov : Value) (m : Nat) (f : Nat → Int) (hov : IntsAt w ov m f) (l : Int) :
    Calls Try.prog 20 #[v, ov, .int .i64 l] w fun e w' => e = .returned (.tuple #[.int .i64 (J.blueAns m f l), .int .i64 (J.blueErr m f l)]) ∧ w.grows w' := by
  have Hv := Lib.hid hv
  have Hov := Lib.hid hov
  obtain ⟨rv, row, rfl, -, -⟩ := hv
  clear hov
  go_enter Try.func20, Try.ntmps20
  by_cases hc : J.check = 0
  · have hJ := Lib.hid ((Job.Ok_iff J).2 hc)
    have h49 := fun W hW h2 => follow_ok W (.agg #[.int .i64 J.start, rv]) J hW hJ.out ov m f h2
    have hfe := Lib.hid (Job.follow_ok (m := m) (f := f) hc)
    clear hc
    by_cases he : J.ordErr m f = 0
    · rw [he] at h49
      have hbox : ∀ W : World, ((w.alloc (.cells #[.int .i64 J.start, rv] 24)).alloc (.cells #[.int .i64 l] 2)).grows W → W.cell? ⟨w.heap.size + 1, 0, none⟩ = some (.int .i64 l) := fun W hW => by
        have e0 : ((w.alloc (.cells #[.int .i64 J.start, rv] 24)).alloc (.cells #[.int .i64 l] 2)).cell? ⟨w.heap.size + 1, 0, none⟩ = some (.int .i64 l) := by simp [go_sem]
        rw [hW.cell (by rw [e0]; rfl), e0]
      have H53 : Hid (∀ i, ∀ W : World, ((w.alloc (.cells #[.int .i64 J.start, rv] 24)).alloc (.cells #[.int .i64 l] 2)).grows W → Calls Try.prog 53 (#[.int .i64 (J.hotAt (natOf f) i)] ++ #[.pointer (some ⟨w.heap.size + 1, 0, none⟩)]) W fun e W' => e = .returned (.bool (J.blueQ f l i)) ∧ W.grows W') :=
        Lib.hid fun i W hW => c53 W _ l _ (hbox W hW)
      clear hbox
      by_cases hi : J.blueIdx m f l < 0
      · have hA := Lib.hid (Job.blue_none (hfe.out.trans he) hi)
        clear he
        have hi' : fstIdx (J.blueQ f l) m < 0 := hi
        clear hi
        go_wp2_with (first
          | (go_at_call 49; refine (h49 _ (Hv.out.mono (by (repeat (first | exact World.grows.refl _ | assumption | refine World.grows.alloc ?_ _ | refine World.grows.plus ?_ _ _ | refine World.grows.drew ?_)))) (Hov.out.mono (by (repeat (first | exact World.grows.refl _ | assumption | refine World.grows.alloc ?_ _ | refine World.grows.plus ?_ _ _ | refine World.grows.drew ?_))))).mono ?_; rintro e w1 ⟨⟨sv, rfl, hI, -⟩, hg1⟩; have HI := Lib.hid (hI trivial); clear hI; obtain ⟨n1, x1, rfl⟩ := World.plus_of hg1)
          | (go_at_call 52; refine (idx52 _ _ m _ 53 _ (J.blueQ f l) (HI.out.mono (by (repeat (first | exact World.grows.refl _ | assumption | refine World.grows.alloc ?_ _ | refine World.grows.plus ?_ _ _ | refine World.grows.drew ?_)))) (fun args w => (by simp [go_sem])) (fun i hi' W hW => H53.out i W (World.grows.trans (World.grows_plus _ _ _) hW))).mono ?_; rintro e w2 ⟨rfl, hg2⟩; obtain ⟨n2, x2, rfl⟩ := World.plus_of hg2))
        (refine bodyPost_ret (v := .tuple #[.int .i64 0, .int .i64 5]) (by simp [results, Try.results20, go_sem]) rfl ?_)
        exact ⟨by rw [hA.out.1, hA.out.2], by (repeat (first | exact World.grows.refl _ | assumption | refine World.grows.alloc ?_ _ | refine World.grows.plus ?_ _ _ | refine World.grows.drew ?_))⟩
      · have hA := Lib.hid (Job.blue_ok (hfe.out.trans he) hi)
        clear he
        have hi' : ¬ fstIdx (J.blueQ f l) m < 0 := hi
        clear hi
        go_wp2_with (first
          | (go_at_call 49; refine (h49 _ (Hv.out.mono (by (repeat (first | exact World.grows.refl _ | assumption | refine World.grows.alloc ?_ _ | refine World.grows.plus ?_ _ _ | refine World.grows.drew ?_)))) (Hov.out.mono (by (repeat (first | exact World.grows.refl _ | assumption | refine World.grows.alloc ?_ _ | refine World.grows.plus ?_ _ _ | refine World.grows.drew ?_))))).mono ?_; rintro e w1 ⟨⟨sv, rfl, hI, -⟩, hg1⟩; have HI := Lib.hid (hI trivial); clear hI; obtain ⟨n1, x1, rfl⟩ := World.plus_of hg1)
          | (go_at_call 52; refine (idx52 _ _ m _ 53 _ (J.blueQ f l) (HI.out.mono (by (repeat (first | exact World.grows.refl _ | assumption | refine World.grows.alloc ?_ _ | refine World.grows.plus ?_ _ _ | refine World.grows.drew ?_)))) (fun args w => (by simp [go_sem])) (fun i hi' W hW => H53.out i W (World.grows.trans (World.grows_plus _ _ _) hW))).mono ?_; rintro e w2 ⟨rfl, hg2⟩; obtain ⟨n2, x2, rfl⟩ := World.plus_of hg2))
        (refine bodyPost_ret (v := .tuple #[.int .i64 (fstIdx (J.blueQ f l) m), .int .i64 0]) (by simp [results, Try.results20, go_sem]) rfl ?_)
        exact ⟨by rw [hA.out.1, hA.out.2]; rfl, by (repeat (first | exact World.grows.refl _ | assumption | refine World.grows.alloc ?_ _ | refine World.grows.plus ?_ _ _ | refine World.grows.drew ?_))⟩
    · have hA := Lib.hid (Job.blue_bad (l := l) (fun h => he (hfe.out.symm.trans h)))
      go_wp2_with (go_at_call 49; refine (h49 _ (Hv.out.mono (by (repeat (first | exact World.grows.refl _ | assumption | refine World.grows.alloc ?_ _ | refine World.grows.plus ?_ _ _ | refine World.grows.drew ?_)))) (Hov.out.mono (by (repeat (first | exact World.grows.refl _ | assumption | refine World.grows.alloc ?_ _ | refine World.grows.plus ?_ _ _ | refine World.grows.drew ?_))))).mono ?_; rintro e w1 ⟨⟨sv, rfl, -, -⟩, hg1⟩; obtain ⟨n1, x1, rfl⟩ := World.plus_of hg1)
      (refine bodyPost_ret (v := .tuple #[.int .i64 0, .int .i64 (J.ordErr m f)]) (by simp [results, Try.results20, go_sem]) rfl ?_)
      exact ⟨by rw [hA.out.1, hA.out.2, hfe.out], by (repeat (first | exact World.grows.refl _ | assumption | refine World.grows.alloc ?_ _ | refine World.grows.plus ?_ _ _ | refine World.grows.drew ?_))⟩
  · have hfe := Lib.hid (Job.follow_bad (m := m) (f := f) hc)
    have hA := Lib.hid (Job.blue_bad (l := l) (fun h => hc (hfe.out.symm.trans h)))
    go_wp2_with (go_at_call 49; refine (Go.Proofs.Ytjpccfpmhmddjaa.follow_bad _ _ J (Hv.out.mono (by (repeat (first | exact World.grows.refl _ | assumption | refine World.grows.alloc ?_ _ | refine World.grows.plus ?_ _ _ | refine World.grows.drew ?_)))) hc ov).mono ?_; rintro e w1 ⟨rfl, hg1⟩; obtain ⟨n1, x1, rfl⟩ := World.plus_of hg1)
    (refine bodyPost_ret (v := .tuple #[.int .i64 0, .int .i64 J.check]) (by simp [results, Try.results20, go_sem]) rfl ?_)
    exact ⟨by rw [hA.out.1, hA.out.2, hfe.out], by (repeat (first | exact World.grows.refl _ | assumption | refine World.grows.alloc ?_ _ | refine World.grows.plus ?_ _ _ | refine World.grows.drew ?_))⟩

set_option maxHeartbeats 1000000 in
theorem rblue_c (w : World) (v : Value) (J : Job) (hv : RawAt w v J) (ov : Value) (m : Nat) (f : Nat → Int) (hov : IntsAt w ov m f) (l : Int) :
    Calls Try.prog 21 #[v, ov, .int .i64 l] w fun e w' => e = .returned (.tuple #[.int .i64 (J.blueAns m f l), .int .i64 (J.blueErr m f l)]) ∧ w.grows w' := by
  have Hv := Lib.hid hv
  have Hov := Lib.hid hov
  obtain ⟨rv, row, rfl, -, -⟩ := hv
  clear hov
  have h19 := fun W hW h2 => rcheckOrd_c W (.agg #[.int .i64 J.start, rv]) J hW ov m f h2
  go_enter Try.func21, Try.ntmps21
  by_cases hf : J.followErr m f = 0
  · have hc : J.check = 0 := by
      by_cases hc : J.check = 0
      · exact hc
      · rw [Job.follow_bad hc] at hf; exact hf
    have hJ := Lib.hid ((Job.Ok_iff J).2 hc)
    have he : J.ordErr m f = 0 := (Job.follow_ok hc).symm.trans hf
    have h51 := fun W hW h2 => heats_c W (.agg #[.int .i64 J.start, rv]) J (RawAt.job hW hJ.out) hJ.out ov m f h2
    rw [hf] at h19
    rw [he] at h51
    have hm24 := ((Job.ordErr_zero he).2.m_bd hJ.out).2
    have Hf := Lib.hid hf
    clear hc he hf
    go_wp2_with (first
      | (go_at_call 19; refine (h19 _ (Hv.out.mono (by (repeat (first | exact World.grows.refl _ | assumption | refine World.grows.alloc ?_ _ | refine World.grows.plus ?_ _ _ | refine World.grows.drew ?_)))) (Hov.out.mono (by (repeat (first | exact World.grows.refl _ | assumption | refine World.grows.alloc ?_ _ | refine World.grows.plus ?_ _ _ | refine World.grows.drew ?_))))).mono ?_; rintro e w2 ⟨rfl, hg2⟩; obtain ⟨n2, x2, rfl⟩ := World.plus_of hg2)
      | (go_at_call 51; refine (h51 _ (Hv.out.mono (by (repeat (first | exact World.grows.refl _ | assumption | refine World.grows.alloc ?_ _ | refine World.grows.plus ?_ _ _ | refine World.grows.drew ?_)))) (Hov.out.mono (by (repeat (first | exact World.grows.refl _ | assumption | refine World.grows.alloc ?_ _ | refine World.grows.plus ?_ _ _ | refine World.grows.drew ?_))))).mono ?_; rintro e w1 ⟨⟨sv, rfl, hI, -⟩, hg1⟩; obtain ⟨sa, scap, rfl, hs1, hs2, hsc⟩ := hI trivial; unfold maxLen at hs2; clear hI))
    have Hsc := Lib.hid hsc
    clear hsc
    go_loop [12] (fun i => ∃ k : Nat, k ≤ m ∧ i = .int .i64 k ∧ Hid (∀ j, j < k → J.blueQ f l j = false)) (fun i => m - (intOf i).toNat)
    case atStart => exact ⟨0, by omega, rfl, Lib.hid fun j hj => by omega⟩
    case round =>
      obtain ⟨k, hk, rfl, hq⟩ := hrel
      by_cases hlt : k < m
      · obtain ⟨sb, so, rfl, h0⟩ := Hsc.out k 0 hlt (by omega)
        simp only [Nat.mul_one, Nat.add_zero] at h0
        by_cases hlk : l < J.hotAt (natOf f) k
        · have hidx : J.blueIdx m f l = k := fstIdx_at _ m k hlt hq.out (by simp [Job.blueQ, hlk])
          have hA := Lib.hid (Job.blue_ok (l := l) Hf.out (by rw [hidx]; omega))
          have Hidx := Lib.hid hidx
          clear hidx
          go_wp2
          (refine bodyPost_ret (v := .tuple #[.int .i64 k, .int .i64 0]) (by simp [results, Try.results21, go_sem]) rfl ?_)
          exact ⟨by rw [hA.out.1, hA.out.2, Hidx.out], World.grows.trans (by (repeat (first | exact World.grows.refl _ | assumption | refine World.grows.alloc ?_ _ | refine World.grows.plus ?_ _ _ | refine World.grows.drew ?_))) hg1⟩
        · have hqk : Hid (J.blueQ f l k = false) := Lib.hid (by simp [Job.blueQ]; omega)
          go_wp2
          go_round
          case rel => exact ⟨k + 1, by omega, by go_num, Lib.hid fun j hj => (by rcases Nat.lt_or_ge j k with h | h; exact hq.out j h; have hjk : j = k := (by omega); subst hjk; exact hqk.out)⟩
          case measure => simp [intOf]; omega
      · have hke : k = m := by omega
        subst hke
        have hidx : J.blueIdx k f l = -1 := fstIdx_none _ k hq.out
        have hA := Lib.hid (Job.blue_none (l := l) Hf.out (by rw [hidx]; omega))
        clear hidx
        go_wp2
        (refine bodyPost_ret (v := .tuple #[.int .i64 0, .int .i64 5]) (by simp [results, Try.results21, go_sem]) rfl ?_)
        exact ⟨by rw [hA.out.1, hA.out.2], World.grows.trans (by (repeat (first | exact World.grows.refl _ | assumption | refine World.grows.alloc ?_ _ | refine World.grows.plus ?_ _ _ | refine World.grows.drew ?_))) hg1⟩
  · have hA := Lib.hid (Job.blue_bad (l := l) hf)
    go_wp2_with (go_at_call 19; refine (h19 _ (Hv.out.mono (by (repeat (first | exact World.grows.refl _ | assumption | refine World.grows.alloc ?_ _ | refine World.grows.plus ?_ _ _ | refine World.grows.drew ?_)))) (Hov.out.mono (by (repeat (first | exact World.grows.refl _ | assumption | refine World.grows.alloc ?_ _ | refine World.grows.plus ?_ _ _ | refine World.grows.drew ?_))))).mono ?_; rintro e w1 ⟨rfl, hg1⟩; obtain ⟨n1, x1, rfl⟩ := World.plus_of hg1)
    (refine bodyPost_ret (v := .tuple #[.int .i64 0, .int .i64 (J.followErr m f)]) (by simp [results, Try.results21, go_sem]) rfl ?_)
    exact ⟨by rw [hA.out.1, hA.out.2], by (repeat (first | exact World.grows.refl _ | assumption | refine World.grows.alloc ?_ _ | refine World.grows.plus ?_ _ _ | refine World.grows.drew ?_))⟩

end Go.Proofs.Ytjpccfpmhmddjaa

/-
  What is proved: plain words on the numbers of places: numTo, digTo, the next place.
-/
namespace Go.Proofs.Ytjpccfpmhmddjaa
open Go.RowKit

/-- the number of the first k digits -/
def Job.numTo (J : Job) (p : Nat → Nat) : Nat → Nat
  | 0 => 0
  | k + 1 => J.numTo p k * (J.len k + 1) + p k
/-- the first k digits of a number -/
def Job.digTo (J : Job) (t : Nat) : Nat → Nat → Nat
  | 0 => fun _ => 0
  | k + 1 => upd (J.digTo (t / (J.len k + 1)) k) k (t % (J.len k + 1))
def Job.num (J : Job) (p : Nat → Nat) : Nat := J.numTo p J.n
def Job.dig (J : Job) (t : Nat) : Nat → Nat := J.digTo t J.n
def Job.size (J : Job) : Nat := prodTo J.len J.n

theorem Job.numTo_congr (J : Job) {p q : Nat → Nat} : ∀ k, (∀ i, i < k → p i = q i) → J.numTo p k = J.numTo q k
  | 0, _ => rfl
  | k + 1, h => by rw [Job.numTo, Job.numTo, J.numTo_congr k fun i hi => h i (by omega), h k (by omega)]
theorem Job.digTo_out (J : Job) : ∀ k t i, k ≤ i → J.digTo t k i = 0
  | 0, _, _, _ => rfl
  | k + 1, t, i, h => by
    rw [Job.digTo, upd, if_neg (by omega)]
    exact J.digTo_out k _ i (by omega)
theorem Job.digTo_le (J : Job) : ∀ k t i, i < k → J.digTo t k i ≤ J.len i
  | 0, _, _, h => absurd h (by omega)
  | k + 1, t, i, h => by
    rw [Job.digTo, upd]
    split
    · rename_i h'
      subst h'
      have := Nat.mod_lt t (show 0 < J.len i + 1 by omega)
      omega
    · exact J.digTo_le k _ i (by omega)
theorem Job.numTo_digTo (J : Job) : ∀ k t, t < prodTo J.len k → J.numTo (J.digTo t k) k = t
  | 0, t, h => by simp [prodTo] at h; simp [Job.numTo, h]
  | k + 1, t, h => by
    rw [prodTo] at h
    have h1 : t / (J.len k + 1) < prodTo J.len k := (Nat.div_lt_iff_lt_mul (by omega)).2 h
    rw [Job.numTo, Job.digTo]
    rw [J.numTo_congr (q := J.digTo (t / (J.len k + 1)) k) k (fun i hi => by rw [upd, if_neg (by omega)]), J.numTo_digTo k _ h1]
    rw [upd, if_pos rfl]
    have := Nat.div_add_mod t (J.len k + 1)
    rw [Nat.mul_comm] at this
    exact this
theorem Job.numTo_lt (J : Job) {p : Nat → Nat} : ∀ k, (∀ i, i < k → p i ≤ J.len i) → J.numTo p k < prodTo J.len k
  | 0, _ => by simp [Job.numTo, prodTo]
  | k + 1, h => by
    have h1 := J.numTo_lt k fun i hi => h i (by omega)
    have h2 := h k (by omega)
    rw [Job.numTo, prodTo]
    have h3 : (J.numTo p k + 1) * (J.len k + 1) ≤ prodTo J.len k * (J.len k + 1) := Nat.mul_le_mul_right _ h1
    rw [Nat.add_mul] at h3
    omega
theorem Job.digTo_numTo (J : Job) {p : Nat → Nat} : ∀ k, (∀ i, i < k → p i ≤ J.len i) → ∀ i, i < k → J.digTo (J.numTo p k) k i = p i
  | 0, _, _, h => absurd h (by omega)
  | k + 1, h, i, hi => by
    have h2 := h k (by omega)
    rw [Job.numTo, Job.digTo, upd]
    have hd : (J.numTo p k * (J.len k + 1) + p k) / (J.len k + 1) = J.numTo p k := by
      rw [Nat.mul_comm, Nat.mul_add_div (by omega), Nat.div_eq_of_lt (by omega), Nat.add_zero]
    have hm : (J.numTo p k * (J.len k + 1) + p k) % (J.len k + 1) = p k := by
      rw [Nat.mul_comm, Nat.mul_add_mod, Nat.mod_eq_of_lt (by omega)]
    rw [hd, hm]
    split
    · rename_i h'; subst h'; rfl
    · exact J.digTo_numTo k (fun i hi => h i (by omega)) i (by omega)

theorem Job.dig_in (J : Job) (t : Nat) : J.In (J.dig t) := ⟨fun i hi => J.digTo_le J.n t i hi, fun i hi => J.digTo_out J.n t i hi⟩
theorem Job.num_dig (J : Job) {t : Nat} (h : t < J.size) : J.num (J.dig t) = t := J.numTo_digTo J.n t h
theorem Job.num_lt (J : Job) {p : Nat → Nat} (h : J.In p) : J.num p < J.size := J.numTo_lt J.n h.le
theorem Job.dig_num (J : Job) {p : Nat → Nat} (h : J.In p) : J.dig (J.num p) = p := by
  funext i
  rcases Nat.lt_or_ge i J.n with hi | hi
  · exact J.digTo_numTo J.n h.le i hi
  · rw [h.out i hi]; exact J.digTo_out J.n _ i hi
theorem Job.num_inj (J : Job) {p q : Nat → Nat} (hp : J.In p) (hq : J.In q) (h : J.num p = J.num q) : p = q := by
  rw [← J.dig_num hp, ← J.dig_num hq, h]

/-- the digits from i on are struck -/
def cutAt (p : Nat → Nat) (i : Nat) : Nat → Nat := fun j => if j < i then p j else 0
/-- one more at i, nothing behind it -/
def stepAt (p : Nat → Nat) (i : Nat) : Nat → Nat := upd (cutAt p (i + 1)) i (p i + 1)
theorem Job.numTo_step (J : Job) {p : Nat → Nat} {i : Nat} : ∀ d, (∀ j, i < j → j < i + 1 + d → p j = J.len j) → J.numTo (stepAt p i) (i + 1 + d) = J.numTo p (i + 1 + d) + 1
  | 0, _ => by
    have h1 : J.numTo (stepAt p i) i = J.numTo p i := J.numTo_congr i fun j hj => by
      simp only [stepAt, upd, cutAt]
      rw [if_neg (by omega), if_pos (by omega)]
    simp only [Nat.add_zero, Job.numTo]
    rw [h1]
    simp only [stepAt, upd, if_true]
    omega
  | d + 1, h => by
    have ih := J.numTo_step (p := p) (i := i) d fun j h1 h2 => h j h1 (by omega)
    rw [show i + 1 + (d + 1) = (i + 1 + d) + 1 by omega, Job.numTo, Job.numTo, ih, h (i + 1 + d) (by omega) (by omega)]
    have : stepAt p i (i + 1 + d) = 0 := by
      simp only [stepAt, upd, cutAt]
      rw [if_neg (by omega), if_neg (by omega)]
    rw [this, Nat.add_mul]
    omega
theorem Job.num_step (J : Job) {p : Nat → Nat} {i : Nat} (hi : i < J.n) (h : ∀ j, i < j → j < J.n → p j = J.len j) : J.num (stepAt p i) = J.num p + 1 := by
  have := J.numTo_step (p := p) (i := i) (J.n - (i + 1)) fun j h1 h2 => h j h1 (by omega)
  rw [show i + 1 + (J.n - (i + 1)) = J.n by omega] at this
  exact this
theorem Job.step_in (J : Job) {p : Nat → Nat} {i : Nat} (hp : J.In p) (hi : i < J.n) (hlt : p i < J.len i) : J.In (stepAt p i) := by
  refine ⟨fun j hj => ?_, fun j hj => ?_⟩
  · simp only [stepAt, upd, cutAt]
    split
    · rename_i h; subst h; omega
    · split
      · exact hp.le j hj
      · omega
  · simp only [stepAt, upd, cutAt]
    rw [if_neg (by omega), if_neg (by omega)]
theorem Job.numTo_last (J : Job) {p : Nat → Nat} : ∀ k, (∀ j, j < k → p j = J.len j) → J.numTo p k + 1 = prodTo J.len k
  | 0, _ => rfl
  | k + 1, h => by
    have ih := J.numTo_last k fun j hj => h j (by omega)
    rw [Job.numTo, prodTo, ← ih, h k (by omega), Nat.add_mul]
    omega
theorem Job.num_last (J : Job) {p : Nat → Nat} (h : ∀ j, j < J.n → p j = J.len j) : J.num p + 1 = J.size := J.numTo_last J.n h
theorem Job.num_zero (J : Job) : J.num (fun _ => 0) = 0 := by
  have : ∀ k, J.numTo (fun _ => 0) k = 0 := fun k => by
    induction k with
    | zero => rfl
    | succ k ih => simp [Job.numTo, ih]
  exact this J.n
theorem Job.zero_in (J : Job) : J.In (fun _ => 0) := ⟨fun _ _ => Nat.zero_le _, fun _ _ => rfl⟩
theorem Job.last_in (J : Job) : J.In J.last := ⟨fun i hi => by simp [Job.last, hi], fun i hi => by simp [Job.last]; omega⟩
theorem Job.dig_zero (J : Job) : J.dig 0 = fun _ => 0 := by
  have := J.dig_num J.zero_in
  rw [J.num_zero] at this
  exact this
theorem Job.size_pos (J : Job) : 1 ≤ J.size := prodTo_pos _ _
theorem Job.size_le {J : Job} (h : J.Ok) : J.size ≤ 2401 := by
  have h1 := prodTo_bd J.len 6 J.n h.l6
  have h2 : (6 + 1) ^ J.n ≤ (6 + 1) ^ 4 := Nat.pow_le_pow_right (by omega) h.n4
  have h3 : (6 + 1) ^ 4 = 2401 := by decide
  unfold Job.size
  omega
theorem cutAt_n {J : Job} {p : Nat → Nat} (h : J.In p) : cutAt p J.n = p := by
  funext i
  simp only [cutAt]
  split
  · rfl
  · rw [h.out i (by omega)]
theorem cutAt_down {p : Nat → Nat} {i : Nat} : upd (cutAt p (i + 1)) i 0 = cutAt p i := by
  funext j
  simp only [cutAt, upd]
  by_cases h : j = i
  · subst h; simp
  · by_cases h' : j < i
    · rw [if_neg h, if_pos (by omega), if_pos h']
    · rw [if_neg h, if_neg (by omega), if_neg h']

end Go.Proofs.Ytjpccfpmhmddjaa

/-
  What is proved: all places, in the program.
-/
namespace Go.Proofs.Ytjpccfpmhmddjaa
open Go.RowKit
attribute [local irreducible] Go.wpCalm

theorem el76 : Try.prog.knows 76 (.agg #[.int .i64 0, .int .i64 0, .int .i64 0, .int .i64 0]) 4 32 := Program.knows_of (by kernel_rfl)
def placeC (f : Nat → Nat → Nat) (t j : Nat) : Value := .int .i64 (f t j)
theorem place_slice (w : World) (p : Nat → Nat) (t b : Nat) (hb : b = w.heap.size) :
    SliceAt (w.alloc (.cells #[.int .i64 (p 0), .int .i64 (p 1), .int .i64 (p 2), .int .i64 (p 3)] t)) (.slice (some ⟨b, 0, none⟩) 1 1) 1 4 (fun _ j => .int .i64 (p j)) := by
  subst hb
  refine ⟨_, _, rfl, by omega, by unfold maxLen; omega, fun i j hi hj => ⟨_, _, rfl, ?_⟩⟩
  have hi0 : i = 0 := by omega
  subst hi0
  match j, hj with
  | 0, _ => simp [go_sem]
  | 1, _ => simp [go_sem]
  | 2, _ => simp [go_sem]
  | 3, _ => simp [go_sem]
theorem place_one (p : Nat → Nat) : ∀ u ∈ tableL 1 4 (fun _ j => Value.int .i64 (p j)), u.oneCell' = true := by
  intro u hu
  simp only [tableL, List.mem_map] at hu
  obtain ⟨k, _, rfl⟩ := hu
  rfl
def lenV : Value → Nat
  | .slice _ n _ => n
  | _ => 0
theorem ownsRow_len {w : World} {base : Nat} {e : TypeId} {size : Nat} {v : Value} {n : Nat} {xs : List Value} (h : w.ownsRow base e size v n xs) : lenV v = n := by
  rcases h.2 with ⟨rfl, rfl⟩ | ⟨b, cap, cur, rfl, _⟩ <;> rfl
@[reducible] def idxV : Nat → Int
  | 0 => -1
  | k + 1 => k

theorem idxV_pos {n : Nat} (h : 1 ≤ n) : idxV n = (n : Int) - 1 := by
  cases n with
  | zero => omega
  | succ k => simp [idxV]

set_option maxHeartbeats 4000000 in
theorem all_c (w : World) (P0 : Nat) (J : Job) (hP : PlateAt w P0 J) (hJ : J.Ok) :
    Calls Try.prog 65 #[.pointer (some ⟨P0, 0, none⟩)] w fun e w' => ∃ v, e = .returned v ∧ w.grows w' ∧ SliceAt w' v J.size 4 (placeC J.dig) := by
  obtain ⟨hstart, hlast, b, o, cap, rb, ro, rc, hrows, hcap, hcap2, hrow, hpk, hlv, hrc⟩ := hP
  have Hlast := Lib.hid hlast
  clear hrow hpk hlv hrc hlast
  have hn4 := hJ.n4
  have hn1 := hJ.n1
  unfold maxLen at hcap2
  have hsz := J.size_le hJ
  go_enter Try.func65, Try.ntmps65
  go_wp2
  go_step3
  go_wp2
  go_step3
  go_wp2
  go_loopw [3] (fun s wr => ∃ t : Nat, t < J.size ∧ wr.ownsRow (w.heap.size + 1) 76 4 s t (tableL t 4 (placeC J.dig)) ∧ (w.alloc (plcO (J.dig t))).grows wr) (fun s _ => J.size - lenV s)
  case atStart => exact ⟨0, by have := J.size_pos; omega, World.ownsRow_nil _ _ _ _, by rw [J.dig_zero]; exact World.grows.refl _⟩
  case round =>
    obtain ⟨t, ht, hown, hg⟩ := hrel
    have hlen := Lib.hid (ownsRow_len hown)
    have Hown := Lib.hid hown
    clear hown
    obtain ⟨n1, x1, rfl⟩ := World.plus_of hg
    go_wp2_with (at_builtin; go_loud (refine wpList_append_g _ rfl _ _ _ (by rfl) (w.heap.size + 1) 76 (.agg #[.int .i64 0, .int .i64 0, .int .i64 0, .int .i64 0]) 4 32 Try.underlying105 el76 (by rfl) (by omega) _ t _ (by rfl) (Hown.out.grow (World.grows.alloc (World.grows.refl _) _)) _ (by rfl) 1 _ (SliceAt.src (by omega) (place_slice _ (J.dig t) _ _ (by simp))) (place_one _) (by unfold maxLen; omega) (by omega) (by simp; omega) ?_; intro v' w1 hown hgr; have hg1 := hgr _ ((World.grows_plus (w.alloc (plcO (J.dig t))) n1 x1).alloc _) (by simp); clear hgr; obtain ⟨n2, x2, rfl⟩ := World.plus_of hg1))
    have hown2 : ((w.alloc (plcO (J.dig t))).plus n2 x2).ownsRow (w.heap.size + 1) 76 4 v' (t + 1) (tableL (t + 1) 4 (placeC J.dig)) := by rw [tableL_snoc]; exact hown
    clear hown
    go_loopw [5] (fun s wr => ∃ i : Nat, i ≤ J.n ∧ s = .int .i64 (idxV i) ∧ Hid (∀ j, i ≤ j → j < J.n → J.dig t j = J.len j) ∧ wr.ownsRow (w.heap.size + 1) 76 4 v' (t + 1) (tableL (t + 1) 4 (placeC J.dig)) ∧ (w.alloc (plcO (cutAt (J.dig t) i))).grows wr) (fun s _ => (intOf s + 1).toNat)
    case atStart => exact ⟨J.n, by omega, by rw [idxV_pos hn1], Lib.hid fun j h1 h2 => by omega, hown2, by rw [cutAt_n (J.dig_in t)]; (repeat (first | exact World.grows.refl _ | assumption | refine World.grows.alloc ?_ _ | refine World.grows.plus ?_ _ _ | refine World.grows.drew ?_))⟩
    case round =>
      obtain ⟨i, hi, hs, hmax, hown3, hg3⟩ := hrel
      obtain ⟨n3, x3, rfl⟩ := World.plus_of hg3
      have Hown3 := Lib.hid hown3
      clear hown3 hown2
      cases i with
      | zero =>
        have hs' : _ = Value.int .i64 (-1) := hs
        subst hs'
        have hfin : Hid (t + 1 = J.size) := Lib.hid (by have := J.num_last (fun j hj => hmax.out j (Nat.zero_le _) hj); rw [J.num_dig ht] at this; exact this)
        go_wp2
        dsimp only [Exit.noGoto]
        go_ret
        exact ⟨_, rfl, by (repeat (first | exact World.grows.refl _ | assumption | refine World.grows.alloc ?_ _ | refine World.grows.plus ?_ _ _ | refine World.grows.drew ?_)), by rw [← hfin.out]; exact Hown3.out.sliceAt fun i j hi hj => tableL_get _ hi hj⟩
      | succ k =>
        have hs' : _ = Value.int .i64 (k : Int) := hs
        subst hs'
        have hk4 : k < 4 := by omega
        have hk4i : (k : Int) < 4 := by omega
        have hkn : k < J.n := by omega
        have hlk := Hlast.out k hk4
        have hll : J.last k = J.len k := by simp [Job.last, hkn]
        rw [hll] at hlk
        clear hll
        have hck : cutAt (J.dig t) (k + 1) k = J.dig t k := by simp [cutAt]
        have h6 := hJ.l6 k hkn
        have hdl := (J.dig_in t).le k hkn
        by_cases hlt : J.dig t k < J.len k
        · have hd : decide (J.dig t k < J.len k) = true := by simpa using hlt
          have hst : Hid (upd (cutAt (J.dig t) (k + 1)) k (J.dig t k + 1) = J.dig (t + 1) ∧ t + 1 < J.size) := Lib.hid (by
            have h1 := J.num_step (p := J.dig t) hkn (fun j h1 h2 => hmax.out j h1 h2)
            have h2 := J.step_in (J.dig_in t) hkn hlt
            rw [J.num_dig ht] at h1
            have h3 := J.num_lt h2
            rw [h1] at h3
            refine ⟨?_, h3⟩
            rw [← h1, J.dig_num h2]
            rfl)
          go_wp2
          (refine wp_region_calm (by kernel_rfl) (by kernel_rfl) ?_; (repeat (refine wpCalm_step (fun K hK => ?_); go_simp; first | (refine hK _ ?_; clear hK K) | (apply Exists.intro; refine ⟨fun n' x' => ?_, hK _ ?_⟩; (fail); clear hK K))); refine wpCalm_nil ?_; intro nq xq)
          have hown4 : Hid (∀ u, ((((w.alloc (plcO (cutAt (J.dig t) (k + 1)))).plus n3 x3).plus nq xq).setCell ⟨w.heap.size, k, none⟩ u).ownsRow (w.heap.size + 1) 76 4 v' (t + 1) (tableL (t + 1) 4 (placeC J.dig))) := Lib.hid fun u => (Hown3.out.grow (World.grows_plus _ nq xq)).set (by simp) u
          go_wp2
          go_roundw
          case rel => exact ⟨t + 1, hst.out.2, by simpa [go_sem, hk4, hck] using hown4.out (.int .i64 (J.dig t k + 1)), by rw [← hst.out.1]; (repeat (first | exact World.grows.refl _ | assumption | refine World.grows.alloc ?_ _ | refine World.grows.plus ?_ _ _ | refine World.grows.drew ?_))⟩
          case measure => have := ownsRow_len Hown3.out; have := hlen.out; simp [*]; omega
        · have hd : decide (J.dig t k < J.len k) = false := by simpa using hlt
          go_wp2
          have hcd := Lib.hid (cutAt_down (p := J.dig t) (i := k))
          have hdk : Hid (J.dig t k = J.len k) := Lib.hid (by omega)
          go_wp2
          (refine wp_region_calm (by kernel_rfl) (by kernel_rfl) ?_; (repeat (refine wpCalm_step (fun K hK => ?_); go_simp; first | (refine hK _ ?_; clear hK K) | (apply Exists.intro; refine ⟨fun n' x' => ?_, hK _ ?_⟩; (fail); clear hK K))); refine wpCalm_nil ?_; intro nq xq)
          have hown4 : Hid (∀ u, ((((w.alloc (plcO (cutAt (J.dig t) (k + 1)))).plus n3 x3).plus nq xq).setCell ⟨w.heap.size, k, none⟩ u).ownsRow (w.heap.size + 1) 76 4 v' (t + 1) (tableL (t + 1) 4 (placeC J.dig))) := Lib.hid fun u => (Hown3.out.grow (World.grows_plus _ nq xq)).set (by simp) u
          go_wp2
          go_roundw
          case rel => exact ⟨k, by omega, (by cases k <;> simp [idxV]), Lib.hid fun j h1 h2 => (by rcases Nat.lt_or_ge k j with h | h; exact hmax.out j h h2; have hjk : j = k := (by omega); subst hjk; exact hdk.out), by simpa [go_sem, hk4, hck] using hown4.out (.int .i64 0), by rw [← hcd.out]; (repeat (first | exact World.grows.refl _ | assumption | refine World.grows.alloc ?_ _ | refine World.grows.plus ?_ _ _ | refine World.grows.drew ?_))⟩
          case measure => cases k <;> simp [intOf, idxV] <;> omega

end Go.Proofs.Ytjpccfpmhmddjaa

/-
  What is proved: number of the reference.
-/
namespace Go.Proofs.Ytjpccfpmhmddjaa
open Go.RowKit
attribute [local irreducible] Go.wpCalm

set_option maxHeartbeats 1000000 in
theorem number_c (w : World) (v pv : Value) (J : Job) (p : Nat → Nat) (hv : JobAt w v J) (hpv : IntsAt w pv J.n (fun i => p i)) (hJ : J.Ok) (hp : ∀ i, i < J.n → p i ≤ J.len i) :
    Calls Try.prog 68 #[v, pv] w fun e w' => e = .returned (.int .i64 (J.num p)) ∧ w.grows w' := by
  obtain ⟨b, o, cap, rb, ro, rc, rfl, hcap, hcap2, hrow, hpk, hlv, hrc⟩ := hv
  have Hrow := Lib.hid hrow
  have Hrc := Lib.hid hrc
  clear hpk hlv hrow hrc
  obtain ⟨pa, pcap, rfl, hpc1, hpc2, hpos⟩ := hpv
  unfold maxLen at hcap2 hpc2
  have hn4 := hJ.n4
  obtain ⟨pb, po, rfl, -⟩ := hpos 0 0 (by have := hJ.n1; omega) (by omega)
  have Hpos : Hid (∀ i : Nat, i < J.n → w.cell? ⟨pb, po + i, none⟩ = some (.int .i64 (p i))) := Lib.hid fun i hi => by
    obtain ⟨b', o', he, hc⟩ := hpos i 0 hi (by omega)
    cases he; simpa using hc
  clear hpos
  have HJ := Lib.hid hJ
  have Hp := Lib.hid hp
  clear hJ hp
  go_enter Try.func68, Try.ntmps68
  go_wp2
  go_loopw [5, 6] (fun s i wr => ∃ k : Nat, k ≤ J.n ∧ i = .int .i64 k ∧ s = .int .i64 (J.numTo p k) ∧ (w.alloc (.cells #[.int .i64 J.start, .slice (some ⟨b, o, none⟩) J.n cap] 24)).grows wr) (fun _ i _ => J.n - (intOf i).toNat)
  case atStart => exact ⟨0, by omega, rfl, rfl, by (repeat (first | exact World.grows.refl _ | assumption | refine World.grows.alloc ?_ _ | refine World.grows.plus ?_ _ _ | refine World.grows.drew ?_))⟩
  case round =>
    obtain ⟨k, hk, rfl, rfl, hg⟩ := hrel
    obtain ⟨n1, x1, rfl⟩ := World.plus_of hg
    by_cases hlt : k < J.n
    · have hrk := Hrow.out k hlt
      have hrck := Hrc.out k hlt
      unfold maxLen at hrck
      have h6 := HJ.out.l6 k hlt
      have hc := Hpos.out k hlt
      have h1 := J.numTo_lt k (fun i hi => Hp.out i (by omega))
      have h2 := prodTo_bd J.len 6 k (fun i hi => HJ.out.l6 i (by omega))
      have h3 : (6 + 1) ^ k ≤ (6 + 1) ^ 4 := Nat.pow_le_pow_right (by omega) (by omega)
      have h4 : (6 + 1) ^ 4 = 2401 := by decide
      have hb : J.numTo p k ≤ 2401 := by omega
      have hpl := Hp.out k hlt
      clear h1 h2 h3 h4
      have hm : J.numTo p k * (J.len k + 1) ≤ 2401 * 7 := Nat.mul_le_mul hb (by omega)
      have hn : Hid (J.numTo p (k + 1) = J.numTo p k * (J.len k + 1) + p k) := Lib.hid rfl
      have hw1 : IntKind.i64.wrap ((J.len k : Nat) + 1 : Int) = (J.len k : Nat) + 1 := by rw [IntKind.wrap_i64]; omega
      have hw2 : IntKind.i64.wrap ((J.numTo p k : Nat) * ((J.len k : Nat) + 1) : Int) = (J.numTo p k : Nat) * ((J.len k : Nat) + 1) := by
        have : ((J.numTo p k : Nat) * ((J.len k : Nat) + 1) : Int) = ((J.numTo p k * (J.len k + 1) : Nat) : Int) := by simp
        rw [this, IntKind.wrap_i64]; omega
      have hw3 : IntKind.i64.wrap ((J.numTo p k : Nat) * ((J.len k : Nat) + 1) + (p k : Nat) : Int) = (J.numTo p k : Nat) * ((J.len k : Nat) + 1) + (p k : Nat) := by
        have : ((J.numTo p k : Nat) * ((J.len k : Nat) + 1) : Int) = ((J.numTo p k * (J.len k + 1) : Nat) : Int) := by simp
        rw [this, IntKind.wrap_i64]; omega
      clear hm
      go_wp2
      (refine wp_region_tail 14 (by kernel_rfl) (by kernel_rfl) (by decide) ?_; simp only [List.take_succ_cons, List.take_zero, List.drop_succ_cons, List.drop_zero, List.take_nil, List.drop_nil, List.append_nil, List.nil_append, List.cons_append, Nat.reduceAdd, Nat.reduceSub]; (repeat (refine wpCalm_step (fun K hK => ?_); go_simp; first | (refine hK _ ?_; clear hK K) | (apply Exists.intro; refine ⟨fun n' x' => ?_, hK _ ?_⟩; (fail); clear hK K))); refine wpCalm_nil ?_; intro nq xq)
      go_wp2
      go_roundw
      case rel => exact ⟨k + 1, by omega, by go_num, by rw [hn.out]; simp [hw1, hw2, hw3], by (repeat (first | exact World.grows.refl _ | assumption | refine World.grows.alloc ?_ _ | refine World.grows.plus ?_ _ _ | refine World.grows.drew ?_))⟩
      case measure => simp [intOf]; omega
    · have hke : k = J.n := by omega
      subst hke
      go_wp2
      go_ret
      exact ⟨rfl, by (repeat (first | exact World.grows.refl _ | assumption | refine World.grows.alloc ?_ _ | refine World.grows.plus ?_ _ _ | refine World.grows.drew ?_))⟩

end Go.Proofs.Ytjpccfpmhmddjaa

/-
  What is proved: all positions, in the reference.
-/
namespace Go.Proofs.Ytjpccfpmhmddjaa
open Go.RowKit
attribute [local irreducible] Go.wpCalm

/-- v is a slice of N slices of n small numbers each -/
def TabAt (W : World) (v : Value) (N n : Nat) (f : Nat → Nat → Nat) : Prop :=
  ∃ row : Nat → Value, SliceAt W v N 1 (fun t _ => row t) ∧ ∀ t, t < N → IntsAt W (row t) n (fun i => f t i)
theorem TabAt.mono {W W' : World} {v : Value} {N n : Nat} {f : Nat → Nat → Nat} (h : TabAt W v N n f) (g : W.grows W') : TabAt W' v N n f := by
  obtain ⟨row, h1, h2⟩ := h
  exact ⟨row, h1.mono g, fun t ht => (h2 t ht).mono g⟩
/-- the same, of the call's own, that may grow -/
def GrowTab (W : World) (B : Nat) (v : Value) (T k : Nat) (f : Nat → Nat → Nat) : Prop :=
  ∃ row : Nat → Value, W.ownsRow B 25 1 v T (tableL T 1 (fun t _ => row t)) ∧ ∀ t, t < T → W.ownsRow B 3 1 (row t) k (tableL k 1 (fun i _ => .int .i64 (f t i : Nat)))
theorem GrowTab.grow {W W' : World} {B T k : Nat} {v : Value} {f : Nat → Nat → Nat} (h : GrowTab W B v T k f) (g : W.grows W') : GrowTab W' B v T k f := by
  obtain ⟨row, h1, h2⟩ := h
  exact ⟨row, h1.grow g, fun t ht => (h2 t ht).grow g⟩
theorem GrowTab.tab {W : World} {B T k : Nat} {v : Value} {f : Nat → Nat → Nat} (h : GrowTab W B v T k f) : TabAt W v T k f := by
  obtain ⟨row, h1, h2⟩ := h
  exact ⟨row, h1.sliceAt fun i j hi hj => tableL_get _ hi hj, fun t ht => (h2 t ht).sliceAt fun i j hi hj => tableL_get _ hi hj⟩
theorem GrowTab.nil (W : World) (B k : Nat) (f : Nat → Nat → Nat) : GrowTab W B (.slice none 0 0) 0 k f :=
  ⟨fun _ => undef, World.ownsRow_nil _ _ _ _, fun t ht => absurd ht (by omega)⟩
theorem GrowTab.push {W W' : World} {B T k : Nat} {v v' u : Value} {row : Nat → Value} {f : Nat → Nat → Nat}
    (h1 : W.ownsRow B 25 1 v T (tableL T 1 (fun t _ => row t))) (h2 : ∀ t, t < T → W.ownsRow B 3 1 (row t) k (tableL k 1 (fun i _ => .int .i64 (f t i : Nat))))
    (hu : W.ownsRow B 3 1 u k (tableL k 1 (fun i _ => .int .i64 (f T i : Nat))))
    (h' : W'.ownsRow B 25 1 v' (T + 1) (tableL T 1 (fun t _ => row t) ++ tableL 1 1 (fun _ _ => u))) (g : W.grownBy W' v.ownBlock) : GrowTab W' B v' (T + 1) k f := by
  refine ⟨fun t => if t < T then row t else u, ?_, fun t ht => ?_⟩
  · rw [tableL_snoc]
    have e1 : tableL T 1 (fun t _ => row t) = tableL T 1 (fun t _ => if t < T then row t else u) := by
      unfold tableL
      apply List.map_congr_left
      intro x hx
      have : x < T := by simpa using hx
      simp [this]
    have e2 : (List.range 1).map (fun j => (if T < T then row T else u)) = tableL 1 1 (fun _ _ => u) := by simp [tableL]
    rw [← e1]
    show W'.ownsRow B 25 1 v' (T + 1) (_ ++ (List.range 1).map (fun j => (if T < T then row T else u)))
    rw [e2]
    exact h'
  · by_cases h : t < T
    · simp only [h, if_true]
      exact (h2 t h).other h1 (by decide) g
    · have : t = T := by omega
      subst this
      simp only [Nat.lt_irrefl, if_false]
      exact hu.other h1 (by decide) g

theorem el25 : Try.prog.knows 25 (.slice none 0 0) 1 24 := Program.knows_of (by kernel_rfl)
theorem Job.digTo_push (J : Job) (p x k : Nat) (hx : x ≤ J.len k) :
    tableL (k + 1) 1 (fun i _ => Value.int .i64 (J.digTo (p * (J.len k + 1) + x) (k + 1) i : Nat)) = tableL k 1 (fun i _ => .int .i64 (J.digTo p k i : Nat)) ++ tableL 1 1 (fun _ _ => .int .i64 (x : Nat)) := by
  have hd : (p * (J.len k + 1) + x) / (J.len k + 1) = p := by rw [Nat.mul_comm, Nat.mul_add_div (by omega), Nat.div_eq_of_lt (by omega), Nat.add_zero]
  have hm : (p * (J.len k + 1) + x) % (J.len k + 1) = x := by rw [Nat.mul_comm, Nat.mul_add_mod, Nat.mod_eq_of_lt (by omega)]
  rw [tableL_snoc]
  congr 1
  · unfold tableL
    apply List.map_congr_left
    intro i hi
    have hi' : i < k := by simpa using hi
    simp only [Nat.div_one]
    rw [Job.digTo, hd, upd, if_neg (by omega)]
  · simp only [tableL_one, List.range_one, List.map_cons, List.map_nil]
    rw [Job.digTo, hm, upd, if_pos rfl]
theorem any_one (u : Value) (h : u.oneCell' = true) : ∀ x ∈ tableL 1 1 (fun _ _ => u), x.oneCell' = true := by
  intro x hx
  rw [tableL_one] at hx
  simp at hx
  subst hx; exact h
theorem empty_own (w : World) (B b : Nat) (hb : b = w.heap.size) (hB : B ≤ b) : (w.alloc (.cells #[] 3)).ownsRow B 3 1 (.slice (some ⟨b, 0, none⟩) 0 0) 0 [] := by
  subst hb
  exact World.ownsRow_made w #[] 0 hB (Nat.zero_le _) (by simp)

set_option maxHeartbeats 4000000 in
theorem rall_c (w : World) (v : Value) (J : Job) (hv : JobAt w v J) (hJ : J.Ok) :
    Calls Try.prog 67 #[v] w fun e w' => ∃ tv, e = .returned tv ∧ w.grows w' ∧ TabAt w' tv J.size J.n J.dig := by
  obtain ⟨b, o, cap, rb, ro, rc, rfl, hcap, hcap2, hrow, hpk, hlv, hrc⟩ := hv
  have Hrow := Lib.hid hrow
  have Hrc := Lib.hid hrc
  clear hpk hlv hrow hrc
  unfold maxLen at hcap2
  have hn4 := hJ.n4
  have HJ := Lib.hid hJ
  have hsz : Hid (∀ k, k ≤ J.n → prodTo J.len k ≤ 2401) := Lib.hid fun k hk => by
    have h1 := prodTo_bd J.len 6 k fun i hi => hJ.l6 i (by omega)
    have h2 : (6 + 1) ^ k ≤ (6 + 1) ^ 4 := Nat.pow_le_pow_right (by omega) (by omega)
    have h3 : (6 + 1) ^ 4 = 2401 := by decide
    omega
  clear hJ
  go_enter Try.func67, Try.ntmps67
  go_wp2
  go_loopw [3, 4] (fun s i wr => ∃ k : Nat, k ≤ J.n ∧ i = .int .i64 k ∧ TabAt wr s (prodTo J.len k) k (fun t => J.digTo t k) ∧ (w.alloc (.cells #[.int .i64 J.start, .slice (some ⟨b, o, none⟩) J.n cap] 24)).grows wr) (fun _ i _ => J.n - (intOf i).toNat)
  case atStart => exact ⟨0, by omega, rfl, ⟨fun _ => .slice none 0 0, one_slice _ _ _ _ (by simp), fun t ht => SliceAt.none⟩, by (repeat (first | exact World.grows.refl _ | assumption | refine World.grows.alloc ?_ _ | refine World.grows.plus ?_ _ _ | refine World.grows.drew ?_))⟩
  case round =>
    obtain ⟨k, hk, rfl, hT, hg⟩ := hrel
    obtain ⟨n1, x1, rfl⟩ := World.plus_of hg
    obtain ⟨orow, ⟨oa, ocap, rfl, hoc1, hoc2, hoc⟩, hoi⟩ := hT
    have Hoc := Lib.hid hoc
    have Hoi := Lib.hid hoi
    clear hoc hoi
    unfold maxLen at hoc2
    by_cases hlt : k < J.n
    · have hrk := Hrow.out k hlt
      have hrck := Hrc.out k hlt
      unfold maxLen at hrck
      have h6 := HJ.out.l6 k hlt
      have hs1 := hsz.out (k + 1) hlt
      rw [prodTo] at hs1
      go_wp2
      go_loopw [5, 6] (fun s i wr => ∃ p : Nat, p ≤ prodTo J.len k ∧ i = .int .i64 p ∧ GrowTab wr (w.heap.size + 1 + n1) s (p * (J.len k + 1)) (k + 1) (fun t => J.digTo t (k + 1)) ∧ ((w.alloc (.cells #[.int .i64 J.start, .slice (some ⟨b, o, none⟩) J.n cap] 24)).plus n1 x1).grows wr) (fun _ i _ => prodTo J.len k - (intOf i).toNat)
      case atStart => exact ⟨0, by omega, rfl, by rw [Nat.zero_mul]; exact GrowTab.nil _ _ _ _, by (repeat (first | exact World.grows.refl _ | assumption | refine World.grows.alloc ?_ _ | refine World.grows.plus ?_ _ _ | refine World.grows.drew ?_))⟩
      case round =>
        obtain ⟨p, hp, rfl, hG, hg2⟩ := hrel
        obtain ⟨n2, x2, rfl⟩ := World.plus_of hg2
        by_cases hlt2 : p < prodTo J.len k
        · obtain ⟨ob, oo, rfl, hop⟩ := Hoc.out p 0 hlt2 (by omega)
          simp only [Nat.mul_one, Nat.add_zero] at hop
          go_wp2
          go_loopw [5, 7] (fun s i wr => ∃ x : Nat, x ≤ J.len k + 1 ∧ i = .int .i64 x ∧ GrowTab wr (w.heap.size + 1 + n1) s (p * (J.len k + 1) + x) (k + 1) (fun t => J.digTo t (k + 1)) ∧ ((w.alloc (.cells #[.int .i64 J.start, .slice (some ⟨b, o, none⟩) J.n cap] 24)).plus n1 x1).grows wr) (fun _ i _ => J.len k + 1 - (intOf i).toNat)
          case atStart => exact ⟨0, by omega, rfl, hG, by (repeat (first | exact World.grows.refl _ | assumption | refine World.grows.alloc ?_ _ | refine World.grows.plus ?_ _ _ | refine World.grows.drew ?_))⟩
          case round =>
            obtain ⟨x, hx, rfl, hG3, hg3⟩ := hrel
            obtain ⟨n3, x3, rfl⟩ := World.plus_of hg3
            have HG3 := Lib.hid hG3
            clear hG3 hG
            by_cases hlt3 : x < J.len k + 1
            · have hxl : x ≤ J.len k := by omega
              have hT : p * (J.len k + 1) + x + 1 ≤ 2401 := by
                have h1 : (p + 1) * (J.len k + 1) ≤ prodTo J.len k * (J.len k + 1) := Nat.mul_le_mul_right _ hlt2
                rw [Nat.add_mul] at h1
                omega
              have hpu := Lib.hid (J.digTo_push p x k hxl)
              go_wp2_with (at_builtin; first
                | (refine wpList_append_g _ rfl _ _ _ (by rfl) (w.heap.size + 1 + n1 + n3) 3 (.int .i64 0) 1 8 Try.underlying25 el3 (by rfl) (by omega) _ 0 [] (by rfl) (empty_own _ _ _ (by simp) (by simp)) _ (by rfl) k _ (SliceAt.src (by omega) ((Hoi.out p hlt2).mono (by (repeat (first | exact World.grows.refl _ | assumption | refine World.grows.alloc ?_ _ | refine World.grows.plus ?_ _ _ | refine World.grows.drew ?_))))) (ints_one _ _) (by unfold maxLen; omega) (by omega) (by simp <;> omega) ?_; intro v1 w4 hown hgr; have hg4 := hgr (((w.alloc (.cells #[.int .i64 J.start, .slice (some ⟨b, o, none⟩) J.n cap] 24)).plus n1 x1).plus n3 x3) (World.grows.alloc (World.grows.refl _) _) (by simp); simp only [Nat.zero_add, List.nil_append] at hown; have Hown4 := Lib.hid hown; clear hown hgr; obtain ⟨n4, x4, rfl⟩ := World.plus_of ((World.grows_plus ((w.alloc (.cells #[.int .i64 J.start, .slice (some ⟨b, o, none⟩) J.n cap] 24)).plus n1 x1) n3 x3).trans hg4); have hs4 := hg4.size; simp only [World.size_plus, World.size_alloc] at hs4)
                | (refine wpList_append_g _ rfl _ _ _ (by rfl) (w.heap.size + 1 + n1 + n3) 3 (.int .i64 0) 1 8 Try.underlying25 el3 (by rfl) (by omega) _ k _ (by rfl) (Hown4.out.grow (World.grows.alloc (World.grows.refl _) _)) _ (by rfl) 1 _ (SliceAt.src (by omega) (one_slice _ _ _ _ (by simp))) (ints_one _ _) (by unfold maxLen; omega) (by omega) (by simp <;> omega) ?_; intro v2 w5 hown hgr; obtain ⟨gg, cc, rfl, -⟩ := hown.form (by omega); have hg5 := hgr (((w.alloc (.cells #[.int .i64 J.start, .slice (some ⟨b, o, none⟩) J.n cap] 24)).plus n1 x1).plus n3 x3) (hg4.alloc _) (by simp); have Hown5 := Lib.hid hown; clear hown hgr; obtain ⟨n5, x5, rfl⟩ := World.plus_of ((World.grows_plus ((w.alloc (.cells #[.int .i64 J.start, .slice (some ⟨b, o, none⟩) J.n cap] 24)).plus n1 x1) n3 x3).trans hg5); obtain ⟨row, g1, g2⟩ := HG3.out.grow hg5; have G1 := Lib.hid g1; have G2 := Lib.hid g2; clear g1 g2)
                | go_loud (refine wpList_append_r _ rfl _ _ _ (by rfl) (w.heap.size + 1 + n1) 25 (.slice none 0 0) 1 24 Try.underlying40 el25 (by rfl) (by omega) _ _ _ (by rfl) (G1.out.grow (World.grows.alloc (World.grows.refl _) _)) _ (by rfl) 1 _ (SliceAt.src (by omega) (one_slice _ _ _ _ (by simp))) (any_one _ rfl) (by unfold maxLen; omega) (by omega) (by simp <;> omega) ?_; intro v3 w6 hown hgr; have HG6 := Lib.hid (GrowTab.push (f := fun t => J.digTo t (k + 1)) (G1.out.grow (World.grows.alloc (World.grows.refl _) _)) (fun t ht => (G2.out t ht).grow (World.grows.alloc (World.grows.refl _) _)) (by rw [hpu.out]; exact (Hown5.out.grow (World.grows.alloc (World.grows.refl _) _)).down (by omega)) hown hgr); have hg6 := World.grownBy.grows hgr (G1.out.grow (World.grows.alloc (World.grows.refl _) _)) (W0 := ((w.alloc (.cells #[.int .i64 J.start, .slice (some ⟨b, o, none⟩) J.n cap] 24)).plus n1 x1)) ((World.grows_plus ((w.alloc (.cells #[.int .i64 J.start, .slice (some ⟨b, o, none⟩) J.n cap] 24)).plus n1 x1) n5 x5).alloc _) (by simp); clear hown hgr; obtain ⟨n6, x6, rfl⟩ := World.plus_of hg6))
              go_roundw
              case rel => exact ⟨x + 1, by omega, by go_num, HG6.out, by (repeat (first | exact World.grows.refl _ | assumption | refine World.grows.alloc ?_ _ | refine World.grows.plus ?_ _ _ | refine World.grows.drew ?_))⟩
              case measure => simp [intOf]; omega
            · have hxe : x = J.len k + 1 := by omega
              subst hxe
              go_wp2
              go_roundw
              case rel => exact ⟨p + 1, by omega, by go_num, by rw [Nat.add_mul, Nat.one_mul]; exact HG3.out, by (repeat (first | exact World.grows.refl _ | assumption | refine World.grows.alloc ?_ _ | refine World.grows.plus ?_ _ _ | refine World.grows.drew ?_))⟩
              case measure => simp [intOf]; omega
        · have hpe : p = prodTo J.len k := by omega
          subst hpe
          go_wp2
          go_roundw
          case rel => exact ⟨k + 1, by omega, by go_num, by rw [prodTo]; exact hG.tab, by (repeat (first | exact World.grows.refl _ | assumption | refine World.grows.alloc ?_ _ | refine World.grows.plus ?_ _ _ | refine World.grows.drew ?_))⟩
          case measure => simp [intOf]; omega
    · have hke : k = J.n := by omega
      subst hke
      go_wp2
      go_ret
      exact ⟨_, rfl, by (repeat (first | exact World.grows.refl _ | assumption | refine World.grows.alloc ?_ _ | refine World.grows.plus ?_ _ _ | refine World.grows.drew ?_)), orow, ⟨_, _, rfl, hoc1, by unfold maxLen; omega, Hoc.out⟩, Hoi.out⟩

end Go.Proofs.Ytjpccfpmhmddjaa

/-
  What is proved: which steps are not above a limit.
-/
namespace Go.Proofs.Ytjpccfpmhmddjaa
open Go.RowKit

set_option maxHeartbeats 1000000 in
theorem c84 (w : World) (b0 r : Nat) (p : Nat → Nat) (h l : Int) (h0 : w.cell? ⟨b0, 0, none⟩ = some (.int .i64 l)) :
    Calls Try.prog 84 #[stp r p h, .pointer (some ⟨b0, 0, none⟩)] w fun e w' => e = .returned (.bool (decide (h ≤ l))) ∧ w.grows w' := by
  go_enter Try.func84, Try.ntmps84
  go_wp2
  go_ret
  exact ⟨rfl, by (repeat (first | exact World.grows.refl _ | assumption | refine World.grows.alloc ?_ _ | refine World.grows.plus ?_ _ _ | refine World.grows.drew ?_))⟩

set_option maxHeartbeats 1000000 in
theorem c63 (w : World) (P0 : Value) (l : Int) :
    Calls Try.prog 63 #[P0, .int .i64 l] w fun e w' => e = .returned (.func (.func 84) #[] #[.pointer (some ⟨w.heap.size, 0, none⟩)]) ∧ w' = w.alloc (.cells #[.int .i64 l] 2) := by
  go_enter Try.func63, Try.ntmps63
  go_wp2
  go_ret
  exact ⟨rfl, rfl⟩

end Go.Proofs.Ytjpccfpmhmddjaa

/-
  What is proved: plain words on the number of ways to a place.
-/
namespace Go.Proofs.Ytjpccfpmhmddjaa
open Go.RowKit

theorem sumN_single {f g : Nat → Nat} {k a : Nat} : ∀ n, k < n → (∀ i, i < n → i ≠ k → g i = f i) → g k = f k + a → sumN g n = sumN f n + a
  | 0, h, _, _ => absurd h (by omega)
  | n + 1, hk, h, hg => by
    simp only [sumN]
    rcases Nat.lt_or_ge k n with hlt | hge
    · rw [sumN_single n hlt (fun i hi hne => h i (by omega) hne) hg, h n (by omega) (by omega)]
      omega
    · have : k = n := by omega
      subst this
      rw [sumN_congr (g := f) k (fun i hi => h i (by omega) (by omega)), hg]
      omega
theorem sumN_zero {f : Nat → Nat} : ∀ n, (∀ i, i < n → f i = 0) → sumN f n = 0
  | 0, _ => rfl
  | n + 1, h => by simp only [sumN]; rw [sumN_zero n fun i hi => h i (by omega), h n (by omega)]
theorem sumN_eq_zero {f : Nat → Nat} : ∀ n, sumN f n = 0 → ∀ i, i < n → f i = 0
  | 0, _, _, h => absurd h (by omega)
  | n + 1, hs, i, hi => by
    simp only [sumN] at hs
    rcases Nat.lt_or_ge i n with h | h
    · exact sumN_eq_zero n (by omega) i h
    · have : i = n := by omega
      subst this; omega
theorem sumN_mono {f g : Nat → Nat} : ∀ n, (∀ i, i < n → f i ≤ g i) → sumN f n ≤ sumN g n
  | 0, _ => Nat.le_refl _
  | n + 1, h => by
    have h1 := sumN_mono n fun i hi => h i (by omega)
    have h2 := h n (by omega)
    simp only [sumN]; omega

/-- the place one pass of edge r before -/
def dn (p : Nat → Nat) (r : Nat) : Nat → Nat := upd p r (p r - 1)
def Job.deg (J : Job) (p : Nat → Nat) : Nat := sumN p J.n
theorem dn_to (p : Nat → Nat) (r : Nat) : dn (upd p r (p r + 1)) r = p := by
  funext i
  simp only [dn, upd]
  by_cases h : i = r
  · subst h; simp
  · simp [h]
theorem to_dn {p : Nat → Nat} {r : Nat} (h : 0 < p r) : upd (dn p r) r (dn p r r + 1) = p := by
  funext i
  simp only [dn, upd]
  by_cases hi : i = r
  · subst hi; simp; omega
  · simp [hi]
theorem Job.deg_dn (J : Job) {p : Nat → Nat} {r : Nat} (hr : r < J.n) (h : 0 < p r) : J.deg (dn p r) + 1 = J.deg p := by
  have := sumN_single (f := dn p r) (g := p) (k := r) (a := 1) J.n hr (fun i hi hne => by simp [dn, upd, hne]) (by simp [dn, upd]; omega)
  exact this.symm
theorem Job.in_dn {J : Job} {p : Nat → Nat} (r : Nat) (h : J.In p) : J.In (dn p r) := by
  refine ⟨fun i hi => ?_, fun i hi => ?_⟩
  · simp only [dn, upd]
    have := h.le i hi
    split
    · rename_i he; subst he; omega
    · exact this
  · simp only [dn, upd]
    have := h.out i hi
    split
    · rename_i he; subst he; omega
    · exact this
theorem Job.deg_zero {J : Job} {p : Nat → Nat} (h : J.In p) (hd : J.deg p = 0) : p = fun _ => 0 := by
  funext i
  rcases Nat.lt_or_ge i J.n with hi | hi
  · exact sumN_eq_zero J.n hd i hi
  · exact h.out i hi
/-- a step makes the number greater -/
theorem Job.numTo_lt_of (J : Job) {p q : Nat → Nat} {r : Nat} : ∀ k, r < k → (∀ i, i < k → i ≠ r → p i = q i) → p r < q r → (∀ i, i < k → p i ≤ J.len i) → J.numTo p k < J.numTo q k
  | 0, h, _, _, _ => absurd h (by omega)
  | k + 1, hr, he, hlt, hle => by
    simp only [Job.numTo]
    rcases Nat.lt_or_ge r k with h | h
    · have ih := J.numTo_lt_of k h (fun i hi hne => he i (by omega) hne) hlt (fun i hi => hle i (by omega))
      have h1 : (J.numTo p k + 1) * (J.len k + 1) ≤ J.numTo q k * (J.len k + 1) := Nat.mul_le_mul_right _ ih
      have h2 := hle k (by omega)
      rw [Nat.add_mul] at h1
      omega
    · have : r = k := by omega
      subst this
      rw [J.numTo_congr (q := q) r (fun i hi => he i (by omega) (by omega))]
      omega
theorem Job.num_dn_lt {J : Job} {p : Nat → Nat} {r : Nat} (hp : J.In p) (hr : r < J.n) (h : 0 < p r) : J.num (dn p r) < J.num p :=
  J.numTo_lt_of J.n hr (fun i hi hne => by simp [dn, upd, hne]) (by simp [dn, upd]; omega) (Job.in_dn r hp).le

/-- in how many ways one comes to a place -/
def Job.waysF (J : Job) (l : Int) : Nat → (Nat → Nat) → Nat
  | 0, _ => 1
  | d + 1, p => sumN (fun r => if 0 < p r ∧ J.hot (dn p r) r ≤ l then J.waysF l d (dn p r) else 0) J.n
def Job.waysN (J : Job) (l : Int) (p : Nat → Nat) : Nat := J.waysF l (J.deg p) p
theorem Job.waysN_eq (J : Job) (l : Int) {p : Nat → Nat} (h : J.deg p ≠ 0) :
    J.waysN l p = sumN (fun r => if 0 < p r ∧ J.hot (dn p r) r ≤ l then J.waysN l (dn p r) else 0) J.n := by
  obtain ⟨d, hd⟩ : ∃ d, J.deg p = d + 1 := ⟨J.deg p - 1, by omega⟩
  unfold Job.waysN
  rw [hd, Job.waysF]
  refine sumN_congr J.n fun r hr => ?_
  by_cases hc : 0 < p r ∧ J.hot (dn p r) r ≤ l
  · rw [if_pos hc, if_pos hc]
    have := J.deg_dn hr hc.1
    rw [show J.deg (dn p r) = d by omega]
  · rw [if_neg hc, if_neg hc]
theorem Job.waysN_zero (J : Job) (l : Int) {p : Nat → Nat} (h : J.deg p = 0) : J.waysN l p = 1 := by
  unfold Job.waysN; rw [h]; rfl
theorem Job.waysF_bd (J : Job) (hn : J.n ≤ 4) (l : Int) : ∀ d p, J.waysF l d p ≤ 4 ^ d
  | 0, _ => by simp [Job.waysF]
  | d + 1, p => by
    rw [Job.waysF]
    have h1 := sumN_le (f := fun r => if 0 < p r ∧ J.hot (dn p r) r ≤ l then J.waysF l d (dn p r) else 0) (c := 4 ^ d) J.n fun r hr => by
      have := J.waysF_bd hn l d (dn p r)
      split
      · exact this
      · exact Nat.zero_le _
    have h2 : 4 ^ d * J.n ≤ 4 ^ d * 4 := Nat.mul_le_mul_left _ hn
    rw [Nat.pow_succ]
    omega
theorem Job.deg_le {J : Job} (h : J.Ok) {p : Nat → Nat} (hp : J.In p) : J.deg p ≤ 24 := by
  have := sumN_le (f := p) (c := 6) J.n fun i hi => Nat.le_trans (hp.le i hi) (h.l6 i hi)
  have := h.n4
  unfold Job.deg
  omega
theorem Job.waysN_bd {J : Job} (h : J.Ok) (l : Int) {p : Nat → Nat} (hp : J.In p) : J.waysN l p ≤ 281474976710656 := by
  have h1 := J.waysF_bd h.n4 l (J.deg p) p
  have h2 : 4 ^ J.deg p ≤ 4 ^ 24 := Nat.pow_le_pow_right (by omega) (Job.deg_le h hp)
  have h3 : 4 ^ 24 = 281474976710656 := by decide
  unfold Job.waysN
  omega

/-- the ways to q that have been counted when place t has been left by the edges below k -/
def Job.part (J : Job) (l : Int) (t k : Nat) (q : Nat → Nat) : Nat :=
  if J.deg q = 0 then 1 else sumN (fun r => if (0 < q r ∧ J.hot (dn q r) r ≤ l) ∧ (J.num (dn q r) < t ∨ (J.num (dn q r) = t ∧ r < k)) then J.waysN l (dn q r) else 0) J.n
theorem Job.part_start (J : Job) (l : Int) (q : Nat → Nat) : J.part l 0 0 q = if J.deg q = 0 then 1 else 0 := by
  unfold Job.part
  split
  · rfl
  · exact sumN_zero J.n fun r hr => by rw [if_neg]; rintro ⟨_, h | h⟩ <;> omega
theorem Job.part_full (J : Job) (l : Int) {t k : Nat} {q : Nat → Nat} (h : ∀ r, r < J.n → 0 < q r → J.num (dn q r) < t) : J.part l t k q = J.waysN l q := by
  unfold Job.part
  split
  · rename_i hd; rw [J.waysN_zero l hd]
  · rename_i hd
    rw [J.waysN_eq l hd]
    refine sumN_congr J.n fun r hr => ?_
    by_cases hc : 0 < q r ∧ J.hot (dn q r) r ≤ l
    · rw [if_pos ⟨hc, .inl (h r hr hc.1)⟩, if_pos hc]
    · rw [if_neg hc, if_neg fun h' => hc h'.1]
theorem Job.part_here (J : Job) (l : Int) {t : Nat} (ht : t < J.size) (k : Nat) : J.part l t k (J.dig t) = J.waysN l (J.dig t) :=
  J.part_full l fun r hr h0 => by
    have := Job.num_dn_lt (J.dig_in t) hr h0
    rw [J.num_dig ht] at this
    exact this
theorem Job.part_end (J : Job) (l : Int) {q : Nat → Nat} (hq : J.In q) : J.part l J.size 0 q = J.waysN l q :=
  J.part_full l fun r hr h0 => J.num_lt (Job.in_dn r hq)
theorem Job.part_next (J : Job) (l : Int) (t : Nat) (q : Nat → Nat) : J.part l t J.n q = J.part l (t + 1) 0 q := by
  unfold Job.part
  split
  · rfl
  · refine sumN_congr J.n fun r hr => ?_
    have : (J.num (dn q r) < t ∨ (J.num (dn q r) = t ∧ r < J.n)) ↔ (J.num (dn q r) < t + 1 ∨ (J.num (dn q r) = t + 1 ∧ r < 0)) := by omega
    simp only [this]
theorem Job.part_skip (J : Job) (l : Int) {t k : Nat} (ht : t < J.size) {q : Nat → Nat} (hq : J.In q) (h : 0 < q k → k < J.n → dn q k = J.dig t → ¬ J.hot (dn q k) k ≤ l ∨ J.waysN l (dn q k) = 0) : J.part l t (k + 1) q = J.part l t k q := by
  unfold Job.part
  split
  · rfl
  · refine sumN_congr J.n fun r hr => ?_
    by_cases hrk : r = k
    · subst hrk
      by_cases hc : 0 < q r ∧ J.hot (dn q r) r ≤ l
      · by_cases hn : J.num (dn q r) = t
        · have hd : dn q r = J.dig t := by rw [← hn, J.dig_num (Job.in_dn r hq)]
          rcases h hc.1 hr hd with h' | h'
          · exact absurd hc.2 h'
          · rw [h']; simp
        · have : (J.num (dn q r) < t ∨ (J.num (dn q r) = t ∧ r < r + 1)) ↔ (J.num (dn q r) < t ∨ (J.num (dn q r) = t ∧ r < r)) := by omega
          simp only [this]
      · rw [if_neg fun h' => hc h'.1, if_neg fun h' => hc h'.1]
    · have : (J.num (dn q r) < t ∨ (J.num (dn q r) = t ∧ r < k + 1)) ↔ (J.num (dn q r) < t ∨ (J.num (dn q r) = t ∧ r < k)) := by omega
      simp only [this]
theorem Job.part_step (J : Job) (l : Int) {t k : Nat} (ht : t < J.size) (hk : k < J.n) (hh : J.hot (J.dig t) k ≤ l) :
    J.part l t (k + 1) (Job.to (J.dig t) k) = J.part l t k (Job.to (J.dig t) k) + J.waysN l (J.dig t) := by
  have hd : J.deg (Job.to (J.dig t) k) ≠ 0 := by
    intro h
    have := sumN_eq_zero J.n h k hk
    simp [Job.to, upd] at this
  have hdn : dn (Job.to (J.dig t) k) k = J.dig t := dn_to _ _
  unfold Job.part
  rw [if_neg hd, if_neg hd]
  refine sumN_single J.n hk (fun r hr hne => ?_) ?_
  · have : (J.num (dn (Job.to (J.dig t) k) r) < t ∨ (J.num (dn (Job.to (J.dig t) k) r) = t ∧ r < k + 1)) ↔ (J.num (dn (Job.to (J.dig t) k) r) < t ∨ (J.num (dn (Job.to (J.dig t) k) r) = t ∧ r < k)) := by omega
    simp only [this]
  · rw [hdn, J.num_dig ht]
    have h0 : 0 < Job.to (J.dig t) k k := by simp [Job.to, upd]
    rw [if_pos ⟨⟨h0, hh⟩, .inr ⟨rfl, by omega⟩⟩, if_neg (by rintro ⟨_, h | h⟩ <;> omega)]
    omega
theorem Job.part_le {J : Job} (h : J.Ok) (l : Int) (t k : Nat) {q : Nat → Nat} (hq : J.In q) : J.part l t k q ≤ 281474976710656 := by
  refine Nat.le_trans ?_ (Job.waysN_bd h l hq)
  unfold Job.part
  split
  · rename_i hd; rw [J.waysN_zero l hd]; exact Nat.le_refl _
  · rename_i hd
    rw [J.waysN_eq l hd]
    refine sumN_mono J.n fun r hr => ?_
    by_cases hc : 0 < q r ∧ J.hot (dn q r) r ≤ l
    · rw [if_pos hc]
      split
      · exact Nat.le_refl _
      · exact Nat.zero_le _
    · rw [if_neg hc, if_neg fun h' => hc h'.1]
      exact Nat.le_refl _

end Go.Proofs.Ytjpccfpmhmddjaa

/-
  What is proved: the ways to all places, in the program (62).
-/
namespace Go.Proofs.Ytjpccfpmhmddjaa
open Go.RowKit
attribute [local irreducible] Go.wpCalm Go.wpCalm2
attribute [local go_sem] Oper.semAt_some

theorem PlateAt.sub {w w' : World} {p : Nat} {J : Job} (h : PlateAt w p J) (g : w.cellsub w') : PlateAt w' p J := by
  obtain ⟨b, o, cap, rb, ro, rc, h1, h2, h3, h4⟩ := h.rows
  exact ⟨g _ _ h.start, fun i hi => g _ _ (h.last i hi), b, o, cap, rb, ro, rc, g _ _ h1, h2, h3, ⟨fun i hi => g _ _ (h4.row i hi), fun i k hi hk => g _ _ (h4.pk i k hi hk), fun i k hi hk => g _ _ (h4.lv i k hi hk), h4.cap⟩⟩
theorem _root_.Go.SliceAt.sub {w w' : World} {v : Value} {m sz : Nat} {c : Nat → Nat → Value} (h : SliceAt w v m sz c) (g : w.cellsub w') : SliceAt w' v m sz c := by
  obtain ⟨A, cap, h1, h2, h3, h4⟩ := h
  exact ⟨A, cap, h1, h2, h3, fun i j hi hj => by obtain ⟨b, o, e1, e2⟩ := h4 i j hi hj; exact ⟨b, o, e1, g _ _ e2⟩⟩

@[local go_sem ↓] theorem mk99 (w : World) : (Instr.makeMap 99 none).run Try.prog w = .ok (.map (some w.heap.size)) (w.alloc (.map #[] 0)) := rfl
def PM.first : PM Pl := (PM.empty Pl).set (0, 0, 0, 0) 1
@[local go_sem ↓] theorem up99z (w : World) (b : Nat) (hb : b = w.heap.size) : (Instr.mapUpdate 99 (.map (some b)) (.agg #[.int .i64 0, .int .i64 0, .int .i64 0, .int .i64 0]) (.int .i64 1)).run Try.prog (w.alloc (.map #[] 0)) = .ok () (w.alloc (PM.first.obj ePl)) := by
  have h := up99 (PM.empty Pl) b (w.alloc (.map #[] 0)) (by subst hb; exact heap_alloc_new w _) (fun _ => 0) 1
  refine h.trans ?_
  rw [World.putObj_alloc_at _ _ _ _ hb]
  rfl

/-- the map of the ways that have been counted at place t, edges below k -/
def waysIs (J : Job) (l : Int) (t k : Nat) (m : PM Pl) : Prop := m.Ok ∧ ∀ q, J.In q → m.getD (tup q) = J.part l t k q

theorem Job.tup_inj {J : Job} (hJ : J.Ok) {p q : Nat → Nat} (hp : J.In p) (hq : J.In q) (h : tup p = tup q) : p = q := by
  have h4 := hJ.n4
  funext i
  simp only [tup, Prod.mk.injEq] at h
  match i with
  | 0 => exact h.1
  | 1 => exact h.2.1
  | 2 => exact h.2.2.1
  | 3 => exact h.2.2.2
  | i + 4 => rw [hp.out _ (by omega), hq.out _ (by omega)]
theorem Job.in_to {J : Job} {p : Nat → Nat} {r : Nat} (hp : J.In p) (hr : r < J.n) (h : p r < J.len r) : J.In (Job.to p r) := by
  refine ⟨fun i hi => ?_, fun i hi => ?_⟩
  · simp only [Job.to, upd]
    split
    · rename_i e; subst e; omega
    · exact hp.le i hi
  · simp only [Job.to, upd]
    split
    · rename_i e; subst e; omega
    · exact hp.out i hi
theorem waysIs.skip {J : Job} {l : Int} {t k : Nat} {m : PM Pl} (ht : t < J.size) (h : waysIs J l t k m) (hc : k < J.n → J.dig t k < J.len k → ¬ J.hot (J.dig t) k ≤ l ∨ J.waysN l (J.dig t) = 0) : waysIs J l t (k + 1) m :=
  ⟨h.1, fun q hq => by
    rw [h.2 q hq, J.part_skip l ht hq fun h0 hk hd => ?_]
    rw [hd]
    refine hc hk ?_
    have h1 := hq.le k hk
    rw [← hd]
    simp only [dn, upd, if_true]
    omega⟩
theorem waysIs.jump {J : Job} {l : Int} {t : Nat} {m : PM Pl} (ht : t < J.size) {k : Nat} (h : waysIs J l t k m) : ∀ d, (∀ i, k ≤ i → i < k + d → ¬ J.dig t i < J.len i) → waysIs J l t (k + d) m
  | 0, _ => h
  | d + 1, hc => (waysIs.jump ht h d fun i h1 h2 => hc i h1 (by omega)).skip ht fun _ h1 => absurd h1 (hc (k + d) (by omega) (by omega))
theorem waysIs.here {J : Job} {l : Int} {t k : Nat} {m : PM Pl} (ht : t < J.size) (h : waysIs J l t k m) : m.getD (tup (J.dig t)) = J.waysN l (J.dig t) := by
  rw [h.2 _ (J.dig_in t), J.part_here l ht]
theorem waysIs.step {J : Job} (hJ : J.Ok) {l : Int} {t k : Nat} {m : PM Pl} (ht : t < J.size) (hk : k < J.n) (hp : J.dig t k < J.len k) (hh : J.hot (J.dig t) k ≤ l) (h : waysIs J l t k m) :
    waysIs J l t (k + 1) (m.set (tup (Job.to (J.dig t) k)) (m.getD (tup (Job.to (J.dig t) k)) + m.getD (tup (J.dig t)))) := by
  have hto := Job.in_to (J.dig_in t) hk hp
  refine ⟨h.1.set _ _, fun q hq => ?_⟩
  rw [PM.getD_set]
  by_cases he : tup q = tup (Job.to (J.dig t) k)
  · rw [if_pos he]
    have := Job.tup_inj hJ hq hto he
    subst this
    rw [J.part_step l ht hk hh, h.here ht, h.2 _ hto]
    simp
  · rw [if_neg he, h.2 q hq, J.part_skip l ht hq fun h0 hk' hd => ?_]
    exfalso
    apply he
    have := to_dn h0
    rw [hd] at this
    rw [← this]
    rfl
theorem waysIs.bd {J : Job} (hJ : J.Ok) {l : Int} {t k : Nat} {m : PM Pl} (h : waysIs J l t k m) {q : Nat → Nat} (hq : J.In q) : 0 ≤ m.getD (tup q) ∧ m.getD (tup q) ≤ 281474976710656 := by
  rw [h.2 q hq]
  have := Job.part_le hJ l t k hq
  omega

theorem entry99 (m : PM Pl) (b : Nat) (p : Nat → Nat) : ∀ W : World, W.heap[b]? = some (m.obj ePl) →
    (Instr.mapEntry 99 (.map (some b)) (plc p)).run Try.prog W = .ok (.tuple #[.int .i64 (m.getD (tup p)), goInt (m.stamp (tup p))]) (W.putObj b ((m.touch (tup p)).obj ePl)) := fun W h =>
  run_mapEntry_pm keyPl Try.underlying99 zero2 m b W h (tup p)
theorem estore99 (m : PM Pl) (hm : m.Ok) (b : Nat) (p : Nat → Nat) : ∀ W : World, W.heap[b]? = some ((m.touch (tup p)).obj ePl) → ∀ v,
    (Instr.entryStore 99 (.map (some b)) (.int .i64 (m.stamp (tup p))) (.int .i64 v)).run Try.prog W = .ok () (W.putObj b ((m.set (tup p) v).obj ePl)) := fun W h v =>
  run_entryStore_pm m hm (tup p) b W 99 h v

set_option maxHeartbeats 4000000 in
theorem ways_c (w : World) (P0 lb : Nat) (J : Job) (hP : PlateAt w P0 J) (hJ : J.Ok) (l : Int) (hl : w.cell? ⟨lb, 0, none⟩ = some (.int .i64 l)) :
    Calls Try.prog 62 #[.pointer (some ⟨P0, 0, none⟩), .func (.func 84) #[] #[.pointer (some ⟨lb, 0, none⟩)]] w fun e w' => ∃ (b : Nat) (m : PM Pl), e = .returned (.map (some b)) ∧ w.grows w' ∧ w'.heap[b]? = some (m.obj ePl) ∧ m.Ok ∧ ∀ q, J.In q → m.getD (tup q) = J.waysN l q := by
  have hsz := J.size_le hJ
  (refine (callsIn_wide (n := 0)).1 (callsIn_of_wp_marks Try.func62 rfl trivial ((wpIn_wide (n := 0)).2 ?_) rfl); simp only [Try.ntmps62, List.size_toArray, List.length_cons, List.length_nil, Nat.reduceAdd, Nat.reduceSub, Array.replicate_succ, Array.replicate_zero, List.push_toArray, List.append_toArray, List.nil_append, List.cons_append])
  go_wp2_with (go_at_call 65; refine (all_c _ P0 J (hP.mono (by (repeat (first | exact World.grows.refl _ | assumption | refine World.grows.alloc ?_ _ | refine World.grows.plus ?_ _ _ | refine World.grows.drew ?_)))) hJ).mono ?_; rintro e w1 ⟨av, rfl, hg1, hA⟩; obtain ⟨aa, acap, rfl, ha1, ha2, hac⟩ := hA; unfold maxLen at ha2; have Hac := Lib.hid hac; clear hac)
  have hgb : w.heap.size + 2 < w1.heap.size := by have := hg1.size; simp at this; omega
  have hb1 : w1.heap[w.heap.size + 1]? = some (PM.first.obj ePl) := by rw [hg1.heap (by rw [World.heap_a _ _ _ (by rw [World.heap_at _ _ _ (by simp)]; rfl), World.heap_at _ _ _ (by simp)]; rfl), World.heap_a _ _ _ (by rw [World.heap_at _ _ _ (by simp)]; rfl), World.heap_at _ _ _ (by simp)]
  have hmc : ∀ (m : PM Pl) a, (w1.putObj (w.heap.size + 1) (m.obj ePl)).cell? a = w1.cell? a := fun m a => World.putObj_map_cell hb1 a
  have hmb : ∀ m : PM Pl, (w1.putObj (w.heap.size + 1) (m.obj ePl)).heap[w.heap.size + 1]? = some (m.obj ePl) := fun m => World.putObj_heap_same (by omega)
  have hmp : ∀ (m : PM Pl) o, (w1.putObj (w.heap.size + 1) (m.obj ePl)).putObj (w.heap.size + 1) o = w1.putObj (w.heap.size + 1) o := fun m o => World.putObj_putObj _ _ _ _
  have c0 : w1.cell? ⟨w.heap.size, 0, none⟩ = some (.func (.func 84) #[] #[.pointer (some ⟨lb, 0, none⟩)]) := by rw [hg1.cell (by simp [go_sem])]; simp [go_sem]
  have c2 : w1.cell? ⟨w.heap.size + 2, 0, none⟩ = some (.map (some (w.heap.size + 1))) := by rw [hg1.cell (by simp [go_sem])]; simp [go_sem]
  have cl : w1.cell? ⟨lb, 0, none⟩ = some (.int .i64 l) := by rw [hg1.cell (by simp [go_sem, hl])]; simp [go_sem, hl]
  have hP1 : PlateAt w1 P0 J := hP.mono (World.grows.trans (by (repeat (first | exact World.grows.refl _ | assumption | refine World.grows.alloc ?_ _ | refine World.grows.plus ?_ _ _ | refine World.grows.drew ?_))) hg1)
  have hgw : w.grows w1 := World.grows.trans (by (repeat (first | exact World.grows.refl _ | assumption | refine World.grows.alloc ?_ _ | refine World.grows.plus ?_ _ _ | refine World.grows.drew ?_))) hg1
  have Hgw := Lib.hid hgw
  have HP1 := Lib.hid hP1
  have HJ := Lib.hid hJ
  clear hP hl hg1 hP1 hgw hJ
  refine wp_loop_d [false, false, false, false, false, false, false, true, true, false, false, false, false, false, false, true, true, true, true, true, true, true, true, true, true, true, true, true, true, true, true, true, true, true, true, true, true, true, true, true, true, true, true, false] (fun u ds W => ∃ (k : Nat) (m : PM Pl), k ≤ J.size ∧ u 15 = .int .i64 k ∧ Hid (waysIs J l k 0 m) ∧ Hid (Marks w.heap.size ds W) ∧ Hid ((w1.putObj (w.heap.size + 1) (m.obj ePl)).grows W)) (fun u _ => J.size - (intOf (u 15)).toNat) (by rfl) ⟨0, PM.first, by omega, rfl, Lib.hid ⟨PM.Ok.empty.set _ _, fun q hq => ?_⟩, Lib.hid trivial, ?_⟩ ?_
  · rw [Job.part_start, PM.first, PM.getD_set, PM.getD_empty]
    by_cases hd : J.deg q = 0
    · rw [if_pos hd, Job.deg_zero hq hd]; rfl
    · rw [if_neg hd, if_neg]
      · rfl
      · intro he
        refine hd (sumN_zero _ fun i hi => ?_)
        have h4 : i < 4 := by have := HJ.out.n4; omega
        simp only [tup, Prod.mk.injEq] at he
        match i, h4 with
        | 0, _ => exact he.1
        | 1, _ => exact he.2.1
        | 2, _ => exact he.2.2.1
        | 3, _ => exact he.2.2.2
  · rw [World.putObj_self hb1]; exact Lib.hid (World.grows.refl _)
  rintro u ds W ⟨k, m, hk, hu, hm, hds, hg⟩
  simp only [fillL, hu, Nat.reduceAdd, Nat.zero_add]
  have wb : W.heap[w.heap.size + 1]? = some (m.obj ePl) := hg.out.heap_of (hmb m)
  have wc : ∀ (m' : PM Pl) a, (W.putObj (w.heap.size + 1) (m'.obj ePl)).cell? a = W.cell? a := fun m' a => World.putObj_map_cell wb a
  have wh : ∀ m' : PM Pl, (W.putObj (w.heap.size + 1) (m'.obj ePl)).heap[w.heap.size + 1]? = some (m'.obj ePl) := fun m' => World.putObj_heap_same (World.lt_of_block wb)
  have wp_ : ∀ (m' : PM Pl) o, (W.putObj (w.heap.size + 1) (m'.obj ePl)).putObj (w.heap.size + 1) o = W.putObj (w.heap.size + 1) o := fun m' o => World.putObj_putObj _ _ _ _
  have w0 : W.cell? ⟨w.heap.size, 0, none⟩ = some (.func (.func 84) #[] #[.pointer (some ⟨lb, 0, none⟩)]) := hg.out.cell_of (by rw [hmc]; exact c0)
  have w2 : W.cell? ⟨w.heap.size + 1 + 1, 0, none⟩ = some (.map (some (w.heap.size + 1))) := hg.out.cell_of (by rw [hmc]; exact c2)
  have wl : W.cell? ⟨lb, 0, none⟩ = some (.int .i64 l) := hg.out.cell_of (by rw [hmc]; exact cl)
  have hWs : w.heap.size + 1 < W.heap.size := World.lt_of_block wb
  by_cases hlt : k < J.size
  · obtain ⟨ab, ao, rfl, h0⟩ := Hac.out k 0 hlt (by omega)
    obtain ⟨_, _, e1, h1⟩ := Hac.out k 1 hlt (by omega); cases e1
    obtain ⟨_, _, e1, h2⟩ := Hac.out k 2 hlt (by omega); cases e1
    obtain ⟨_, _, e1, h3⟩ := Hac.out k 3 hlt (by omega); cases e1
    simp only [placeC, Nat.add_zero] at h0 h1 h2 h3
    replace h0 := hg.out.cell_of (by rw [hmc]; exact h0)
    replace h1 := hg.out.cell_of (by rw [hmc]; exact h1)
    replace h2 := hg.out.cell_of (by rw [hmc]; exact h2)
    replace h3 := hg.out.cell_of (by rw [hmc]; exact h3)
    go_wp2_with (go_at_call 66; refine (steps_c _ P0 (J.dig k)).mono ?_; rintro e W9 ⟨rfl, rfl⟩)
    generalize hWe : (((W.alloc (Obj.cells #[Value.int IntKind.i64 ↑(J.dig k 0), Value.int IntKind.i64 ↑(J.dig k 1), Value.int IntKind.i64 ↑(J.dig k 2), Value.int IntKind.i64 ↑(J.dig k 3)] 76)).alloc (Obj.cells #[Value.pointer (some { block := P0, off := 0 })] 72)).alloc (plcO (J.dig k))) = We
    refine wp_rangeFunc_walk (f := 85) (by rfl) (fun _ _ => rfl) (steps_seq _ _ P0 J (J.dig k) HJ.out (J.dig_in k).le) (fun x hx => by obtain ⟨r, _, rfl⟩ := List.mem_map.1 hx; rfl)
      (fun j V => ∃ (mk : PM Pl) (r : Nat), r ≤ J.n ∧ (J.steps (J.dig k) r).length = j ∧ waysIs J l k r mk ∧
        V = ((((W.putObj (w.heap.size + 1) (mk.obj ePl)).alloc (plcO (J.dig k))).alloc (Obj.cells #[Value.pointer (some { block := P0, off := 0 })] 72)).alloc (plcO (J.dig k))))
      (fun _ _ => False) ?_ (fun _ _ h => h.elim) ?_ ?_ ?_ ?_ (fun _ _ _ _ h => h.elim)
    · rintro j V ⟨mk, r, -, -, -, rfl⟩
      subst hWe
      simp
    · rintro j V ⟨mk, r, -, -, -, rfl⟩ W9 hgW
      exact ⟨hgW.cell_of (by simp [go_sem]), fun i hi => hgW.cell_of (by simp [go_sem, hi]), ((HP1.out.sub fun a v h => by rw [wc]; exact hg.out.cell_of (by rw [hmc]; exact h)).mono (w' := (((W.putObj (w.heap.size + 1) (mk.obj ePl)).alloc (plcO (J.dig k))).alloc (Obj.cells #[Value.pointer (some { block := P0, off := 0 })] 72)).alloc (plcO (J.dig k))) (by (repeat (first | exact World.grows.refl _ | assumption | refine World.grows.alloc ?_ _ | refine World.grows.plus ?_ _ _ | refine World.grows.drew ?_)))).mono hgW⟩
    · exact ⟨m, 0, by omega, rfl, hm.out, by rw [World.putObj_self wb]; exact hWe.symm⟩
    · rintro j x V lo n y hx ⟨mk, r, hr, hj, hmk, hV⟩ K0 hK0
      obtain ⟨r', hr1, hr2, hr3, rfl, hr4, hr5⟩ := J.next_open (J.dig k) (J.n - r) r (by omega) hj hx
      have hmr : waysIs J l k r' mk := by
        have := hmk.jump hlt (r' - r) (fun i h1 h2 => hr5 i h1 (by omega))
        rwa [show r + (r' - r) = r' by omega] at this
      clear hmk hr hj hr1 hr5 hx
      have hWes : We.heap.size = W.heap.size + 3 := by subst hWe; simp
      have hVs : V.heap.size = W.heap.size + 3 := by subst hV; simp
      have hVb : V.heap[w.heap.size + 1]? = some (mk.obj ePl) := by subst hV; simp [go_sem, wh]
      have v0 : V.cell? ⟨w.heap.size, 0, none⟩ = some (.func (.func 84) #[] #[.pointer (some ⟨lb, 0, none⟩)]) := by subst hV; simp [go_sem, wc, w0]
      have v2 : V.cell? ⟨w.heap.size + 1 + 1, 0, none⟩ = some (.map (some (w.heap.size + 1))) := by subst hV; simp [go_sem, wc, w2]
      have vl : V.cell? ⟨lb, 0, none⟩ = some (.int .i64 l) := by subst hV; simp [go_sem, wc, wl]
      have p0 : V.cell? ⟨W.heap.size, 0, none⟩ = some (.int .i64 (J.dig k 0)) := by subst hV; simp [go_sem]
      have p1 : V.cell? ⟨W.heap.size, 1, none⟩ = some (.int .i64 (J.dig k 1)) := by subst hV; simp [go_sem]
      have p2 : V.cell? ⟨W.heap.size, 2, none⟩ = some (.int .i64 (J.dig k 2)) := by subst hV; simp [go_sem]
      have p3 : V.cell? ⟨W.heap.size, 3, none⟩ = some (.int .i64 (J.dig k 3)) := by subst hV; simp [go_sem]
      have hVc : ∀ m' : PM Pl, V.putObj (w.heap.size + 1) (m'.obj ePl) = ((((W.putObj (w.heap.size + 1) (m'.obj ePl)).alloc (plcO (J.dig k))).alloc (Obj.cells #[Value.pointer (some { block := P0, off := 0 })] 72)).alloc (plcO (J.dig k))) := fun m' => by
        subst hV
        rw [World.putObj_alloc_lt _ _ _ _ (by simp; omega), World.putObj_alloc_lt _ _ _ _ (by simp; omega), World.putObj_alloc_lt _ _ _ _ (by simp; omega), wp_]
      have HVc := Lib.hid hVc
      clear hV hWe hVc h0 h1 h2 h3 w0 w2 wl
      simp only [hWes] at hK0 ⊢
      dsimp only [Job.stepv]
      rw [zip_one]
      simp only [List.setIfInBounds_toArray, List.set_cons_zero, List.set_cons_succ]
      gi_wp2
      refine hK0.out _ _ (by (repeat (first | exact World.grows.refl _ | assumption | refine World.grows.alloc ?_ _ | refine World.grows.plus ?_ _ _ | refine World.grows.drew ?_))) fun lo' K1 hK1 => ?_
      rw [World.putObj_alloc_lt _ _ _ _ (by simp; omega), World.putObj_plus _ _ _ _ _ (by simp; omega), World.putObj_alloc_at _ _ _ _ (by simp; omega)]
      generalize World.putIn ((V.alloc (Obj.deferred (some []))).alloc lo) n y (W.heap.size + 3 + 1) lo' = y'
      have hhot : decide (0 < (J.waysN l (J.dig k) : Int)) = decide (0 < J.waysN l (J.dig k)) := by simp
      have hl1 := fun W h => lk99 mk (w.heap.size + 1) W h (J.dig k)
      simp only [hmr.here hlt] at hl1
      by_cases hwz : 0 < J.waysN l (J.dig k)
      · have hwz' : (0 : Int) < (J.waysN l (J.dig k) : Int) := by omega
        gi_wp2_with (gi_at_call 84; go_loud (refine (Fence.free_round Try.prog _).calls _ _ _ _ _ ((c84 _ lb r' (Job.to (J.dig k) r') (J.hot (J.dig k) r') l (by simp [go_sem, vl])).mono ?_); rintro e U ⟨rfl, hgU⟩; have ub : U.heap[w.heap.size + 1]? = some (mk.obj ePl) := hgU.heap_of (by simp [go_sem, hVb]); have u2 : U.cell? ⟨w.heap.size + 1 + 1, 0, none⟩ = some (.map (some (w.heap.size + 1))) := hgU.cell_of (by simp [go_sem, v2]); have up0 : U.cell? ⟨W.heap.size, 0, none⟩ = some (.int .i64 (J.dig k 0)) := hgU.cell_of (by simp [go_sem, p0]); have up1 : U.cell? ⟨W.heap.size, 1, none⟩ = some (.int .i64 (J.dig k 1)) := hgU.cell_of (by simp [go_sem, p1]); have up2 : U.cell? ⟨W.heap.size, 2, none⟩ = some (.int .i64 (J.dig k 2)) := hgU.cell_of (by simp [go_sem, p2]); have up3 : U.cell? ⟨W.heap.size, 3, none⟩ = some (.int .i64 (J.dig k 3)) := hgU.cell_of (by simp [go_sem, p3]); have us0 : U.cell? ⟨W.heap.size + 3 + 1 + 1 + n, 1, none⟩ = some (.int .i64 (Job.to (J.dig k) r' 0)) := hgU.cell_of (by simp [go_sem, hVs]); have us1 : U.cell? ⟨W.heap.size + 3 + 1 + 1 + n, 2, none⟩ = some (.int .i64 (Job.to (J.dig k) r' 1)) := hgU.cell_of (by simp [go_sem, hVs]); have us2 : U.cell? ⟨W.heap.size + 3 + 1 + 1 + n, 3, none⟩ = some (.int .i64 (Job.to (J.dig k) r' 2)) := hgU.cell_of (by simp [go_sem, hVs]); have us3 : U.cell? ⟨W.heap.size + 3 + 1 + 1 + n, 4, none⟩ = some (.int .i64 (Job.to (J.dig k) r' 3)) := hgU.cell_of (by simp [go_sem, hVs]); have hU : ((V.alloc (.deferred (some []))).alloc lo').grows U := World.grows.trans (by (repeat (first | exact World.grows.refl _ | assumption | refine World.grows.alloc ?_ _ | refine World.grows.plus ?_ _ _ | refine World.grows.drew ?_))) hgU; have HU := Lib.hid hU; clear hgU hU p0 p1 p2 p3 v0 v2 vl))
        · rename_i hle
          have hb := Lib.hid (hmr.bd HJ.out (Job.in_to (J.dig_in k) hr2 hr3))
          have hb2 := Lib.hid (Job.waysN_bd HJ.out l (J.dig_in k))
          have hst := Lib.hid (hmr.step HJ.out hlt hr2 hr3 (by simpa using hle))
          have hh := hmr.here hlt
          have hl2 := fun W h => lk99 mk (w.heap.size + 1) W h (Job.to (J.dig k) r')
          have hl3 := fun W h => lk99 (mk.touch (tup (Job.to (J.dig k) r'))) (w.heap.size + 1) W h (J.dig k)
          have hl4 := fun W h => lk99 (mk.touch (tup (Job.to (J.dig k) r'))) (w.heap.size + 1) W h (Job.to (J.dig k) r')
          simp only [PM.touch_getD, hh] at hl3 hl4
          have hle1 := entry99 mk (w.heap.size + 1) (Job.to (J.dig k) r')
          have hle2 := estore99 mk hmr.1 (w.heap.size + 1) (Job.to (J.dig k) r')
          obtain ⟨c, hc⟩ : ∃ c, mk.getD (tup (Job.to (J.dig k) r')) = c := ⟨_, rfl⟩
          rw [hh, hc] at hst
          simp only [hc] at hl2 hl4 hle1 hb
          clear hhot
          obtain ⟨hb0, hb1⟩ := hb.out
          have hb3 := hb2.out
          have uc := World.putObj_map_cell (es' := (PM.ents ePl (mk.touch (tup (Job.to (J.dig k) r'))).l).toArray) (c' := (mk.touch (tup (Job.to (J.dig k) r'))).clock) ub
          have uc' : ∀ a, (U.putObj (w.heap.size + 1) (PM.obj ePl (mk.touch (tup (Job.to (J.dig k) r'))))).cell? a = U.cell? a := uc
          clear uc
          have uh := World.putObj_heap_same (o := PM.obj ePl (mk.touch (tup (Job.to (J.dig k) r')))) (World.lt_of_block ub)
          (refine wpIn_region_stirO (Fence.free_round _ _) 9 10 8 _ (w.heap.size + 1) ((mk.touch (tup (Job.to (J.dig k) r'))).obj ePl) rfl (by kernel_rfl) (by kernel_rfl) (by kernel_rfl) (by decide) (by decide) (by decide) rfl ?_; simp only [List.take_succ_cons, List.take_zero, List.drop_succ_cons, List.drop_zero, List.take_nil, List.drop_nil, List.append_nil, List.nil_append, List.cons_append, Nat.reduceAdd, Nat.reduceSub]; (repeat (refine wpCalm2_step (fun K hK => ?_); go_simp; first | (refine hK _ ?_; clear hK K) | (apply Exists.intro; refine ⟨⟨fun n' x' => ?_, fun n' x' => ?_⟩, hK _ ?_⟩; (fail); (fail); clear hK K))); refine wpCalm2_nil ?_)
          refine ⟨.tuple #[.int .i64 c, goInt (mk.stamp (tup (Job.to (J.dig k) r')))], Oper.stirs_of (World.lt_of_block ub) (fun n' x' => by go_simp), ?_⟩
          refine wpCalm_step (fun K hK => ?_)
          go_simp
          refine hK _ ?_
          clear hK K
          refine wpCalm_nil (fun n5 x5 => ?_)
          gi_wp2
          have hx3 := HVc.out (mk.set (tup (Job.to (J.dig k) r')) (c + ↑(J.waysN l (J.dig k))))
          refine hK1.out _ _ _ ⟨_, ⟨_, r' + 1, by omega, by rw [Job.steps_succ, if_pos hr3]; simp [hr4], hst.out, hx3⟩, ?_⟩
          rw [World.putObj_putObj]
          have hg2 := HU.out.putObj (PM.obj ePl (mk.set (tup (Job.to (J.dig k) r')) (c + ↑(J.waysN l (J.dig k))))) (b := w.heap.size + 1) (by simp; omega)
          rw [World.putObj_alloc_lt _ _ _ _ (by simp; omega), World.putObj_alloc_lt _ _ _ _ (by omega)] at hg2
          exact hg2.plus _ _
        · rename_i hle
          have hx3 := HVc.out mk
          rw [World.putObj_self hVb] at hx3
          refine hK1.out _ _ _ ⟨V, ⟨mk, r' + 1, by omega, by rw [Job.steps_succ, if_pos hr3]; simp [hr4], hmr.skip hlt fun _ _ => .inl (by simpa using hle), hx3⟩, HU.out⟩
      · have hwz' : ¬ (0 : Int) < (J.waysN l (J.dig k) : Int) := by omega
        gi_wp2
        have hx3 := HVc.out mk
        rw [World.putObj_self hVb] at hx3
        refine hK1.out _ _ _ ⟨V, ⟨mk, r' + 1, by omega, by rw [Job.steps_succ, if_pos hr3]; simp [hr4], hmr.skip hlt fun _ _ => .inr (by omega), hx3⟩, by (repeat (first | exact World.grows.refl _ | assumption | refine World.grows.alloc ?_ _ | refine World.grows.plus ?_ _ _ | refine World.grows.drew ?_))⟩
    · rintro V n y ⟨mk, r, hr, hj, hmk, hV⟩
      have hWes : We.heap.size = V.heap.size := by subst hWe; subst hV; simp
      have hmn : waysIs J l k J.n mk := by
        have := hmk.jump hlt (J.n - r) (fun i h1 h2 => J.done_open (J.dig k) (J.n - r) r (by omega) hj i h1 (by omega))
        rwa [show r + (J.n - r) = J.n by omega] at this
      have Hmn : Hid (waysIs J l (k + 1) 0 mk) := Lib.hid ⟨hmn.1, fun q hq => by rw [hmn.2 q hq, J.part_next]⟩
      have hgV : (w1.putObj (w.heap.size + 1) (mk.obj ePl)).grows V := by
        subst hV
        refine World.grows.trans ?_ (show (W.putObj (w.heap.size + 1) (mk.obj ePl)).grows _ by (repeat (first | exact World.grows.refl _ | assumption | refine World.grows.alloc ?_ _ | refine World.grows.plus ?_ _ _ | refine World.grows.drew ?_)))
        have := hg.out.putObj (mk.obj ePl) (b := w.heap.size + 1) (by simp; omega)
        rwa [hmp] at this
      have HgV := Lib.hid hgV
      have hdV : Marks w.heap.size ds V := by
        subst hV
        exact (hds.out.put (o := mk.obj ePl) (b := w.heap.size + 1) (fun c => by rw [wb]; simp [PM.obj])).mono (by (repeat (first | exact World.grows.refl _ | assumption | refine World.grows.alloc ?_ _ | refine World.grows.plus ?_ _ _ | refine World.grows.drew ?_)))
      have HdV := Lib.hid hdV
      have hVs : V.heap.size = W.heap.size + 3 := by subst hV; simp
      clear hgV hdV hmn hmk hj hr hV hWe h0 h1 h2 h3
      go_wp2
      refine ⟨_, rfl, rfl, ⟨k + 1, mk, by omega, by simp [getL], Hmn, Lib.hid ?_, Lib.hid (HgV.out.trans (by (repeat (first | exact World.grows.refl _ | assumption | refine World.grows.alloc ?_ _ | refine World.grows.plus ?_ _ _ | refine World.grows.drew ?_))))⟩, by simp [getL, intOf]; omega⟩
      rw [hWes]
      exact HdV.out.push (World.grows_plus _ _ _) (by omega)
  · have hke : k = J.size := by omega
    subst hke
    go_wp2
    refine Marks.leaves (B := w.heap.size) (fun W => w.grows W ∧ W.heap[w.heap.size + 1]? = some (m.obj ePl)) (fun W D h hD hd => ⟨World.putObj_grows h.1 _ hD, ?_⟩) (fun W h => ⟨_, by simp [results, Try.results62, go_sem] <;> rfl, _, m, rfl, h.1, h.2, hm.out.1, fun q hq => by rw [hm.out.2 q hq, Job.part_end J l hq]⟩) ds _ hds.out ⟨?_, ?_⟩
    · rw [World.putObj_heap_other]
      · exact h.2
      · intro he; rw [he] at h; rw [h.2] at hd; simp [PM.obj] at hd
    · exact (World.putObj_grows Hgw.out _ (by omega)).trans hg.out
    · exact wb

end Go.Proofs.Ytjpccfpmhmddjaa

/-
  What is proved: plain words on the number of ways from a place to the last one.
-/
namespace Go.Proofs.Ytjpccfpmhmddjaa
open Go.RowKit

def Job.rem (J : Job) (p : Nat → Nat) : Nat := sumN (fun i => J.len i - p i) J.n
theorem Job.rem_to (J : Job) {p : Nat → Nat} {r : Nat} (hr : r < J.n) (h : p r < J.len r) : J.rem (Job.to p r) + 1 = J.rem p := by
  have := sumN_single (f := fun i => J.len i - Job.to p r i) (g := fun i => J.len i - p i) (k := r) (a := 1) J.n hr (fun i hi hne => by simp [Job.to, upd, hne]) (by simp [Job.to, upd]; omega)
  exact this.symm
theorem Job.num_to_gt {J : Job} {p : Nat → Nat} {r : Nat} (hp : J.In p) (hr : r < J.n) (h : p r < J.len r) : J.num p < J.num (Job.to p r) :=
  J.numTo_lt_of J.n hr (fun i hi hne => by simp [Job.to, upd, hne]) (by simp [Job.to, upd]) hp.le

/-- in how many ways one comes from a place to the last one -/
def Job.togoF (J : Job) (l : Int) : Nat → (Nat → Nat) → Nat
  | 0, _ => 1
  | d + 1, p => sumN (fun r => if p r < J.len r ∧ J.hot p r ≤ l then J.togoF l d (Job.to p r) else 0) J.n
def Job.togoN (J : Job) (l : Int) (p : Nat → Nat) : Nat := J.togoF l (J.rem p) p
theorem Job.togoN_eq (J : Job) (l : Int) {p : Nat → Nat} (h : J.rem p ≠ 0) :
    J.togoN l p = sumN (fun r => if p r < J.len r ∧ J.hot p r ≤ l then J.togoN l (Job.to p r) else 0) J.n := by
  obtain ⟨d, hd⟩ : ∃ d, J.rem p = d + 1 := ⟨J.rem p - 1, by omega⟩
  unfold Job.togoN
  rw [hd, Job.togoF]
  refine sumN_congr J.n fun r hr => ?_
  by_cases hc : p r < J.len r ∧ J.hot p r ≤ l
  · rw [if_pos hc, if_pos hc]
    have := J.rem_to hr hc.1
    rw [show J.rem (Job.to p r) = d by omega]
  · rw [if_neg hc, if_neg hc]
theorem Job.togoN_zero (J : Job) (l : Int) {p : Nat → Nat} (h : J.rem p = 0) : J.togoN l p = 1 := by
  unfold Job.togoN; rw [h]; rfl
theorem Job.togoF_bd (J : Job) (hn : J.n ≤ 4) (l : Int) : ∀ d p, J.togoF l d p ≤ 4 ^ d
  | 0, _ => by simp [Job.togoF]
  | d + 1, p => by
    rw [Job.togoF]
    have h1 := sumN_le (f := fun r => if p r < J.len r ∧ J.hot p r ≤ l then J.togoF l d (Job.to p r) else 0) (c := 4 ^ d) J.n fun r hr => by
      have := J.togoF_bd hn l d (Job.to p r)
      split
      · exact this
      · exact Nat.zero_le _
    have h2 : 4 ^ d * J.n ≤ 4 ^ d * 4 := Nat.mul_le_mul_left _ hn
    rw [Nat.pow_succ]
    omega
theorem Job.rem_le {J : Job} (h : J.Ok) (p : Nat → Nat) : J.rem p ≤ 24 := by
  have := sumN_le (f := fun i => J.len i - p i) (c := 6) J.n fun i hi => by have := h.l6 i hi; omega
  have := h.n4
  unfold Job.rem
  omega
theorem Job.togoN_bd {J : Job} (h : J.Ok) (l : Int) (p : Nat → Nat) : J.togoN l p ≤ 281474976710656 := by
  have h1 := J.togoF_bd h.n4 l (J.rem p) p
  have h2 : 4 ^ J.rem p ≤ 4 ^ 24 := Nat.pow_le_pow_right (by omega) (Job.rem_le h p)
  have h3 : 4 ^ 24 = 281474976710656 := by decide
  unfold Job.togoN
  omega

/-- the ways from q that have been counted when the places from t on are done, and of the place before it the edges below k -/
def Job.gone (J : Job) (l : Int) (t k : Nat) (q : Nat → Nat) : Nat :=
  if J.rem q = 0 then 1 else if t ≤ J.num q then J.togoN l q else if J.num q + 1 = t then sumN (fun r => if q r < J.len r ∧ J.hot q r ≤ l then J.togoN l (Job.to q r) else 0) k else 0
theorem Job.gone_start (J : Job) (l : Int) {q : Nat → Nat} (hq : J.In q) : J.gone l J.size 0 q = if J.rem q = 0 then 1 else 0 := by
  unfold Job.gone
  have := J.num_lt hq
  split
  · rfl
  · rw [if_neg (by omega)]; simp [sumN]
theorem Job.gone_end (J : Job) (l : Int) (q : Nat → Nat) : J.gone l 0 0 q = J.togoN l q := by
  unfold Job.gone
  split
  · rename_i h; rw [J.togoN_zero l h]
  · rw [if_pos (Nat.zero_le _)]
theorem Job.gone_next (J : Job) (l : Int) (t : Nat) (q : Nat → Nat) : J.gone l (t + 1) J.n q = J.gone l t 0 q := by
  unfold Job.gone
  split
  · rfl
  · rename_i h
    by_cases h1 : t + 1 ≤ J.num q
    · rw [if_pos h1, if_pos (by omega)]
    · rw [if_neg h1]
      by_cases h2 : J.num q + 1 = t + 1
      · rw [if_pos h2, if_pos (by omega), J.togoN_eq l h]
      · rw [if_neg h2, if_neg (by omega)]
        split <;> simp [sumN]
theorem Job.gone_le {J : Job} (h : J.Ok) (l : Int) (t k : Nat) (hk : k ≤ J.n) (q : Nat → Nat) : J.gone l t k q ≤ 281474976710656 := by
  have hb := Job.togoN_bd h l q
  unfold Job.gone
  split
  · omega
  · rename_i h0
    split
    · exact hb
    · split
      · refine Nat.le_trans ?_ hb
        rw [J.togoN_eq l h0]
        have : ∀ m, k ≤ m → sumN (fun r => if q r < J.len r ∧ J.hot q r ≤ l then J.togoN l (Job.to q r) else 0) k ≤ sumN (fun r => if q r < J.len r ∧ J.hot q r ≤ l then J.togoN l (Job.to q r) else 0) m := by
          intro m
          induction m with
          | zero => intro h; have : k = 0 := by omega
                    subst this; exact Nat.le_refl _
          | succ m ih =>
            intro h
            rcases Nat.lt_or_ge m k with h' | h'
            · have : k = m + 1 := by omega
              subst this; exact Nat.le_refl _
            · have := ih h'
              simp only [sumN]; omega
        exact this J.n hk
      · omega

def togoIs (J : Job) (l : Int) (t k : Nat) (m : PM Pl) : Prop := m.Ok ∧ ∀ q, J.In q → m.getD (tup q) = J.gone l t k q
theorem togoIs.skip {J : Job} {l : Int} {t k : Nat} {m : PM Pl} (ht : t < J.size) (h : togoIs J l (t + 1) k m) (hc : J.dig t k < J.len k → ¬ J.hot (J.dig t) k ≤ l ∨ J.togoN l (Job.to (J.dig t) k) = 0) : togoIs J l (t + 1) (k + 1) m :=
  ⟨h.1, fun q hq => by
    rw [h.2 q hq]
    unfold Job.gone
    split
    · rfl
    · split
      · rfl
      · split
        · rename_i h3
          have hd : q = J.dig t := by rw [← J.dig_num hq, show J.num q = t by omega]
          simp only [sumN]
          rw [hd]
          by_cases h4 : J.dig t k < J.len k ∧ J.hot (J.dig t) k ≤ l
          · rw [if_pos h4]
            rcases hc h4.1 with h5 | h5
            · exact absurd h4.2 h5
            · rw [h5]; simp
          · rw [if_neg h4]; simp
        · rfl⟩
theorem togoIs.jump {J : Job} {l : Int} {t : Nat} {m : PM Pl} (ht : t < J.size) {k : Nat} (h : togoIs J l (t + 1) k m) : ∀ d, (∀ i, k ≤ i → i < k + d → ¬ J.dig t i < J.len i) → togoIs J l (t + 1) (k + d) m
  | 0, _ => h
  | d + 1, hc => (togoIs.jump ht h d fun i h1 h2 => hc i h1 (by omega)).skip ht fun h1 => absurd h1 (hc (k + d) (by omega) (by omega))
theorem togoIs.there {J : Job} {l : Int} {t k : Nat} {m : PM Pl} (ht : t < J.size) (hk : k < J.n) (hp : J.dig t k < J.len k) (h : togoIs J l (t + 1) k m) : m.getD (tup (Job.to (J.dig t) k)) = J.togoN l (Job.to (J.dig t) k) := by
  have hto := Job.in_to (J.dig_in t) hk hp
  have hn := Job.num_to_gt (J.dig_in t) hk hp
  rw [J.num_dig ht] at hn
  rw [h.2 _ hto]
  unfold Job.gone
  split
  · rename_i h0; rw [J.togoN_zero l h0]
  · rw [if_pos (by omega)]
theorem togoIs.step {J : Job} (hJ : J.Ok) {l : Int} {t k : Nat} {m : PM Pl} (ht : t < J.size) (hk : k < J.n) (hp : J.dig t k < J.len k) (hh : J.hot (J.dig t) k ≤ l) (h : togoIs J l (t + 1) k m) :
    togoIs J l (t + 1) (k + 1) (m.set (tup (J.dig t)) (m.getD (tup (J.dig t)) + m.getD (tup (Job.to (J.dig t) k)))) := by
  have hth := h.there ht hk hp
  refine ⟨h.1.set _ _, fun q hq => ?_⟩
  rw [PM.getD_set]
  have hr0 : J.rem (J.dig t) ≠ 0 := by
    have := J.rem_to hk hp
    omega
  by_cases he : tup q = tup (J.dig t)
  · rw [if_pos he]
    have := Job.tup_inj hJ hq (J.dig_in t) he
    subst this
    rw [hth, h.2 _ (J.dig_in t)]
    unfold Job.gone
    rw [if_neg hr0, if_neg hr0, J.num_dig ht, if_neg (by omega), if_pos rfl, if_neg (by omega), if_pos rfl]
    simp only [sumN]
    rw [if_pos ⟨hp, hh⟩]
    simp
  · rw [if_neg he, h.2 q hq]
    unfold Job.gone
    split
    · rfl
    · split
      · rfl
      · split
        · rename_i h3
          exfalso
          apply he
          rw [← J.dig_num hq, show J.num q = t by omega]
        · rfl
theorem togoIs.bd {J : Job} (hJ : J.Ok) {l : Int} {t k : Nat} {m : PM Pl} (hk : k ≤ J.n) (h : togoIs J l t k m) {q : Nat → Nat} (hq : J.In q) : 0 ≤ m.getD (tup q) ∧ m.getD (tup q) ≤ 281474976710656 := by
  rw [h.2 q hq]
  have := Job.gone_le hJ l t k hk q
  omega

end Go.Proofs.Ytjpccfpmhmddjaa

