/-
  What is proved: IsPass (89) and PassError (73) of the reference.
-/
import Derived.Test.YtjpccfpmhmddjaaM11
import Derived.Test.YtjpccfpmhmddjaaM8
import Derived.Test.YtjpccfpmhmddjaaM12
import Derived.Test.YtjpccfpmhmddjaaM9
set_option linter.all false
namespace Go.Proofs.Ytjpccfpmhmddjaa
open Go.RowKit
attribute [local irreducible] Go.wpCalm

theorem Job.best_cool {J : Job} (hJ : J.Ok) : J.Best (J.coolN J.last) := by
  have hp := Job.ways_pos hJ _ J.last J.in_last rfl
  have hd := Job.last_deg hJ
  have h1 := (J.cool_iff (l := 26000) (by omega) (by omega) _ J.last rfl).1 hp
  have h2 := J.coolN_lo J.last
  refine ⟨(J.cool_iff h2 (by omega) _ J.last rfl).2 (Int.le_refl _), fun l hl => ?_⟩
  rcases Int.lt_or_le l (-1099511627776) with h | h
  · rw [J.waysN_eq _ hd]
    refine sumN_zero J.n fun r hr => ?_
    rw [if_neg]
    rintro ⟨h0, h3⟩
    have := Job.hot_bd hJ (Job.in_dn r J.in_last) hr (Job.dn_lt J.in_last hr h0)
    omega
  · refine Nat.eq_zero_of_not_pos fun h3 => ?_
    have := (J.cool_iff h (by omega) _ J.last rfl).1 h3
    omega
theorem Job.cool_gt {J : Job} (hJ : J.Ok) (l : Int) : l < J.coolN J.last ↔ J.waysN l J.last = 0 := by
  have := (Job.best_cool hJ).iff l
  omega

set_option maxHeartbeats 2000000 in
theorem c89 (w : World) (v : Value) (J : Job) (hv : JobAt w v J) (hJ : J.Ok) (r k : Int) :
    Calls Try.prog 89 #[v, .agg #[.int .i64 r, .int .i64 k]] w fun e w' => e = .returned (.bool (!J.noPass r k)) ∧ w.grows w' := by
  obtain ⟨b, o, cap, rb, ro, rc, rfl, hcap, hcap2, hrow, hpk, hlv, hrc⟩ := hv
  have Hrow := Lib.hid hrow
  have Hrc := Lib.hid hrc
  unfold maxLen at hcap2
  have hn4 := hJ.n4
  have H6 := Lib.hid hJ.l6
  clear hrow hpk hlv hrc hJ
  unfold Job.noPass
  go_enter Try.func89, Try.ntmps89
  by_cases h1 : r < 0
  · have h1' : decide (0 ≤ r) = false := decide_eq_false (by omega)
    go_wp2
    (refine wp_region_calm (by kernel_rfl) (by kernel_rfl) ?_; (repeat (refine wpCalm_step (fun K hK => ?_); go_simp; first | (refine hK _ ?_; clear hK K) | (apply Exists.intro; refine ⟨fun n' x' => ?_, hK _ ?_⟩; (fail); clear hK K))); refine wpCalm_nil ?_; intro nq xq)
    go_wp2
    go_ret
    exact ⟨by simp [h1], by (repeat (first | exact World.grows.refl _ | assumption | refine World.grows.alloc ?_ _ | refine World.grows.plus ?_ _ _ | refine World.grows.drew ?_))⟩
  have h1' : 0 ≤ r := by omega
  have d1 : decide (0 ≤ r) = true := decide_eq_true h1'
  by_cases h2 : (J.n : Int) ≤ r
  · have h2' : decide (r < J.n) = false := decide_eq_false (by omega)
    go_wp2
    (refine wp_region_calm (by kernel_rfl) (by kernel_rfl) ?_; (repeat (refine wpCalm_step (fun K hK => ?_); go_simp; first | (refine hK _ ?_; clear hK K) | (apply Exists.intro; refine ⟨fun n' x' => ?_, hK _ ?_⟩; (fail); clear hK K))); refine wpCalm_nil ?_; intro nq xq)
    go_wp2
    go_ret
    exact ⟨by simp [h2], by (repeat (first | exact World.grows.refl _ | assumption | refine World.grows.alloc ?_ _ | refine World.grows.plus ?_ _ _ | refine World.grows.drew ?_))⟩
  have h2' : r < J.n := by omega
  have d2 : decide (r < J.n) = true := decide_eq_true h2'
  by_cases h3 : k < 0
  · have h3' : decide (0 ≤ k) = false := decide_eq_false (by omega)
    go_wp2
    (refine wp_region_calm (by kernel_rfl) (by kernel_rfl) ?_; (repeat (refine wpCalm_step (fun K hK => ?_); go_simp; first | (refine hK _ ?_; clear hK K) | (apply Exists.intro; refine ⟨fun n' x' => ?_, hK _ ?_⟩; (fail); clear hK K))); refine wpCalm_nil ?_; intro nq xq)
    go_wp2
    go_ret
    exact ⟨by simp [h3], by (repeat (first | exact World.grows.refl _ | assumption | refine World.grows.alloc ?_ _ | refine World.grows.plus ?_ _ _ | refine World.grows.drew ?_))⟩
  have h3' : 0 ≤ k := by omega
  have d3 : decide (0 ≤ k) = true := decide_eq_true h3'
  obtain ⟨rn, rfl⟩ := Int.eq_ofNat_of_zero_le h1'
  have hrn : rn < J.n := by omega
  clear d1
  have hrk := Hrow.out rn hrn
  have hl6 := H6.out rn hrn
  have hcr := Hrc.out rn hrn
  unfold maxLen at hcr
  by_cases h4 : (J.len rn : Int) ≤ k
  · have h4' : decide (k < J.len rn) = false := decide_eq_false (by omega)
    go_wp2
    (refine wp_region_calm (by kernel_rfl) (by kernel_rfl) ?_; (repeat (refine wpCalm_step (fun K hK => ?_); go_simp; first | (refine hK _ ?_; clear hK K) | (apply Exists.intro; refine ⟨fun n' x' => ?_, hK _ ?_⟩; (fail); clear hK K))); refine wpCalm_nil ?_; intro nq xq)
    go_wp2
    go_ret
    exact ⟨by simp [h4], by (repeat (first | exact World.grows.refl _ | assumption | refine World.grows.alloc ?_ _ | refine World.grows.plus ?_ _ _ | refine World.grows.drew ?_))⟩
  · have h4' : decide (k < J.len rn) = true := decide_eq_true (by omega)
    go_wp2
    (refine wp_region_calm (by kernel_rfl) (by kernel_rfl) ?_; (repeat (refine wpCalm_step (fun K hK => ?_); go_simp; first | (refine hK _ ?_; clear hK K) | (apply Exists.intro; refine ⟨fun n' x' => ?_, hK _ ?_⟩; (fail); clear hK K))); refine wpCalm_nil ?_; intro nq xq)
    go_wp2
    go_ret
    exact ⟨by simp [hrn, h3, h4], by (repeat (first | exact World.grows.refl _ | assumption | refine World.grows.alloc ?_ _ | refine World.grows.plus ?_ _ _ | refine World.grows.drew ?_))⟩

theorem Job.seenErr_check {J : Job} {l : Int} {m : Nat} {R K : Nat → Int} (h : J.check ≠ 0) : J.seenErr l m R K = J.check := by unfold Job.seenErr; rw [if_pos h]
theorem Job.seenErr_arg {J : Job} {l : Int} {m : Nat} {R K : Nat → Int} (h : J.check = 0) {i : Nat} (hi : i < m) (hp : J.noPass (R i) (K i) = true) : J.seenErr l m R K = 2 := by
  unfold Job.seenErr
  rw [if_neg (by simp [h]), if_pos]
  exact List.any_eq_true.2 ⟨i, List.mem_range.2 hi, hp⟩
theorem Job.seenErr_end {J : Job} {l : Int} {m : Nat} {R K : Nat → Int} (h : J.check = 0) (hp : ∀ i, i < m → J.noPass (R i) (K i) = false) : J.seenErr l m R K = if J.waysN l J.last = 0 then 20 else 0 := by
  unfold Job.seenErr
  rw [if_neg (by simp [h]), if_neg]
  simp only [Bool.not_eq_true, List.any_eq_false, List.mem_range]
  intro i hi
  simp [hp i hi]

set_option maxHeartbeats 2000000 in
theorem passErr_c (w : World) (v : Value) (J : Job) (hv : RawAt w v J) (l : Int) (pl : Value) (m : Nat) (R K : Nat → Int) (hpl : SliceAt w pl m 2 (nmV R K)) :
    Calls Try.prog 73 #[v, .int .i64 l, pl] w fun e w' => e = .returned (.int .i64 (J.seenErr l m R K)) ∧ w.grows w' := by
  have Hv := Lib.hid hv
  obtain ⟨rv, row, rfl, -, -⟩ := hv
  obtain ⟨pa, pcap, rfl, hp1, hp2, hpc⟩ := hpl
  unfold maxLen at hp2
  have Hpc := Lib.hid hpc
  clear hpc
  have h23 := fun W hW => rcheck_c W (.agg #[.int .i64 J.start, rv]) J hW
  go_enter Try.func73, Try.ntmps73
  by_cases hc : J.check = 0
  · have HJ := Lib.hid ((Job.Ok_iff J).2 hc)
    have Hc := Lib.hid hc
    rw [hc] at h23
    have h89 := Lib.hid (fun W hW r k => c89 W (.agg #[.int .i64 J.start, rv]) J hW HJ.out r k)
    clear hc
    go_wp2_with (go_at_call 23; refine (h23 _ (Hv.out.mono (by (repeat (first | exact World.grows.refl _ | assumption | refine World.grows.alloc ?_ _ | refine World.grows.plus ?_ _ _ | refine World.grows.drew ?_))))).mono ?_; rintro e w1 ⟨rfl, hg1⟩; obtain ⟨n1, x1, rfl⟩ := World.plus_of hg1)
    go_loopw [7] (fun i wr => ∃ k : Nat, k ≤ m ∧ i = .int .i64 k ∧ Hid (∀ j, j < k → J.noPass (R j) (K j) = false) ∧ Hid ((w.alloc (.cells #[.int .i64 J.start, rv] 24)).grows wr)) (fun i _ => m - (intOf i).toNat)
    case atStart => exact ⟨0, by omega, rfl, Lib.hid fun j hj => by omega, Lib.hid (by (repeat (first | exact World.grows.refl _ | assumption | refine World.grows.alloc ?_ _ | refine World.grows.plus ?_ _ _ | refine World.grows.drew ?_)))⟩
    case round =>
      obtain ⟨k, hk, rfl, hno, hg⟩ := hrel
      have s0 := hg.out.cell_of (a := ⟨w.heap.size, 0, none⟩) (v := .int .i64 J.start) (by simp [go_sem])
      have s1 := hg.out.cell_of (a := ⟨w.heap.size, 1, none⟩) (v := rv) (by simp [go_sem])
      have hgw : Hid (w.grows wr) := Lib.hid (World.grows.trans (by (repeat (first | exact World.grows.refl _ | assumption | refine World.grows.alloc ?_ _ | refine World.grows.plus ?_ _ _ | refine World.grows.drew ?_))) hg.out)
      by_cases hlt : k < m
      · obtain ⟨pb, po, rfl, n0⟩ := Hpc.out k 0 hlt (by omega)
        obtain ⟨_, _, e1, n1⟩ := Hpc.out k 1 hlt (by omega)
        cases e1
        simp only [nmV, if_true, Nat.add_zero, if_neg Nat.one_ne_zero] at n0 n1
        replace n0 := hgw.out.cell_of n0
        replace n1 := hgw.out.cell_of n1
        have h89k := Lib.hid (fun W hW => h89.out W hW (R k) (K k))
        cases hb : J.noPass (R k) (K k) with
        | true =>
          rw [hb, Bool.not_true] at h89k
          have hE := Lib.hid (Job.seenErr_arg (l := l) Hc.out hlt hb)
          clear hb
          go_wp2
          (refine wp_region_calm (by kernel_rfl) (by kernel_rfl) ?_; (repeat (refine wpCalm_step (fun K hK => ?_); go_simp; first | (refine hK _ ?_; clear hK K) | (apply Exists.intro; refine ⟨fun n' x' => ?_, hK _ ?_⟩; (exact h89k.out _ ((Hv.out.mono (hgw.out.trans (by (repeat (first | exact World.grows.refl _ | assumption | refine World.grows.alloc ?_ _ | refine World.grows.plus ?_ _ _ | refine World.grows.drew ?_))))).job HJ.out)); clear hK K))); refine wpCalm_nil ?_; intro nq xq)
          go_wp2
          go_ret
          exact ⟨by rw [hE.out]; rfl, hgw.out.trans (by (repeat (first | exact World.grows.refl _ | assumption | refine World.grows.alloc ?_ _ | refine World.grows.plus ?_ _ _ | refine World.grows.drew ?_)))⟩
        | false =>
          rw [hb, Bool.not_false] at h89k
          have Hb := Lib.hid hb
          clear hb
          go_wp2
          (refine wp_region_calm (by kernel_rfl) (by kernel_rfl) ?_; (repeat (refine wpCalm_step (fun K hK => ?_); go_simp; first | (refine hK _ ?_; clear hK K) | (apply Exists.intro; refine ⟨fun n' x' => ?_, hK _ ?_⟩; (exact h89k.out _ ((Hv.out.mono (hgw.out.trans (by (repeat (first | exact World.grows.refl _ | assumption | refine World.grows.alloc ?_ _ | refine World.grows.plus ?_ _ _ | refine World.grows.drew ?_))))).job HJ.out)); clear hK K))); refine wpCalm_nil ?_; intro nq xq)
          go_wp2
          go_roundw
          case rel => exact ⟨k + 1, by omega, by go_num, Lib.hid fun j hj => (by rcases Nat.lt_or_ge j k with h | h; exact hno.out j h; have hjk : j = k := (by omega); subst hjk; exact Hb.out), Lib.hid (hg.out.trans (by (repeat (first | exact World.grows.refl _ | assumption | refine World.grows.alloc ?_ _ | refine World.grows.plus ?_ _ _ | refine World.grows.drew ?_))))⟩
          case measure => simp [intOf] <;> omega
      · have hke : k = m := by omega
        subst hke
        have hE := Lib.hid (Job.seenErr_end (l := l) Hc.out hno.out)
        have hcg := Job.cool_gt HJ.out l
        by_cases hz : J.waysN l J.last = 0
        · have hgt := hcg.2 hz
          rw [if_pos hz] at hE
          clear hcg hz
          go_wp2_with (go_at_call 28; refine (coolest_c _ _ J (Hv.out.mono (hgw.out.trans (by (repeat (first | exact World.grows.refl _ | assumption | refine World.grows.alloc ?_ _ | refine World.grows.plus ?_ _ _ | refine World.grows.drew ?_))))) HJ.out).mono ?_; rintro e w2 ⟨rfl, hg2⟩; obtain ⟨n2, x2, rfl⟩ := World.plus_of hg2)
          go_ret
          exact ⟨by rw [hE.out]; rfl, hgw.out.trans (by (repeat (first | exact World.grows.refl _ | assumption | refine World.grows.alloc ?_ _ | refine World.grows.plus ?_ _ _ | refine World.grows.drew ?_)))⟩
        · have hgt : ¬ l < J.coolN J.last := fun h => hz (hcg.1 h)
          rw [if_neg hz] at hE
          clear hcg hz
          go_wp2_with (go_at_call 28; refine (coolest_c _ _ J (Hv.out.mono (hgw.out.trans (by (repeat (first | exact World.grows.refl _ | assumption | refine World.grows.alloc ?_ _ | refine World.grows.plus ?_ _ _ | refine World.grows.drew ?_))))) HJ.out).mono ?_; rintro e w2 ⟨rfl, hg2⟩; obtain ⟨n2, x2, rfl⟩ := World.plus_of hg2)
          go_ret
          exact ⟨by rw [hE.out]; rfl, hgw.out.trans (by (repeat (first | exact World.grows.refl _ | assumption | refine World.grows.alloc ?_ _ | refine World.grows.plus ?_ _ _ | refine World.grows.drew ?_)))⟩
  · have hE := Lib.hid (Job.seenErr_check (l := l) (m := m) (R := R) (K := K) hc)
    go_wp2_with (go_at_call 23; refine (h23 _ (Hv.out.mono (by (repeat (first | exact World.grows.refl _ | assumption | refine World.grows.alloc ?_ _ | refine World.grows.plus ?_ _ _ | refine World.grows.drew ?_))))).mono ?_; rintro e w1 ⟨rfl, hg1⟩; obtain ⟨n1, x1, rfl⟩ := World.plus_of hg1)
    go_ret
    exact ⟨by rw [hE.out]; rfl, by (repeat (first | exact World.grows.refl _ | assumption | refine World.grows.alloc ?_ _ | refine World.grows.plus ?_ _ _ | refine World.grows.drew ?_))⟩
end Go.Proofs.Ytjpccfpmhmddjaa

/-
  What is proved: good of the reference (90).
-/
namespace Go.Proofs.Ytjpccfpmhmddjaa
open Go.RowKit
attribute [local irreducible] Go.wpCalm

def Job.goB (J : Job) (l : Int) (p : Nat → Nat) : Nat := if 0 < J.togoN l p then 1 else 0
def Job.okB (J : Job) (l : Int) (p : Nat → Nat) : Nat := if 0 < J.waysN l p ∧ 0 < J.togoN l p then 1 else 0
def Job.tgT (J : Job) (l : Int) (t i : Nat) : Nat := if t ≤ i ∨ i = J.size - 1 then J.goB l (J.dig i) else 0
def Job.okT (J : Job) (l : Int) (t i : Nat) : Nat := if t ≤ i then J.okB l (J.dig i) else 0
/-- a step within the limit of the edges below r, from which one comes to the end -/
def Job.goR (J : Job) (l : Int) (p : Nat → Nat) (r : Nat) : Bool := (List.range r).any fun k => decide (p k < J.len k ∧ J.hot p k ≤ l ∧ 0 < J.togoN l (Job.to p k))
def Job.goX (J : Job) (l : Int) (s r : Nat) : Nat := if J.goR l (J.dig s) r = true ∨ s = J.size - 1 then 1 else 0
theorem Job.goR_succ (J : Job) (l : Int) (p : Nat → Nat) (r : Nat) : J.goR l p (r + 1) = (J.goR l p r || decide (p r < J.len r ∧ J.hot p r ≤ l ∧ 0 < J.togoN l (Job.to p r))) := by
  simp [Job.goR, List.range_succ]
theorem Job.goX_same {J : Job} {l : Int} {s r : Nat} (h : ¬ (J.dig s r < J.len r ∧ J.hot (J.dig s) r ≤ l ∧ 0 < J.togoN l (Job.to (J.dig s) r))) : J.goX l s (r + 1) = J.goX l s r := by
  unfold Job.goX
  rw [J.goR_succ, decide_eq_false h, Bool.or_false]
theorem Job.goX_one {J : Job} {l : Int} {s r : Nat} (h : J.dig s r < J.len r ∧ J.hot (J.dig s) r ≤ l ∧ 0 < J.togoN l (Job.to (J.dig s) r)) : J.goX l s (r + 1) = 1 := by
  unfold Job.goX
  rw [J.goR_succ, decide_eq_true h, Bool.or_true, if_pos (.inl rfl)]
theorem Job.rem_last {J : Job} {s : Nat} (hs : s < J.size) : J.rem (J.dig s) = 0 ↔ s = J.size - 1 := by
  constructor
  · intro h
    have h1 : J.dig s = J.last := by
      funext i
      rcases Nat.lt_or_ge i J.n with hi | hi
      · have h2 := sumN_eq_zero J.n h i hi
        have h3 := (J.dig_in s).le i hi
        simp only [Job.last, hi, if_true]
        omega
      · rw [(J.dig_in s).out i hi]; simp only [Job.last, if_neg (show ¬ i < J.n by omega)]
    have := J.num_dig hs
    rw [h1, J.dig_last.2] at this
    exact this.symm
  · intro h
    rw [h, J.dig_last.1]
    exact sumN_zero J.n fun i hi => by simp [Job.last, hi]
theorem Job.goX_end {J : Job} {l : Int} {s : Nat} (hs : s < J.size) : J.goX l s J.n = J.goB l (J.dig s) := by
  unfold Job.goX Job.goB
  by_cases h : s = J.size - 1
  · rw [if_pos (.inr h), J.togoN_zero l ((Job.rem_last hs).2 h), if_pos (by omega)]
  · have hr : J.rem (J.dig s) ≠ 0 := fun e => h ((Job.rem_last hs).1 e)
    rw [J.togoN_eq l hr]
    have hiff : (J.goR l (J.dig s) J.n = true ∨ s = J.size - 1) ↔ 0 < sumN (fun r => if J.dig s r < J.len r ∧ J.hot (J.dig s) r ≤ l then J.togoN l (Job.to (J.dig s) r) else 0) J.n := by
      rw [sumN_gt]
      unfold Job.goR
      rw [List.any_eq_true]
      constructor
      · rintro (⟨k, hk, hd⟩ | h2)
        · simp only [decide_eq_true_eq] at hd
          exact ⟨k, List.mem_range.1 hk, by rw [if_pos ⟨hd.1, hd.2.1⟩]; exact hd.2.2⟩
        · exact absurd h2 h
      · rintro ⟨k, hk, hd⟩
        left
        refine ⟨k, List.mem_range.2 hk, ?_⟩
        by_cases hc : J.dig s k < J.len k ∧ J.hot (J.dig s) k ≤ l
        · rw [if_pos hc] at hd
          simp only [decide_eq_true_eq]
          exact ⟨hc.1, hc.2, hd⟩
        · rw [if_neg hc] at hd; omega
    by_cases hc : (J.goR l (J.dig s) J.n = true ∨ s = J.size - 1)
    · rw [if_pos hc, if_pos (hiff.1 hc)]
    · rw [if_neg hc, if_neg fun h2 => hc (hiff.2 h2)]
theorem Job.goX_start {J : Job} {l : Int} {s : Nat} : J.goX l s 0 = J.tgT l (s + 1) s := by
  unfold Job.goX Job.tgT Job.goR
  by_cases h : s = J.size - 1
  · have hz := J.size_pos
    rw [if_pos (.inr h), if_pos (.inr h)]
    unfold Job.goB
    rw [J.togoN_zero l ((Job.rem_last (by omega)).2 h), if_pos (by omega)]
  · rw [if_neg (by simp [h]), if_neg (by omega)]
theorem Job.tgT_upd {J : Job} {l : Int} {s : Nat} (hs : s < J.size) (i : Nat) : updN (J.tgT l (s + 1)) s (J.goX l s J.n) i = J.tgT l s i := by
  rw [Job.goX_end hs]
  unfold updN Job.tgT
  by_cases h : i = s
  · subst h; simp
  · rw [if_neg h]
    by_cases h2 : s + 1 ≤ i ∨ i = J.size - 1
    · rw [if_pos h2, if_pos (by omega)]
    · rw [if_neg h2, if_neg (by omega)]
theorem Job.okT_upd (J : Job) (l : Int) (s i : Nat) : updN (J.okT l (s + 1)) s (J.okB l (J.dig s)) i = J.okT l s i := by
  unfold updN Job.okT
  by_cases h : i = s
  · subst h; simp
  · rw [if_neg h]
    by_cases h2 : s + 1 ≤ i
    · rw [if_pos h2, if_pos (by omega)]
    · rw [if_neg h2, if_neg (by omega)]
theorem updN_twice (f : Nat → Nat) (t x y i : Nat) : updN (updN f t x) t y i = updN f t y i := by unfold updN; split <;> rfl
theorem updN_self (f : Nat → Nat) (t i : Nat) : updN f t (f t) i = f i := by
  unfold updN; split
  · rename_i h; rw [h]
  · rfl
theorem rowA_ints' {W : World} {b n : Nat} {f : Nat → Nat} {t : TypeId} (h : W.heap[b]? = some (.cells (rowA n f) t)) (hn : n ≤ maxLen) : IntsAt W (.slice (some ⟨b, 0, none⟩) n n) n (fun i => (f i : Nat)) :=
  ⟨_, _, rfl, Nat.le_refl _, hn, fun i j hi hj => ⟨_, _, rfl, by
    have : j = 0 := by omega
    subst this
    simpa using rowA_cell h hi⟩⟩

set_option maxRecDepth 100000 in
set_option maxHeartbeats 8000000 in
theorem good_c (w : World) (v : Value) (J : Job) (hv : RawAt w v J) (hJ : J.Ok) (l : Int) :
    Calls Try.prog 90 #[v, .int .i64 l] w fun e w' => ∃ s, e = .returned s ∧ w.grows w' ∧ IntsAt w' s J.size (fun t => (J.okB l (J.dig t) : Nat)) := by
  have Hv := Lib.hid hv
  have HJ := Lib.hid hJ
  obtain ⟨jb, jo, jcap, rb, ro, rc, rfl, hjc, hjc2, hR⟩ := Hv.out.job HJ.out
  have HR := Lib.hid hR
  unfold maxLen at hjc2
  clear hR
  have hsz := J.size_le hJ
  have hsp := J.size_pos
  have hs9 : J.size ≤ 1000000000 := by omega
  have hn4 := hJ.n4
  have hi1 : ((J.size - 1 : Nat) : Int) = (J.size : Int) - 1 := by omega
  have hi2 : (0 : Int) < J.size := by omega
  have hi3 : J.size - 1 < J.size := by omega
  clear hv hJ
  go_enter Try.func90, Try.ntmps90
  go_wp2_with (first
    | (go_at_call 67; go_loud (refine (rall_c _ _ J ((Hv.out.mono (by (repeat (first | exact World.grows.refl _ | assumption | refine World.grows.alloc ?_ _ | refine World.grows.plus ?_ _ _ | refine World.grows.drew ?_)))).job HJ.out) HJ.out).mono ?_; rintro e w2 ⟨tv, rfl, hg2, hT⟩; have HT := Lib.hid hT; have hbx := hg2.cell_of (a := ⟨w.heap.size, 1, none⟩) (v := .slice (some ⟨jb, jo, none⟩) J.n jcap) (by simp [go_sem]); have hbs := hg2.cell_of (a := ⟨w.heap.size, 0, none⟩) (v := .int .i64 J.start) (by simp [go_sem]); have Hg2 := Lib.hid (show w.grows w2 from World.grows.trans (by (repeat (first | exact World.grows.refl _ | assumption | refine World.grows.alloc ?_ _ | refine World.grows.plus ?_ _ _ | refine World.grows.drew ?_))) hg2); clear hg2 hT; obtain ⟨trow, ⟨ta, tcap, rfl, htc1, htc2, htc⟩, hti⟩ := HT.out; unfold maxLen at htc2; have Htc := Lib.hid htc; have Hti := Lib.hid hti; clear htc hti))
    | (go_at_call 64; go_loud (refine (hot_c _ _ J (Hv.out.mono (Hg2.out.trans (by (repeat (first | exact World.grows.refl _ | assumption | refine World.grows.alloc ?_ _ | refine World.grows.plus ?_ _ _ | refine World.grows.drew ?_))))) HJ.out l).mono ?_; rintro e w3 ⟨s1, s2, rfl, hg3, -, hw⟩; have Hg3 := Lib.hid (show w2.grows w3 from World.grows.trans (by (repeat (first | exact World.grows.refl _ | assumption | refine World.grows.alloc ?_ _ | refine World.grows.plus ?_ _ _ | refine World.grows.drew ?_))) hg3); replace hbx := hg3.cell_of hbx; replace hbs := hg3.cell_of hbs; clear hg3; obtain ⟨wa, wcap, rfl, hwc1, hwc2, hwc⟩ := hw; unfold maxLen at hwc2; have Hwc := Lib.hid hwc; clear hwc)))
  have Hbx := Lib.hid hbx
  have Hbs := Lib.hid hbs
  have hgA : w3.grows ((w3.alloc (.cells ((rowA J.size fun _ => 0).setIfInBounds (J.size - 1) (.int .i64 1)) 3)).alloc (.cells (rowA J.size fun _ => 0) 3)) := by (repeat (first | exact World.grows.refl _ | assumption | refine World.grows.alloc ?_ _ | refine World.grows.plus ?_ _ _ | refine World.grows.drew ?_))
  have eA : rowA J.size (J.tgT l J.size) = (rowA J.size fun _ => 0).setIfInBounds (J.size - 1) (.int .i64 1) := by
    have h := rowA_set J.size (fun _ => 0) (J.size - 1) 1 hi3
    refine Eq.trans (rowA_congr fun i hi => ?_) h.symm
    unfold Job.tgT updN
    by_cases h : i = J.size - 1
    · rw [if_pos (.inr h), if_pos h]
      unfold Job.goB
      rw [h, J.togoN_zero l ((Job.rem_last hi3).2 rfl), if_pos (by omega)]
    · rw [if_neg (by omega), if_neg h]
  have eB : rowA J.size (J.okT l J.size) = rowA J.size fun _ => 0 := rowA_congr fun i hi => by
    unfold Job.okT
    rw [if_neg (by omega)]
  have hA1 : ((w3.alloc (.cells ((rowA J.size fun _ => 0).setIfInBounds (J.size - 1) (.int .i64 1)) 3)).alloc (.cells (rowA J.size fun _ => 0) 3)).heap[w3.heap.size]? = some (.cells (rowA J.size (J.tgT l J.size)) 3) := by
    rw [eA]
    exact (two_made w3 _ _).1
  have hA2 : ((w3.alloc (.cells ((rowA J.size fun _ => 0).setIfInBounds (J.size - 1) (.int .i64 1)) 3)).alloc (.cells (rowA J.size fun _ => 0) 3)).heap[w3.heap.size + 1]? = some (.cells (rowA J.size (J.okT l J.size)) 3) := by
    rw [eB]
    exact (two_made w3 _ _).2
  clear eA eB
  generalize (w3.alloc (.cells ((rowA J.size fun _ => 0).setIfInBounds (J.size - 1) (.int .i64 1)) 3)).alloc (.cells (rowA J.size fun _ => 0) 3) = W4 at hgA hA1 hA2 ⊢
  go_loopw [10] (fun i W => ∃ t : Nat, t ≤ J.size ∧ i = .int .i64 ((t : Int) - 1) ∧ Hid (W.heap[w3.heap.size]? = some (.cells (rowA J.size (J.tgT l t)) 3)) ∧ Hid (W.heap[w3.heap.size + 1]? = some (.cells (rowA J.size (J.okT l t)) 3)) ∧ Hid (w3.grows W)) (fun i _ => (intOf i + 1).toNat)
  case atStart => exact ⟨J.size, Nat.le_refl _, rfl, Lib.hid hA1, Lib.hid hA2, Lib.hid hgA⟩
  case round =>
    obtain ⟨t, ht, rfl, R1, R2, hgW⟩ := hrel
    clear hA1 hA2 hgA hbx hbs
    rcases Nat.eq_zero_or_pos t with h0 | h0
    · subst h0
      have hneg : decide ((0 : Int) ≤ ((0 : Nat) : Int) - 1) = false := by decide
      go_wp2
      go_ret
      refine ⟨_, rfl, Hg2.out.trans (Hg3.out.trans (hgW.out.trans (by (repeat (first | exact World.grows.refl _ | assumption | refine World.grows.alloc ?_ _ | refine World.grows.plus ?_ _ _ | refine World.grows.drew ?_))))), (rowA_ints' R2.out (by unfold maxLen; omega)).congr fun i j hi hj => ?_⟩
      simp [Job.okT]
    · obtain ⟨s, rfl⟩ : ∃ s, t = s + 1 := ⟨t - 1, by omega⟩
      have hlt : s < J.size := by omega
      have hsi : (s : Int) < J.size := by omega
      rw [show (((s + 1 : Nat) : Int) - 1) = (s : Nat) by omega]
      obtain ⟨xb, xo, rfl, x0⟩ := Htc.out s 0 hlt (by omega)
      simp only [Nat.mul_one, Nat.add_zero] at x0
      obtain ⟨xa, xc, hxt, hxc1, hxc2, hxc⟩ := Hti.out s hlt
      rw [hxt] at x0
      have hxi := Lib.hid (Hti.out s hlt)
      rw [hxt] at hxi
      unfold maxLen at hxc2
      have Hxc := Lib.hid hxc
      have X0 := Lib.hid x0
      clear hxc hxt x0
      go_wp2
      obtain ⟨W0, rfl⟩ : ∃ W0, W0 = wr := ⟨_, rfl⟩
      go_loopw [11] (fun i W => ∃ r : Nat, r ≤ J.n ∧ i = .int .i64 r ∧ Hid (W.heap[w3.heap.size]? = some (.cells (rowA J.size (updN (J.tgT l (s + 1)) s (J.goX l s r))) 3)) ∧ Hid (W.heap[w3.heap.size + 1]? = some (.cells (rowA J.size (J.okT l (s + 1))) 3)) ∧ Hid (w3.grows W)) (fun i _ => J.n - (intOf i).toNat)
      case atStart =>
        have e : updN (J.tgT l (s + 1)) s (J.goX l s 0) = J.tgT l (s + 1) := by rw [Job.goX_start]; funext i; exact updN_self _ _ _
        exact ⟨0, by omega, rfl, by rw [e]; exact R1, R2, hgW⟩
      case round =>
        obtain ⟨r, hr, rfl, S1, S2, hgX⟩ := hrel
        have xbx := hgX.out.cell_of Hbx.out
        have xbs := hgX.out.cell_of Hbs.out
        have hg2x := Lib.hid (Hg3.out.trans hgX.out)
        have hgx := Lib.hid (Hg2.out.trans hg2x.out)
        by_cases hrn : r < J.n
        · have hrni : (r : Int) < J.n := by omega
          obtain ⟨yb, yo, rfl, y0⟩ := Hxc.out r 0 hrn (by omega)
          simp only [Nat.mul_one, Nat.add_zero] at y0
          have x0 := hg2x.out.cell_of X0.out
          replace y0 := hg2x.out.cell_of y0
          have z0 := hgx.out.cell_of (HR.out.row r hrn)
          have hrc := HR.out.cap r hrn
          unfold maxLen at hrc
          have hl6 := HJ.out.l6 r hrn
          have hle := (J.dig_in s).le r hrn
          by_cases hd : J.dig s r < J.len r
          · have hdi : ¬ (J.dig s r : Int) = J.len r := by omega
            have hdli : (J.dig s r : Int) < J.len r := by omega
            have hin := Lib.hid (Job.in_to (J.dig_in s) hrn hd)
            have hnum : s < J.num (Job.to (J.dig s) r) := by
              have := Job.num_to_gt (J.dig_in s) hrn hd
              rwa [J.num_dig hlt] at this
            have hb9 := J.num_lt hin.out
            have hbi : ((J.num (Job.to (J.dig s) r) : Nat) : Int) < J.size := by omega
            have T3 := Lib.hid (rowA_cell S1.out hb9)
            have e3 : updN (J.tgT l (s + 1)) s (J.goX l s r) (J.num (Job.to (J.dig s) r)) = J.goB l (Job.to (J.dig s) r) := by
              unfold updN Job.tgT
              rw [if_neg (by omega), if_pos (by omega), J.dig_num hin.out]
            rw [e3] at T3
            have hpk := hgx.out.cell_of (HR.out.pk r (J.dig s r) hrn hd)
            have hhb := HJ.out.heat_bd (J.dig_in s).le
            have hpb := HJ.out.pk r (J.dig s r) hrn hd
            have hhot : J.hot (J.dig s) r = J.heat (J.dig s) + J.pk r (J.dig s r) := rfl
            have hwrap : IntKind.i64.wrap (J.heat (J.dig s) + J.pk r (J.dig s r)) = J.hot (J.dig s) r := by rw [hhot]; exact wrapI (by omega)
            have hone := Lib.hid (fun h : J.hot (J.dig s) r ≤ l ∧ 0 < J.togoN l (Job.to (J.dig s) r) => Job.goX_one (l := l) (s := s) (r := r) ⟨hd, h⟩)
            have hsame := Lib.hid (fun h : ¬ (J.hot (J.dig s) r ≤ l ∧ 0 < J.togoN l (Job.to (J.dig s) r)) => Job.goX_same (l := l) (s := s) (r := r) fun hc => h hc.2)
            have Hnum := Lib.hid hnum
            clear e3 hhb hpb hhot hnum hd
            go_wp2
            (refine wp_region_calm (by kernel_rfl) (by kernel_rfl) ?_; (repeat (refine wpCalm_step (fun K hK => ?_); go_simp; first | (refine hK _ ?_; clear hK K) | (apply Exists.intro; refine ⟨fun n' x' => ?_, hK _ ?_⟩; (fail); clear hK K))); refine wpCalm_nil ?_; intro nq xq)
            go_wp2_with (at_builtin; go_loud (refine wpList_append_g _ rfl _ _ _ (by rfl) wr.heap.size 3 (.int .i64 0) 1 8 Try.underlying25 el3 (by rfl) (by omega) _ 0 [] (by rfl) (empty_own _ _ _ (by simp) (by simp)) _ (by rfl) J.n _ (SliceAt.src (by omega) (hxi.out.mono (hg2x.out.trans (by (repeat (first | exact World.grows.refl _ | assumption | refine World.grows.alloc ?_ _ | refine World.grows.plus ?_ _ _ | refine World.grows.drew ?_)))))) (ints_one _ _) (by unfold maxLen; omega) (by omega) (by simp <;> omega) ?_; intro v1 w4 hown hgr; have hg4 := hgr wr (by (repeat (first | exact World.grows.refl _ | assumption | refine World.grows.alloc ?_ _ | refine World.grows.plus ?_ _ _ | refine World.grows.drew ?_))) (Nat.le_refl _); simp only [Nat.zero_add, List.nil_append] at hown; obtain ⟨gg, cc, rfl, hgb⟩ := hown.form (by omega); have d1 := hown.cellAt r (by omega); rw [tableL_map] at d1; simp only [List.getElem?_map, List.getElem?_range hrn, Option.map_some] at d1; have d2 := hown.frozenAt r; have Hi68 := Lib.hid (own_to hown hrn); have Hg4 := Lib.hid hg4; have Hgb := Lib.hid hgb.1; clear hown hgr hg4))
            have Hg5 := Lib.hid (Hg4.out.setCell (p := ⟨gg, r, none⟩) Hgb.out (.int .i64 ((J.dig s r : Int) + 1)))
            generalize w4.setCell ⟨gg, r, none⟩ (.int .i64 ((J.dig s r : Int) + 1)) = W5 at Hg5 Hi68 ⊢
            have s0 := Hg5.out.cell_of xbs
            have s1' := Hg5.out.cell_of xbx
            have s2' := Hg5.out.cell_of z0
            have s3 := Hg5.out.cell_of x0
            have s4 := Hg5.out.cell_of hpk
            have s5 := Hg5.out.cell_of y0
            have s6 := Hg5.out.cell_of T3.out
            have U1 := Lib.hid (Hg5.out.heap_of S1.out)
            have U2 := Lib.hid (Hg5.out.heap_of S2.out)
            have f1 := rowA_frozen U1.out s
            have k1 := rowA_cell U1.out hlt
            clear d1 d2 hgb x0 y0 z0 xbs xbx hpk
            by_cases hh : J.hot (J.dig s) r ≤ l
            · have hdec : decide (IntKind.i64.wrap (J.heat (J.dig s) + J.pk r (J.dig s r)) ≤ l) = true := decide_eq_true (by rw [hwrap]; exact hh)
              by_cases hgo : 0 < J.togoN l (Job.to (J.dig s) r)
              · have e5 : J.goB l (Job.to (J.dig s) r) = 1 := by unfold Job.goB; rw [if_pos hgo]
                rw [e5] at s6
                have hx := Lib.hid (hone.out ⟨hh, hgo⟩)
                clear e5 hgo hh hwrap
                (refine wp_region_calm (by kernel_rfl) (by kernel_rfl) ?_; (repeat (refine wpCalm_step (fun K hK => ?_); go_simp; first | (refine hK _ ?_; clear hK K) | (apply Exists.intro; refine ⟨fun n' x' => ?_, hK _ ?_⟩; (first | exact rheat_c _ _ _ J (J.dig s) ((Hv.out.mono (hgx.out.trans (Hg5.out.trans (by (repeat (first | exact World.grows.refl _ | assumption | refine World.grows.alloc ?_ _ | refine World.grows.plus ?_ _ _ | refine World.grows.drew ?_)))))).job HJ.out) (hxi.out.mono (hg2x.out.trans (Hg5.out.trans (by (repeat (first | exact World.grows.refl _ | assumption | refine World.grows.alloc ?_ _ | refine World.grows.plus ?_ _ _ | refine World.grows.drew ?_)))))) HJ.out (J.dig_in s).le | exact number_c _ _ _ J (Job.to (J.dig s) r) ((Hv.out.mono (hgx.out.trans (Hg5.out.trans (by (repeat (first | exact World.grows.refl _ | assumption | refine World.grows.alloc ?_ _ | refine World.grows.plus ?_ _ _ | refine World.grows.drew ?_)))))).job HJ.out) (Hi68.out.mono (by (repeat (first | exact World.grows.refl _ | assumption | refine World.grows.alloc ?_ _ | refine World.grows.plus ?_ _ _ | refine World.grows.drew ?_)))) HJ.out hin.out.le); clear hK K))); refine wpCalm_nil ?_; intro nq xq)
                go_wp2
                go_roundw
                case rel =>
                  refine ⟨r + 1, by omega, by go_num, Lib.hid ?_, Lib.hid (World.grows.heap_of (World.grows_plus _ _ _) (rowI_other U2.out (by omega))), Lib.hid (((hgX.out.trans Hg5.out).setCell (Nat.le_refl _) _).trans (by (repeat (first | exact World.grows.refl _ | assumption | refine World.grows.alloc ?_ _ | refine World.grows.plus ?_ _ _ | refine World.grows.drew ?_))))⟩
                  rw [hx.out, rowA_congr fun i _ => (updN_twice (J.tgT l (s + 1)) s (J.goX l s r) 1 i).symm]
                  exact World.grows.heap_of (World.grows_plus _ _ _) (rowA_store U1.out hlt 1)
                case measure => change J.n - (intOf (Value.int IntKind.i64 ((r : Int) + 1))).toNat < J.n - (intOf (Value.int IntKind.i64 (r : Int))).toNat; simp [intOf] <;> omega
              · have e5 : J.goB l (Job.to (J.dig s) r) = 0 := by unfold Job.goB; rw [if_neg hgo]
                rw [e5] at s6
                have hx := Lib.hid (hsame.out (fun h => hgo h.2))
                clear e5 hgo hh hwrap
                (refine wp_region_calm (by kernel_rfl) (by kernel_rfl) ?_; (repeat (refine wpCalm_step (fun K hK => ?_); go_simp; first | (refine hK _ ?_; clear hK K) | (apply Exists.intro; refine ⟨fun n' x' => ?_, hK _ ?_⟩; (first | exact rheat_c _ _ _ J (J.dig s) ((Hv.out.mono (hgx.out.trans (Hg5.out.trans (by (repeat (first | exact World.grows.refl _ | assumption | refine World.grows.alloc ?_ _ | refine World.grows.plus ?_ _ _ | refine World.grows.drew ?_)))))).job HJ.out) (hxi.out.mono (hg2x.out.trans (Hg5.out.trans (by (repeat (first | exact World.grows.refl _ | assumption | refine World.grows.alloc ?_ _ | refine World.grows.plus ?_ _ _ | refine World.grows.drew ?_)))))) HJ.out (J.dig_in s).le | exact number_c _ _ _ J (Job.to (J.dig s) r) ((Hv.out.mono (hgx.out.trans (Hg5.out.trans (by (repeat (first | exact World.grows.refl _ | assumption | refine World.grows.alloc ?_ _ | refine World.grows.plus ?_ _ _ | refine World.grows.drew ?_)))))).job HJ.out) (Hi68.out.mono (by (repeat (first | exact World.grows.refl _ | assumption | refine World.grows.alloc ?_ _ | refine World.grows.plus ?_ _ _ | refine World.grows.drew ?_)))) HJ.out hin.out.le); clear hK K))); refine wpCalm_nil ?_; intro nq xq)
                go_wp2
                go_roundw
                case rel => exact ⟨r + 1, by omega, by go_num, Lib.hid (by rw [hx.out]; exact World.grows.heap_of (by (repeat (first | exact World.grows.refl _ | assumption | refine World.grows.alloc ?_ _ | refine World.grows.plus ?_ _ _ | refine World.grows.drew ?_))) U1.out), Lib.hid (World.grows.heap_of (by (repeat (first | exact World.grows.refl _ | assumption | refine World.grows.alloc ?_ _ | refine World.grows.plus ?_ _ _ | refine World.grows.drew ?_))) U2.out), Lib.hid (hgX.out.trans (Hg5.out.trans (by (repeat (first | exact World.grows.refl _ | assumption | refine World.grows.alloc ?_ _ | refine World.grows.plus ?_ _ _ | refine World.grows.drew ?_)))))⟩
                case measure => change J.n - (intOf (Value.int IntKind.i64 ((r : Int) + 1))).toNat < J.n - (intOf (Value.int IntKind.i64 (r : Int))).toNat; simp [intOf] <;> omega
            · have hdec : decide (IntKind.i64.wrap (J.heat (J.dig s) + J.pk r (J.dig s r)) ≤ l) = false := decide_eq_false (by rw [hwrap]; exact hh)
              have hx := Lib.hid (hsame.out (fun h => hh h.1))
              clear hh hwrap
              (refine wp_region_calm (by kernel_rfl) (by kernel_rfl) ?_; (repeat (refine wpCalm_step (fun K hK => ?_); go_simp; first | (refine hK _ ?_; clear hK K) | (apply Exists.intro; refine ⟨fun n' x' => ?_, hK _ ?_⟩; (first | exact rheat_c _ _ _ J (J.dig s) ((Hv.out.mono (hgx.out.trans (Hg5.out.trans (by (repeat (first | exact World.grows.refl _ | assumption | refine World.grows.alloc ?_ _ | refine World.grows.plus ?_ _ _ | refine World.grows.drew ?_)))))).job HJ.out) (hxi.out.mono (hg2x.out.trans (Hg5.out.trans (by (repeat (first | exact World.grows.refl _ | assumption | refine World.grows.alloc ?_ _ | refine World.grows.plus ?_ _ _ | refine World.grows.drew ?_)))))) HJ.out (J.dig_in s).le | exact number_c _ _ _ J (Job.to (J.dig s) r) ((Hv.out.mono (hgx.out.trans (Hg5.out.trans (by (repeat (first | exact World.grows.refl _ | assumption | refine World.grows.alloc ?_ _ | refine World.grows.plus ?_ _ _ | refine World.grows.drew ?_)))))).job HJ.out) (Hi68.out.mono (by (repeat (first | exact World.grows.refl _ | assumption | refine World.grows.alloc ?_ _ | refine World.grows.plus ?_ _ _ | refine World.grows.drew ?_)))) HJ.out hin.out.le); clear hK K))); refine wpCalm_nil ?_; intro nq xq)
              go_wp2
              go_roundw
              case rel => exact ⟨r + 1, by omega, by go_num, Lib.hid (by rw [hx.out]; exact World.grows.heap_of (by (repeat (first | exact World.grows.refl _ | assumption | refine World.grows.alloc ?_ _ | refine World.grows.plus ?_ _ _ | refine World.grows.drew ?_))) U1.out), Lib.hid (World.grows.heap_of (by (repeat (first | exact World.grows.refl _ | assumption | refine World.grows.alloc ?_ _ | refine World.grows.plus ?_ _ _ | refine World.grows.drew ?_))) U2.out), Lib.hid (hgX.out.trans (Hg5.out.trans (by (repeat (first | exact World.grows.refl _ | assumption | refine World.grows.alloc ?_ _ | refine World.grows.plus ?_ _ _ | refine World.grows.drew ?_)))))⟩
              case measure => change J.n - (intOf (Value.int IntKind.i64 ((r : Int) + 1))).toNat < J.n - (intOf (Value.int IntKind.i64 (r : Int))).toNat; simp [intOf] <;> omega
          · have hde : J.dig s r = J.len r := by omega
            have hx := Lib.hid (Job.goX_same (l := l) (s := s) (r := r) fun hc => hd hc.1)
            rw [hde] at y0
            clear hd hde
            go_wp2
            (refine wp_region_calm (by kernel_rfl) (by kernel_rfl) ?_; (repeat (refine wpCalm_step (fun K hK => ?_); go_simp; first | (refine hK _ ?_; clear hK K) | (apply Exists.intro; refine ⟨fun n' x' => ?_, hK _ ?_⟩; (fail); clear hK K))); refine wpCalm_nil ?_; intro nq xq)
            go_wp2
            go_roundw
            case rel => exact ⟨r + 1, by omega, by go_num, Lib.hid (by rw [hx.out]; exact World.grows.heap_of (by (repeat (first | exact World.grows.refl _ | assumption | refine World.grows.alloc ?_ _ | refine World.grows.plus ?_ _ _ | refine World.grows.drew ?_))) S1.out), Lib.hid (World.grows.heap_of (by (repeat (first | exact World.grows.refl _ | assumption | refine World.grows.alloc ?_ _ | refine World.grows.plus ?_ _ _ | refine World.grows.drew ?_))) S2.out), Lib.hid (hgX.out.trans (by (repeat (first | exact World.grows.refl _ | assumption | refine World.grows.alloc ?_ _ | refine World.grows.plus ?_ _ _ | refine World.grows.drew ?_))))⟩
            case measure => change J.n - (intOf (Value.int IntKind.i64 ((r : Int) + 1))).toNat < J.n - (intOf (Value.int IntKind.i64 (r : Int))).toNat; simp [intOf] <;> omega
        · have hre : r = J.n := by omega
          subst hre
          have S1' : Hid (wr.heap[w3.heap.size]? = some (.cells (rowA J.size (J.tgT l s)) 3)) := Lib.hid (by
            rw [rowA_congr fun i _ => (Job.tgT_upd hlt i).symm]
            exact S1.out)
          have c1 := rowA_cell S1'.out hlt
          have c2 := rowA_cell S2.out hlt
          have f2 := rowA_frozen S2.out s
          have e1 : J.tgT l s s = J.goB l (J.dig s) := by unfold Job.tgT; rw [if_pos (.inl (Nat.le_refl _))]
          rw [e1] at c1
          obtain ⟨wb, wo, rfl, w0⟩ := Hwc.out s 0 hlt (by omega)
          simp only [Nat.mul_one, Nat.add_zero] at w0
          replace w0 := hgX.out.cell_of w0
          have hdone : Hid (updN (J.okT l (s + 1)) s (J.okB l (J.dig s)) = J.okT l s) := Lib.hid (funext fun i => J.okT_upd l s i)
          by_cases hgo : 0 < J.togoN l (J.dig s)
          · have e2 : J.goB l (J.dig s) = 1 := by unfold Job.goB; rw [if_pos hgo]
            rw [e2] at c1
            by_cases hwy : 0 < J.waysN l (J.dig s)
            · have e3 : J.okB l (J.dig s) = 1 := by unfold Job.okB; rw [if_pos ⟨hwy, hgo⟩]
              have hwi : (0 : Int) < J.waysN l (J.dig s) := by omega
              rw [e3] at hdone
              clear e1 e2 e3 hgo
              go_wp2
              go_roundw
              case rel => exact ⟨s, by omega, rfl, Lib.hid (rowI_other S1'.out (by omega)), Lib.hid (by rw [← hdone.out]; exact rowA_store S2.out hlt 1), Lib.hid (hgX.out.setCell (by simp) _)⟩
              case measure => simp [intOf] <;> omega
            · have e3 : J.okB l (J.dig s) = J.okT l (s + 1) s := by unfold Job.okB Job.okT; rw [if_neg (fun h => hwy h.1), if_neg (by omega)]
              have hwi : J.waysN l (J.dig s) = 0 := by omega
              have e4 : Hid (J.okT l (s + 1) = J.okT l s) := Lib.hid (by rw [← hdone.out, e3]; funext i; exact (updN_self _ _ _).symm)
              rw [hwi] at w0
              clear e1 e2 e3 hgo hwi
              go_wp2
              go_roundw
              case rel => exact ⟨s, by omega, rfl, S1', by rw [← e4.out]; exact S2, hgX⟩
              case measure => simp [intOf] <;> omega
          · have e2 : J.goB l (J.dig s) = 0 := by unfold Job.goB; rw [if_neg hgo]
            rw [e2] at c1
            have e3 : J.okB l (J.dig s) = J.okT l (s + 1) s := by unfold Job.okB Job.okT; rw [if_neg (fun h => hgo h.2), if_neg (by omega)]
            have e4 : Hid (J.okT l (s + 1) = J.okT l s) := Lib.hid (by rw [← hdone.out, e3]; funext i; exact (updN_self _ _ _).symm)
            clear e1 e2 e3 hgo
            go_wp2
            go_roundw
            case rel => exact ⟨s, by omega, rfl, S1', by rw [← e4.out]; exact S2, hgX⟩
            case measure => simp [intOf] <;> omega
end Go.Proofs.Ytjpccfpmhmddjaa

/-
  What is proved: steps of the reference (74).
-/
namespace Go.Proofs.Ytjpccfpmhmddjaa
open Go.RowKit
attribute [local irreducible] Go.wpCalm Go.wpChain

/-- from a place one comes to the end, if one does so behind a step within the limit -/
theorem Job.togo_to {J : Job} {l : Int} {p : Nat → Nat} {r : Nat} (hr : r < J.n) (hd : p r < J.len r) (hh : J.hot p r ≤ l) (h : 0 < J.togoN l (Job.to p r)) : 0 < J.togoN l p := by
  have hz : J.rem p ≠ 0 := fun e => by have := sumN_eq_zero J.n e r hr; omega
  rw [J.togoN_eq l hz]
  exact (sumN_gt J.n).2 ⟨r, hr, by rw [if_pos ⟨hd, hh⟩]; exact h⟩
theorem Job.seenB_no1 {J : Job} {l : Int} {r k t : Nat} (hr : r < J.n) (hk : k < J.len r) (h : J.okB l (J.dig t) = 0) : J.seenB l r k t = false := by
  cases hs : J.seenB l r k t with
  | false => rfl
  | true =>
    unfold Job.seenB at hs
    simp only [Bool.and_eq_true, decide_eq_true_eq] at hs
    obtain ⟨⟨⟨h1, h2⟩, h3⟩, h4⟩ := hs
    have := Job.togo_to hr (by omega) h3 h4
    unfold Job.okB at h
    rw [if_pos ⟨h2, this⟩] at h
    cases h
theorem Job.seenB_no2 {J : Job} {l : Int} {r k t : Nat} (h : J.dig t r ≠ k) : J.seenB l r k t = false := by
  unfold Job.seenB
  rw [decide_eq_false h]; rfl
theorem Job.seenB_no3 {J : Job} {l : Int} {r k t : Nat} (hr : r < J.n) (h : J.okB l (Job.to (J.dig t) r) = 0) : J.seenB l r k t = false := by
  cases hs : J.seenB l r k t with
  | false => rfl
  | true =>
    unfold Job.seenB at hs
    simp only [Bool.and_eq_true, decide_eq_true_eq] at hs
    obtain ⟨⟨⟨h1, h2⟩, h3⟩, h4⟩ := hs
    unfold Job.okB at h
    rw [if_pos ⟨Job.ways_to hr h3 h2, h4⟩] at h
    cases h
theorem Job.seenB_no4 {J : Job} {l : Int} {r k t : Nat} (h : ¬ J.hot (J.dig t) r ≤ l) : J.seenB l r k t = false := by
  unfold Job.seenB
  rw [decide_eq_false h]; simp
theorem Job.seenB_yes {J : Job} {l : Int} {r k t : Nat} (h1 : J.okB l (J.dig t) = 1) (h2 : J.dig t r = k) (h3 : J.okB l (Job.to (J.dig t) r) = 1) (h4 : J.hot (J.dig t) r ≤ l) : J.seenB l r k t = true := by
  have key : ∀ p, J.okB l p = 1 → 0 < J.waysN l p ∧ 0 < J.togoN l p := fun p h => by
    unfold Job.okB at h
    split at h
    · rename_i hc; exact hc
    · cases h
  unfold Job.seenB
  rw [decide_eq_true h2, decide_eq_true (key _ h1).1, decide_eq_true h4, decide_eq_true (key _ h3).2]; rfl
theorem Job.okB_or (J : Job) (l : Int) (p : Nat → Nat) : J.okB l p = 0 ∨ J.okB l p = 1 := by
  unfold Job.okB; split
  · exact .inr rfl
  · exact .inl rfl

set_option maxRecDepth 100000 in
set_option maxHeartbeats 8000000 in
theorem steps74_c (w : World) (v : Value) (J : Job) (hv : RawAt w v J) (hJ : J.Ok) (l : Int) (pr pk : Nat) (hpr : pr < J.n) (hpk : pk < J.len pr) :
    Calls Try.prog 74 #[v, .int .i64 l, .agg #[.int .i64 pr, .int .i64 pk]] w fun e w' => ∃ s, e = .returned s ∧ w.grows w' ∧
      RowsOf w' s (filT (J.seenB l pr pk) J.size).length (fun _ => J.n) (fun i j => (J.dig ((filT (J.seenB l pr pk) J.size).getD i 0) j : Nat)) := by
  have Hv := Lib.hid hv
  have HJ := Lib.hid hJ
  obtain ⟨jb, jo, jcap, rb, ro, rc, rfl, hjc, hjc2, hR⟩ := Hv.out.job HJ.out
  have HR := Lib.hid hR
  unfold maxLen at hjc2
  clear hR
  have hsz := J.size_le hJ
  have hsp := J.size_pos
  have hn4 := hJ.n4
  clear hv hJ
  go_enter Try.func74, Try.ntmps74
  go_wp2
  obtain ⟨w1, hw1⟩ : ∃ w1, w1 = ((w.alloc (.cells #[.int .i64 J.start, .slice (some ⟨jb, jo, none⟩) J.n jcap] 24)).alloc (.cells #[.int .i64 pr, .int .i64 pk] 47)) := ⟨_, rfl⟩
  have hg1 : w.grows w1 := by rw [hw1]; (repeat (first | exact World.grows.refl _ | assumption | refine World.grows.alloc ?_ _ | refine World.grows.plus ?_ _ _ | refine World.grows.drew ?_))
  have b0 : w1.cell? ⟨w.heap.size, 0, none⟩ = some (.int .i64 J.start) := by rw [hw1]; simp [go_sem]
  have b1 : w1.cell? ⟨w.heap.size, 1, none⟩ = some (.slice (some ⟨jb, jo, none⟩) J.n jcap) := by rw [hw1]; simp [go_sem]
  have n0 : w1.cell? ⟨w.heap.size + 1, 0, none⟩ = some (.int .i64 pr) := by rw [hw1]; simp [go_sem]
  have n1 : w1.cell? ⟨w.heap.size + 1, 1, none⟩ = some (.int .i64 pk) := by rw [hw1]; simp [go_sem]
  rw [← hw1]
  clear hw1
  have Hg1 := Lib.hid hg1
  clear hg1
  (refine wp_region_chain 7 [1, 4, 5, 6] (by kernel_rfl) (by kernel_rfl) (by decide) ?_; simp only [without, only, withNo, List.take_succ_cons, List.take_zero, List.drop_succ_cons, List.drop_zero, List.take_nil, List.drop_nil, Nat.reduceAdd, Nat.reduceSub, List.filter, List.contains_cons, List.contains_nil, Nat.reduceBEq, Bool.or_false, Bool.false_or, Bool.true_or, Bool.or_true, Bool.or_self, Bool.not_true, Bool.not_false, List.map_cons, List.map_nil]; (repeat (refine wpCalm_step (fun K hK => ?_); go_simp; first | (refine hK _ ?_; clear hK K) | (apply Exists.intro; refine ⟨fun n' x' => ?_, hK _ ?_⟩; (fail); clear hK K))); refine wpCalm_nil ?_)
  (refine wpChain_step (fun K hK nc xc => ?_); go_simp)
  refine (rall_c _ _ J ((Hv.out.mono (Hg1.out.trans (by (repeat (first | exact World.grows.refl _ | assumption | refine World.grows.alloc ?_ _ | refine World.grows.plus ?_ _ _ | refine World.grows.drew ?_))))).job HJ.out) HJ.out).mono ?_
  rintro e W2 ⟨tv, rfl, hg, hT⟩
  refine ⟨_, rfl, hg, hK _ _ ?_⟩
  clear hK K
  have HT := Lib.hid hT
  have Hg2 : Hid (w1.grows W2) := Lib.hid (World.grows.trans (by (repeat (first | exact World.grows.refl _ | assumption | refine World.grows.alloc ?_ _ | refine World.grows.plus ?_ _ _ | refine World.grows.drew ?_))) hg)
  clear hT hg
  (refine wpChain_step (fun K hK nc xc => ?_); go_simp)
  refine (good_c _ _ J (Hv.out.mono (Hg1.out.trans (Hg2.out.trans (by (repeat (first | exact World.grows.refl _ | assumption | refine World.grows.alloc ?_ _ | refine World.grows.plus ?_ _ _ | refine World.grows.drew ?_)))))) HJ.out l).mono ?_
  rintro e W3 ⟨gv, rfl, hg, hG⟩
  refine ⟨_, rfl, hg, hK _ _ ?_⟩
  clear hK K
  replace HT := Lib.hid (HT.out.mono (World.grows.trans (by (repeat (first | exact World.grows.refl _ | assumption | refine World.grows.alloc ?_ _ | refine World.grows.plus ?_ _ _ | refine World.grows.drew ?_))) hg))
  have Hg3 : Hid (w1.grows W3) := Lib.hid (Hg2.out.trans (World.grows.trans (by (repeat (first | exact World.grows.refl _ | assumption | refine World.grows.alloc ?_ _ | refine World.grows.plus ?_ _ _ | refine World.grows.drew ?_))) hg))
  have HG := Lib.hid hG
  clear hG hg Hg2
  (refine wpChain_step (fun K hK nc xc => ?_); go_simp)
  refine ⟨by (repeat (first | exact World.grows.refl _ | assumption | refine World.grows.alloc ?_ _ | refine World.grows.plus ?_ _ _ | refine World.grows.drew ?_)), hK _ _ ?_⟩
  clear hK K
  (refine wpChain_step (fun K hK nc xc => ?_); go_simp)
  refine ⟨by (repeat (first | exact World.grows.refl _ | assumption | refine World.grows.alloc ?_ _ | refine World.grows.plus ?_ _ _ | refine World.grows.drew ?_)), hK _ _ ?_⟩
  clear hK K
  (refine wpChain_nil (fun nc xc => ?_))
  generalize hW4 : World.plus _ _ _ = W4
  have hg : W3.grows W4 := by rw [← hW4]; (repeat (first | exact World.grows.refl _ | assumption | refine World.grows.alloc ?_ _ | refine World.grows.plus ?_ _ _ | refine World.grows.drew ?_))
  replace HT := Lib.hid (HT.out.mono hg)
  replace HG := Lib.hid (HG.out.mono hg)
  have Hg4 := Lib.hid (Hg3.out.trans hg)
  clear hW4 hg Hg3
  obtain ⟨trow, ⟨ta, tcap, rfl, htc1, htc2, htc⟩, hti⟩ := HT.out
  unfold maxLen at htc2
  have Htc := Lib.hid htc
  have Hti := Lib.hid hti
  obtain ⟨ga, gcap, rfl, hgc1, hgc2, hgc⟩ := HG.out
  unfold maxLen at hgc2
  have Hgc := Lib.hid hgc
  clear htc hti hgc
  have B0 := Lib.hid (Hg4.out.cell_of b0)
  have B1 := Lib.hid (Hg4.out.cell_of b1)
  have N0 := Lib.hid (Hg4.out.cell_of n0)
  have N1 := Lib.hid (Hg4.out.cell_of n1)
  have Hgw := Lib.hid (Hg1.out.trans Hg4.out)
  clear b0 b1 n0 n1
  have hnc := Lib.hid (filT_len (J.seenB l pr pk))
  go_wp2
  go_loopw [9, 10] (fun s i wr => ∃ t : Nat, t ≤ J.size ∧ i = .int .i64 t ∧ Hid (wr.ownsRow W4.heap.size 25 1 s (filT (J.seenB l pr pk) t).length (tableL (filT (J.seenB l pr pk) t).length 1 (fun i _ => trow ((filT (J.seenB l pr pk) J.size).getD i 0)))) ∧ Hid (W4.grows wr)) (fun _ i _ => J.size - (intOf i).toNat)
  case atStart => exact ⟨0, by omega, rfl, Lib.hid (World.ownsRow_nil _ _ _ _), Lib.hid (by (repeat (first | exact World.grows.refl _ | assumption | refine World.grows.alloc ?_ _ | refine World.grows.plus ?_ _ _ | refine World.grows.drew ?_)))⟩
  case round =>
    obtain ⟨t, ht, rfl, hT, hg⟩ := hrel
    obtain ⟨vo, vc, hv⟩ : ∃ vo vc, u9 = .slice vo (filT (J.seenB l pr pk) t).length vc := by
      rcases hT.out.2 with ⟨rfl, hn⟩ | ⟨g, cap, cur, rfl, _⟩
      · rw [hn]; exact ⟨_, _, rfl⟩
      · exact ⟨_, _, rfl⟩
    subst hv
    by_cases hlt : t < J.size
    · obtain ⟨xb, xo, rfl, x0⟩ := Htc.out t 0 hlt (by omega)
      obtain ⟨gb, go, rfl, g0⟩ := Hgc.out t 0 hlt (by omega)
      simp only [Nat.mul_one, Nat.add_zero] at x0 g0
      obtain ⟨xa, xc, hxt, hxc1, hxc2, hxc⟩ := Hti.out t hlt
      rw [hxt] at x0
      have hxi := Lib.hid (Hti.out t hlt)
      rw [hxt] at hxi
      obtain ⟨yb, yo, rfl, y0⟩ := hxc pr 0 hpr (by omega)
      simp only [Nat.mul_one, Nat.add_zero] at y0
      unfold maxLen at hxc2
      have Hxt := Lib.hid hxt
      clear hxc hxt
      have hgx := Lib.hid (Hgw.out.trans hg.out)
      replace x0 := hg.out.cell_of x0
      replace g0 := hg.out.cell_of g0
      replace y0 := hg.out.cell_of y0
      have B0' := hg.out.cell_of B0.out
      have B1' := hg.out.cell_of B1.out
      have N0' := hg.out.cell_of N0.out
      have N1' := hg.out.cell_of N1.out
      have z0 := hgx.out.cell_of (HR.out.row pr hpr)
      have hrc := HR.out.cap pr hpr
      unfold maxLen at hrc
      have hl6 := HJ.out.l6 pr hpr
      have hle := (J.dig_in t).le pr hpr
      have hsucc := Lib.hid (filT_succ (J.seenB l pr pk) t)
      have hle2 := hnc.out t
      have hti : (t : Int) < J.size := by omega
      have hpri : (pr : Int) < J.n := by omega
      rcases J.okB_or l (J.dig t) with hok | hok
      · have hq := Lib.hid (Job.seenB_no1 hpr hpk hok)
        rw [hok] at g0
        clear hok
        go_wp2
        (refine wp_region_calm (by kernel_rfl) (by kernel_rfl) ?_; (repeat (refine wpCalm_step (fun K hK => ?_); go_simp; first | (refine hK _ ?_; clear hK K) | (apply Exists.intro; refine ⟨fun n' x' => ?_, hK _ ?_⟩; (fail); clear hK K))); refine wpCalm_nil ?_; intro nq xq)
        go_wp2
        go_roundw
        case rel => exact ⟨t + 1, by omega, by go_num, Lib.hid (by rw [hsucc.out, hq.out]; simpa using hT.out.grow (by (repeat (first | exact World.grows.refl _ | assumption | refine World.grows.alloc ?_ _ | refine World.grows.plus ?_ _ _ | refine World.grows.drew ?_)))), Lib.hid (hg.out.trans (by (repeat (first | exact World.grows.refl _ | assumption | refine World.grows.alloc ?_ _ | refine World.grows.plus ?_ _ _ | refine World.grows.drew ?_))))⟩
        case measure => simp [intOf] <;> omega
      rw [hok] at g0
      by_cases hk : J.dig t pr = pk
      · rw [hk] at y0
        have hki : ((pk : Nat) : Int) < J.len pr := by omega
        have hin := Lib.hid (Job.in_to (J.dig_in t) hpr (by omega))
        have hb9 := J.num_lt hin.out
        have hbi : ((J.num (Job.to (J.dig t) pr) : Nat) : Int) < J.size := by omega
        obtain ⟨_, _, e1, g1⟩ := Hgc.out _ 0 hb9 (by omega)
        cases e1
        simp only [Nat.mul_one, Nat.add_zero] at g1
        rw [J.dig_num hin.out] at g1
        replace g1 := hg.out.cell_of g1
        have hpk2 := hgx.out.cell_of (HR.out.pk pr pk hpr hpk)
        have hhb := HJ.out.heat_bd (J.dig_in t).le
        have hpb := HJ.out.pk pr pk hpr hpk
        have hhot : J.hot (J.dig t) pr = J.heat (J.dig t) + J.pk pr pk := by unfold Job.hot; rw [hk]
        have hwrap : IntKind.i64.wrap (J.heat (J.dig t) + J.pk pr pk) = J.hot (J.dig t) pr := by rw [hhot]; exact wrapI (by omega)
        have G1 := Lib.hid g1
        have Hk := Lib.hid hk
        have Hok := Lib.hid hok
        clear hhb hpb hhot hok g1
        go_wp2
        (refine wp_region_calm (by kernel_rfl) (by kernel_rfl) ?_; (repeat (refine wpCalm_step (fun K hK => ?_); go_simp; first | (refine hK _ ?_; clear hK K) | (apply Exists.intro; refine ⟨fun n' x' => ?_, hK _ ?_⟩; (fail); clear hK K))); refine wpCalm_nil ?_; intro nq xq)
        go_wp2_with (at_builtin; go_loud (refine wpList_append_g _ rfl _ _ _ (by rfl) wr.heap.size 3 (.int .i64 0) 1 8 Try.underlying25 el3 (by rfl) (by omega) _ 0 [] (by rfl) (empty_own _ _ _ (by simp) (by simp)) _ (by rfl) J.n _ (SliceAt.src (by omega) (hxi.out.mono (hg.out.trans (by (repeat (first | exact World.grows.refl _ | assumption | refine World.grows.alloc ?_ _ | refine World.grows.plus ?_ _ _ | refine World.grows.drew ?_)))))) (ints_one _ _) (by unfold maxLen; omega) (by omega) (by simp <;> omega) ?_; intro v1 w4 hown hgr; have hg4 := hgr wr (by (repeat (first | exact World.grows.refl _ | assumption | refine World.grows.alloc ?_ _ | refine World.grows.plus ?_ _ _ | refine World.grows.drew ?_))) (Nat.le_refl _); simp only [Nat.zero_add, List.nil_append] at hown; obtain ⟨gg, cc, rfl, hgb⟩ := hown.form (by omega); have d1 := hown.cellAt pr (by omega); rw [tableL_map] at d1; simp only [List.getElem?_map, List.getElem?_range hpr, Option.map_some] at d1; rw [Hk.out] at d1; have d2 := hown.frozenAt pr; have Hi68 := Lib.hid (own_to hown hpr); rw [Hk.out] at Hi68; have m0 := hg4.cell_of N0'; have Hgg := Lib.hid hg4; have Hgb := Lib.hid hgb.1; clear hown hgr hg4))
        have Hg5 := Lib.hid (Hgg.out.setCell (p := ⟨gg, pr, none⟩) Hgb.out (.int .i64 ((pk : Int) + 1)))
        generalize w4.setCell ⟨gg, pr, none⟩ (.int .i64 ((pk : Int) + 1)) = W5 at Hg5 Hi68 ⊢
        have s0 := Hg5.out.cell_of B0'
        have s1' := Hg5.out.cell_of B1'
        have s2' := Hg5.out.cell_of z0
        have s3 := Hg5.out.cell_of x0
        have s4 := Hg5.out.cell_of hpk2
        have s5 := Hg5.out.cell_of N0'
        have s7 := Hg5.out.cell_of N1'
        have s6 := Hg5.out.cell_of G1.out
        clear d1 d2 hgb m0 x0 y0 z0 B0' B1' N0' N1' hpk2 g0
        rcases J.okB_or l (Job.to (J.dig t) pr) with hok | hok
        · have hq := Lib.hid (Job.seenB_no3 (k := pk) hpr hok)
          rw [hok] at s6
          clear hok hk hwrap
          (refine wp_region_calm (by kernel_rfl) (by kernel_rfl) ?_; (repeat (refine wpCalm_step (fun K hK => ?_); go_simp; first | (refine hK _ ?_; clear hK K) | (apply Exists.intro; refine ⟨fun n' x' => ?_, hK _ ?_⟩; (first | exact rheat_c _ _ _ J (J.dig t) ((Hv.out.mono (hgx.out.trans (Hg5.out.trans (by (repeat (first | exact World.grows.refl _ | assumption | refine World.grows.alloc ?_ _ | refine World.grows.plus ?_ _ _ | refine World.grows.drew ?_)))))).job HJ.out) (hxi.out.mono (hg.out.trans (Hg5.out.trans (by (repeat (first | exact World.grows.refl _ | assumption | refine World.grows.alloc ?_ _ | refine World.grows.plus ?_ _ _ | refine World.grows.drew ?_)))))) HJ.out (J.dig_in t).le | exact number_c _ _ _ J (Job.to (J.dig t) pr) ((Hv.out.mono (hgx.out.trans (Hg5.out.trans (by (repeat (first | exact World.grows.refl _ | assumption | refine World.grows.alloc ?_ _ | refine World.grows.plus ?_ _ _ | refine World.grows.drew ?_)))))).job HJ.out) (Hi68.out.mono (by (repeat (first | exact World.grows.refl _ | assumption | refine World.grows.alloc ?_ _ | refine World.grows.plus ?_ _ _ | refine World.grows.drew ?_)))) HJ.out hin.out.le); clear hK K))); refine wpCalm_nil ?_; intro nq xq)
          go_wp2
          go_roundw
          case rel => exact ⟨t + 1, by omega, by go_num, Lib.hid (by rw [hsucc.out, hq.out]; simpa using hT.out.grow (Hg5.out.trans (by (repeat (first | exact World.grows.refl _ | assumption | refine World.grows.alloc ?_ _ | refine World.grows.plus ?_ _ _ | refine World.grows.drew ?_))))), Lib.hid (hg.out.trans (Hg5.out.trans (by (repeat (first | exact World.grows.refl _ | assumption | refine World.grows.alloc ?_ _ | refine World.grows.plus ?_ _ _ | refine World.grows.drew ?_)))))⟩
          case measure => simp [intOf] <;> omega
        · rw [hok] at s6
          by_cases hh : J.hot (J.dig t) pr ≤ l
          · have hdec : decide (IntKind.i64.wrap (J.heat (J.dig t) + J.pk pr pk) ≤ l) = true := decide_eq_true (by rw [hwrap]; exact hh)
            have hq := Lib.hid (Job.seenB_yes (l := l) (r := pr) (k := pk) Hok.out hk hok hh)
            have hat := Lib.hid (filT_at (J.seenB l pr pk) t J.size hlt hq.out)
            clear hok hk hwrap hh
            (refine wp_region_calm (by kernel_rfl) (by kernel_rfl) ?_; (repeat (refine wpCalm_step (fun K hK => ?_); go_simp; first | (refine hK _ ?_; clear hK K) | (apply Exists.intro; refine ⟨fun n' x' => ?_, hK _ ?_⟩; (first | exact rheat_c _ _ _ J (J.dig t) ((Hv.out.mono (hgx.out.trans (Hg5.out.trans (by (repeat (first | exact World.grows.refl _ | assumption | refine World.grows.alloc ?_ _ | refine World.grows.plus ?_ _ _ | refine World.grows.drew ?_)))))).job HJ.out) (hxi.out.mono (hg.out.trans (Hg5.out.trans (by (repeat (first | exact World.grows.refl _ | assumption | refine World.grows.alloc ?_ _ | refine World.grows.plus ?_ _ _ | refine World.grows.drew ?_)))))) HJ.out (J.dig_in t).le | exact number_c _ _ _ J (Job.to (J.dig t) pr) ((Hv.out.mono (hgx.out.trans (Hg5.out.trans (by (repeat (first | exact World.grows.refl _ | assumption | refine World.grows.alloc ?_ _ | refine World.grows.plus ?_ _ _ | refine World.grows.drew ?_)))))).job HJ.out) (Hi68.out.mono (by (repeat (first | exact World.grows.refl _ | assumption | refine World.grows.alloc ?_ _ | refine World.grows.plus ?_ _ _ | refine World.grows.drew ?_)))) HJ.out hin.out.le); clear hK K))); refine wpCalm_nil ?_; intro nq xq)
            go_wp2_with (at_builtin; go_loud (refine wpList_append_g _ rfl _ _ _ (by rfl) W4.heap.size 25 (.slice none 0 0) 1 24 Try.underlying40 el25 (by rfl) (by omega) _ _ _ (by rfl) ((hT.out.grow (Hg5.out.trans (World.grows_plus _ _ _))).grow (World.grows.alloc (World.grows.refl _) _)) _ (by rfl) 1 _ (SliceAt.src (by omega) (one_slice _ _ _ _ (by simp))) (any_one _ rfl) (by unfold maxLen; omega) (by omega) (by have := Hg5.out.size; have := hg.out.size; simp; omega) ?_; intro v9 w9 hown hgr; have Hown := Lib.hid hown; have Hgr := Lib.hid (hgr W4 ((hg.out.trans (Hg5.out.trans (World.grows_plus _ _ _))).alloc _) (Nat.le_refl _)); clear hown hgr))
            go_roundw
            case rel =>
              refine ⟨t + 1, by omega, by go_num, Lib.hid ?_, Hgr⟩
              rw [hsucc.out, hq.out, if_pos rfl, List.length_append, List.length_singleton, tableL_snoc]
              simp only [List.range_one, List.map_cons, List.map_nil, hat.out, Hxt.out]
              exact Hown.out
            case measure => simp [intOf] <;> omega
          · have hdec : decide (IntKind.i64.wrap (J.heat (J.dig t) + J.pk pr pk) ≤ l) = false := decide_eq_false (by rw [hwrap]; exact hh)
            have hq := Lib.hid (Job.seenB_no4 (k := pk) hh)
            clear hok hk hwrap hh
            (refine wp_region_calm (by kernel_rfl) (by kernel_rfl) ?_; (repeat (refine wpCalm_step (fun K hK => ?_); go_simp; first | (refine hK _ ?_; clear hK K) | (apply Exists.intro; refine ⟨fun n' x' => ?_, hK _ ?_⟩; (first | exact rheat_c _ _ _ J (J.dig t) ((Hv.out.mono (hgx.out.trans (Hg5.out.trans (by (repeat (first | exact World.grows.refl _ | assumption | refine World.grows.alloc ?_ _ | refine World.grows.plus ?_ _ _ | refine World.grows.drew ?_)))))).job HJ.out) (hxi.out.mono (hg.out.trans (Hg5.out.trans (by (repeat (first | exact World.grows.refl _ | assumption | refine World.grows.alloc ?_ _ | refine World.grows.plus ?_ _ _ | refine World.grows.drew ?_)))))) HJ.out (J.dig_in t).le | exact number_c _ _ _ J (Job.to (J.dig t) pr) ((Hv.out.mono (hgx.out.trans (Hg5.out.trans (by (repeat (first | exact World.grows.refl _ | assumption | refine World.grows.alloc ?_ _ | refine World.grows.plus ?_ _ _ | refine World.grows.drew ?_)))))).job HJ.out) (Hi68.out.mono (by (repeat (first | exact World.grows.refl _ | assumption | refine World.grows.alloc ?_ _ | refine World.grows.plus ?_ _ _ | refine World.grows.drew ?_)))) HJ.out hin.out.le); clear hK K))); refine wpCalm_nil ?_; intro nq xq)
            go_wp2
            go_roundw
            case rel => exact ⟨t + 1, by omega, by go_num, Lib.hid (by rw [hsucc.out, hq.out]; simpa using hT.out.grow (Hg5.out.trans (by (repeat (first | exact World.grows.refl _ | assumption | refine World.grows.alloc ?_ _ | refine World.grows.plus ?_ _ _ | refine World.grows.drew ?_))))), Lib.hid (hg.out.trans (Hg5.out.trans (by (repeat (first | exact World.grows.refl _ | assumption | refine World.grows.alloc ?_ _ | refine World.grows.plus ?_ _ _ | refine World.grows.drew ?_)))))⟩
            case measure => simp [intOf] <;> omega
      · have hki : ¬ (J.dig t pr : Int) = pk := by omega
        have hq := Lib.hid (Job.seenB_no2 (l := l) hk)
        clear hok hk
        go_wp2
        (refine wp_region_calm (by kernel_rfl) (by kernel_rfl) ?_; (repeat (refine wpCalm_step (fun K hK => ?_); go_simp; first | (refine hK _ ?_; clear hK K) | (apply Exists.intro; refine ⟨fun n' x' => ?_, hK _ ?_⟩; (fail); clear hK K))); refine wpCalm_nil ?_; intro nq xq)
        go_wp2
        go_roundw
        case rel => exact ⟨t + 1, by omega, by go_num, Lib.hid (by rw [hsucc.out, hq.out]; simpa using hT.out.grow (by (repeat (first | exact World.grows.refl _ | assumption | refine World.grows.alloc ?_ _ | refine World.grows.plus ?_ _ _ | refine World.grows.drew ?_)))), Lib.hid (hg.out.trans (by (repeat (first | exact World.grows.refl _ | assumption | refine World.grows.alloc ?_ _ | refine World.grows.plus ?_ _ _ | refine World.grows.drew ?_))))⟩
        case measure => simp [intOf] <;> omega
    · have hte : t = J.size := by omega
      subst hte
      go_wp2
      go_ret
      refine ⟨_, rfl, Hgw.out.trans (hg.out.trans (by (repeat (first | exact World.grows.refl _ | assumption | refine World.grows.alloc ?_ _ | refine World.grows.plus ?_ _ _ | refine World.grows.drew ?_)))), fun i => trow ((filT (J.seenB l pr pk) J.size).getD i 0), hT.out.sliceAt fun i j hi hj => tableL_get _ hi hj, fun i hi => ?_⟩
      have hm : (filT (J.seenB l pr pk) J.size).getD i 0 ∈ filT (J.seenB l pr pk) J.size := by
        rw [List.getD_eq_getElem?_getD, List.getElem?_eq_getElem hi]
        exact List.getElem_mem hi
      have hm2 : (filT (J.seenB l pr pk) J.size).getD i 0 < J.size := by
        unfold filT at hm
        exact List.mem_range.1 (List.mem_filter.1 hm).1
      exact (Hti.out _ hm2).mono (hg.out.trans (by (repeat (first | exact World.grows.refl _ | assumption | refine World.grows.alloc ?_ _ | refine World.grows.plus ?_ _ _ | refine World.grows.drew ?_))))
end Go.Proofs.Ytjpccfpmhmddjaa

/-
  What is proved: Must of the reference (35).
-/
namespace Go.Proofs.Ytjpccfpmhmddjaa
open Go.RowKit
attribute [local irreducible] Go.wpCalm

theorem Job.noPass_nat {J : Job} {r k : Int} (h : J.noPass r k = false) : ∃ rn kn : Nat, r = rn ∧ k = kn ∧ rn < J.n ∧ kn < J.len rn := by
  unfold Job.noPass at h
  simp only [Bool.or_eq_false_iff, decide_eq_false_iff_not] at h
  obtain ⟨⟨⟨h1, h2⟩, h3⟩, h4⟩ := h
  obtain ⟨rn, rfl⟩ := Int.eq_ofNat_of_zero_le (by omega : 0 ≤ r)
  obtain ⟨kn, rfl⟩ := Int.eq_ofNat_of_zero_le (by omega : 0 ≤ k)
  exact ⟨rn, kn, rfl, rfl, by omega, by simp at h4; omega⟩

set_option maxRecDepth 100000 in
set_option maxHeartbeats 4000000 in
theorem rmust_c (w : World) (v : Value) (J : Job) (hv : RawAt w v J) (l ra ka rb kb : Int) :
    Calls Try.prog 35 #[v, .int .i64 l, .agg #[.int .i64 ra, .int .i64 ka], .agg #[.int .i64 rb, .int .i64 kb]] w fun e w' =>
      e = .returned (.tuple #[.bool (J.mustAns l ra ka rb kb), .int .i64 (J.seenErr l 2 (two ra rb) (two ka kb))]) ∧ w.grows w' := by
  have Hv := Lib.hid hv
  obtain ⟨rv, row0, rfl, -, -⟩ := hv
  go_enter Try.func35, Try.ntmps35
  by_cases he : J.seenErr l 2 (two ra rb) (two ka kb) = 0
  · obtain ⟨hc, hp, -⟩ := Job.seenErr_pass he
    have HJ := Lib.hid ((Job.Ok_iff J).2 hc)
    obtain ⟨an, bn, rfl, rfl, han, hbn⟩ := Job.noPass_nat (hp 0 (by omega))
    obtain ⟨cn, dn', rfl, rfl, hcn, hdn⟩ := Job.noPass_nat (hp 1 (by omega))
    have hans : Hid (J.mustAns l an bn cn dn' = !(filT (J.seenB l cn dn') J.size).any fun t => decide ((J.dig t an : Int) ≤ bn)) := Lib.hid (by
      unfold Job.mustAns
      rw [if_pos he]
      unfold Job.mustB
      simp only [Int.toNat_natCast])
    have He := Lib.hid he
    have HE : Hid (∀ W : World, ∀ pl, RawAt W (.agg #[.int .i64 J.start, rv]) J → SliceAt W pl 2 2 (nmV (two an cn) (two bn dn')) → Calls Try.prog 73 #[.agg #[.int .i64 J.start, rv], .int .i64 l, pl] W fun e w' => e = .returned (.int .i64 0) ∧ W.grows w') := Lib.hid fun W pl h1 h2 => by
      have := passErr_c W _ J h1 l pl 2 (two an cn) (two bn dn') h2
      rwa [he] at this
    clear he hp hc
    have hn4 := HJ.out.n4
    go_wp2_with (first
      | (go_at_call 73; go_loud (refine (HE.out _ _ (Hv.out.mono (by (repeat (first | exact World.grows.refl _ | assumption | refine World.grows.alloc ?_ _ | refine World.grows.plus ?_ _ _ | refine World.grows.drew ?_)))) (names2 _ _ _ _ _ _ _ (by simp))).mono ?_; rintro e w1 ⟨rfl, hg1⟩; obtain ⟨n1, x1, rfl⟩ := World.plus_of hg1))
      | (go_at_call 74; go_loud (refine (steps74_c _ _ J (Hv.out.mono (by (repeat (first | exact World.grows.refl _ | assumption | refine World.grows.alloc ?_ _ | refine World.grows.plus ?_ _ _ | refine World.grows.drew ?_)))) HJ.out l cn dn' hcn hdn).mono ?_; rintro e w2 ⟨sv, rfl, hg2, hS⟩; have o0 := hg2.cell_of (a := ⟨w.heap.size + 1, 0, none⟩) (v := .int .i64 an) (by simp [go_sem]); have o1 := hg2.cell_of (a := ⟨w.heap.size + 1, 1, none⟩) (v := .int .i64 bn) (by simp [go_sem]); have Hg2 := Lib.hid (show w.grows w2 from World.grows.trans (by (repeat (first | exact World.grows.refl _ | assumption | refine World.grows.alloc ?_ _ | refine World.grows.plus ?_ _ _ | refine World.grows.drew ?_))) hg2); obtain ⟨trow, ⟨ta, tcap, rfl, htc1, htc2, htc⟩, hti⟩ := hS; unfold maxLen at htc2; have Htc := Lib.hid htc; have Hti := Lib.hid hti; clear htc hti hg2)))
    have O0 := Lib.hid o0
    have O1 := Lib.hid o1
    generalize hL : filT (J.seenB l cn dn') J.size = L at hans Htc Hti htc1 ⊢
    go_loopw [11] (fun i wr => ∃ q : Nat, q ≤ L.length ∧ i = .int .i64 q ∧ Hid (∀ j, j < q → (bn : Int) < (J.dig (L.getD j 0) an : Int)) ∧ Hid (w2.grows wr)) (fun i _ => L.length - (intOf i).toNat)
    case atStart => exact ⟨0, by omega, rfl, Lib.hid fun j hj => by omega, Lib.hid (World.grows.refl _)⟩
    case round =>
      obtain ⟨q, hq, rfl, hno, hg⟩ := hrel
      replace o0 := hg.out.cell_of O0.out
      replace o1 := hg.out.cell_of O1.out
      by_cases hlt : q < L.length
      · obtain ⟨xb, xo, rfl, x0⟩ := Htc.out q 0 hlt (by omega)
        simp only [Nat.mul_one, Nat.add_zero] at x0
        obtain ⟨xa, xc, hxt, hxc1, hxc2, hxc⟩ := Hti.out q hlt
        rw [hxt] at x0
        obtain ⟨yb, yo, rfl, y0⟩ := hxc an 0 han (by omega)
        simp only [Nat.mul_one, Nat.add_zero] at y0
        unfold maxLen at hxc2
        replace x0 := hg.out.cell_of x0
        replace y0 := hg.out.cell_of y0
        have hani : (an : Int) < J.n := by omega
        clear hxt hxc
        by_cases hle : (J.dig (L.getD q 0) an : Int) ≤ bn
        · have hA : Hid (J.mustAns l an bn cn dn' = false) := Lib.hid (by
            rw [hans.out]
            have : (L.any fun t => decide ((J.dig t an : Int) ≤ bn)) = true := List.any_eq_true.2 ⟨L.getD q 0, by rw [List.getD_eq_getElem?_getD, List.getElem?_eq_getElem hlt]; exact List.getElem_mem hlt, decide_eq_true hle⟩
            rw [this]; rfl)
          obtain ⟨d, hd⟩ : ∃ d, J.dig (L.getD q 0) an = d := ⟨_, rfl⟩
          rw [hd] at y0 hle
          clear hans hd
          go_wp2
          (refine wp_region_calm (by kernel_rfl) (by kernel_rfl) ?_; (repeat (refine wpCalm_step (fun K hK => ?_); go_simp; first | (refine hK _ ?_; clear hK K) | (apply Exists.intro; refine ⟨fun n' x' => ?_, hK _ ?_⟩; (fail); clear hK K))); refine wpCalm_nil ?_; intro nq xq)
          go_wp2
          (refine bodyPost_ret (v := .tuple #[.bool false, .int .i64 0]) (by simp [results, Try.results35, go_sem]) rfl ?_)
          exact ⟨by rw [hA.out, He.out], Hg2.out.trans (hg.out.trans (by (repeat (first | exact World.grows.refl _ | assumption | refine World.grows.alloc ?_ _ | refine World.grows.plus ?_ _ _ | refine World.grows.drew ?_))))⟩
        · have Hle := Lib.hid (show (bn : Int) < (J.dig (L.getD q 0) an : Int) by omega)
          obtain ⟨d, hd⟩ : ∃ d, J.dig (L.getD q 0) an = d := ⟨_, rfl⟩
          rw [hd] at y0 hle
          clear hd
          go_wp2
          (refine wp_region_calm (by kernel_rfl) (by kernel_rfl) ?_; (repeat (refine wpCalm_step (fun K hK => ?_); go_simp; first | (refine hK _ ?_; clear hK K) | (apply Exists.intro; refine ⟨fun n' x' => ?_, hK _ ?_⟩; (fail); clear hK K))); refine wpCalm_nil ?_; intro nq xq)
          go_wp2
          go_roundw
          case rel => exact ⟨q + 1, by omega, by go_num, Lib.hid fun j hj => (by rcases Nat.lt_or_ge j q with h | h; exact hno.out j h; have hjk : j = q := (by omega); subst hjk; exact Hle.out), Lib.hid (hg.out.trans (by (repeat (first | exact World.grows.refl _ | assumption | refine World.grows.alloc ?_ _ | refine World.grows.plus ?_ _ _ | refine World.grows.drew ?_))))⟩
          case measure => simp [intOf] <;> omega
      · have hqe : q = L.length := by omega
        subst hqe
        have hA : Hid (J.mustAns l an bn cn dn' = true) := Lib.hid (by
          rw [hans.out]
          have : (L.any fun t => decide ((J.dig t an : Int) ≤ bn)) = false := by
            rw [List.any_eq_false]
            intro t ht
            obtain ⟨j, hj, he⟩ := List.getElem_of_mem ht
            have := hno.out j hj
            rw [List.getD_eq_getElem?_getD, List.getElem?_eq_getElem hj, he] at this
            simpa using this
          rw [this]; rfl)
        clear hans
        go_wp2
        (refine bodyPost_ret (v := .tuple #[.bool true, .int .i64 0]) (by simp [results, Try.results35, go_sem]) rfl ?_)
        exact ⟨by rw [hA.out, He.out], Hg2.out.trans (hg.out.trans (by (repeat (first | exact World.grows.refl _ | assumption | refine World.grows.alloc ?_ _ | refine World.grows.plus ?_ _ _ | refine World.grows.drew ?_))))⟩
  · have hA : Hid (J.mustAns l ra ka rb kb = false) := Lib.hid (by unfold Job.mustAns; rw [if_neg he])
    go_wp2_with (go_at_call 73; go_loud (refine (passErr_c _ _ J (Hv.out.mono (by (repeat (first | exact World.grows.refl _ | assumption | refine World.grows.alloc ?_ _ | refine World.grows.plus ?_ _ _ | refine World.grows.drew ?_)))) l _ 2 (two ra rb) (two ka kb) (names2 _ _ _ _ _ _ _ (by simp))).mono ?_; rintro e w1 ⟨rfl, hg1⟩; obtain ⟨n1, x1, rfl⟩ := World.plus_of hg1))
    (refine bodyPost_ret (v := .tuple #[.bool false, .int .i64 (J.seenErr l 2 (two ra rb) (two ka kb))]) (by simp [results, Try.results35, go_sem]) rfl ?_)
    exact ⟨by rw [hA.out], by (repeat (first | exact World.grows.refl _ | assumption | refine World.grows.alloc ?_ _ | refine World.grows.plus ?_ _ _ | refine World.grows.drew ?_))⟩
end Go.Proofs.Ytjpccfpmhmddjaa

/-
  What is proved: Before of the reference (37).
-/
namespace Go.Proofs.Ytjpccfpmhmddjaa
open Go.RowKit
attribute [local irreducible] Go.wpCalm

set_option maxRecDepth 100000 in
set_option maxHeartbeats 4000000 in
theorem rbef_c (w : World) (v : Value) (J : Job) (hv : RawAt w v J) (l rb kb : Int) :
    Calls Try.prog 37 #[v, .int .i64 l, .agg #[.int .i64 rb, .int .i64 kb]] w fun e w' => ∃ lo hi,
      e = .returned (.tuple #[.agg #[.int .i64 lo, .int .i64 hi], .int .i64 (J.seenErr l 1 (fun _ => rb) (fun _ => kb))]) ∧ w.grows w' ∧
      (J.seenErr l 1 (fun _ => rb) (fun _ => kb) ≠ 0 → lo = 0 ∧ hi = 0) ∧
      (J.seenErr l 1 (fun _ => rb) (fun _ => kb) = 0 → lo = J.befLo (J.befL l rb kb) (J.befL l rb kb).length ∧ hi = J.befHi (J.befL l rb kb) (J.befL l rb kb).length) := by
  have Hv := Lib.hid hv
  obtain ⟨rv, row0, rfl, -, -⟩ := hv
  go_enter Try.func37, Try.ntmps37
  by_cases he : J.seenErr l 1 (fun _ => rb) (fun _ => kb) = 0
  · have He := Lib.hid he
    obtain ⟨hc, hp, -⟩ := Job.seenErr_pass he
    have HJ := Lib.hid ((Job.Ok_iff J).2 hc)
    obtain ⟨cn, dn', hcb, hdb, hcn, hdn⟩ := Job.noPass_nat (hp 0 (by omega))
    have hcb' : rb = (cn : Nat) := hcb
    have hdb' : kb = (dn' : Nat) := hdb
    subst hcb'; subst hdb'
    have HE : Hid (∀ W : World, ∀ pl, RawAt W (.agg #[.int .i64 J.start, rv]) J → SliceAt W pl 1 2 (nmV (fun _ => (cn : Int)) (fun _ => (dn' : Int))) → Calls Try.prog 73 #[.agg #[.int .i64 J.start, rv], .int .i64 l, pl] W fun e w' => e = .returned (.int .i64 0) ∧ W.grows w') := Lib.hid fun W pl h1 h2 => by
      have := passErr_c W _ J h1 l pl 1 (fun _ => (cn : Int)) (fun _ => (dn' : Int)) h2
      rwa [he] at this
    clear he hp hc hcb hdb
    have hn4 := HJ.out.n4
    go_wp2_with (first
      | (go_at_call 73; go_loud (refine (HE.out _ _ (Hv.out.mono (by (repeat (first | exact World.grows.refl _ | assumption | refine World.grows.alloc ?_ _ | refine World.grows.plus ?_ _ _ | refine World.grows.drew ?_)))) (names1 _ _ _ _ _ (by simp))).mono ?_; rintro e w1 ⟨rfl, hg1⟩; obtain ⟨n1, x1, rfl⟩ := World.plus_of hg1))
      | (go_at_call 74; go_loud (refine (steps74_c _ _ J (Hv.out.mono (by (repeat (first | exact World.grows.refl _ | assumption | refine World.grows.alloc ?_ _ | refine World.grows.plus ?_ _ _ | refine World.grows.drew ?_)))) HJ.out l cn dn' hcn hdn).mono ?_; rintro e w2 ⟨sv, rfl, hg2, hS⟩; have j0 := hg2.cell_of (a := ⟨w.heap.size, 0, none⟩) (v := .int .i64 J.start) (by simp [go_sem]); have j1 := hg2.cell_of (a := ⟨w.heap.size, 1, none⟩) (v := rv) (by simp [go_sem]); have r0 := hg2.cell_of (a := ⟨w.heap.size + 1 + 1, 0, none⟩) (v := .int .i64 0) (by simp [go_sem]); have r1 := hg2.cell_of (a := ⟨w.heap.size + 1 + 1, 1, none⟩) (v := .int .i64 0) (by simp [go_sem]); have f0 : w2.frozen? ⟨w.heap.size + 1 + 1, 0, none⟩ = false := (by rw [Below.frozen hg2 (by simp; omega)]; simp [go_sem]); have f1 : w2.frozen? ⟨w.heap.size + 1 + 1, 1, none⟩ = false := (by rw [Below.frozen hg2 (by simp; omega)]; simp [go_sem]); have bl : w.heap.size + 1 + 1 < w2.heap.size := (by have := hg2.size; simp at this; omega); have Hg2 := Lib.hid (show w.grows w2 from World.grows.trans (by (repeat (first | exact World.grows.refl _ | assumption | refine World.grows.alloc ?_ _ | refine World.grows.plus ?_ _ _ | refine World.grows.drew ?_))) hg2); obtain ⟨trow, ⟨ta, tcap, rfl, htc1, htc2, htc⟩, hti⟩ := hS; unfold maxLen at htc2; have Htc := Lib.hid htc; have Hti := Lib.hid hti; clear htc hti hg2)))
    have hL0 : J.befL l cn dn' = filT (J.seenB l cn dn') J.size := by unfold Job.befL; simp
    generalize hLL : filT (J.seenB l cn dn') J.size = L at htc1 Htc Hti hL0 ⊢
    have HL := Lib.hid hL0.symm
    have J0 := Lib.hid j0
    have J1 := Lib.hid j1
    clear hL0 hLL j0 j1 hg1
    go_loopw [10] (fun i wr => ∃ t : Nat, t ≤ L.length ∧ i = .int .i64 t ∧ wr.cell? ⟨w2.heap.size, 0, none⟩ = some (.int .i64 (J.befLo L t)) ∧ wr.cell? ⟨w2.heap.size, 1, none⟩ = some (.int .i64 (J.befHi L t)) ∧ wr.frozen? ⟨w2.heap.size, 0, none⟩ = false ∧ wr.frozen? ⟨w2.heap.size, 1, none⟩ = false ∧ Hid (w2.grows wr)) (fun i _ => L.length - (intOf i).toNat)
    case atStart => exact ⟨0, by omega, rfl, by simp [go_sem, Job.befLo], by simp [go_sem, Job.befHi], by simp [go_sem], by simp [go_sem], Lib.hid (by (repeat (first | exact World.grows.refl _ | assumption | refine World.grows.alloc ?_ _ | refine World.grows.plus ?_ _ _ | refine World.grows.drew ?_)))⟩
    case round =>
      obtain ⟨t, ht, rfl, b0, b1, g0, g1, hg⟩ := hrel
      obtain ⟨lo, hlo⟩ : ∃ lo, lo = J.befLo L t := ⟨_, rfl⟩
      obtain ⟨hi, hhi⟩ : ∃ hi, hi = J.befHi L t := ⟨_, rfl⟩
      rw [← hlo] at b0
      rw [← hhi] at b1
      have Hlo := Lib.hid hlo
      have Hhi := Lib.hid hhi
      clear hlo hhi
      have hgw := Lib.hid (Hg2.out.trans hg.out)
      by_cases hlt : t < L.length
      · obtain ⟨ab, ao, rfl, h0⟩ := Htc.out t 0 hlt (by omega)
        simp only [Nat.mul_one, Nat.add_zero] at h0
        obtain ⟨xa, xc, hxt, hxc1, hxc2, -⟩ := Hti.out t hlt
        have hxi := Lib.hid (Hti.out t hlt)
        rw [hxt] at h0 hxi
        replace h0 := hg.out.cell_of h0
        have j0 := hg.out.cell_of J0.out
        have j1 := hg.out.cell_of J1.out
        clear r0 r1 f0 f1 hxt
        have hbw : w2.heap.size < wr.heap.size := World.block_lt_of_cell (w := wr) (a := ⟨w2.heap.size, 0, none⟩) (by simp [b0])
        have H48 : Hid (∀ W : World, wr.grows W → Calls Try.prog 48 #[.agg #[.int .i64 J.start, rv], .slice xa J.n xc] W fun e w' => e = .returned (.int .i64 (J.heat (J.dig (L.getD t 0)))) ∧ W.grows w') := Lib.hid fun W hW => rheat_c _ _ _ J (J.dig (L.getD t 0)) ((Hv.out.mono (hgw.out.trans hW)).job HJ.out) (hxi.out.mono (hg.out.trans hW)) HJ.out (J.dig_in _).le
        obtain ⟨hv, Hhv⟩ : ∃ hv, Hid (hv = J.heat (J.dig (L.getD t 0))) := ⟨_, Lib.hid rfl⟩
        rw [← Hhv.out] at H48
        go_wp2
        (refine wp_region_calm (by kernel_rfl) (by kernel_rfl) ?_; (repeat (refine wpCalm_step (fun K hK => ?_); go_simp; first | (refine hK _ ?_; clear hK K) | (apply Exists.intro; refine ⟨fun n' x' => ?_, hK _ ?_⟩; (exact H48.out _ (by (repeat (first | exact World.grows.refl _ | assumption | refine World.grows.alloc ?_ _ | refine World.grows.plus ?_ _ _ | refine World.grows.drew ?_)))); clear hK K))); refine wpCalm_nil ?_; intro nq xq)
        go_wp2
        have e0 : J.befLo L (t + 1) = if hv < lo then hv else lo := by
          rw [Hhv.out, Hlo.out]
          show min (J.befLo L t) (J.heat (J.dig (L.getD t 0))) = _
          rw [Int.min_def]; split <;> split <;> omega
        have e1 : J.befHi L (t + 1) = if hi < hv then hv else hi := by
          rw [Hhv.out, Hhi.out]
          show max (J.befHi L t) (J.heat (J.dig (L.getD t 0))) = _
          rw [Int.max_def]; split <;> split <;> omega
        obtain ⟨X, hX⟩ : ∃ X, (if hv < lo then hv else lo) = X := ⟨_, rfl⟩
        obtain ⟨Y, hY⟩ : ∃ Y, (if hi < hv then hv else hi) = Y := ⟨_, rfl⟩
        rw [hX] at e0
        rw [hY] at e1
        simp only [hX, hY]
        have c0 : ((wr.setCell ⟨w2.heap.size, 0, none⟩ (.int .i64 X)).setCell ⟨w2.heap.size, 1, none⟩ (.int .i64 Y)).cell? ⟨w2.heap.size, 0, none⟩ = some (.int .i64 X) := by
          rw [cell_set_ne (.inr (by simp)) rfl]; exact World.cell?_setCell_same _ _ _ b0
        have c1 : ((wr.setCell ⟨w2.heap.size, 0, none⟩ (.int .i64 X)).setCell ⟨w2.heap.size, 1, none⟩ (.int .i64 Y)).cell? ⟨w2.heap.size, 1, none⟩ = some (.int .i64 Y) := World.cell?_setCell_same _ _ _ (set_other b0 b1 _)
        have hb3 : w2.heap.size < ((wr.setCell ⟨w2.heap.size, 0, none⟩ (.int .i64 X)).setCell ⟨w2.heap.size, 1, none⟩ (.int .i64 Y)).heap.size := by simp; exact hbw
        refine ⟨⟨t + 1, by omega, by go_num, (World.grows_plus _ _ _).cell_of (by rw [e0]; exact c0), (World.grows_plus _ _ _).cell_of (by rw [e1]; exact c1), (Below.frozen (p := ⟨w2.heap.size, 0, none⟩) (World.grows_plus _ _ _) hb3).trans (by simp [go_sem, g0]), (Below.frozen (p := ⟨w2.heap.size, 1, none⟩) (World.grows_plus _ _ _) hb3).trans (by simp [go_sem, g1]), Lib.hid (((hg.out.setCell (Nat.le_refl _) _).setCell (Nat.le_refl _) _).trans (World.grows_plus _ _ _))⟩, by simp [intOf] <;> omega⟩
      · have hte : t = L.length := by omega
        subst hte
        have q0 := hg.out.cell_of r0
        have q1 := hg.out.cell_of r1
        have k0 : wr.frozen? ⟨w.heap.size + 1 + 1, 0, none⟩ = false := by rw [Below.frozen hg.out bl]; exact f0
        have k1 : wr.frozen? ⟨w.heap.size + 1 + 1, 1, none⟩ = false := by rw [Below.frozen hg.out bl]; exact f1
        clear r0 r1 f0 f1
        go_wp2
        refine bodyPost_ret (v := .tuple #[.agg #[.int .i64 lo, .int .i64 hi], .int .i64 0]) (by simp [results, Try.results37, go_sem, World.cell?_setCell_same _ _ _ q0, World.cell?_setCell_same _ _ _ (set_other q0 q1 _)]) rfl ?_
        refine ⟨_, _, by rw [He.out], ?_, fun h => absurd He.out h, fun _ => by rw [← HL.out]; exact ⟨Hlo.out, Hhi.out⟩⟩
        exact ((hgw.out).setCell (by simp; omega) _).setCell (by simp; omega) _
  · have HE := Lib.hid he
    go_wp2_with (go_at_call 73; go_loud (refine (passErr_c _ _ J (Hv.out.mono (by (repeat (first | exact World.grows.refl _ | assumption | refine World.grows.alloc ?_ _ | refine World.grows.plus ?_ _ _ | refine World.grows.drew ?_)))) l _ 1 (fun _ => rb) (fun _ => kb) (names1 _ _ _ _ _ (by simp))).mono ?_; rintro e w1 ⟨rfl, hg1⟩; obtain ⟨n1, x1, rfl⟩ := World.plus_of hg1))
    (refine bodyPost_ret (v := .tuple #[.agg #[.int .i64 0, .int .i64 0], .int .i64 (J.seenErr l 1 (fun _ => rb) (fun _ => kb))]) (by simp [results, Try.results37, go_sem]) rfl ?_)
    exact ⟨0, 0, rfl, by (repeat (first | exact World.grows.refl _ | assumption | refine World.grows.alloc ?_ _ | refine World.grows.plus ?_ _ _ | refine World.grows.drew ?_)), fun _ => ⟨rfl, rfl⟩, fun h => absurd h HE.out⟩
end Go.Proofs.Ytjpccfpmhmddjaa

