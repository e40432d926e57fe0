/-
  What is proved: where one ends in a tree, and what that costs, in the program (91, 53).
-/
import Derived.Test.YtdminglglapnlaaM9
import Derived.Test.YtdminglglapnlaaM6
import Derived.Test.YtdminglglapnlaaM10
import Derived.Test.YtdminglglapnlaaM11
import Derived.Laws.CopyOwn
import Derived.Deep.CutRange
set_option linter.all false
namespace Go.Proofs.Ytdminglglapnlaa
open Go.RowKit
attribute [local irreducible] Go.wpCalm

theorem NodesIn.sliceAt {w : World} {nb no : Nat} {bb bo bc : Nat → Nat} {t : Tr} (h : NodesIn w nb no bb bo bc t) {i : Nat} (hi : i < t.n) {a : Option Addr} (ha : 0 < t.nb i → a = some ⟨bb i, bo i, none⟩) :
    SliceAt w (.slice a (t.nb i) (bc i)) (t.nb i) 2 (bcell (t.bv i) (t.bt i)) :=
  ⟨_, _, rfl, (h.cap i hi).1, (h.cap i hi).2, fun b j hb hj => ⟨bb i, bo i, ha (by omega), by
    rcases (by omega : j = 0 ∨ j = 1) with rfl | rfl
    · simpa [bcell] using h.val i b hi hb
    · simpa [bcell] using h.to i b hi hb⟩⟩
set_option maxHeartbeats 1000000 in
theorem fits_c (w : World) (x y : Int) (b5 b11 vb vo n vc : Nat) (f : Nat) (v : Int) (hf : f < n) (hn : n ≤ vc) (hvc : vc ≤ maxLen)
    (h5 : w.cell? ⟨b5, 0, none⟩ = some (.slice (some ⟨vb, vo, none⟩) n vc)) (h11 : w.cell? ⟨b11, 0, none⟩ = some (.int .i64 f)) (hv : w.cell? ⟨vb, vo + f, none⟩ = some (.int .i64 v)) :
    Calls Try.prog 91 #[.agg #[.int .i64 x, .int .i64 y], .pointer (some ⟨b5, 0, none⟩), .pointer (some ⟨b11, 0, none⟩)] w fun e w' => e = .returned (.bool (decide (x = v))) ∧ w.grows w' := by
  unfold maxLen at hvc
  go_enter Try.func91, Try.ntmps91
  by_cases hx : x = v
  · subst hx
    go_wp2
    (refine wp_region_calm (by kernel_rfl) (by kernel_rfl) ?_; (repeat (refine wpCalm_step (fun K hK => ?_); go_simp; first | (refine hK _ ?_; clear hK K) | (apply Exists.intro; refine ⟨fun n' x' => ?_, hK _ ?_⟩; (fail); clear hK K))); refine wpCalm_nil ?_; intro nq xq)
    go_wp2
    go_ret
    exact ⟨by simp, by (repeat (first | exact World.grows.refl _ | assumption | refine World.grows.alloc ?_ _ | refine World.grows.plus ?_ _ _ | refine World.grows.drew ?_))⟩
  · have hxb : (x == v) = false := beq_eq_false_iff_ne.2 hx
    go_wp2
    (refine wp_region_calm (by kernel_rfl) (by kernel_rfl) ?_; (repeat (refine wpCalm_step (fun K hK => ?_); go_simp; first | (refine hK _ ?_; clear hK K) | (apply Exists.intro; refine ⟨fun n' x' => ?_, hK _ ?_⟩; (fail); clear hK K))); refine wpCalm_nil ?_; intro nq xq)
    go_wp2
    go_ret
    exact ⟨by simp [hx], by (repeat (first | exact World.grows.refl _ | assumption | refine World.grows.alloc ?_ _ | refine World.grows.plus ?_ _ _ | refine World.grows.drew ?_))⟩

theorem Tr.Ok.first_some {t : Tr} {nc : Nat} (h : t.Ok nc) {i : Nat} (hi : i < t.n) {x : Int} {b : Nat} (hb : t.branch i x = some b) : fstIdx (fun b => decide (t.bv i b = x)) (t.nb i) = b := by
  obtain ⟨h1, h2⟩ := Tr.branch_some hb
  exact fstIdx_at _ _ b h1 (fun a ha => by have := h.up' hi a b ha h1; simp; omega) (by simpa using h2)
theorem Tr.first_none {t : Tr} {i : Nat} {x : Int} (hb : t.branch i x = none) : fstIdx (fun b => decide (t.bv i b = x)) (t.nb i) = -1 :=
  fstIdx_none _ _ fun a ha => by simpa using Tr.branch_none hb a ha
/-- what a tree answers: the maker, the cost, whether it says something -/
def Tr.fM (t : Tr) (v : Nat → Int) : Int := if (t.look v t.root).2 = 0 then 0 else -1 - (t.look v t.root).2
def Tr.fC (t : Tr) (cost v : Nat → Int) : Int := if (t.look v t.root).2 = 0 then 0 else costSum cost (t.look v t.root).1
def Tr.fB (t : Tr) (v : Nat → Int) : Bool := decide ((t.look v t.root).2 ≠ 0)
theorem Tr.f_zero {t : Tr} {v : Nat → Int} {L : List Nat} (cost : Nat → Int) (h : t.look v t.root = (L, 0)) : t.fM v = 0 ∧ t.fC cost v = 0 ∧ t.fB v = false := by
  unfold Tr.fM Tr.fC Tr.fB; rw [h]; exact ⟨rfl, rfl, rfl⟩
theorem Tr.f_some {t : Tr} {v : Nat → Int} {L : List Nat} {E : Int} (cost : Nat → Int) (h : t.look v t.root = (L, E)) (hE : E ≠ 0) : t.fM v = -1 - E ∧ t.fC cost v = costSum cost L ∧ t.fB v = true := by
  unfold Tr.fM Tr.fC Tr.fB; rw [h]; dsimp only; rw [if_neg hE, if_neg hE]; exact ⟨rfl, rfl, by simp [hE]⟩
theorem price_push {cost : Nat → Int} {nc : Nat} (hc : ∀ f, f < nc → 1 ≤ cost f ∧ cost f ≤ 1000) (L : List Nat) (hL : ∀ f ∈ L, f < nc) (f : Nat) : costSum cost (L ++ [f]) = costSum cost L + cost f := costSum_snoc cost f L

set_option maxRecDepth 100000 in
set_option maxHeartbeats 4000000 in
theorem follow_c (w : World) (mv : Value) (r : Reg) (ca : Option Addr) (cc : Nat) (hcv : IntsAt w (.slice ca r.nc cc) r.nc r.cost) (hcb : ∀ f, f < r.nc → 1 ≤ r.cost f ∧ r.cost f ≤ 1000) (nv : Value) (t : Tr) (hn : NodesAt w nv t) (ht : t.Ok r.nc) (vv : Value) (v : Nat → Int) (hv : IntsAt w vv r.nc v) :
    Calls Try.prog 53 #[.agg #[mv, .slice ca r.nc cc], .agg #[.int .i64 t.root, nv], vv] w fun e w' =>
      e = .returned (.tuple #[.int .i64 (t.fM v), .int .i64 (t.fC r.cost v), .bool (t.fB v)]) ∧ w.grows w' := by
  obtain ⟨na, ncap, rfl, h1, h2, nb, no, bb, bo, bc, hna, hN⟩ := hn.open
  obtain ⟨va, vc, rfl, hvc1, hvc2, hv⟩ := hv
  obtain ⟨_, _, he, hcc1, hcc2, hc⟩ := hcv
  simp only [Value.slice.injEq, true_and] at he
  obtain ⟨rfl, rfl⟩ := he
  have HN := Lib.hid hN
  have Hv := Lib.hid hv
  have Hc := Lib.hid hc
  have Ht := Lib.hid ht
  have Hcb := Lib.hid hcb
  have Hvc := Lib.hid hvc2
  have hroot := ht.root
  have hn100 := ht.n
  have hlt0 := Lib.hid (ht.look_lt v)
  have hll0 := Lib.hid (ht.look_len v)
  have hbd := Lib.hid (ht.look_bd v)
  unfold maxLen at h2 hvc2 hcc2
  clear hn hN hv hc ht hcb
  go_enter Try.func53, Try.ntmps53
  go_wp2
  go_loopw [9, 10] (fun p c wr => ∃ (L : List Nat) (x : Int), p = .int .i64 x ∧ c = .int .i64 (costSum r.cost L) ∧ ((0 ≤ x ∧ x < t.n) ∨ (-1001 ≤ x ∧ x < 0)) ∧ (0 ≤ x → (L.length : Int) ≤ x) ∧ Hid (∀ f ∈ L, f < r.nc) ∧ Hid (t.look v t.root = (L ++ (t.look v x).1, (t.look v x).2)) ∧ (((w.alloc (.cells #[mv, .slice ca r.nc cc] 25)).alloc (.cells #[.int .i64 t.root, .slice na t.n ncap] 28)).alloc (.cells #[.slice va r.nc vc] 29)).grows wr) (fun p _ _ => (match p with | .int _ x => if x < 0 then 0 else t.n - x.toNat + 1 | _ => 0))
  case atStart => exact ⟨[], t.root, rfl, rfl, by omega, fun _ => by simp; omega, Lib.hid fun f hf => by simp at hf, Lib.hid rfl, by (repeat (first | exact World.grows.refl _ | assumption | refine World.grows.alloc ?_ _ | refine World.grows.plus ?_ _ _ | refine World.grows.drew ?_))⟩
  case round =>
    obtain ⟨L, x, rfl, rfl, hx, hL2, hLn, hlk, hg⟩ := hrel
    have b1 := hg.cell_of (a := ⟨w.heap.size, 1, none⟩) (by simp [go_sem]; rfl)
    have b3 := hg.cell_of (a := ⟨w.heap.size + 1, 1, none⟩) (by simp [go_sem]; rfl)
    have b5 := hg.cell_of (a := ⟨w.heap.size + 2, 0, none⟩) (by simp [go_sem]; rfl)
    have hgw : w.grows wr := World.grows.trans (by (repeat (first | exact World.grows.refl _ | assumption | refine World.grows.alloc ?_ _ | refine World.grows.plus ?_ _ _ | refine World.grows.drew ?_))) hg
    have Hg := Lib.hid hg
    have Hgw := Lib.hid hgw
    have HNr := Lib.hid (HN.out.mono hgw)
    clear hg hgw
    by_cases h0 : 0 ≤ x
    · have hxn : x < t.n := by omega
      obtain ⟨p, rfl⟩ : ∃ p : Nat, x = p := ⟨x.toNat, by omega⟩
      have hp : p < t.n := by omega
      have hnn := hna (by omega)
      subst hnn
      have hL3 := hL2 h0
      obtain ⟨a, hr1, hr2⟩ := HNr.out.row p hp
      have h3 := HNr.out.feat p hp
      obtain ⟨hc1, hc2⟩ := HNr.out.cap p hp
      have HS := Lib.hid (HNr.out.sliceAt hp hr2)
      unfold maxLen at hc2
      have hfe := Ht.out.feat p hp
      obtain ⟨f, hf⟩ : ∃ f : Nat, t.feat p = f := ⟨(t.feat p).toNat, by omega⟩
      have hfn : f < r.nc := by omega
      have hft : t.ft p = f := by unfold Tr.ft; simp [hf]
      obtain ⟨vb, vo, hva, hvf⟩ := Hv.out f 0 hfn (by omega)
      obtain ⟨cb, co, hca, hcf⟩ := Hc.out f 0 hfn (by omega)
      subst hva
      subst hca
      simp only [Nat.mul_one, Nat.add_zero] at hvf hcf
      have hvf' := Hgw.out.cell_of hvf
      have hcf' := Hgw.out.cell_of hcf
      have Hvf := Lib.hid hvf'
      have hb := costSum_bd Hcb.out L hLn.out
      have hpush := Lib.hid (costSum_snoc r.cost f L)
      have hcf2 := Hcb.out f hfn
      have hLn2 := Lib.hid (show ∀ g ∈ L ++ [f], g < r.nc from fun g hg => by rcases List.mem_append.1 hg with h | h; exact hLn.out g h; simp at h; omega)
      obtain ⟨S, hS⟩ : ∃ S, costSum r.cost L = S := ⟨_, rfl⟩
      rw [hS] at hb hpush ⊢
      have hws : IntKind.i64.wrap (S + r.cost f) = S + r.cost f := wrapI rfl (by omega)
      rw [hf] at h3
      have HB5 := Lib.hid b5
      have h90 := fun W h hq => idx90 W (.slice a (t.nb p) (bc p)) (t.nb p) (bcell (t.bv p) (t.bt p)) 91 #[.pointer (some ⟨w.heap.size + 2, 0, none⟩), .pointer (some ⟨wr.heap.size, 0, none⟩)] (fun b => decide (t.bv p b = v f)) h (fun args w => by simp [go_sem]) hq
      have h91 : ∀ b, b < t.nb p → ∀ W : World, (wr.alloc (.cells #[.int .i64 f, .slice a (t.nb p) (bc p)] 83)).grows W → Calls Try.prog 91 (#[.agg #[bcell (t.bv p) (t.bt p) b 0, bcell (t.bv p) (t.bt p) b 1]] ++ #[.pointer (some ⟨w.heap.size + 2, 0, none⟩), .pointer (some ⟨wr.heap.size, 0, none⟩)]) W fun e W' => e = .returned (.bool (decide (t.bv p b = v f))) ∧ W.grows W' := by
        intro b hbb W hW
        have e1 : (wr.alloc (.cells #[.int .i64 f, .slice a (t.nb p) (bc p)] 83)).cell? ⟨wr.heap.size, 0, none⟩ = some (.int .i64 f) := by simp [go_sem]
        exact fits_c W (t.bv p b) (t.bt p b) _ _ vb vo r.nc vc f (v f) hfn hvc1 Hvc.out (World.grows.cell_of (World.grows.trans (by (repeat (first | exact World.grows.refl _ | assumption | refine World.grows.alloc ?_ _ | refine World.grows.plus ?_ _ _ | refine World.grows.drew ?_))) hW) HB5.out) (by rw [hW.cell (by rw [e1]; rfl), e1]) (World.grows.cell_of (World.grows.trans (by (repeat (first | exact World.grows.refl _ | assumption | refine World.grows.alloc ?_ _ | refine World.grows.plus ?_ _ _ | refine World.grows.drew ?_))) hW) Hvf.out)
      have H91 := Lib.hid h91
      clear h91 hfe hS hf hvf hcf hvf'
      cases hbr : t.branch p (v f) with
      | none =>
        have hlk2 := Lib.hid (Ht.out.look_none v h0 hxn (by rw [hft]; exact hbr))
        rw [Tr.first_none hbr] at h90
        clear hbr
        go_wp2_with (go_at_call 90; refine (h90 _ (HS.out.mono (by (repeat (first | exact World.grows.refl _ | assumption | refine World.grows.alloc ?_ _ | refine World.grows.plus ?_ _ _ | refine World.grows.drew ?_)))) (fun i hi W hW => H91.out i hi W (World.grows.trans (by (repeat (first | exact World.grows.refl _ | assumption | refine World.grows.alloc ?_ _ | refine World.grows.plus ?_ _ _ | refine World.grows.drew ?_))) hW))).mono ?_; rintro e w' ⟨rfl, hg⟩; obtain ⟨n2, x2, rfl⟩ := World.plus_of hg)
        (refine bodyPost_ret (v := .tuple #[.int .i64 0, .int .i64 0, .bool false]) (by simp [results, Try.results53, go_sem]) rfl ?_)
        have hz := Tr.f_zero (L := L ++ [t.ft p]) r.cost (hlk.out.trans (by rw [hlk2.out]))
        exact ⟨by rw [hz.1, hz.2.1, hz.2.2], Hgw.out.trans (by (repeat (first | exact World.grows.refl _ | assumption | refine World.grows.alloc ?_ _ | refine World.grows.plus ?_ _ _ | refine World.grows.drew ?_)))⟩
      | some b =>
        obtain ⟨hb1, hb2⟩ := Tr.branch_some hbr
        have hbt := Ht.out.bt' hp hb1
        have hlk2 := Lib.hid (Ht.out.look_some v h0 hxn (by rw [hft]; exact hbr))
        rw [Ht.out.first_some hp hbr] at h90
        have haa := hr2 (by omega)
        subst haa
        have hto := HNr.out.to p b hp hb1
        clear hbr hb2
        go_wp2_with (go_at_call 90; refine (h90 _ (HS.out.mono (by (repeat (first | exact World.grows.refl _ | assumption | refine World.grows.alloc ?_ _ | refine World.grows.plus ?_ _ _ | refine World.grows.drew ?_)))) (fun i hi W hW => H91.out i hi W (World.grows.trans (by (repeat (first | exact World.grows.refl _ | assumption | refine World.grows.alloc ?_ _ | refine World.grows.plus ?_ _ _ | refine World.grows.drew ?_))) hW))).mono ?_; rintro e w' ⟨rfl, hg⟩; obtain ⟨n2, x2, rfl⟩ := World.plus_of hg)
        go_roundw
        case rel =>
          refine ⟨L ++ [f], t.bt p b, rfl, by rw [hpush.out], by omega, fun _ => by simp; omega, hLn2, Lib.hid ?_, Hg.out.trans (by (repeat (first | exact World.grows.refl _ | assumption | refine World.grows.alloc ?_ _ | refine World.grows.plus ?_ _ _ | refine World.grows.drew ?_)))⟩
          rw [hlk.out, hlk2.out, hft]; simp
        case measure =>
          show (if t.bt p b < 0 then 0 else t.n - (t.bt p b).toNat + 1) < (if (p : Int) < 0 then 0 else t.n - (p : Int).toNat + 1)
          rw [if_neg (show ¬ (p : Int) < 0 by omega)]
          by_cases hz : t.bt p b < 0
          · rw [if_pos hz]; omega
          · rw [if_neg hz]; omega
    · have hx0 : x < 0 := by omega
      have hle := Lib.hid (t.look_end v hx0)
      have hwx : IntKind.i64.wrap (-1 - x) = -1 - x := wrapI rfl (by omega)
      go_wp2
      (refine bodyPost_ret (v := .tuple #[.int .i64 (-1 - x), .int .i64 (costSum r.cost L), .bool true]) (by simp [results, Try.results53, go_sem]) rfl ?_)
      refine ⟨?_, Hgw.out.trans (by (repeat (first | exact World.grows.refl _ | assumption | refine World.grows.alloc ?_ _ | refine World.grows.plus ?_ _ _ | refine World.grows.drew ?_)))⟩
      have hz := Tr.f_some (L := L) (E := x) r.cost (hlk.out.trans (by rw [hle.out]; simp)) (by omega)
      rw [hz.1, hz.2.1, hz.2.2]
end Go.Proofs.Ytdminglglapnlaa

/-
  What is proved: Follow (17) and CheckTree (19) of the program.
-/
namespace Go.Proofs.Ytdminglglapnlaa
open Go.RowKit
attribute [local irreducible] Go.wpCalm

theorem valuesB_out (v : Nat → Int) (n : Nat) : valuesB v n = (List.range n).any fun i => outB 0 9 (v i) := rfl
set_option maxHeartbeats 2000000 in
theorem pfollow_c (w : World) (rv : Value) (r : Reg) (hr : RegAt w rv r) (tv : Value) (t : Tr) (ht : TreeAt w tv t) (vv : Value) (n : Nat) (v : Nat → Int) (hv : IntsAt w vv n v) :
    Calls Try.prog 17 #[rv, tv, vv] w fun e w' => e = .returned (.tuple #[.int .i64 (t.followA r n v), .int .i64 (t.followC r n v), .int .i64 (t.followE r n v)]) ∧ w.grows w' := by
  have Hr := Lib.hid hr
  have Ht := Lib.hid ht
  have Hv := Lib.hid hv
  obtain ⟨mv, cv, mrow, rfl, -, hcv, -⟩ := hr
  have Hcv := Lib.hid hcv
  obtain ⟨ca, cc, rfl, hc1, hc2, -⟩ := hcv
  obtain ⟨nv, rfl, hnv⟩ := ht
  have Hnv := Lib.hid hnv
  obtain ⟨va, vc, rfl, hv1, hv2, -⟩ := hv
  unfold maxLen at hc2 hv2
  have h51 := fun W h1 h2 => checkTree_c W (.agg #[mv, .slice ca r.nc cc]) r h1 (.agg #[.int .i64 t.root, nv]) t h2
  have h52 := fun W h => c52 W 0 9 n v (.slice va n vc) h
  clear hnv
  go_enter Try.func17, Try.ntmps17
  by_cases hc : t.check r ≠ 0
  · have hA := Lib.hid (Tr.followE_bad (n := n) (v := v) hc)
    have hcb : (t.check r == 0) = false := beq_eq_false_iff_ne.2 hc
    go_wp2_with (go_at_call 51; refine (h51 _ (Hr.out.mono (by (repeat (first | exact World.grows.refl _ | assumption | refine World.grows.alloc ?_ _ | refine World.grows.plus ?_ _ _ | refine World.grows.drew ?_)))) (Ht.out.mono (by (repeat (first | exact World.grows.refl _ | assumption | refine World.grows.alloc ?_ _ | refine World.grows.plus ?_ _ _ | refine World.grows.drew ?_))))).mono ?_; rintro e w' ⟨rfl, hg⟩; obtain ⟨n2, x2, rfl⟩ := World.plus_of hg)
    (refine bodyPost_ret (v := .tuple #[.int .i64 0, .int .i64 0, .int .i64 (t.check r)]) (by simp [results, Try.results17, go_sem]) rfl ?_)
    exact ⟨by rw [hA.out.1, hA.out.2.1, hA.out.2.2], by (repeat (first | exact World.grows.refl _ | assumption | refine World.grows.alloc ?_ _ | refine World.grows.plus ?_ _ _ | refine World.grows.drew ?_))⟩
  replace hc : t.check r = 0 := Classical.not_not.1 hc
  rw [hc] at h51
  have Hc := Lib.hid hc
  have hok := Lib.hid ((t.ok_iff r).1 hc)
  clear hc
  by_cases hn : n = r.nc
  · subst hn
    cases hb : valuesB v r.nc with
    | true =>
      have hA := Lib.hid (Tr.followE_3 Hc.out hb)
      rw [← valuesB_out, hb] at h52
      clear hb
      go_wp2_with (first
        | (go_at_call 51; refine (h51 _ (Hr.out.mono (by (repeat (first | exact World.grows.refl _ | assumption | refine World.grows.alloc ?_ _ | refine World.grows.plus ?_ _ _ | refine World.grows.drew ?_)))) (Ht.out.mono (by (repeat (first | exact World.grows.refl _ | assumption | refine World.grows.alloc ?_ _ | refine World.grows.plus ?_ _ _ | refine World.grows.drew ?_))))).mono ?_; rintro e w' ⟨rfl, hg⟩; obtain ⟨n2, x2, rfl⟩ := World.plus_of hg)
        | (go_at_call 52; refine (h52 _ (Hv.out.mono (by (repeat (first | exact World.grows.refl _ | assumption | refine World.grows.alloc ?_ _ | refine World.grows.plus ?_ _ _ | refine World.grows.drew ?_))))).mono ?_; rintro e w' ⟨rfl, hg⟩; obtain ⟨n3, x3, rfl⟩ := World.plus_of hg))
      (refine bodyPost_ret (v := .tuple #[.int .i64 0, .int .i64 0, .int .i64 3]) (by simp [results, Try.results17, go_sem]) rfl ?_)
      exact ⟨by rw [hA.out.1, hA.out.2.1, hA.out.2.2], by (repeat (first | exact World.grows.refl _ | assumption | refine World.grows.alloc ?_ _ | refine World.grows.plus ?_ _ _ | refine World.grows.drew ?_))⟩
    | false =>
      have Hb := Lib.hid hb
      rw [← valuesB_out, hb] at h52
      clear hb
      have hsay := hok.out.2.say_eq v
      have h53 := fun W h1 h2 h3 => follow_c W mv r ca cc h1 (Reg.ok_of hok.out.1).cost nv t h2 hok.out.2 (.slice va r.nc vc) v h3
      obtain ⟨T, hT⟩ : ∃ T, t.look v t.root = T := ⟨_, rfl⟩
      obtain ⟨L, E⟩ := T
      rw [hT] at hsay
      dsimp only at hsay
      by_cases hE : E = 0
      · subst hE
        obtain ⟨z1, z2, z3⟩ := Tr.f_zero r.cost hT
        rw [if_pos rfl] at hsay
        have hA := Lib.hid (Tr.followE_5 Hc.out Hb.out hsay)
        rw [z1, z2, z3] at h53
        clear hsay hT z1 z2 z3
        go_wp2_with (first
          | (go_at_call 51; refine (h51 _ (Hr.out.mono (by (repeat (first | exact World.grows.refl _ | assumption | refine World.grows.alloc ?_ _ | refine World.grows.plus ?_ _ _ | refine World.grows.drew ?_)))) (Ht.out.mono (by (repeat (first | exact World.grows.refl _ | assumption | refine World.grows.alloc ?_ _ | refine World.grows.plus ?_ _ _ | refine World.grows.drew ?_))))).mono ?_; rintro e w' ⟨rfl, hg⟩; obtain ⟨n2, x2, rfl⟩ := World.plus_of hg)
          | (go_at_call 52; refine (h52 _ (Hv.out.mono (by (repeat (first | exact World.grows.refl _ | assumption | refine World.grows.alloc ?_ _ | refine World.grows.plus ?_ _ _ | refine World.grows.drew ?_))))).mono ?_; rintro e w' ⟨rfl, hg⟩; obtain ⟨n3, x3, rfl⟩ := World.plus_of hg)
          | (go_at_call 53; refine (h53 _ (Hcv.out.mono (by (repeat (first | exact World.grows.refl _ | assumption | refine World.grows.alloc ?_ _ | refine World.grows.plus ?_ _ _ | refine World.grows.drew ?_)))) (Hnv.out.mono (by (repeat (first | exact World.grows.refl _ | assumption | refine World.grows.alloc ?_ _ | refine World.grows.plus ?_ _ _ | refine World.grows.drew ?_)))) (Hv.out.mono (by (repeat (first | exact World.grows.refl _ | assumption | refine World.grows.alloc ?_ _ | refine World.grows.plus ?_ _ _ | refine World.grows.drew ?_))))).mono ?_; rintro e w' ⟨rfl, hg⟩; obtain ⟨n4, x4, rfl⟩ := World.plus_of hg))
        (refine bodyPost_ret (v := .tuple #[.int .i64 0, .int .i64 0, .int .i64 5]) (by simp [results, Try.results17, go_sem]) rfl ?_)
        exact ⟨by rw [hA.out.1, hA.out.2.1, hA.out.2.2], by (repeat (first | exact World.grows.refl _ | assumption | refine World.grows.alloc ?_ _ | refine World.grows.plus ?_ _ _ | refine World.grows.drew ?_))⟩
      · obtain ⟨z1, z2, z3⟩ := Tr.f_some r.cost hT hE
        rw [if_neg hE] at hsay
        have hA := Lib.hid (Tr.followE_0 Hc.out Hb.out hsay)
        rw [z1, z2, z3] at h53
        clear hsay hT z1 z2 z3
        go_wp2_with (first
          | (go_at_call 51; refine (h51 _ (Hr.out.mono (by (repeat (first | exact World.grows.refl _ | assumption | refine World.grows.alloc ?_ _ | refine World.grows.plus ?_ _ _ | refine World.grows.drew ?_)))) (Ht.out.mono (by (repeat (first | exact World.grows.refl _ | assumption | refine World.grows.alloc ?_ _ | refine World.grows.plus ?_ _ _ | refine World.grows.drew ?_))))).mono ?_; rintro e w' ⟨rfl, hg⟩; obtain ⟨n2, x2, rfl⟩ := World.plus_of hg)
          | (go_at_call 52; refine (h52 _ (Hv.out.mono (by (repeat (first | exact World.grows.refl _ | assumption | refine World.grows.alloc ?_ _ | refine World.grows.plus ?_ _ _ | refine World.grows.drew ?_))))).mono ?_; rintro e w' ⟨rfl, hg⟩; obtain ⟨n3, x3, rfl⟩ := World.plus_of hg)
          | (go_at_call 53; refine (h53 _ (Hcv.out.mono (by (repeat (first | exact World.grows.refl _ | assumption | refine World.grows.alloc ?_ _ | refine World.grows.plus ?_ _ _ | refine World.grows.drew ?_)))) (Hnv.out.mono (by (repeat (first | exact World.grows.refl _ | assumption | refine World.grows.alloc ?_ _ | refine World.grows.plus ?_ _ _ | refine World.grows.drew ?_)))) (Hv.out.mono (by (repeat (first | exact World.grows.refl _ | assumption | refine World.grows.alloc ?_ _ | refine World.grows.plus ?_ _ _ | refine World.grows.drew ?_))))).mono ?_; rintro e w' ⟨rfl, hg⟩; obtain ⟨n4, x4, rfl⟩ := World.plus_of hg))
        (refine bodyPost_ret (v := .tuple #[.int .i64 (-1 - E), .int .i64 (costSum r.cost L), .int .i64 0]) (by simp [results, Try.results17, go_sem]) rfl ?_)
        exact ⟨by rw [hA.out.1, hA.out.2.1, hA.out.2.2], by (repeat (first | exact World.grows.refl _ | assumption | refine World.grows.alloc ?_ _ | refine World.grows.plus ?_ _ _ | refine World.grows.drew ?_))⟩
  · have hA := Lib.hid (Tr.followE_15 (v := v) Hc.out hn)
    have hn' : ¬ ((n : Int) = (r.nc : Int)) := by omega
    have hnb : ((n : Int) == (r.nc : Int)) = false := beq_eq_false_iff_ne.2 hn'
    go_wp2_with (go_at_call 51; refine (h51 _ (Hr.out.mono (by (repeat (first | exact World.grows.refl _ | assumption | refine World.grows.alloc ?_ _ | refine World.grows.plus ?_ _ _ | refine World.grows.drew ?_)))) (Ht.out.mono (by (repeat (first | exact World.grows.refl _ | assumption | refine World.grows.alloc ?_ _ | refine World.grows.plus ?_ _ _ | refine World.grows.drew ?_))))).mono ?_; rintro e w' ⟨rfl, hg⟩; obtain ⟨n2, x2, rfl⟩ := World.plus_of hg)
    (refine bodyPost_ret (v := .tuple #[.int .i64 0, .int .i64 0, .int .i64 15]) (by simp [results, Try.results17, go_sem]) rfl ?_)
    exact ⟨by rw [hA.out.1, hA.out.2.1, hA.out.2.2], by (repeat (first | exact World.grows.refl _ | assumption | refine World.grows.alloc ?_ _ | refine World.grows.plus ?_ _ _ | refine World.grows.drew ?_))⟩

theorem RegIn.ints' {w : World} {mb mo cb co : Nat} {rb ro rc : Nat → Nat} {r : Reg} (h : RegIn w mb mo cb co rb ro rc r) {m : Nat} (hm : m < r.nm) :
    IntsAt w (.slice (some ⟨rb m, ro m, none⟩) r.nc (rc m)) r.nc (r.val m) :=
  ⟨_, _, rfl, (h.cap m hm).1, (h.cap m hm).2, fun f j hf hj => ⟨_, _, rfl, by
    have : j = 0 := by omega
    subst this
    simpa using h.val m f hm hf⟩⟩
set_option maxHeartbeats 4000000 in
theorem ptree_c (w : World) (rv : Value) (r : Reg) (hr : RegAt w rv r) (tv : Value) (t : Tr) (ht : TreeAt w tv t) :
    Calls Try.prog 19 #[rv, tv] w fun e w' => e = .returned (.tuple #[.int .i64 (t.treeA r), .int .i64 (t.treeE r)]) ∧ w.grows w' := by
  have Hr := Lib.hid hr
  have Ht := Lib.hid ht
  obtain ⟨mv, cv, mrow, rfl, -, hcv, -⟩ := hr
  have Hcv := Lib.hid hcv
  obtain ⟨ca, cc, rfl, hc1, hc2, -⟩ := hcv
  obtain ⟨nv, rfl, hnv⟩ := ht
  have Hnv := Lib.hid hnv
  have h51 := fun W h1 h2 => checkTree_c W (.agg #[mv, .slice ca r.nc cc]) r h1 (.agg #[.int .i64 t.root, nv]) t h2
  clear hnv
  go_enter Try.func19, Try.ntmps19
  by_cases hc : t.check r ≠ 0
  · have hA := Lib.hid (Tr.treeE_bad (r := r) hc)
    have hcb : (t.check r == 0) = false := beq_eq_false_iff_ne.2 hc
    go_wp2_with (go_at_call 51; refine (h51 _ (Hr.out.mono (by (repeat (first | exact World.grows.refl _ | assumption | refine World.grows.alloc ?_ _ | refine World.grows.plus ?_ _ _ | refine World.grows.drew ?_)))) (Ht.out.mono (by (repeat (first | exact World.grows.refl _ | assumption | refine World.grows.alloc ?_ _ | refine World.grows.plus ?_ _ _ | refine World.grows.drew ?_))))).mono ?_; rintro e w' ⟨rfl, hg⟩; obtain ⟨n2, x2, rfl⟩ := World.plus_of hg)
    (refine bodyPost_ret (v := .tuple #[.int .i64 0, .int .i64 (t.check r)]) (by simp [results, Try.results19, go_sem]) rfl ?_)
    exact ⟨by rw [hA.out.1, hA.out.2], by (repeat (first | exact World.grows.refl _ | assumption | refine World.grows.alloc ?_ _ | refine World.grows.plus ?_ _ _ | refine World.grows.drew ?_))⟩
  replace hc : t.check r = 0 := Classical.not_not.1 hc
  rw [hc] at h51
  have Hc := Lib.hid hc
  have hok := Lib.hid ((t.ok_iff r).1 hc)
  have hRk := Lib.hid (Reg.ok_of hok.out.1)
  obtain ⟨mb, mo, mc, cb, co, cc', rb, ro, rc, he, hm1, hm2, -, -, hR⟩ := Hr.out.ok hRk.out
  simp only [Value.agg.injEq, Array.mk.injEq, List.cons.injEq, Value.slice.injEq, true_and, and_true] at he
  obtain ⟨rfl, rfl, rfl⟩ := he
  have HR := Lib.hid hR
  unfold maxLen at hm2 hc2
  clear hc hR
  go_wp2_with (go_at_call 51; refine (h51 _ (Hr.out.mono (by (repeat (first | exact World.grows.refl _ | assumption | refine World.grows.alloc ?_ _ | refine World.grows.plus ?_ _ _ | refine World.grows.drew ?_)))) (Ht.out.mono (by (repeat (first | exact World.grows.refl _ | assumption | refine World.grows.alloc ?_ _ | refine World.grows.plus ?_ _ _ | refine World.grows.drew ?_))))).mono ?_; rintro e w' ⟨rfl, hg⟩; obtain ⟨n2, x2, rfl⟩ := World.plus_of hg)
  go_loopw [7, 22] (fun s i wr => ∃ k : Nat, k ≤ r.nm ∧ i = .int .i64 k ∧ s = .int .i64 (mx (t.costAt r) k) ∧ Hid (∀ j, j < k → t.tellsB r j = true) ∧ ((w.alloc (.cells #[.slice (some ⟨mb, mo, none⟩) r.nm mc, .slice (some ⟨cb, co, none⟩) r.nc cc] 25)).alloc (.cells #[.int .i64 t.root, nv] 28)).grows wr) (fun _ i _ => r.nm - (intOf i).toNat)
  case atStart => exact ⟨0, by omega, rfl, rfl, Lib.hid fun j hj => by omega, by (repeat (first | exact World.grows.refl _ | assumption | refine World.grows.alloc ?_ _ | refine World.grows.plus ?_ _ _ | refine World.grows.drew ?_))⟩
  case round =>
    obtain ⟨k, hk, rfl, rfl, hl, hg⟩ := hrel
    have b0 := hg.cell_of (a := ⟨w.heap.size, 0, none⟩) (by simp [go_sem]; rfl)
    have b1 := hg.cell_of (a := ⟨w.heap.size, 1, none⟩) (by simp [go_sem]; rfl)
    have b2 := hg.cell_of (a := ⟨w.heap.size + 1, 0, none⟩) (by simp [go_sem]; rfl)
    have b3 := hg.cell_of (a := ⟨w.heap.size + 1, 1, none⟩) (by simp [go_sem]; rfl)
    have hgw : w.grows wr := World.grows.trans (by (repeat (first | exact World.grows.refl _ | assumption | refine World.grows.alloc ?_ _ | refine World.grows.plus ?_ _ _ | refine World.grows.drew ?_))) hg
    have Hg := Lib.hid hg
    have Hgw := Lib.hid hgw
    clear hg hgw
    by_cases hlt : k < r.nm
    · have h0 := Hgw.out.cell_of (HR.out.who k hlt)
      have h1 := Hgw.out.cell_of (HR.out.row k hlt)
      have hi := Lib.hid ((HR.out.ints' hlt).mono Hgw.out)
      have hcv' := Lib.hid (Hcv.out.mono Hgw.out)
      have hnv' := Lib.hid (Hnv.out.mono Hgw.out)
      have h53 := fun W h1 h2 h3 => follow_c W (.slice (some ⟨mb, mo, none⟩) r.nm mc) r (some ⟨cb, co, none⟩) cc h1 hRk.out.cost nv t h2 hok.out.2 (.slice (some ⟨rb k, ro k, none⟩) r.nc (rc k)) (r.val k) h3
      have hsay := hok.out.2.say_eq (r.val k)
      have hmb := mx_bd (c := 100000) (by decide) k (fun i => (costAt_bd hRk.out hok.out.2 i).2)
      obtain ⟨T, hT⟩ : ∃ T, t.look (r.val k) t.root = T := ⟨_, rfl⟩
      obtain ⟨L, E⟩ := T
      rw [hT] at hsay
      dsimp only at hsay
      by_cases hE : E = 0
      · subst hE
        obtain ⟨z1, z2, z3⟩ := Tr.f_zero r.cost hT
        rw [if_pos rfl] at hsay
        have hA := Lib.hid (Tr.treeE_24 Hc.out hlt (Tr.tells_none hsay))
        rw [z1, z2, z3] at h53
        clear hsay hT z1 z2 z3
        go_wp2_with (go_at_call 53; refine (h53 _ (hcv'.out.mono (by (repeat (first | exact World.grows.refl _ | assumption | refine World.grows.alloc ?_ _ | refine World.grows.plus ?_ _ _ | refine World.grows.drew ?_)))) (hnv'.out.mono (by (repeat (first | exact World.grows.refl _ | assumption | refine World.grows.alloc ?_ _ | refine World.grows.plus ?_ _ _ | refine World.grows.drew ?_)))) (hi.out.mono (by (repeat (first | exact World.grows.refl _ | assumption | refine World.grows.alloc ?_ _ | refine World.grows.plus ?_ _ _ | refine World.grows.drew ?_))))).mono ?_; rintro e w' ⟨rfl, hg⟩; obtain ⟨n4, x4, rfl⟩ := World.plus_of hg)
        (refine bodyPost_ret (v := .tuple #[.int .i64 0, .int .i64 24]) (by simp [results, Try.results19, go_sem]) rfl ?_)
        exact ⟨by rw [hA.out.1, hA.out.2], Hgw.out.trans (by (repeat (first | exact World.grows.refl _ | assumption | refine World.grows.alloc ?_ _ | refine World.grows.plus ?_ _ _ | refine World.grows.drew ?_)))⟩
      · obtain ⟨z1, z2, z3⟩ := Tr.f_some r.cost hT hE
        rw [if_neg hE] at hsay
        obtain ⟨ht1, ht2⟩ := Tr.tells_some hsay
        dsimp only at ht1 ht2
        rw [z1, z2, z3] at h53
        have Hmx : Hid (mx (t.costAt r) (k + 1) = max (mx (t.costAt r) k) (costSum r.cost L)) := Lib.hid (by simp only [mx]; rw [ht2])
        obtain ⟨M, hM⟩ : ∃ M, mx (t.costAt r) k = M := ⟨_, rfl⟩
        rw [hM] at hmb Hmx ⊢
        clear hM hsay hT z1 z2 z3
        by_cases hw : -1 - E = r.who k
        · rw [← hw] at h0
          have hT : Hid (t.tellsB r k = true) := Lib.hid (by rw [ht1]; simp [hw])
          clear hw ht1 ht2
          go_wp2_with (go_at_call 53; refine (h53 _ (hcv'.out.mono (by (repeat (first | exact World.grows.refl _ | assumption | refine World.grows.alloc ?_ _ | refine World.grows.plus ?_ _ _ | refine World.grows.drew ?_)))) (hnv'.out.mono (by (repeat (first | exact World.grows.refl _ | assumption | refine World.grows.alloc ?_ _ | refine World.grows.plus ?_ _ _ | refine World.grows.drew ?_)))) (hi.out.mono (by (repeat (first | exact World.grows.refl _ | assumption | refine World.grows.alloc ?_ _ | refine World.grows.plus ?_ _ _ | refine World.grows.drew ?_))))).mono ?_; rintro e w' ⟨rfl, hg⟩; obtain ⟨n4, x4, rfl⟩ := World.plus_of hg)
          go_roundw
          case rel => exact ⟨k + 1, by omega, by go_num, by rw [Hmx.out, ← max_if], Lib.hid (upto_succ hl.out hT.out), Hg.out.trans (by (repeat (first | exact World.grows.refl _ | assumption | refine World.grows.alloc ?_ _ | refine World.grows.plus ?_ _ _ | refine World.grows.drew ?_)))⟩
          case measure => simp [intOf]; omega
        · have hT : t.tellsB r k = false := by rw [ht1]; simp [hw]
          have hA := Lib.hid (Tr.treeE_24 Hc.out hlt hT)
          have hwb : (-1 - E == r.who k) = false := beq_eq_false_iff_ne.2 hw
          clear hT ht1 ht2
          go_wp2_with (go_at_call 53; refine (h53 _ (hcv'.out.mono (by (repeat (first | exact World.grows.refl _ | assumption | refine World.grows.alloc ?_ _ | refine World.grows.plus ?_ _ _ | refine World.grows.drew ?_)))) (hnv'.out.mono (by (repeat (first | exact World.grows.refl _ | assumption | refine World.grows.alloc ?_ _ | refine World.grows.plus ?_ _ _ | refine World.grows.drew ?_)))) (hi.out.mono (by (repeat (first | exact World.grows.refl _ | assumption | refine World.grows.alloc ?_ _ | refine World.grows.plus ?_ _ _ | refine World.grows.drew ?_))))).mono ?_; rintro e w' ⟨rfl, hg⟩; obtain ⟨n4, x4, rfl⟩ := World.plus_of hg)
          (refine bodyPost_ret (v := .tuple #[.int .i64 0, .int .i64 24]) (by simp [results, Try.results19, go_sem]) rfl ?_)
          exact ⟨by rw [hA.out.1, hA.out.2], Hgw.out.trans (by (repeat (first | exact World.grows.refl _ | assumption | refine World.grows.alloc ?_ _ | refine World.grows.plus ?_ _ _ | refine World.grows.drew ?_)))⟩
    · have hke : k = r.nm := by omega
      have hA := Lib.hid (Tr.treeE_0 Hc.out (by rw [← hke]; exact hl.out))
      subst hke
      go_wp2
      (refine bodyPost_ret (v := .tuple #[.int .i64 (mx (t.costAt r) r.nm), .int .i64 0]) (by simp [results, Try.results19, go_sem]) rfl ?_)
      exact ⟨by rw [hA.out.1, hA.out.2], Hgw.out.trans (by (repeat (first | exact World.grows.refl _ | assumption | refine World.grows.alloc ?_ _ | refine World.grows.plus ?_ _ _ | refine World.grows.drew ?_)))⟩
end Go.Proofs.Ytdminglglapnlaa

/-
  What is proved: whether features tell the marks (78), in the program.
-/
namespace Go.Proofs.Ytdminglglapnlaa
open Go.RowKit
attribute [local irreducible] Go.wpCalm deskA rowI

set_option maxHeartbeats 4000000 in
theorem tells_c (w : World) (db mb : Nat) (r : Reg) (g : Nat → Int) (m : VM) (h : DeskR w db mb r g m) (hr : r.Ok) (s : Nat) (hs : s < 2 ^ r.nc) :
    Calls Try.prog 78 #[.pointer (some ⟨db, 0, none⟩), .int .i64 s] w fun e w' => e = .returned (.bool (r.tellB (bitsL 8 s))) ∧ w.grows w' := by
  obtain ⟨kb, ko, mc, cb, co, cc, rb, ro, rc, hD, hm1, hm2, hc1, hc2, hR⟩ := h
  have q0 := hD.mv
  have HR := Lib.hid hR
  have hm10 := hr.m10
  have hc8 := hr.c8
  have h64 := fun W => list64 W s 8 (Nat.lt_of_lt_of_le hs (Nat.pow_le_pow_right (by omega) hc8)) (by omega)
  have Hl := Lib.hid fun j (hj : j ∈ bitsL 8 s) => bitsL_lt hs hj
  have hlen := bitsL_length_le 8 s
  obtain ⟨L, hL⟩ : ∃ L, bitsL 8 s = L := ⟨_, rfl⟩
  rw [hL] at h64 Hl hlen
  rw [hL]
  unfold maxLen at hm2 hc2
  clear hD hR hr hs hL
  go_enter Try.func78, Try.ntmps78
  go_wp2
  go_loopw [18] (fun i wr => ∃ a : Nat, a ≤ r.nm ∧ i = .int .i64 a ∧ Hid (∀ x, x < a → ∀ y, y < x → r.partB L x y = true) ∧ w.grows wr) (fun i _ => r.nm - (intOf i).toNat)
  case atStart => exact ⟨0, by omega, rfl, Lib.hid fun j hj => by omega, by (repeat (first | exact World.grows.refl _ | assumption | refine World.grows.alloc ?_ _ | refine World.grows.plus ?_ _ _ | refine World.grows.drew ?_))⟩
  case round =>
    obtain ⟨a, ha, rfl, hl, hg⟩ := hrel
    obtain ⟨V1, rfl⟩ : ∃ V1, V1 = wr := ⟨_, rfl⟩
    have q1 := hg.cell_of q0
    have Hg := Lib.hid hg
    by_cases hlt : a < r.nm
    · have h1 := hg.cell_of (HR.out.who a hlt)
      have k1 := hg.cell_of (HR.out.row a hlt)
      obtain ⟨ac1, ac2⟩ := HR.out.cap a hlt
      unfold maxLen at ac2
      clear hg
      go_wp2
      clear h1 k1
      go_loopw [31] (fun i V2 => ∃ b : Nat, b ≤ a ∧ i = .int .i64 b ∧ Hid (∀ y, y < b → r.partB L a y = true) ∧ (V1.alloc (.cells #[.int .i64 (r.who a), .slice (some ⟨rb a, ro a, none⟩) r.nc (rc a)] 65)).grows V2) (fun i _ => a - (intOf i).toNat)
      case atStart => exact ⟨0, by omega, rfl, Lib.hid fun j hj => by omega, by (repeat (first | exact World.grows.refl _ | assumption | refine World.grows.alloc ?_ _ | refine World.grows.plus ?_ _ _ | refine World.grows.drew ?_))⟩
      case round =>
        obtain ⟨b, hb, rfl, hl2, hg2⟩ := hrel
        obtain ⟨V2, rfl⟩ : ∃ V2, V2 = wr := ⟨_, rfl⟩
        have d0 : V2.cell? ⟨V1.heap.size, 0, none⟩ = some (.int .i64 (r.who a)) := hg2.cell_of (by simp [go_sem])
        have d1 : V2.cell? ⟨V1.heap.size, 1, none⟩ = some (.slice (some ⟨rb a, ro a, none⟩) r.nc (rc a)) := hg2.cell_of (by simp [go_sem])
        have hgw2 : V1.grows V2 := World.grows.trans (by (repeat (first | exact World.grows.refl _ | assumption | refine World.grows.alloc ?_ _ | refine World.grows.plus ?_ _ _ | refine World.grows.drew ?_))) hg2
        have Hgw2 := Lib.hid hgw2
        have Hg2 := Lib.hid hg2
        have q2 := hgw2.cell_of q1
        have Hgw := Lib.hid (Hg.out.trans hgw2)
        clear hg2 hgw2
        by_cases hlt2 : b < a
        · have hbm : b < r.nm := by omega
          have h2 := Hgw.out.cell_of (HR.out.who b hbm)
          have k2 := Hgw.out.cell_of (HR.out.row b hbm)
          obtain ⟨bc1, bc2⟩ := HR.out.cap b hbm
          unfold maxLen at bc2
          go_wp2_with (go_at_call 64; refine (h64 _).mono ?_; rintro e W3 ⟨lv, rfl, hL, hg⟩; obtain ⟨la, lc, rfl, l1, l2, hLc⟩ := hL; have HL := Lib.hid hLc; have Hg3 := Lib.hid hg; have e1 := World.grows.cell_of (World.grows.trans (by (repeat (first | exact World.grows.refl _ | assumption | refine World.grows.alloc ?_ _ | refine World.grows.plus ?_ _ _ | refine World.grows.drew ?_))) hg) d1; have e2 : W3.cell? ⟨V2.heap.size, 1, none⟩ = some (.slice (some ⟨rb b, ro b, none⟩) r.nc (rc b)) := hg.cell_of (by simp [go_sem]); have HgW : Hid (V2.grows W3) := Lib.hid (World.grows.trans (by (repeat (first | exact World.grows.refl _ | assumption | refine World.grows.alloc ?_ _ | refine World.grows.plus ?_ _ _ | refine World.grows.drew ?_))) hg); clear hLc hg)
          unfold maxLen at l2
          clear h2 k2 d0 d1 q1 q2
          go_loopw [9, 43] (fun p i wr' => ∃ (k : Nat) (q : Bool), k ≤ L.length ∧ i = .int .i64 k ∧ p = .bool q ∧ Hid (q = r.partT L a b k) ∧ W3.grows wr') (fun _ i _ => L.length - (intOf i).toNat)
          case atStart => exact ⟨0, _, by omega, rfl, rfl, Lib.hid (by simp [Reg.partT]; rfl), by (repeat (first | exact World.grows.refl _ | assumption | refine World.grows.alloc ?_ _ | refine World.grows.plus ?_ _ _ | refine World.grows.drew ?_))⟩
          case round =>
            obtain ⟨k, q, hk, rfl, rfl, hq, hg3⟩ := hrel
            obtain ⟨n3, x3, rfl⟩ := World.plus_of hg3
            by_cases hlt3 : k < L.length
            · have hsu := Lib.hid (r.partT_succ L a b hlt3)
              rw [← hq.out] at hsu
              obtain ⟨b5, o5, rfl, h0⟩ := HL.out k 0 hlt3 (by omega)
              simp only [Nat.mul_one, Nat.add_zero] at h0
              have hfn := Hl.out _ (getD_mem hlt3)
              obtain ⟨f, hf⟩ : ∃ f, L.getD k 0 = f := ⟨_, rfl⟩
              rw [hf] at h0 hfn hsu
              have h3 := HgW.out.cell_of (Hgw.out.cell_of (HR.out.val a f hlt hfn))
              have h4 := HgW.out.cell_of (Hgw.out.cell_of (HR.out.val b f hbm hfn))
              clear hf
              cases q with
              | true =>
                go_wp2
                (refine wp_region_calm (by kernel_rfl) (by kernel_rfl) ?_; (repeat (refine wpCalm_step (fun K hK => ?_); go_simp; first | (refine hK _ ?_; clear hK K) | (apply Exists.intro; refine ⟨fun n' x' => ?_, hK _ ?_⟩; (fail); clear hK K))); refine wpCalm_nil ?_; intro nq xq)
                go_wp2
                go_roundw
                case rel => exact ⟨k + 1, true, by omega, by go_num, rfl, Lib.hid (by rw [hsu.out]; rfl), by (repeat (first | exact World.grows.refl _ | assumption | refine World.grows.alloc ?_ _ | refine World.grows.plus ?_ _ _ | refine World.grows.drew ?_))⟩
                case measure => simp [intOf]; omega
              | false =>
                by_cases he : r.val a f = r.val b f
                · have hsu2 : Hid (r.partT L a b (k + 1) = false) := Lib.hid (by rw [hsu.out]; simp [he])
                  rw [he] at h3
                  clear he hsu
                  go_wp2
                  (refine wp_region_calm (by kernel_rfl) (by kernel_rfl) ?_; (repeat (refine wpCalm_step (fun K hK => ?_); go_simp; first | (refine hK _ ?_; clear hK K) | (apply Exists.intro; refine ⟨fun n' x' => ?_, hK _ ?_⟩; (fail); clear hK K))); refine wpCalm_nil ?_; intro nq xq)
                  go_wp2
                  go_roundw
                  case rel => exact ⟨k + 1, false, by omega, by go_num, rfl, Lib.hid hsu2.out.symm, by (repeat (first | exact World.grows.refl _ | assumption | refine World.grows.alloc ?_ _ | refine World.grows.plus ?_ _ _ | refine World.grows.drew ?_))⟩
                  case measure => simp [intOf]; omega
                · have hsu2 : Hid (r.partT L a b (k + 1) = true) := Lib.hid (by rw [hsu.out]; simp [he])
                  have hwb : (r.val a f == r.val b f) = false := beq_eq_false_iff_ne.2 he
                  clear hsu
                  go_wp2
                  (refine wp_region_calm (by kernel_rfl) (by kernel_rfl) ?_; (repeat (refine wpCalm_step (fun K hK => ?_); go_simp; first | (refine hK _ ?_; clear hK K) | (apply Exists.intro; refine ⟨fun n' x' => ?_, hK _ ?_⟩; (fail); clear hK K))); refine wpCalm_nil ?_; intro nq xq)
                  go_wp2
                  go_roundw
                  case rel => exact ⟨k + 1, true, by omega, by go_num, by simp [he], Lib.hid hsu2.out.symm, by (repeat (first | exact World.grows.refl _ | assumption | refine World.grows.alloc ?_ _ | refine World.grows.plus ?_ _ _ | refine World.grows.drew ?_))⟩
                  case measure => simp [intOf]; omega
            · have hke : k = L.length := by omega
              have hq2 := hq.out
              rw [hke, r.partT_len] at hq2
              subst hke
              cases q with
              | true =>
                have hnx := Lib.hid (upto_succ hl2.out hq2.symm)
                clear hq2
                go_wp2
                go_roundw
                case rel => exact ⟨b + 1, by omega, by go_num, hnx, Hg2.out.trans (HgW.out.trans (by (repeat (first | exact World.grows.refl _ | assumption | refine World.grows.alloc ?_ _ | refine World.grows.plus ?_ _ _ | refine World.grows.drew ?_))))⟩
                case measure => simp [intOf]; omega
              | false =>
                have hnt := Lib.hid (Reg.tell_no hlt hlt2 hq2.symm)
                clear hq2
                go_wp2
                (refine bodyPost_ret (v := .bool false) (by simp [results, Try.results78, go_sem]) rfl ?_)
                exact ⟨by rw [hnt.out], Hgw.out.trans (HgW.out.trans (by (repeat (first | exact World.grows.refl _ | assumption | refine World.grows.alloc ?_ _ | refine World.grows.plus ?_ _ _ | refine World.grows.drew ?_))))⟩
        · have hbe : b = a := by omega
          subst hbe
          go_wp2
          go_roundw
          case rel => exact ⟨b + 1, by omega, by go_num, Lib.hid (upto_succ hl.out hl2.out), Hgw.out.trans (by (repeat (first | exact World.grows.refl _ | assumption | refine World.grows.alloc ?_ _ | refine World.grows.plus ?_ _ _ | refine World.grows.drew ?_)))⟩
          case measure => simp [intOf]; omega
    · have hae : a = r.nm := by omega
      have hmx := Lib.hid (Reg.tell_yes (L := L) (r := r) (by rw [← hae]; exact hl.out))
      subst hae
      go_wp2
      (refine bodyPost_ret (v := .bool true) (by simp [results, Try.results78, go_sem]) rfl ?_)
      exact ⟨by rw [hmx.out], Hg.out.trans (by (repeat (first | exact World.grows.refl _ | assumption | refine World.grows.alloc ?_ _ | refine World.grows.plus ?_ _ _ | refine World.grows.drew ?_)))⟩
end Go.Proofs.Ytdminglglapnlaa

/-
  What is proved: Must of the program (34).
-/
namespace Go.Proofs.Ytdminglglapnlaa
open Go.RowKit
attribute [local irreducible] Go.wpCalm deskA rowI

theorem andNot_nat : ∀ n, n ≤ 8 → ∀ f, f < n → bits .andNot .i64 ((2 ^ n - 1 : Nat) : Int) ((2 ^ f : Nat) : Int) = ((2 ^ n - 1 - 2 ^ f : Nat) : Int) := by decide +kernel
theorem table_ilist (L : List Nat) : tableL L.length 1 (fun i _ => Value.int .i64 ((L.getD i 0 : Nat) : Int)) = ilist L := by
  unfold tableL ilist
  apply List.ext_getElem?
  intro i
  simp only [List.getElem?_map, Nat.mul_one, Nat.div_one]
  by_cases h : i < L.length
  · rw [List.getElem?_range h]
    simp [h]
  · rw [List.getElem?_eq_none (by simpa using h), List.getElem?_eq_none (by simpa using h)]; rfl
theorem RegOk.costLen {w : World} {v : Value} {r : Reg} (h : RegOk w v r) : ∃ mv ca cc, v = .agg #[mv, .slice ca r.nc cc] ∧ r.nc ≤ cc ∧ cc ≤ maxLen := by
  obtain ⟨mb, mo, mc, cb, co, cc, rb, ro, rc, rfl, h1, h2, h3, h4, h5⟩ := h
  exact ⟨_, _, _, rfl, h3, h4⟩
set_option maxHeartbeats 2000000 in
theorem pmust_bad (w : World) (v : Value) (r : Reg) (hv : RegAt w v r) (h : r.solvE ≠ 0) :
    Calls Try.prog 34 #[v] w fun e w' => e = .returned (.tuple #[.slice none 0 0, .int .i64 r.solvE]) ∧ w.grows w' := by
  have h61 := fun W (g : w.grows W) => solved_bad W v r (hv.mono g) h
  obtain ⟨mv, cv, row, rfl, -⟩ := hv
  obtain ⟨E, hE⟩ : ∃ E, r.solvE = E := ⟨_, rfl⟩
  rw [hE] at h61 h
  have HE := Lib.hid hE
  clear hE
  have hb : (E != 0) = true := by simpa using h
  go_enter Try.func34, Try.ntmps34
  go_wp2_with (go_at_call 61; refine (h61 _ (by (repeat (first | exact World.grows.refl _ | assumption | refine World.grows.alloc ?_ _ | refine World.grows.plus ?_ _ _ | refine World.grows.drew ?_)))).mono ?_; rintro e w' ⟨rfl, hg⟩; obtain ⟨n2, x2, rfl⟩ := World.plus_of hg)
  (refine bodyPost_ret (v := .tuple #[.slice none 0 0, .int .i64 E]) (by simp [results, Try.results34, go_sem]) rfl ?_)
  exact ⟨by rw [HE.out], by (repeat (first | exact World.grows.refl _ | assumption | refine World.grows.alloc ?_ _ | refine World.grows.plus ?_ _ _ | refine World.grows.drew ?_))⟩
set_option maxHeartbeats 4000000 in
theorem pmust_c (w : World) (v : Value) (r : Reg) (hv : RegAt w v r) (h : r.solvE = 0) :
    Calls Try.prog 34 #[v] w fun e w' => ∃ lv, e = .returned (.tuple #[lv, .int .i64 0]) ∧ ListAt w' lv r.mustL ∧ w.grows w' := by
  have h61 := fun W (g : w.grows W) => solved_c W v r (hv.mono g) h
  obtain ⟨hc, hn⟩ := Reg.solvE_zero.1 h
  have Hr := Lib.hid (Reg.ok_of hc)
  have hok := hv.ok (Reg.ok_of hc)
  obtain ⟨mv, ca, cc, rfl, hc1, hc2⟩ := hok.costLen
  have hc8 := Hr.out.c8
  have HL : Hid (r.mustL = filtL r.mustB r.nc) := Lib.hid rfl
  obtain ⟨N, hNN⟩ : ∃ N, 2 ^ r.nc = N := ⟨_, rfl⟩
  have hN256 : N ≤ 2 ^ 8 := by rw [← hNN]; exact Nat.pow_le_pow_right (by omega) hc8
  have Hwz := Lib.hid (shlI_one (by omega) hNN)
  have HNN := Lib.hid hNN
  have hNN' : N ≤ 256 := hN256
  unfold maxLen at hc2
  clear h hc hn hok hNN hN256 hv
  go_enter Try.func34, Try.ntmps34
  go_wp2_with (go_at_call 61; refine (h61 _ (by (repeat (first | exact World.grows.refl _ | assumption | refine World.grows.alloc ?_ _ | refine World.grows.plus ?_ _ _ | refine World.grows.drew ?_)))).mono ?_; rintro e W1 ⟨w0, db, mb, m, rfl, hg0, hF⟩; have HF := Lib.hid hF; have hgw := hg0.trans hF.1.ge.2.2; have x1 : W1.cell? ⟨w.heap.size, 1, none⟩ = some (.slice ca r.nc cc) := hgw.cell_of (by simp [go_sem]); have Hgw := Lib.hid hgw; clear hg0 hF hgw h61)
  go_loopw [6, 19] (fun l i wr => ∃ (k lc : Nat) (la : Option Addr), k ≤ r.nc ∧ i = .int .i64 k ∧ l = .slice la (filtL r.mustB k).length lc ∧ Hid (ListAt wr (.slice la (filtL r.mustB k).length lc) (filtL r.mustB k)) ∧ Hid (W1.grows wr)) (fun _ i _ => r.nc - (intOf i).toNat)
  case atStart => exact ⟨0, 0, none, by omega, rfl, rfl, Lib.hid (ListAt.nil _), Lib.hid (World.grows.refl _)⟩
  case round =>
    obtain ⟨k, lc, la, hk, rfl, rfl, Hl, Hg⟩ := hrel
    have y1 := Hg.out.cell_of x1
    have hll := filtL_length_le r.mustB k
    have hlc : (filtL r.mustB k).length ≤ lc ∧ lc ≤ maxLen := by
      obtain ⟨a, c, e, h1, h2, -⟩ := Hl.out
      cases e; exact ⟨h1, h2⟩
    unfold maxLen at hlc
    by_cases hlt : k < r.nc
    · have hsu := Lib.hid (filtL_succ r.mustB k)
      obtain ⟨Pw, hPw⟩ : ∃ Pw : Nat, 2 ^ k = Pw := ⟨_, rfl⟩
      have hlt2 : Pw < N := by rw [← hPw, ← HNN.out]; exact Nat.pow_lt_pow_right (by omega) hlt
      have Hwk := Lib.hid (shlI_one (k := k) (by omega) hPw)
      have hPos : 0 < Pw := by rw [← hPw]; exact Nat.two_pow_pos k
      have han := andNot_nat r.nc hc8 k hlt
      rw [HNN.out, hPw] at han
      obtain ⟨S, hS⟩ : ∃ S, N - 1 - Pw = S := ⟨_, rfl⟩
      have hw1 : IntKind.i64.wrap ((N : Int) - 1) = ((N - 1 : Nat) : Int) := wrapI (by omega) (by omega)
      have hmB : r.mustB k = !r.tellB (bitsL 8 S) := by unfold Reg.mustB; rw [hPw, HNN.out, hS]
      have hSlt : S < 2 ^ r.nc := by rw [HNN.out]; omega
      have h78 := fun W (g : W1.grows W) => tells_c W db mb r _ m (HF.out.1.mono g).deskR Hr.out S hSlt
      rw [hS] at han
      cases ht : r.tellB (bitsL 8 S) with
      | true =>
        rw [ht] at hmB h78
        have hnx : Hid (filtL r.mustB (k + 1) = filtL r.mustB k) := Lib.hid (by rw [hsu.out, hmB]; rfl)
        clear hsu hmB ht hPw hS hSlt
        have hwz := Hwz.out
        have hwk := Hwk.out
        go_wp2
        (refine wp_region_calm (by kernel_rfl) (by kernel_rfl) ?_; (repeat (refine wpCalm_step (fun K hK => ?_); go_simp; first | (refine hK _ ?_; clear hK K) | (apply Exists.intro; refine ⟨fun n' x' => ?_, hK _ ?_⟩; (exact h78 _ (Hg.out.trans (by (repeat (first | exact World.grows.refl _ | assumption | refine World.grows.alloc ?_ _ | refine World.grows.plus ?_ _ _ | refine World.grows.drew ?_))))); clear hK K))); refine wpCalm_nil ?_; intro nq xq)
        clear hwz hwk han hw1
        go_wp2
        go_roundw
        case rel => exact ⟨k + 1, lc, la, by omega, by go_num, by rw [hnx.out], Lib.hid (by rw [hnx.out]; exact Hl.out.mono (by (repeat (first | exact World.grows.refl _ | assumption | refine World.grows.alloc ?_ _ | refine World.grows.plus ?_ _ _ | refine World.grows.drew ?_)))), Lib.hid (Hg.out.trans (by (repeat (first | exact World.grows.refl _ | assumption | refine World.grows.alloc ?_ _ | refine World.grows.plus ?_ _ _ | refine World.grows.drew ?_))))⟩
        case measure => simp [intOf]; omega
      | false =>
        rw [ht] at hmB h78
        have hnx : Hid (filtL r.mustB (k + 1) = filtL r.mustB k ++ [k]) := Lib.hid (by rw [hsu.out, hmB]; rfl)
        clear hsu hmB ht hPw hS hSlt
        have hwz := Hwz.out
        have hwk := Hwk.out
        go_wp2
        (refine wp_region_calm (by kernel_rfl) (by kernel_rfl) ?_; (repeat (refine wpCalm_step (fun K hK => ?_); go_simp; first | (refine hK _ ?_; clear hK K) | (apply Exists.intro; refine ⟨fun n' x' => ?_, hK _ ?_⟩; (exact h78 _ (Hg.out.trans (by (repeat (first | exact World.grows.refl _ | assumption | refine World.grows.alloc ?_ _ | refine World.grows.plus ?_ _ _ | refine World.grows.drew ?_))))); clear hK K))); refine wpCalm_nil ?_; intro nq xq)
        clear hwz hwk han hw1
        go_wp2_with (at_builtin; go_loud (refine wpList_append_cap _ rfl _ _ _ (by rfl) 3 (.int .i64 0) 1 8 Try.underlying29 el3 (by rfl) (by omega) la (filtL r.mustB k).length _ (by rfl) ((SliceAt.src (by omega) (Hl.out.mono (by (repeat (first | exact World.grows.refl _ | assumption | refine World.grows.alloc ?_ _ | refine World.grows.plus ?_ _ _ | refine World.grows.drew ?_))))).cap _) (SliceAt.none_zero (by omega) Hl.out) _ (by rfl) 1 _ (SliceAt.src (by omega) (one_slice _ _ _ _ (by simp))) (by omega) (by unfold maxLen; omega) (by omega) ?_; intro v' w3 hown hg3))
        obtain ⟨va, vc, rfl, -, -⟩ := row_form hown
        have hown2 : w3.ownsRow ((wr.plus nq xq).alloc (Obj.cells #[Value.int IntKind.i64 ↑k] 3)).heap.size 3 1 (.slice va ((filtL r.mustB k).length + 1) vc) ((filtL r.mustB k).length + 1) (ilist (filtL r.mustB k ++ [k])) := by
          rw [ilist_snoc, ← table_ilist]
          exact hown
        have hlen : (filtL r.mustB (k + 1)).length = (filtL r.mustB k).length + 1 := by rw [hnx.out, List.length_append, List.length_singleton]
        go_roundw
        case rel => exact ⟨k + 1, vc, va, by omega, by go_num, by rw [hlen], Lib.hid (by rw [hlen, hnx.out]; exact hown2.listAt (by simp)), Lib.hid (Hg.out.trans (World.grows.trans (by (repeat (first | exact World.grows.refl _ | assumption | refine World.grows.alloc ?_ _ | refine World.grows.plus ?_ _ _ | refine World.grows.drew ?_))) hg3))⟩
        case measure => simp [intOf]; omega
    · have hke : k = r.nc := by omega
      subst hke
      go_wp2
      (refine bodyPost_ret (v := .tuple #[.slice la (filtL r.mustB r.nc).length lc, .int .i64 0]) (by simp [results, Try.results34, go_sem]) rfl ?_)
      exact ⟨_, rfl, by rw [HL.out]; exact Hl.out, World.grows.trans (World.grows.trans (by (repeat (first | exact World.grows.refl _ | assumption | refine World.grows.alloc ?_ _ | refine World.grows.plus ?_ _ _ | refine World.grows.drew ?_))) Hgw.out) Hg.out⟩
end Go.Proofs.Ytdminglglapnlaa

/-
  What is proved: slices.Compare (83), cmp.Compare (102, 105) at numbers: below 0 just if the first list comes first.
-/
namespace Go.Proofs.Ytdminglglapnlaa
open Go.RowKit
attribute [local irreducible] Go.wpCalm

theorem isNaN_c (w : World) (x : Int) : Calls Try.prog 105 #[.int .i64 x] w fun e w' => e = .returned (.bool false) ∧ w.grows w' := by
  go_enter Try.func105, Try.ntmps105
  go_wp2
  (refine bodyPost_ret (v := .bool false) (by simp [results, Try.results105, go_sem]) rfl ?_)
  exact ⟨rfl, by (repeat (first | exact World.grows.refl _ | assumption | refine World.grows.alloc ?_ _ | refine World.grows.plus ?_ _ _ | refine World.grows.drew ?_))⟩
def cmpI (x y : Int) : Int := if x < y then -1 else if y < x then 1 else 0
set_option maxHeartbeats 1000000 in
theorem cmp_c (w : World) (x y : Int) : Calls Try.prog 102 #[.int .i64 x, .int .i64 y] w fun e w' => e = .returned (.int .i64 (cmpI x y)) ∧ w.grows w' := by
  have H := Lib.hid (show cmpI x y = if x < y then -1 else if y < x then 1 else 0 from rfl)
  go_enter Try.func102, Try.ntmps102
  by_cases h1 : x < y
  · have E : Hid (cmpI x y = -1) := Lib.hid (by rw [H.out, if_pos h1])
    go_wp2_with (go_at_call 105; refine (isNaN_c _ _).mono ?_; rintro e w' ⟨rfl, hg⟩; obtain ⟨n2, x2, rfl⟩ := World.plus_of hg)
    (refine bodyPost_ret (v := .int .i64 (-1)) (by simp [results, Try.results102, go_sem]) rfl ?_)
    exact ⟨by rw [E.out], by (repeat (first | exact World.grows.refl _ | assumption | refine World.grows.alloc ?_ _ | refine World.grows.plus ?_ _ _ | refine World.grows.drew ?_))⟩
  by_cases h2 : y < x
  · have E : Hid (cmpI x y = 1) := Lib.hid (by rw [H.out, if_neg h1, if_pos h2])
    go_wp2_with (go_at_call 105; refine (isNaN_c _ _).mono ?_; rintro e w' ⟨rfl, hg⟩; obtain ⟨n2, x2, rfl⟩ := World.plus_of hg)
    (refine bodyPost_ret (v := .int .i64 1) (by simp [results, Try.results102, go_sem]) rfl ?_)
    exact ⟨by rw [E.out], by (repeat (first | exact World.grows.refl _ | assumption | refine World.grows.alloc ?_ _ | refine World.grows.plus ?_ _ _ | refine World.grows.drew ?_))⟩
  · have E : Hid (cmpI x y = 0) := Lib.hid (by rw [H.out, if_neg h1, if_neg h2])
    go_wp2_with (go_at_call 105; refine (isNaN_c _ _).mono ?_; rintro e w' ⟨rfl, hg⟩; obtain ⟨n2, x2, rfl⟩ := World.plus_of hg)
    (refine bodyPost_ret (v := .int .i64 0) (by simp [results, Try.results102, go_sem]) rfl ?_)
    exact ⟨by rw [E.out], by (repeat (first | exact World.grows.refl _ | assumption | refine World.grows.alloc ?_ _ | refine World.grows.plus ?_ _ _ | refine World.grows.drew ?_))⟩

set_option maxHeartbeats 1000000 in
theorem compare_c (w : World) (av bv : Value) (L M : List Nat) (ha : ListAt w av L) (hb : ListAt w bv M) :
    Calls Try.prog 83 #[av, bv] w fun e w' => ∃ c : Int, e = .returned (.int .i64 c) ∧ decide (c < 0) = lexB L M ∧ w.grows w' := by
  obtain ⟨aa, ac, rfl, a1, a2, ha⟩ := ha
  obtain ⟨ba, bc, rfl, b1, b2, hb⟩ := hb
  unfold maxLen at a2 b2
  go_enter Try.func83, Try.ntmps83
  go_wp2
  go_loopw [11] (fun i wr => ∃ k : Nat, k ≤ L.length ∧ k ≤ M.length ∧ i = .int .i64 k ∧ Hid (∀ j, j < k → L.getD j 0 = M.getD j 0) ∧ w.grows wr) (fun i _ => L.length - (intOf i).toNat)
  case atStart => exact ⟨0, by omega, by omega, rfl, Lib.hid fun j hj => by omega, by (repeat (first | exact World.grows.refl _ | assumption | refine World.grows.alloc ?_ _ | refine World.grows.plus ?_ _ _ | refine World.grows.drew ?_))⟩
  case round =>
    obtain ⟨k, hk, hk2, rfl, hl, hg⟩ := hrel
    obtain ⟨n1, x1, rfl⟩ := World.plus_of hg
    by_cases hlt : k < L.length
    · obtain ⟨b, o, rfl, h0⟩ := ha k 0 hlt (by omega)
      simp only [Nat.mul_one, Nat.add_zero] at h0
      by_cases hlt2 : k < M.length
      · obtain ⟨b', o', rfl, h1⟩ := hb k 0 hlt2 (by omega)
        simp only [Nat.mul_one, Nat.add_zero] at h1
        have hx := fun h => lexB_at hl.out hlt hlt2 h
        obtain ⟨x, hxe⟩ : ∃ x, L.getD k 0 = x := ⟨_, rfl⟩
        obtain ⟨y, hye⟩ : ∃ y, M.getD k 0 = y := ⟨_, rfl⟩
        rw [hxe] at h0 hx
        rw [hye] at h1 hx
        have h102 := fun W => cmp_c W x y
        by_cases he : x = y
        · have hnx := Lib.hid (upto_succ hl.out (hxe.trans (he.trans hye.symm)))
          have E : cmpI x y = 0 := by unfold cmpI; rw [if_neg (by omega), if_neg (by omega)]
          rw [E] at h102
          clear hxe hye hx E
          subst he
          go_wp2_with (go_at_call 102; refine (h102 _).mono ?_; rintro e w' ⟨rfl, hg⟩; obtain ⟨n2, x2, rfl⟩ := World.plus_of hg)
          go_roundw
          case rel => exact ⟨k + 1, by omega, by omega, by go_num, hnx, by (repeat (first | exact World.grows.refl _ | assumption | refine World.grows.alloc ?_ _ | refine World.grows.plus ?_ _ _ | refine World.grows.drew ?_))⟩
          case measure => simp [intOf]; omega
        · have hx' := Lib.hid (hx he)
          by_cases hlt3 : x < y
          · have E : cmpI x y = -1 := by unfold cmpI; rw [if_pos (by omega)]
            rw [E] at h102
            clear hxe hye hx E he
            go_wp2_with (go_at_call 102; refine (h102 _).mono ?_; rintro e w' ⟨rfl, hg⟩; obtain ⟨n2, x2, rfl⟩ := World.plus_of hg)
            (refine bodyPost_ret (v := .int .i64 (-1)) (by simp [results, Try.results83, go_sem]) rfl ?_)
            exact ⟨_, rfl, by rw [hx'.out]; simp [hlt3], by (repeat (first | exact World.grows.refl _ | assumption | refine World.grows.alloc ?_ _ | refine World.grows.plus ?_ _ _ | refine World.grows.drew ?_))⟩
          · have E : cmpI x y = 1 := by unfold cmpI; rw [if_neg (by omega), if_pos (by omega)]
            rw [E] at h102
            clear hxe hye hx E he
            go_wp2_with (go_at_call 102; refine (h102 _).mono ?_; rintro e w' ⟨rfl, hg⟩; obtain ⟨n2, x2, rfl⟩ := World.plus_of hg)
            (refine bodyPost_ret (v := .int .i64 1) (by simp [results, Try.results83, go_sem]) rfl ?_)
            exact ⟨_, rfl, by rw [hx'.out]; simp [hlt3], by (repeat (first | exact World.grows.refl _ | assumption | refine World.grows.alloc ?_ _ | refine World.grows.plus ?_ _ _ | refine World.grows.drew ?_))⟩
      · have hx := Lib.hid (lexB_end (L := L) (M := M) fun j _ h2 => hl.out j (by omega))
        go_wp2
        (refine bodyPost_ret (v := .int .i64 1) (by simp [results, Try.results83, go_sem]) rfl ?_)
        exact ⟨_, rfl, by rw [hx.out]; simp; omega, by (repeat (first | exact World.grows.refl _ | assumption | refine World.grows.alloc ?_ _ | refine World.grows.plus ?_ _ _ | refine World.grows.drew ?_))⟩
    · have hx := Lib.hid (lexB_end (L := L) (M := M) fun j h1 _ => hl.out j (by omega))
      by_cases hlt3 : L.length < M.length
      · go_wp2
        (refine bodyPost_ret (v := .int .i64 (-1)) (by simp [results, Try.results83, go_sem]) rfl ?_)
        exact ⟨_, rfl, by rw [hx.out]; simp [hlt3], by (repeat (first | exact World.grows.refl _ | assumption | refine World.grows.alloc ?_ _ | refine World.grows.plus ?_ _ _ | refine World.grows.drew ?_))⟩
      · go_wp2
        (refine bodyPost_ret (v := .int .i64 0) (by simp [results, Try.results83, go_sem]) rfl ?_)
        exact ⟨_, rfl, by rw [hx.out]; simp [hlt3], by (repeat (first | exact World.grows.refl _ | assumption | refine World.grows.alloc ?_ _ | refine World.grows.plus ?_ _ _ | refine World.grows.drew ?_))⟩
end Go.Proofs.Ytdminglglapnlaa

/-
  What is proved: the order of sets of features (82), the first of the best ones (81), of the program.
-/
namespace Go.Proofs.Ytdminglglapnlaa
open Go.RowKit
attribute [local irreducible] Go.wpCalm deskA rowI

/-- the first one of the numbers 0 .. k of a list that none before it is better than -/
def lsN (bef : Nat → Nat → Bool) (L : List Nat) : Nat → Nat
  | 0 => L.getD 0 0
  | k + 1 => if bef (L.getD (k + 1) 0) (lsN bef L k) = true then L.getD (k + 1) 0 else lsN bef L k
theorem lsN_congr {bef : Nat → Nat → Bool} {L M : List Nat} : ∀ k, (∀ i, i ≤ k → L.getD i 0 = M.getD i 0) → lsN bef L k = lsN bef M k
  | 0, h => h 0 (by omega)
  | k + 1, h => by
    simp only [lsN]
    rw [lsN_congr k (fun i hi => h i (by omega)), h (k + 1) (by omega)]
theorem lsN_snoc {bef : Nat → Nat → Bool} {L : List Nat} {y k : Nat} (hk : L.length = k + 1) : lsN bef (L ++ [y]) (k + 1) = if bef y (lsN bef L k) = true then y else lsN bef L k := by
  have e1 : lsN bef (L ++ [y]) k = lsN bef L k := lsN_congr k fun i hi => by
    rw [List.getD_eq_getElem?_getD, List.getD_eq_getElem?_getD, List.getElem?_append_left (by omega)]
  have e2 : (L ++ [y]).getD (k + 1) 0 = y := by
    rw [List.getD_eq_getElem?_getD, List.getElem?_append_right (by omega), hk]; simp
  simp only [lsN]
  rw [e1, e2]
theorem lsN_mem {bef : Nat → Nat → Bool} {L : List Nat} : ∀ k, k < L.length → lsN bef L k ∈ L
  | 0, h => getD_mem h
  | k + 1, h => by
    simp only [lsN]
    split
    · exact getD_mem h
    · exact lsN_mem k (by omega)
/-- the features that tell, of the first sets -/
def Reg.good (r : Reg) (k : Nat) : List Nat := filtL (fun s => r.tellB (bitsL 8 s)) k
theorem Reg.fixF_good (r : Reg) : ∀ k, r.fixF k = if (r.good k).length = 0 then none else some (lsN r.befB (r.good k) ((r.good k).length - 1))
  | 0 => rfl
  | k + 1 => by
    have ih := r.fixF_good k
    have hs : r.good (k + 1) = if r.tellB (bitsL 8 k) = true then r.good k ++ [k] else r.good k := filtL_succ _ k
    simp only [Reg.fixF]
    by_cases ht : r.tellB (bitsL 8 k) = true
    · rw [if_pos ht] at hs ⊢
      rw [ih, hs]
      by_cases h0 : (r.good k).length = 0
      · have : r.good k = [] := List.eq_nil_of_length_eq_zero h0
        rw [this]; rfl
      · obtain ⟨n, hn⟩ : ∃ n, (r.good k).length = n + 1 := ⟨(r.good k).length - 1, by omega⟩
        rw [if_neg h0, if_neg (by simp)]
        rw [List.length_append, List.length_singleton, hn, Nat.add_sub_cancel, Nat.add_sub_cancel, lsN_snoc hn]
        dsimp only
        split <;> rfl
    · rw [if_neg ht] at hs ⊢
      rw [hs]; exact ih
theorem befB_def (r : Reg) (a b : Nat) : r.befB a b = if r.price (bitsL 8 a) = r.price (bitsL 8 b) then lexB (bitsL 8 a) (bitsL 8 b) else decide (r.price (bitsL 8 a) < r.price (bitsL 8 b)) := rfl

set_option maxHeartbeats 2000000 in
theorem before_c (w : World) (db mb bx : Nat) (r : Reg) (c : Nat → Int) (m : VM) (h : DeskR w db mb r c m) (hr : r.Ok) (hb : w.cell? ⟨bx, 0, none⟩ = some (.func (.func 79) #[.pointer (some ⟨db, 0, none⟩)] #[])) (a b : Nat) (ha : a < 2 ^ r.nc) (hb2 : b < 2 ^ r.nc) :
    Calls Try.prog 82 #[.int .i64 a, .int .i64 b, .pointer (some ⟨bx, 0, none⟩)] w fun e w' => e = .returned (.bool (r.befB a b)) ∧ w.grows w' := by
  have h79 := fun W (g : w.grows W) s hs => price_c W db mb r c m (h.mono g) hr s hs
  have h64 := fun W s (hs : s < 2 ^ r.nc) => list64 W s 8 (Nat.lt_of_lt_of_le hs (Nat.pow_le_pow_right (by omega) hr.c8)) (by omega)
  have hd := befB_def r a b
  obtain ⟨LL, hLL⟩ : ∃ LL : Nat → List Nat, LL = bitsL 8 := ⟨_, rfl⟩
  rw [← hLL] at h79 h64 hd
  obtain ⟨PP, hPP⟩ : ∃ PP : Nat → Int, PP = fun s => r.price (LL s) := ⟨_, rfl⟩
  have e1 : ∀ s, r.price (LL s) = PP s := fun s => by rw [hPP]
  simp only [e1] at h79
  rw [e1, e1] at hd
  have Hd := Lib.hid hd
  clear hLL hd h hr e1 hPP
  go_enter Try.func82, Try.ntmps82
  by_cases hp : PP a = PP b
  · rw [if_pos hp] at Hd
    have hbe : (PP a != PP b) = false := by simp [hp]
    clear hp
    go_wp2
    (refine wp_region_calm (by kernel_rfl) (by kernel_rfl) ?_; (repeat (refine wpCalm_step (fun K hK => ?_); go_simp; first | (refine hK _ ?_; clear hK K) | (apply Exists.intro; refine ⟨fun n' x' => ?_, hK _ ?_⟩; (exact h79 _ (by (repeat (first | exact World.grows.refl _ | assumption | refine World.grows.alloc ?_ _ | refine World.grows.plus ?_ _ _ | refine World.grows.drew ?_))) _ (by assumption)); clear hK K))); refine wpCalm_nil ?_; intro nq xq)
    clear hbe
    go_wp2_with (go_at_call 44; fail)
    refine (h64 _ a ha).mono ?_
    rintro e W1 ⟨la, rfl, hla, hg1⟩
    go_wp2_with (go_at_call 44; fail)
    refine (h64 _ b hb2).mono ?_
    rintro e W2 ⟨lb, rfl, hlb, hg2⟩
    go_wp2_with (go_at_call 83; refine (compare_c _ la lb (LL a) (LL b) (hla.mono hg2) hlb).mono ?_; rintro e W3 ⟨c, rfl, hc, hg3⟩)
    go_ret
    exact ⟨by rw [Hd.out, ← hc]; rfl, World.grows.trans (World.grows.trans (World.grows.trans (by (repeat (first | exact World.grows.refl _ | assumption | refine World.grows.alloc ?_ _ | refine World.grows.plus ?_ _ _ | refine World.grows.drew ?_))) hg1) hg2) hg3⟩
  · rw [if_neg hp] at Hd
    have hbe : (PP a != PP b) = true := by simpa using hp
    clear hp
    go_wp2
    (refine wp_region_calm (by kernel_rfl) (by kernel_rfl) ?_; (repeat (refine wpCalm_step (fun K hK => ?_); go_simp; first | (refine hK _ ?_; clear hK K) | (apply Exists.intro; refine ⟨fun n' x' => ?_, hK _ ?_⟩; (exact h79 _ (by (repeat (first | exact World.grows.refl _ | assumption | refine World.grows.alloc ?_ _ | refine World.grows.plus ?_ _ _ | refine World.grows.drew ?_))) _ (by assumption)); clear hK K))); refine wpCalm_nil ?_; intro nq xq)
    go_wp2
    (refine wp_region_calm (by kernel_rfl) (by kernel_rfl) ?_; (repeat (refine wpCalm_step (fun K hK => ?_); go_simp; first | (refine hK _ ?_; clear hK K) | (apply Exists.intro; refine ⟨fun n' x' => ?_, hK _ ?_⟩; (exact h79 _ (by (repeat (first | exact World.grows.refl _ | assumption | refine World.grows.alloc ?_ _ | refine World.grows.plus ?_ _ _ | refine World.grows.drew ?_))) _ (by assumption)); clear hK K))); refine wpCalm_nil ?_; intro nq xq)
    go_wp2
    go_ret
    exact ⟨by rw [Hd.out]; rfl, by (repeat (first | exact World.grows.refl _ | assumption | refine World.grows.alloc ?_ _ | refine World.grows.plus ?_ _ _ | refine World.grows.drew ?_))⟩

set_option maxHeartbeats 2000000 in
theorem leastS_c (w : World) (lv : Value) (L : List Nat) (n : Nat) (hn : L.length = n + 1) (hv : ListAt w lv L) (fb : Array Value) (bef : Nat → Nat → Bool)
    (h82 : ∀ W, w.grows W → ∀ a b, a ∈ L → b ∈ L → Calls Try.prog 82 (#[.int .i64 (a : Nat), .int .i64 (b : Nat)] ++ fb) W fun e W' => e = .returned (.bool (bef a b)) ∧ W.grows W') :
    Calls Try.prog 81 #[lv, .func (.func 82) #[] fb] w fun e w' => e = .returned (.int .i64 (lsN bef L n : Nat)) ∧ w.grows w' := by
  obtain ⟨la, lc, rfl, l1, l2, hc⟩ := hv
  have Hc := Lib.hid hc
  unfold maxLen at l2
  obtain ⟨b, o, rfl, -⟩ := hc 0 0 (by omega) (by omega)
  obtain ⟨E, hE⟩ : ∃ E : Nat → Nat, E = fun i => L.getD i 0 := ⟨_, rfl⟩
  have he : ∀ i, L.getD i 0 = E i := fun i => by rw [hE]
  have hcell : ∀ i, i ≤ n → w.cell? ⟨b, o + i, none⟩ = some (.int .i64 (E i : Nat)) := fun i hi => by
    obtain ⟨b', o', e, h⟩ := hc i 0 (by omega) (by omega)
    cases e
    rw [← he]
    simpa using h
  have h0 := hcell 0 (by omega)
  rw [Nat.add_zero] at h0
  have Hcell := Lib.hid hcell
  obtain ⟨T, hT⟩ : ∃ T : Nat → Nat, T = lsN bef L := ⟨_, rfl⟩
  have hmem := Lib.hid fun k (hk : k ≤ n) => lsN_mem (bef := bef) (L := L) k (by omega)
  have hme := Lib.hid fun k (hk : k ≤ n) => (show E k ∈ L from by rw [← he]; exact getD_mem (by omega))
  have hls : Hid (∀ k, T (k + 1) = if bef (E (k + 1)) (T k) = true then E (k + 1) else T k) := Lib.hid fun k => by rw [hT, ← he]; rfl
  have hT0 : Hid (T 0 = E 0) := Lib.hid (by rw [hT, ← he]; rfl)
  rw [← hT] at hmem ⊢
  rw [hn] at l1 ⊢
  clear hc hcell hE he hT hn
  go_enter Try.func81, Try.ntmps81
  by_cases hl : lc = 1
  · have hn0 : n = 0 := by omega
    subst hl
    subst hn0
    go_wp2
    go_loopw [5, 14] (fun x i wr => x = .int .i64 (E 0 : Nat) ∧ i = .int .i64 0 ∧ w.grows wr) (fun _ i _ => 0)
    case atStart => exact ⟨rfl, rfl, by (repeat (first | exact World.grows.refl _ | assumption | refine World.grows.alloc ?_ _ | refine World.grows.plus ?_ _ _ | refine World.grows.drew ?_))⟩
    case round =>
      obtain ⟨rfl, rfl, hg⟩ := hrel
      go_wp2
      go_ret
      exact ⟨by rw [hT0.out]; rfl, hg⟩
  · have hl2 : 1 < lc := by omega
    go_wp2
    go_loopw [5, 14] (fun x i wr => ∃ k : Nat, k ≤ n ∧ i = .int .i64 k ∧ x = .int .i64 (T k : Nat) ∧ Hid (w.grows wr)) (fun _ i _ => n - (intOf i).toNat)
    case atStart => exact ⟨0, by omega, rfl, by rw [hT0.out], Lib.hid (by (repeat (first | exact World.grows.refl _ | assumption | refine World.grows.alloc ?_ _ | refine World.grows.plus ?_ _ _ | refine World.grows.drew ?_)))⟩
    case round =>
      obtain ⟨k, hk, rfl, rfl, hg⟩ := hrel
      by_cases hlt : k < n
      · have c1 := hg.out.cell_of (Hcell.out (k + 1) (by omega))
        rw [show o + (k + 1) = o + 1 + k by omega] at c1
        have h8 := h82 wr hg.out (E (k + 1)) (T k) (hme.out _ (by omega)) (hmem.out k (by omega))
        have hsu := hls.out k
        cases hb : bef (E (k + 1)) (T k) with
        | true =>
          rw [hb] at h8
          rw [hb, if_pos rfl] at hsu
          have Hsu := Lib.hid hsu
          clear hsu hb
          go_wp2_with (go_at_call 82; refine h8.mono ?_; rintro e W2 ⟨rfl, hg2⟩)
          go_roundw
          case rel => exact ⟨k + 1, by omega, by go_num, by rw [Hsu.out], Lib.hid (hg.out.trans hg2)⟩
          case measure => simp [intOf]; omega
        | false =>
          rw [hb] at h8
          rw [hb, if_neg (by simp)] at hsu
          have Hsu := Lib.hid hsu
          clear hsu hb
          go_wp2_with (go_at_call 82; refine h8.mono ?_; rintro e W2 ⟨rfl, hg2⟩)
          go_roundw
          case rel => exact ⟨k + 1, by omega, by go_num, by rw [Hsu.out], Lib.hid (hg.out.trans hg2)⟩
          case measure => simp [intOf]; omega
      · have hke : k = n := by omega
        subst hke
        go_wp2
        go_ret
        exact ⟨rfl, hg.out.trans (by (repeat (first | exact World.grows.refl _ | assumption | refine World.grows.alloc ?_ _ | refine World.grows.plus ?_ _ _ | refine World.grows.drew ?_)))⟩
end Go.Proofs.Ytdminglglapnlaa

/-
  What is proved: Fixed of the program (32).
-/
namespace Go.Proofs.Ytdminglglapnlaa
open Go.RowKit
attribute [local irreducible] Go.wpCalm deskA rowI rowA

@[local go_sem] theorem run_store_func (P : Program) (w : World) (a : Addr) (m : Mode) (f : Fn) (b c : Array Value) : (store a (.func f b c) m).run P w = stored P w a (.func f b c) m := run_store P w a _ m rfl
@[local go_sem ↓] theorem make29 (w : World) (n : Nat) (h : n ≤ 1000000000) : (Instr.makeSlice 29 (.int .i64 (n : Nat)) (.int .i64 (n : Nat))).run Try.prog w = .ok (.slice (some ⟨w.heap.size, 0, none⟩) n n) (w.alloc (.cells (rowA n fun _ => 0) 3)) :=
  run_make_row w 29 3 8 Try.underlying29 el3 n (by omega) (by omega)
theorem el106 : Try.prog.knows 106 (.int .i64 0) 1 8 := Program.knows_of (by kernel_rfl)
set_option maxHeartbeats 2000000 in
theorem pfix_bad (w : World) (v : Value) (r : Reg) (hv : RegAt w v r) (h : r.solvE ≠ 0) :
    Calls Try.prog 32 #[v] w fun e w' => e = .returned (.tuple #[.slice none 0 0, .int .i64 0, .int .i64 r.solvE]) ∧ w.grows w' := by
  have h61 := fun W (g : w.grows W) => solved_bad W v r (hv.mono g) h
  obtain ⟨mv, cv, row, rfl, -⟩ := hv
  obtain ⟨E, hE⟩ : ∃ E, r.solvE = E := ⟨_, rfl⟩
  rw [hE] at h61 h
  have HE := Lib.hid hE
  clear hE
  have hb : (E != 0) = true := by simpa using h
  go_enter Try.func32, Try.ntmps32
  go_wp2_with (go_at_call 61; refine (h61 _ (by (repeat (first | exact World.grows.refl _ | assumption | refine World.grows.alloc ?_ _ | refine World.grows.plus ?_ _ _ | refine World.grows.drew ?_)))).mono ?_; rintro e w' ⟨rfl, hg⟩; obtain ⟨n2, x2, rfl⟩ := World.plus_of hg)
  (refine bodyPost_ret (v := .tuple #[.slice none 0 0, .int .i64 0, .int .i64 E]) (by simp [results, Try.results32, go_sem]) rfl ?_)
  exact ⟨by rw [HE.out], by (repeat (first | exact World.grows.refl _ | assumption | refine World.grows.alloc ?_ _ | refine World.grows.plus ?_ _ _ | refine World.grows.drew ?_))⟩
set_option maxHeartbeats 4000000 in
theorem pfix_c (w : World) (v : Value) (r : Reg) (hv : RegAt w v r) (h : r.solvE = 0) :
    Calls Try.prog 32 #[v] w fun e w' => ∃ lv, e = .returned (.tuple #[lv, .int .i64 (r.price (bitsL 8 r.fix)), .int .i64 0]) ∧ ListAt w' lv (bitsL 8 r.fix) ∧ w.grows w' := by
  have h61 := fun W (g : w.grows W) => solved_c W v r (hv.mono g) h
  obtain ⟨hc, hn⟩ := Reg.solvE_zero.1 h
  have Hr := Lib.hid (Reg.ok_of hc)
  have hok := hv.ok (Reg.ok_of hc)
  obtain ⟨mv, ca, cc, rfl, hc1, hc2⟩ := hok.costLen
  have hc8 := Hr.out.c8
  obtain ⟨fx, hfx⟩ := Reg.fixF_some hc8 hn
  have hfg := r.fixF_good (2 ^ r.nc)
  have hfix : r.fix = fx := by unfold Reg.fix; rw [hfx]; rfl
  rw [hfx] at hfg
  have hlen0 : (r.good (2 ^ r.nc)).length ≠ 0 := fun e => by rw [if_pos e] at hfg; cases hfg
  rw [if_neg hlen0] at hfg
  have Hfx : Hid (lsN r.befB (r.good (2 ^ r.nc)) ((r.good (2 ^ r.nc)).length - 1) = r.fix ∧ (r.good (2 ^ r.nc)).length ≠ 0 ∧ r.fix < 2 ^ r.nc) := Lib.hid ⟨by rw [hfix]; exact (Option.some.inj hfg).symm, hlen0, (Reg.fix_spec hc8 hn).1⟩
  obtain ⟨N, hNN⟩ : ∃ N, 2 ^ r.nc = N := ⟨_, rfl⟩
  have hN256 : N ≤ 2 ^ 8 := by rw [← hNN]; exact Nat.pow_le_pow_right (by omega) hc8
  have Hwz := Lib.hid (shl_one (by omega) hNN)
  rw [hNN] at Hfx
  have HNN := Lib.hid hNN
  have hNN' : N ≤ 256 := hN256
  unfold maxLen at hc2
  have hwz := Hwz.out
  clear h hc hn hok hNN hN256 hv hfx hfg hfix hlen0
  go_enter Try.func32, Try.ntmps32
  go_wp2_with (go_at_call 61; refine (h61 _ (by (repeat (first | exact World.grows.refl _ | assumption | refine World.grows.alloc ?_ _ | refine World.grows.plus ?_ _ _ | refine World.grows.drew ?_)))).mono ?_; rintro e W1 ⟨w0, db, mb, m, rfl, hg0, hF⟩; have HF := Lib.hid hF; have hgw := hg0.trans hF.1.ge.2.2; have x1 : W1.cell? ⟨w.heap.size, 1, none⟩ = some (.slice ca r.nc cc) := hgw.cell_of (by simp [go_sem]); have Hgw := Lib.hid hgw; clear hg0 hF hgw h61)
  clear hwz
  rw [Hwz.out]
  have hWs : w.heap.size + 1 ≤ W1.heap.size := by have := Hgw.out.size; simpa using this
  have h78 := fun W (g : W1.grows W) s hs => tells_c W db mb r _ m (HF.out.1.mono g).deskR Hr.out s hs
  rw [HNN.out] at h78
  go_loopw [7, 25] (fun l i wr => ∃ (k lc : Nat) (la : Option Addr), k ≤ N ∧ i = .int .i64 k ∧ l = .slice la (r.good k).length lc ∧ Hid (wr.ownsRow W1.heap.size 106 1 (.slice la (r.good k).length lc) (r.good k).length (ilist (r.good k))) ∧ Hid (W1.grows wr)) (fun _ i _ => N - (intOf i).toNat)
  case atStart => exact ⟨0, 0, none, by omega, rfl, rfl, Lib.hid (World.ownsRow_nil _ _ _ _), Lib.hid (World.grows.refl _)⟩
  case round =>
    obtain ⟨k, lc, la, hk, rfl, rfl, Hl, Hg⟩ := hrel
    have hll : (r.good k).length ≤ k := filtL_length_le _ k
    have hWg := Hg.out.size
    by_cases hlt : k < N
    · have hsu : r.good (k + 1) = if r.tellB (bitsL 8 k) = true then r.good k ++ [k] else r.good k := filtL_succ _ k
      have h7 := fun W g => h78 W g k hlt
      cases ht : r.tellB (bitsL 8 k) with
      | false =>
        rw [ht] at hsu h7
        have Hsu : Hid (r.good (k + 1) = r.good k) := Lib.hid (by rw [hsu]; rfl)
        clear hsu ht h78
        go_wp2_with (go_at_call 78; refine (h7 _ (Hg.out.trans (by (repeat (first | exact World.grows.refl _ | assumption | refine World.grows.alloc ?_ _ | refine World.grows.plus ?_ _ _ | refine World.grows.drew ?_))))).mono ?_; rintro e W2 ⟨rfl, hg2⟩)
        go_roundw
        case rel => exact ⟨k + 1, lc, la, by omega, by go_num, by rw [Hsu.out], Lib.hid (by rw [Hsu.out]; exact Hl.out.grow hg2), Lib.hid (Hg.out.trans hg2)⟩
        case measure => simp [intOf]; omega
      | true =>
        rw [ht] at hsu h7
        have Hsu : Hid (r.good (k + 1) = r.good k ++ [k]) := Lib.hid (by rw [hsu]; rfl)
        clear hsu ht h78
        go_wp2_with (first
          | (go_at_call 78; refine (h7 _ (Hg.out.trans (by (repeat (first | exact World.grows.refl _ | assumption | refine World.grows.alloc ?_ _ | refine World.grows.plus ?_ _ _ | refine World.grows.drew ?_))))).mono ?_; rintro e W2 ⟨rfl, hg2⟩; have Hg2 := Lib.hid hg2; have hs2 := hg2.size; clear hg2)
          | (at_builtin; go_loud (refine wpList_append_r _ rfl _ _ _ (by rfl) W1.heap.size 106 (.int .i64 0) 1 8 Try.underlying122 el106 (by rfl) (by omega) _ (r.good k).length _ (by rfl) ((Hl.out.grow Hg2.out).grow (by (repeat (first | exact World.grows.refl _ | assumption | refine World.grows.alloc ?_ _ | refine World.grows.plus ?_ _ _ | refine World.grows.drew ?_)))) _ (by rfl) 1 _ (SliceAt.src (by omega) (one_slice _ _ _ _ (by simp))) (one_cell _) (by unfold maxLen; omega) (by omega) (by simp; omega) ?_; intro v' w3 hown hgb)))
        obtain ⟨va, vc, rfl, -, -⟩ := row_form hown
        have hg3 : W1.grows w3 := hgb.grows ((Hl.out.grow Hg2.out).grow (by (repeat (first | exact World.grows.refl _ | assumption | refine World.grows.alloc ?_ _ | refine World.grows.plus ?_ _ _ | refine World.grows.drew ?_)))) ((Hg.out.trans Hg2.out).trans (by (repeat (first | exact World.grows.refl _ | assumption | refine World.grows.alloc ?_ _ | refine World.grows.plus ?_ _ _ | refine World.grows.drew ?_)))) (Nat.le_refl _)
        have hlen : (r.good (k + 1)).length = (r.good k).length + 1 := by rw [Hsu.out, List.length_append, List.length_singleton]
        go_roundw
        case rel => exact ⟨k + 1, vc, va, by omega, by go_num, by rw [hlen], Lib.hid (by rw [hlen, Hsu.out, ilist_snoc]; exact hown), Lib.hid hg3⟩
        case measure => simp [intOf]; omega
    · have hke : k = N := by omega
      subst hke
      obtain ⟨n, hn⟩ : ∃ n, (r.good k).length = n + 1 := ⟨(r.good k).length - 1, by have := Hfx.out.2.1; omega⟩
      have hls : lsN r.befB (r.good k) n = r.fix := by have := Hfx.out.1; rwa [hn, Nat.add_sub_cancel] at this
      have hfl : r.fix < 2 ^ r.nc := by rw [HNN.out]; exact Hfx.out.2.2
      have hmem : ∀ a, a ∈ r.good k → a < 2 ^ r.nc := fun a ha => by
        rw [HNN.out]
        have := (List.mem_filter.1 ha).1
        exact List.mem_range.1 this
      have hDW := Lib.hid (HF.out.1.mono Hg.out).deskR
      have h82 := fun (V : World) (hV : wr.grows V) (bx : Nat) (hbx : V.cell? ⟨bx, 0, none⟩ = some (.func (.func 79) #[.pointer (some ⟨db, 0, none⟩)] #[])) (U : World) (hU : V.grows U) a b ha hb => before_c U db mb bx r _ m (hDW.out.mono (hV.trans hU)) Hr.out (hU.cell_of hbx) a b (hmem a ha) (hmem b hb)
      have h81 := fun (V : World) (hV : wr.grows V) (bx : Nat) (hbx : V.cell? ⟨bx, 0, none⟩ = some (.func (.func 79) #[.pointer (some ⟨db, 0, none⟩)] #[])) => leastS_c V (.slice la (r.good k).length lc) (r.good k) n hn ((Hl.out.grow hV).listAt rfl) #[.pointer (some ⟨bx, 0, none⟩)] r.befB (fun U hU a b ha hb => h82 V hV bx hbx U hU a b ha hb)
      rw [hls] at h81
      have h64 := fun W => list64 W r.fix 8 (Nat.lt_of_lt_of_le hfl (Nat.pow_le_pow_right (by omega) hc8)) (by omega)
      have h79 := fun W (g : wr.grows W) => price_c W db mb r _ m (hDW.out.mono g) Hr.out r.fix hfl
      have hlen8 := bitsL_length_le 8 r.fix
      obtain ⟨F, hF⟩ : ∃ F, r.fix = F := ⟨_, rfl⟩
      obtain ⟨LF, hLF⟩ : ∃ LF, bitsL 8 F = LF := ⟨_, rfl⟩
      rw [hF] at h81 h64 h79 hlen8
      rw [hLF] at h64 h79 hlen8
      have HFix : Hid (r.fix = F ∧ bitsL 8 F = LF) := Lib.hid ⟨hF, hLF⟩
      have hl9 : LF.length ≤ 1000000000 := by omega
      clear h82 hls hfl hmem hF hLF h78 hn
      go_upto_region 15 with (first
        | (go_at_call 81; refine (h81 _ (by (repeat (first | exact World.grows.refl _ | assumption | refine World.grows.alloc ?_ _ | refine World.grows.plus ?_ _ _ | refine World.grows.drew ?_))) _ (by simp [go_sem])).mono ?_; rintro e W3 ⟨rfl, hg3⟩; have Hg3 := Lib.hid hg3; have hs3 := hg3.size; have c9 : W3.cell? ⟨wr.heap.size, 0, none⟩ = some (.func (.func 79) #[.pointer (some ⟨db, 0, none⟩)] #[]) := hg3.cell_of (by simp [go_sem]); clear hg3 h81)
        | (go_at_call 64; refine (h64 _).mono ?_; rintro e W4 ⟨lv, rfl, hL, hg4⟩; have HL4 := Lib.hid hL; obtain ⟨fa, fc, rfl, f1, f2, -⟩ := hL; have c9 := hg4.cell_of c9; have Hg4 := Lib.hid hg4; clear hg4 h64))
      iterate 7 go_step
      refine wpList_copy_splice rfl (.tmp 46) (.tmp 47) 29 29 rfl 3 Try.underlying29 (by kernel_rfl) _ _ _ _ _ _ (by rfl) (by rfl) W4.heap.size 0 (rowA LF.length fun _ => 0).toList 3 (by simpa using heap_alloc_new W4 _) (ilist LF) (by rw [ilist_len]; exact (Nat.min_self _).symm) (fun h0 => ⟨rfl, ?_⟩) (by simp [ilist_len, rowA_size]) (ilist_one LF) W4.heap.size W4 (by exact World.grows.alloc (World.grows.refl _) _) (Nat.le_refl _) ?_
      · rw [ilist_len] at h0
        obtain ⟨a, c, e, -, -, hc⟩ := HL4.out
        cases e
        obtain ⟨fb, fo, rfl, -⟩ := hc 0 0 h0 (by omega)
        refine ⟨_, rfl, fun j v hv => ?_⟩
        have hj : j < LF.length := by
          have := (List.getElem?_eq_some_iff.1 hv).1
          rwa [ilist_len] at this
        obtain ⟨b', o', e', h⟩ := hc j 0 hj (by omega)
        cases e'
        rw [ilist_get LF hj] at hv
        cases hv
        rw [add_plain]
        have h2 : W4.cell? ⟨fb, fo + j, none⟩ = some (.int .i64 ((LF.getD j 0 : Nat) : Int)) := by simpa using h
        exact World.grows.cell_of (by (repeat (first | exact World.grows.refl _ | assumption | refine World.grows.alloc ?_ _ | refine World.grows.plus ?_ _ _ | refine World.grows.drew ?_))) h2
      · intro w5 H5 hg5
        have hsp : splice (rowA LF.length fun _ => 0).toList 0 (ilist LF) = ilist LF := by
          simp [splice, ilist_len, rowA_size]
        rw [hsp] at H5
        have G5 := Lib.hid (show W4.grows w5 from hg5)
        have c5 := G5.out.cell_of c9
        clear hg5 hsp c9
        have hgW5 : Hid (wr.grows w5) := Lib.hid ((World.grows.trans (by (repeat (first | exact World.grows.refl _ | assumption | refine World.grows.alloc ?_ _ | refine World.grows.plus ?_ _ _ | refine World.grows.drew ?_))) Hg3.out).trans (Hg4.out.trans G5.out))
        go_wp2_with (go_at_call 79; refine (h79 _ hgW5.out).mono ?_; rintro e W6 ⟨rfl, hg6⟩)
        (refine bodyPost_ret (v := .tuple #[.slice (some ⟨W4.heap.size, 0, none⟩) LF.length LF.length, .int .i64 (r.price LF), .int .i64 0]) (by simp [results, Try.results32, go_sem]) rfl ?_)
        refine ⟨_, by rw [HFix.out.1, HFix.out.2], ?_, World.grows.trans (World.grows.trans (World.grows.trans (World.grows.trans (by (repeat (first | exact World.grows.refl _ | assumption | refine World.grows.alloc ?_ _ | refine World.grows.plus ?_ _ _ | refine World.grows.drew ?_))) Hgw.out) Hg.out) hgW5.out) hg6⟩
        rw [HFix.out.1, HFix.out.2]
        refine ListAt.mono ?_ hg6
        refine ⟨_, _, rfl, Nat.le_refl _, by unfold maxLen; omega, fun i j hi hj => ⟨_, _, rfl, ?_⟩⟩
        have : j = 0 := by omega
        subst this
        rw [Nat.zero_add, Nat.mul_one, Nat.add_zero]
        exact cell_of_heap H5.out (by rw [List.getElem?_toArray]; exact ilist_get LF hi)
end Go.Proofs.Ytdminglglapnlaa

