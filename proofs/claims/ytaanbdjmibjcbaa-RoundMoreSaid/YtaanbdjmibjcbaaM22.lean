/-
  What is proved: plain: a town without a visit, with a street more, with a faster street.
-/
import Derived.Test.YtaanbdjmibjcbaaM21
import Derived.Test.YtaanbdjmibjcbaaM18
import Derived.Test.YtaanbdjmibjcbaaM13
import Derived.Test.YtaanbdjmibjcbaaM9
import Derived.Deep.CutRange
import Derived.Test.YtaanbdjmibjcbaaM15
set_option linter.all false
namespace Go.Proofs.Ytaanbdjmibjcbaa
open Go.RowKit
section
variable {t t' : Town} {slow : Bool}
theorem aft_short (h : t.Ok) (h' : t'.Ok) (e1 : t'.vp = t.vp) (e2 : t'.vf = t.vf) (e3 : t'.vb = t.vb) (hst : ∀ φ, Pot t' slow φ → Pot t slow φ) {i k : Nat} (ha : aft t slow i k = true) : aft t' slow i k = true := by
  rw [aft_iff] at ha ⊢
  rw [e1, e2, e3]
  have := dist_le h h' hst (t.vp i).toNat (t.vp k).toNat
  exact ⟨ha.1, by omega⟩
theorem late_short (h : t.Ok) (h' : t'.Ok) (e1 : t'.vp = t.vp) (e2 : t'.vf = t.vf) (hst : ∀ φ, Pot t' slow φ → Pot t slow φ) {i : Nat} (hl : lateV t' slow i = true) : lateV t slow i = true := by
  unfold lateV at hl ⊢
  rw [decide_eq_true_eq] at hl ⊢
  rw [e1, e2] at hl
  have := dist_le h h' hst 0 (t.vp i).toNat
  omega
theorem few_short (h : t.Ok) (h' : t'.Ok) (e0 : t'.nv = t.nv) (e1 : t'.vp = t.vp) (e2 : t'.vf = t.vf) (e3 : t'.vb = t.vb) (hst : ∀ φ, Pot t' slow φ → Pot t slow φ) (h0 : needE t slow = 0) : needE t' slow = 0 ∧ few t' slow ≤ few t slow := by
  obtain ⟨-, hl⟩ := need_zero h0
  refine ⟨need_of (t'.ok_iff.2 h') ?_, ?_⟩
  · unfold anyLate at hl ⊢
    refine any_false_of fun i hi => ?_
    rw [e0] at hi
    cases e : lateV t' slow i with
    | false => rfl
    | true => rw [any_true_of hi (late_short h h' e1 e2 hst e)] at hl; cases hl
  · have := mm_mono (A := aft t slow) (B := aft t' slow) (n := t.nv) fun i k _ _ ha => aft_short h h' e1 e2 e3 hst ha
    unfold few
    rw [e0]
    omega
end
theorem less_need {t : Town} {slow : Bool} (h0 : needE t slow = 0) {v : Nat} (hv : v < t.nv) : needE (t.less v) slow = 0 := by
  obtain ⟨hc, hl⟩ := need_zero h0
  have hok := t.ok_iff.1 hc
  refine need_of ((t.less v).ok_iff.2 (hok.less hv)) ?_
  unfold anyLate at hl ⊢
  refine any_false_of fun i hi => ?_
  have e : lateV (t.less v) slow i = lateV t slow (sk v i) := by
    unfold lateV
    rw [dist_less]; rfl
  rw [e]
  cases e2 : lateV t slow (sk v i) with
  | false => rfl
  | true => rw [any_true_of (sk_lt hi hv) e2] at hl; cases hl
theorem less_few {t : Town} {slow : Bool} (h0 : needE t slow = 0) {v : Nat} (hv : v < t.nv) : few (t.less v) slow ≤ few t slow ∧ few t slow ≤ few (t.less v) slow + 1 := by
  have hok := t.ok_iff.1 (need_zero h0).1
  have e1 : few (t.less v) slow = t.nv - 1 - mm (lessA (aft t slow) v) t.nv := by
    unfold few
    rw [show (t.less v).nv = t.nv - 1 from rfl, ← mm_cut hv, mm_congr fun i k _ _ => aft_less t slow v i k]
  have e2 := mm_less_le (A := aft t slow) (n := t.nv) v
  have e3 := mm_less_ge (aft_rises hok slow) hv
  have e4 := mm_le (aft t slow) t.nv
  rw [e1]
  unfold few
  omega
theorem in_cost {t : Town} {slow : Bool} (h0 : needE t slow = 0) {v : Nat} (hv : v < t.nv) : ((List.range (costL t slow).length).any fun i => decide ((((costL t slow).getD i 0 : Nat) : Int) = (v : Int))) = decide (few (t.less v) slow < few t slow) := by
  have e : costL t slow = filtL (costB t slow) t.nv := by unfold costL; rw [if_pos h0]
  rw [e]
  show _ = costB t slow v
  cases h : costB t slow v with
  | true =>
    have h3 : v ∈ filtL (costB t slow) t.nv := List.mem_filter.2 ⟨List.mem_range.2 hv, h⟩
    obtain ⟨k, hk, e2⟩ := List.mem_iff_getElem.1 h3
    refine any_true_of hk ?_
    rw [decide_eq_true_eq, List.getD_eq_getElem?_getD, List.getElem?_eq_getElem hk, Option.getD_some, e2]
  | false =>
    refine any_false_of fun i hi => decide_eq_false fun e2 => ?_
    have h4 := (filtL_at_getD hi).2
    have e3 : (filtL (costB t slow) t.nv).getD i 0 = v := Int.ofNat_inj.1 e2
    rw [e3, h] at h4
    cases h4
/-- with a street more -/
def Town.more (t : Town) (a b lo hi : Int) : Town := { t with ns := t.ns + 1, sa := fun i => if i < t.ns then t.sa i else a, sb := fun i => if i < t.ns then t.sb i else b, slo := fun i => if i < t.ns then t.slo i else lo, shi := fun i => if i < t.ns then t.shi i else hi }
theorem more_pot {t : Town} {slow : Bool} {a b lo hi : Int} {φ : Nat → Int} (h : Pot (t.more a b lo hi) slow φ) : Pot t slow φ := fun i hi' => by
  have h1 := h i (show i < t.ns + 1 by omega)
  unfold Town.mn at h1 ⊢
  simp only [Town.more, if_pos hi'] at h1
  exact h1
theorem more_cells (t : Town) (a b lo hi : Int) : tableL t.ns 4 (scell t) ++ [.int .i64 a, .int .i64 b, .int .i64 lo, .int .i64 hi] = tableL (t.ns + 1) 4 (scell (t.more a b lo hi)) := by
  rw [tableL_add]
  congr 1
  · exact tableL_congr2 (fun i j hi' hj => by unfold scell; simp only [Town.more, if_pos hi']) (by omega)
  · show _ = tableL 1 4 (fun i j => scell (t.more a b lo hi) (t.ns + i) j)
    have e : ∀ j, scell (t.more a b lo hi) (t.ns + 0) j = if j = 0 then .int .i64 a else if j = 1 then .int .i64 b else if j = 2 then .int .i64 lo else .int .i64 hi := fun j => by
      unfold scell
      simp only [Town.more, Nat.add_zero, Nat.lt_irrefl, if_false]
    have e2 : tableL 1 4 (fun i j => scell (t.more a b lo hi) (t.ns + i) j) = [scell (t.more a b lo hi) (t.ns + 0) 0, scell (t.more a b lo hi) (t.ns + 0) 1, scell (t.more a b lo hi) (t.ns + 0) 2, scell (t.more a b lo hi) (t.ns + 0) 3] := rfl
    rw [e2, e, e, e, e]
    rfl
/-- with a faster street -/
def Town.fastS (t : Town) (q : Nat) (lo hi : Int) : Town := { t with slo := fun i => if i = q then lo else t.slo i, shi := fun i => if i = q then hi else t.shi i }
theorem fastS_ok {t : Town} (h : t.Ok) {q : Nat} {lo hi : Int} (h1 : 1 ≤ lo) (h2 : lo ≤ hi) (h3 : hi ≤ 1000) : (t.fastS q lo hi).Ok where
  p1 := h.p1
  p8 := h.p8
  s20 := h.s20
  v16 := h.v16
  sa := h.sa
  sb := h.sb
  ne := h.ne
  lo := fun i hi' => by
    have := h.lo i hi'
    show 1 ≤ (if i = q then lo else t.slo i) ∧ (if i = q then lo else t.slo i) ≤ (if i = q then hi else t.shi i) ∧ (if i = q then hi else t.shi i) ≤ 1000
    split <;> omega
  vp := h.vp
  vt := h.vt
theorem fastS_pot {t : Town} {slow : Bool} {q : Nat} {lo hi : Int} (h1 : lo ≤ t.slo q) (h2 : hi ≤ t.shi q) {φ : Nat → Int} (h : Pot (t.fastS q lo hi) slow φ) : Pot t slow φ := fun i hi' => by
  have h3 := h i hi'
  unfold Town.mn at h3 ⊢
  simp only [Town.fastS] at h3
  by_cases e : i = q
  · subst e
    rw [if_pos rfl, if_pos rfl] at h3
    cases slow <;> simp only [Bool.false_eq_true, if_false, if_true] at h3 ⊢ <;> omega
  · rw [if_neg e, if_neg e] at h3
    exact h3
end Go.Proofs.Ytaanbdjmibjcbaa

/-
  What is proved: append onto an empty slice as an operation that makes memory; one street in memory.
-/
namespace Go.Proofs.Ytaanbdjmibjcbaa
open Go.RowKit
attribute [local irreducible] Go.wpCalm rowI
theorem goes_append_empty {o : Oper} {a : Act} {W : World} {K : Value → World → Prop} (s x : Operand) (t : TypeId) (ho : o.op = .call { callee := .builtin .append, args := #[s, x], argTypes := #[t, t] })
    (base : Nat) (e : TypeId) (z : Value) (size bytes : Nat) (ht : Try.prog.underlying t = some (.slice e)) (hi : Try.prog.knows e z size bytes) (hzs : z.cells.size = size) (hsz : 0 < size)
    (A : Option Addr) (hs : a.eval s = .slice A 0 0) (hA : W.ownsRow base e size (.slice A 0 0) 0 []) (hbase : base ≤ W.heap.size)
    (xv : Value) (hx : a.eval x = xv) (m : Nat) (news : List Value) (hsrc : SrcAt W xv m size news) (h63 : m ≤ maxLen) (hbytes : m * bytes ≤ 140737488355328)
    (hK : ∀ v' w', w'.ownsRow base e size v' m news → W.grows w' → K v' w') : o.goes Try.prog a W K := by
  rcases Nat.eq_zero_or_pos m with h0 | h0
  · subst h0
    obtain ⟨B, c, rfl, hl, -⟩ := hsrc
    obtain ⟨i, hi1, hz, rfl, rfl⟩ := hi
    have hn : news = [] := List.eq_nil_of_length_eq_zero (by simpa using hl)
    subst hn
    have hr : (Builtin.append_ #[t, t] o.type #[.slice A 0 0, .slice B 0 c]).run Try.prog W = .ok (.slice A 0 0) W := by
      cases A <;> cases B <;> simp [Builtin.append_, run_underlying ht, sizeOf, typeInfo, hi1, Builtin.lenOf, Builtin.firstCells, storeCells, loadCells, loadCellsFrom]
    unfold Oper.goes execOp
    simp only [ho, resolve, invoke, builtin, Sem.run_bind, Sem.run_pure, Result.andThen_ok, List.map_toArray, List.map_cons, List.map_nil, hs, hx, hr]
    exact ⟨World.grows.refl _, hK _ _ hA (World.grows.refl _)⟩
  · obtain ⟨cap, xs, hr, h1, h2, h3, h4⟩ := run_append_fresh (P := Try.prog) W t o.type e z size bytes ht hi hzs hsz A xv m news hsrc h0 h63 hbytes
    have g : W.grows (W.drew.alloc (.cells xs e)) := (World.grows.refl W).drew.alloc _
    have hl : news.length = m * size := by
      obtain ⟨_, _, _, hl, _⟩ := hsrc
      exact hl
    unfold Oper.goes execOp
    simp only [ho, resolve, invoke, builtin, Sem.run_bind, Sem.run_pure, Result.andThen_ok, List.map_toArray, List.map_cons, List.map_nil, hs, hx, hr]
    exact ⟨g, hK _ _ (ownsRow_of (World.heap_at _ _ _ rfl) (show base ≤ W.heap.size from hbase) h1 h2 h3 h4 hl) g⟩
theorem el62 : Try.prog.knows 62 (.agg #[.int .i64 0, .int .i64 0, .int .i64 0, .int .i64 0]) 4 32 := Program.knows_of (by kernel_rfl)
theorem one4 (w : World) (x y z u : Value) (t b : Nat) (hb : b = w.heap.size) : SliceAt (w.alloc (.cells #[x, y, z, u] t)) (.slice (some ⟨b, 0, none⟩) 1 1) 1 4 (fun _ j => if j = 0 then x else if j = 1 then y else if j = 2 then z else u) := by
  subst hb
  refine ⟨_, _, rfl, by omega, by unfold maxLen; omega, fun i j hi hj => ⟨_, _, rfl, ?_⟩⟩
  have hi0 : i = 0 := by omega
  subst hi0
  rcases (show j = 0 ∨ j = 1 ∨ j = 2 ∨ j = 3 by omega) with rfl | rfl | rfl | rfl <;> simp [go_sem]
theorem scell_one (t : Town) (i j : Nat) : (scell t i j).oneCell' = true := by
  unfold scell
  split
  · rfl
  · split
    · rfl
    · split <;> rfl
end Go.Proofs.Ytaanbdjmibjcbaa

/-
  What is proved: RoundMore (11) answers true.
-/
namespace Go.Proofs.Ytaanbdjmibjcbaa
open Go.RowKit
attribute [local irreducible] Go.wpCalm rowI
def kM (c : Value) (v : Value) (_ : World) : Prop := v = c
theorem st_kM (c : Value) : Stays (kM c) := fun _ _ _ h _ => h
def kM0 (n : Nat) (v : Value) (W : World) : Prop := ∃ b, v = .slice (some ⟨b, 0, none⟩) 0 0 ∧ W.ownsRow n 62 4 v 0 []
theorem st_kM0 (n : Nat) : Stays (kM0 n) := fun _ _ _ h g => by
  obtain ⟨b, h1, h2⟩ := h
  exact ⟨b, h1, h2.grow g⟩
def kMr (n m : Nat) (l : List Value) (v : Value) (W : World) : Prop := W.ownsRow n 62 4 v m l
theorem st_kMr (n m : Nat) (l : List Value) : Stays (kMr n m l) := fun _ _ _ h g => World.ownsRow.grow h g
def kM1 (a b lo hi : Int) (v : Value) (W : World) : Prop := SliceAt W v 1 4 (fun _ j => if j = 0 then .int .i64 a else if j = 1 then .int .i64 b else if j = 2 then .int .i64 lo else .int .i64 hi)
theorem st_kM1 (a b lo hi : Int) : Stays (kM1 a b lo hi) := fun _ _ _ h g => SliceAt.mono h g
def kMT (_ : Value) (_ : World) : Prop := True
theorem wr_fs {fs : Nat} (h : fs ≤ 65535) : wrap64 (fs : Int) = fs := by unfold wrap64; omega
theorem wr_hi {fs : Nat} {Lo Hi : Int} (h : fs ≤ 65535) (hlo : 1 ≤ Lo ∧ Lo ≤ Hi ∧ Hi ≤ 1000) : wrap64 (Hi - (fs : Int)) = Hi - fs := by
  obtain ⟨h1, h2, h3⟩ := hlo
  unfold wrap64; omega
theorem lo_facts {Lo Hi H2 L2 : Int} (hlo : 1 ≤ Lo ∧ Lo ≤ Hi ∧ Hi ≤ 1000) (h2 : 1 ≤ H2 ∧ H2 ≤ Hi) (e : min Lo H2 = L2) : 1 ≤ L2 ∧ L2 ≤ H2 ∧ H2 ≤ 1000 ∧ L2 ≤ Lo ∧ H2 ≤ Hi := by
  obtain ⟨h1, h3, h4⟩ := hlo
  obtain ⟨h5, h6⟩ := h2
  omega
theorem lt_cells {t : Town} {q n : Nat} {xs : Array Value} (h : ∀ i j, i < n → j < 4 → xs[i * 4 + j]? = some (scell t i j)) (hq : q < n) : q * 4 + 3 < xs.size ∧ q * 4 + 2 < xs.size := by
  have h1 := h q 3 hq (by omega)
  have hs : q * 4 + 3 < xs.size := by
    rcases Nat.lt_or_ge (q * 4 + 3) xs.size with h2 | h2
    · exact h2
    · rw [Array.getElem?_eq_none h2] at h1; cases h1
  exact ⟨hs, by omega⟩
theorem fast_cells {t : Town} {q : Nat} {L H : Int} {xs : Array Value} {n i j : Nat} (h : ∀ i j, i < n → j < 4 → xs[i * 4 + j]? = some (scell t i j)) (hi : i < n) (hj : j < 4) : ((xs.setIfInBounds (q * 4 + 3) (.int .i64 H)).setIfInBounds (q * 4 + 2) (.int .i64 L))[0 + i * 4 + j]? = some (scell (t.fastS q L H) i j) := by
  rw [Nat.zero_add]
  have h1 := h i j hi hj
  have hs : i * 4 + j < xs.size := by
    rcases Nat.lt_or_ge (i * 4 + j) xs.size with h2 | h2
    · exact h2
    · rw [Array.getElem?_eq_none h2] at h1; cases h1
  by_cases e1 : q * 4 + 2 = i * 4 + j
  · have ei : i = q := by omega
    have ej : j = 2 := by omega
    subst ei ej
    simp [Array.getElem?_setIfInBounds, hs, scell, Town.fastS]
  · by_cases e2 : q * 4 + 3 = i * 4 + j
    · have ei : i = q := by omega
      have ej : j = 3 := by omega
      subst ei ej
      simp [Array.getElem?_setIfInBounds, hs, scell, Town.fastS]
    · rw [Array.getElem?_setIfInBounds, if_neg e1, Array.getElem?_setIfInBounds, if_neg e2, h1]
      by_cases ei : i = q
      · have ej : j = 0 ∨ j = 1 := by omega
        rcases ej with rfl | rfl <;> rfl
      · simp [scell, Town.fastS, ei]
theorem hi_facts {fs : Nat} {Lo Hi H2 : Int} (h : fs ≤ 65535) (hlo : 1 ≤ Lo ∧ Lo ≤ Hi ∧ Hi ≤ 1000) (e : max 1 (Hi - (fs : Int)) = H2) : 1 ≤ H2 ∧ H2 ≤ Hi := by
  obtain ⟨h1, h2, h3⟩ := hlo
  omega
theorem one4_cells (a b c d : Int) : ∀ u ∈ tableL 1 4 (fun _ j => if j = 0 then Value.int .i64 a else if j = 1 then .int .i64 b else if j = 2 then .int .i64 c else .int .i64 d), u.oneCell' = true := by
  intro u hu
  have e : tableL 1 4 (fun _ j => if j = 0 then Value.int .i64 a else if j = 1 then .int .i64 b else if j = 2 then .int .i64 c else .int .i64 d) = [.int .i64 a, .int .i64 b, .int .i64 c, .int .i64 d] := rfl
  rw [e] at hu
  simp at hu
  rcases hu with rfl | rfl | rfl | rfl <;> rfl
set_option maxRecDepth 100000 in
set_option maxHeartbeats 8000000 in
theorem more_w (w : World) (tv : Value) (t : Town) (ht : TownAt w tv t) (x0 x1 : Nat) (hx0 : x0 ≤ 255) (hx1 : x1 ≤ 255) (ma mb mlo mhi : Int) (fs : Nat) (hfs : fs ≤ 65535) (slow : Bool) : Calls Try.prog 11 #[tv, .int .u8 (x0 : Nat), .int .u8 (x1 : Nat), .agg #[.int .i64 ma, .int .i64 mb, .int .i64 mlo, .int .i64 mhi], .int .u16 (fs : Nat), .bool slow] w fun e w' => e = .returned (.bool true) ∧ w.grows w' := by
  have HT := Lib.hid ht
  obtain ⟨sv, vv, rfl, ⟨sa, sc, rfl, -⟩, ⟨va, vc, rfl, -⟩⟩ := ht
  obtain ⟨P0, hP⟩ : ∃ P, t.pl = P := ⟨_, rfl⟩
  obtain ⟨N1, hN1⟩ : ∃ N, t.ns = N := ⟨_, rfl⟩
  obtain ⟨N2, hN2⟩ : ∃ N, t.nv = N := ⟨_, rfl⟩
  have HP0 := Lib.hid hP
  have HN1 := Lib.hid hN1
  have HN2 := Lib.hid hN2
  rw [hP, hN1, hN2] at HT ⊢
  clear hP hN1 hN2
  go_enter Try.func11, Try.ntmps11
  have HB : Hid (((w.alloc (.cells #[.int .i64 P0, .slice sa N1 sc, .slice va N2 vc] 25)).alloc (.cells #[.int .i64 ma, .int .i64 mb, .int .i64 mlo, .int .i64 mhi] 62)).heap[w.heap.size]? = some (.cells #[.int .i64 P0, .slice sa N1 sc, .slice va N2 vc] 25)) := Lib.hid (World.grows.heap_of (by (repeat (first | exact World.grows.refl _ | assumption | refine World.grows.alloc ?_ _ | refine World.grows.plus ?_ _ _ | refine World.grows.drew ?_))) (World.heap_at w _ _ rfl))
  have HB1 : Hid (((w.alloc (.cells #[.int .i64 P0, .slice sa N1 sc, .slice va N2 vc] 25)).alloc (.cells #[.int .i64 ma, .int .i64 mb, .int .i64 mlo, .int .i64 mhi] 62)).heap[w.heap.size + 1]? = some (.cells #[.int .i64 ma, .int .i64 mb, .int .i64 mlo, .int .i64 mhi] 62)) := Lib.hid (World.heap_at _ _ _ (by simp))
  have HW : Hid (w.grows ((w.alloc (.cells #[.int .i64 P0, .slice sa N1 sc, .slice va N2 vc] 25)).alloc (.cells #[.int .i64 ma, .int .i64 mb, .int .i64 mlo, .int .i64 mhi] 62))) := Lib.hid (by (repeat (first | exact World.grows.refl _ | assumption | refine World.grows.alloc ?_ _ | refine World.grows.plus ?_ _ _ | refine World.grows.drew ?_)))
  have q0 := cell_of_heap (i := 0) HB.out rfl
  have q1 := cell_of_heap (i := 1) HB.out rfl
  have q2 := cell_of_heap (i := 2) HB.out rfl
  go_wp2_with (go_at_call 99; fail)
  refine (fine_c _ _ t (HT.out.mono (HW.out.trans (by (repeat (first | exact World.grows.refl _ | assumption | refine World.grows.alloc ?_ _ | refine World.grows.plus ?_ _ _ | refine World.grows.drew ?_)))))).mono ?_
  rintro e U ⟨rfl, g⟩
  replace HW := Lib.hid (HW.out.trans (World.grows.trans (by (repeat (first | exact World.grows.refl _ | assumption | refine World.grows.alloc ?_ _ | refine World.grows.plus ?_ _ _ | refine World.grows.drew ?_))) g)); replace HB := Lib.hid (g.heap_of (World.grows.heap_of (by (repeat (first | exact World.grows.refl _ | assumption | refine World.grows.alloc ?_ _ | refine World.grows.plus ?_ _ _ | refine World.grows.drew ?_))) HB.out)); replace q0 := cell_of_heap (i := 0) HB.out rfl; replace q1 := cell_of_heap (i := 1) HB.out rfl; replace q2 := cell_of_heap (i := 2) HB.out rfl; replace HB1 := Lib.hid (g.heap_of (World.grows.heap_of (by (repeat (first | exact World.grows.refl _ | assumption | refine World.grows.alloc ?_ _ | refine World.grows.plus ?_ _ _ | refine World.grows.drew ?_))) HB1.out)); clear g
  by_cases hfine : t.check = 0
  case neg =>
    rw [decide_eq_false hfine]
    go_wp2_with (go_at_call 99; fail); refine (works_c _).mono ?_; rintro e U9 ⟨rfl, g⟩; replace HW := Lib.hid (HW.out.trans (World.grows.trans (by (repeat (first | exact World.grows.refl _ | assumption | refine World.grows.alloc ?_ _ | refine World.grows.plus ?_ _ _ | refine World.grows.drew ?_))) g)); replace HB := Lib.hid (g.heap_of (World.grows.heap_of (by (repeat (first | exact World.grows.refl _ | assumption | refine World.grows.alloc ?_ _ | refine World.grows.plus ?_ _ _ | refine World.grows.drew ?_))) HB.out)); replace q0 := cell_of_heap (i := 0) HB.out rfl; replace q1 := cell_of_heap (i := 1) HB.out rfl; replace q2 := cell_of_heap (i := 2) HB.out rfl; replace HB1 := Lib.hid (g.heap_of (World.grows.heap_of (by (repeat (first | exact World.grows.refl _ | assumption | refine World.grows.alloc ?_ _ | refine World.grows.plus ?_ _ _ | refine World.grows.drew ?_))) HB1.out)); clear g; go_wp2; (refine bodyPost_ret (v := .bool true) (by simp [results, Try.results11, go_sem]) rfl ?_); exact ⟨rfl, HW.out.trans (by (repeat (first | exact World.grows.refl _ | assumption | refine World.grows.alloc ?_ _ | refine World.grows.plus ?_ _ _ | refine World.grows.drew ?_)))⟩
  rw [decide_eq_true hfine]
  by_cases hn1 : N2 < 1
  · have hn1I : (N2 : Int) < 1 := by omega
    go_wp2_with (go_at_call 99; fail); refine (works_c _).mono ?_; rintro e U9 ⟨rfl, g⟩; replace HW := Lib.hid (HW.out.trans (World.grows.trans (by (repeat (first | exact World.grows.refl _ | assumption | refine World.grows.alloc ?_ _ | refine World.grows.plus ?_ _ _ | refine World.grows.drew ?_))) g)); replace HB := Lib.hid (g.heap_of (World.grows.heap_of (by (repeat (first | exact World.grows.refl _ | assumption | refine World.grows.alloc ?_ _ | refine World.grows.plus ?_ _ _ | refine World.grows.drew ?_))) HB.out)); replace q0 := cell_of_heap (i := 0) HB.out rfl; replace q1 := cell_of_heap (i := 1) HB.out rfl; replace q2 := cell_of_heap (i := 2) HB.out rfl; replace HB1 := Lib.hid (g.heap_of (World.grows.heap_of (by (repeat (first | exact World.grows.refl _ | assumption | refine World.grows.alloc ?_ _ | refine World.grows.plus ?_ _ _ | refine World.grows.drew ?_))) HB1.out)); clear g; go_wp2; (refine bodyPost_ret (v := .bool true) (by simp [results, Try.results11, go_sem]) rfl ?_); exact ⟨rfl, HW.out.trans (by (repeat (first | exact World.grows.refl _ | assumption | refine World.grows.alloc ?_ _ | refine World.grows.plus ?_ _ _ | refine World.grows.drew ?_)))⟩
  have hn1I : ¬ (N2 : Int) < 1 := by omega
  go_wp2_with (go_at_call 99; fail)
  refine (needs_c _ (.agg #[.int .i64 P0, .slice sa N1 sc, .slice va N2 vc]) t slow (HT.out.mono (HW.out.trans (by (repeat (first | exact World.grows.refl _ | assumption | refine World.grows.alloc ?_ _ | refine World.grows.plus ?_ _ _ | refine World.grows.drew ?_)))))).mono ?_
  rintro e U3 ⟨rfl, g⟩
  replace HW := Lib.hid (HW.out.trans (World.grows.trans (by (repeat (first | exact World.grows.refl _ | assumption | refine World.grows.alloc ?_ _ | refine World.grows.plus ?_ _ _ | refine World.grows.drew ?_))) g)); replace HB := Lib.hid (g.heap_of (World.grows.heap_of (by (repeat (first | exact World.grows.refl _ | assumption | refine World.grows.alloc ?_ _ | refine World.grows.plus ?_ _ _ | refine World.grows.drew ?_))) HB.out)); replace q0 := cell_of_heap (i := 0) HB.out rfl; replace q1 := cell_of_heap (i := 1) HB.out rfl; replace q2 := cell_of_heap (i := 2) HB.out rfl; replace HB1 := Lib.hid (g.heap_of (World.grows.heap_of (by (repeat (first | exact World.grows.refl _ | assumption | refine World.grows.alloc ?_ _ | refine World.grows.plus ?_ _ _ | refine World.grows.drew ?_))) HB1.out)); clear g
  by_cases hC0 : needE t slow = 0
  case neg =>
    obtain ⟨C, hC⟩ : ∃ x, needE t slow = x := ⟨_, rfl⟩
    rw [hC] at hC0 ⊢
    have hCI : ¬ (C : Int) = 0 := by omega
    have hCb : ((C : Int) == 0) = false := beq_eq_false_iff_ne.2 hCI
    have hCb2 : ((C : Int) != 0) = true := by rw [bne, hCb]; rfl
    clear hC
    go_wp2_with (go_at_call 99; fail); refine (works_c _).mono ?_; rintro e U9 ⟨rfl, g⟩; replace HW := Lib.hid (HW.out.trans (World.grows.trans (by (repeat (first | exact World.grows.refl _ | assumption | refine World.grows.alloc ?_ _ | refine World.grows.plus ?_ _ _ | refine World.grows.drew ?_))) g)); replace HB := Lib.hid (g.heap_of (World.grows.heap_of (by (repeat (first | exact World.grows.refl _ | assumption | refine World.grows.alloc ?_ _ | refine World.grows.plus ?_ _ _ | refine World.grows.drew ?_))) HB.out)); replace q0 := cell_of_heap (i := 0) HB.out rfl; replace q1 := cell_of_heap (i := 1) HB.out rfl; replace q2 := cell_of_heap (i := 2) HB.out rfl; replace HB1 := Lib.hid (g.heap_of (World.grows.heap_of (by (repeat (first | exact World.grows.refl _ | assumption | refine World.grows.alloc ?_ _ | refine World.grows.plus ?_ _ _ | refine World.grows.drew ?_))) HB1.out)); clear g; go_wp2; (refine bodyPost_ret (v := .bool true) (by simp [results, Try.results11, go_sem]) rfl ?_); exact ⟨rfl, HW.out.trans (by (repeat (first | exact World.grows.refl _ | assumption | refine World.grows.alloc ?_ _ | refine World.grows.plus ?_ _ _ | refine World.grows.drew ?_)))⟩
  rw [hC0]
  have HC := Lib.hid hC0
  have HFine := Lib.hid hfine
  have Hok := Lib.hid (t.ok_iff.1 hfine)
  have h16 : N2 ≤ 16 := by rw [← HN2.out]; exact Hok.out.v16
  have h20 : N1 ≤ 20 := by rw [← HN1.out]; exact Hok.out.s20
  obtain ⟨k, hk⟩ : ∃ x : Nat, x0 % N2 = x := ⟨_, rfl⟩
  have hkn : k < N2 := by rw [← hk]; exact Nat.mod_lt _ (by omega)
  have hkt : k < t.nv := by rw [HN2.out]; exact hkn
  have e1 := tmod_at hk
  have w1 : IntKind.i64.wrap (x0 : Int) = x0 := wrapI rfl (by omega)
  have w1b : wrap64 (x0 : Int) = x0 := by unfold wrap64; omega
  have k1 : ¬ (N2 : Int) = 0 := by omega
  have k3 : ¬ N2 = 0 := by omega
  obtain ⟨F, hF⟩ : ∃ x, few t slow = x := ⟨_, rfl⟩
  have HF := Lib.hid hF
  have hF16 : F ≤ 16 := by rw [← hF]; have h1 := few_nv t slow; have := Hok.out.v16; omega
  have h42 := fun W ht => carts_c W (.agg #[.int .i64 P0, .slice sa N1 sc, .slice va N2 vc]) t slow ht
  have h39 := fun W ht => costsL_c W (.agg #[.int .i64 P0, .slice sa N1 sc, .slice va N2 vc]) t slow ht
  have hcn : cartsN t slow = F := by unfold cartsN; rw [if_pos hC0, hF]
  rw [hcn] at h42
  rw [hC0] at h39
  clear hk hcn hfine hF
  go_wp2_with (go_at_call 99; fail)
  refine (h42 _ (HT.out.mono (HW.out.trans (by (repeat (first | exact World.grows.refl _ | assumption | refine World.grows.alloc ?_ _ | refine World.grows.plus ?_ _ _ | refine World.grows.drew ?_)))))).mono ?_
  rintro e V1 ⟨rfl, g⟩
  replace HW := Lib.hid (HW.out.trans (World.grows.trans (by (repeat (first | exact World.grows.refl _ | assumption | refine World.grows.alloc ?_ _ | refine World.grows.plus ?_ _ _ | refine World.grows.drew ?_))) g)); replace HB := Lib.hid (g.heap_of (World.grows.heap_of (by (repeat (first | exact World.grows.refl _ | assumption | refine World.grows.alloc ?_ _ | refine World.grows.plus ?_ _ _ | refine World.grows.drew ?_))) HB.out)); replace q0 := cell_of_heap (i := 0) HB.out rfl; replace q1 := cell_of_heap (i := 1) HB.out rfl; replace q2 := cell_of_heap (i := 2) HB.out rfl; replace HB1 := Lib.hid (g.heap_of (World.grows.heap_of (by (repeat (first | exact World.grows.refl _ | assumption | refine World.grows.alloc ?_ _ | refine World.grows.plus ?_ _ _ | refine World.grows.drew ?_))) HB1.out)); clear g
  clear h42
  go_wp2_with (go_at_call 99; fail)
  refine (h39 _ (HT.out.mono (HW.out.trans (by (repeat (first | exact World.grows.refl _ | assumption | refine World.grows.alloc ?_ _ | refine World.grows.plus ?_ _ _ | refine World.grows.drew ?_)))))).mono ?_
  rintro e V2 ⟨ya, yc, rfl, g, hCo⟩
  have HCo := Lib.hid hCo
  replace HW := Lib.hid (HW.out.trans (World.grows.trans (by (repeat (first | exact World.grows.refl _ | assumption | refine World.grows.alloc ?_ _ | refine World.grows.plus ?_ _ _ | refine World.grows.drew ?_))) g)); replace HB := Lib.hid (g.heap_of (World.grows.heap_of (by (repeat (first | exact World.grows.refl _ | assumption | refine World.grows.alloc ?_ _ | refine World.grows.plus ?_ _ _ | refine World.grows.drew ?_))) HB.out)); replace q0 := cell_of_heap (i := 0) HB.out rfl; replace q1 := cell_of_heap (i := 1) HB.out rfl; replace q2 := cell_of_heap (i := 2) HB.out rfl; replace HB1 := Lib.hid (g.heap_of (World.grows.heap_of (by (repeat (first | exact World.grows.refl _ | assumption | refine World.grows.alloc ?_ _ | refine World.grows.plus ?_ _ _ | refine World.grows.drew ?_))) HB1.out)); clear g
  clear h39 hCo
  go_wp2_with (go_at_call 99; fail)
  refine (less_town_c _ _ t (HT.out.mono (HW.out.trans (by (repeat (first | exact World.grows.refl _ | assumption | refine World.grows.alloc ?_ _ | refine World.grows.plus ?_ _ _ | refine World.grows.drew ?_))))) k hkt (by have := Hok.out.v16; omega)).mono ?_
  rintro e V3 ⟨lt, rfl, g, hlt⟩
  have HLt := Lib.hid hlt
  replace HCo := Lib.hid (HCo.out.mono (World.grows.trans (by (repeat (first | exact World.grows.refl _ | assumption | refine World.grows.alloc ?_ _ | refine World.grows.plus ?_ _ _ | refine World.grows.drew ?_))) g))
  replace HW := Lib.hid (HW.out.trans (World.grows.trans (by (repeat (first | exact World.grows.refl _ | assumption | refine World.grows.alloc ?_ _ | refine World.grows.plus ?_ _ _ | refine World.grows.drew ?_))) g)); replace HB := Lib.hid (g.heap_of (World.grows.heap_of (by (repeat (first | exact World.grows.refl _ | assumption | refine World.grows.alloc ?_ _ | refine World.grows.plus ?_ _ _ | refine World.grows.drew ?_))) HB.out)); replace q0 := cell_of_heap (i := 0) HB.out rfl; replace q1 := cell_of_heap (i := 1) HB.out rfl; replace q2 := cell_of_heap (i := 2) HB.out rfl; replace HB1 := Lib.hid (g.heap_of (World.grows.heap_of (by (repeat (first | exact World.grows.refl _ | assumption | refine World.grows.alloc ?_ _ | refine World.grows.plus ?_ _ _ | refine World.grows.drew ?_))) HB1.out)); clear g
  clear hlt e1 w1 w1b k1 k3
  have hml := less_need HC.out hkt
  obtain ⟨hm1, hm2⟩ := less_few HC.out hkt
  have hin0 := in_cost HC.out hkt
  obtain ⟨m, hm⟩ : ∃ x, few (t.less k) slow = x := ⟨_, rfl⟩
  have hcm : cartsN (t.less k) slow = m := by unfold cartsN; rw [if_pos hml, hm]
  have h42 := carts_c V3 lt (t.less k) slow HLt.out
  rw [hcm] at h42
  rw [hm, HF.out] at hm1 hm2 hin0
  obtain ⟨CL, hCL⟩ : ∃ x, costL t slow = x := ⟨_, rfl⟩
  rw [hCL] at hin0 HCo ⊢
  have hin := fun W hW => in_c W (.slice ya CL.length yc) CL.length (fun i => ((CL.getD i 0 : Nat) : Int)) hW (k : Int)
  rw [hin0] at hin
  obtain ⟨K, hK⟩ : ∃ x, CL.length = x := ⟨_, rfl⟩
  have HCA : Hid (IntsAt V3 (.slice ya K yc) K (fun i => ((CL.getD i 0 : Nat) : Int))) := Lib.hid (by have h := HCo.out; unfold ListAt at h; rw [hK] at h; exact h)
  rw [hK] at hin ⊢
  clear hml hm hcm hin0 hCL hK HCo
  go_wp2_with (go_at_call 99; fail)
  refine h42.mono ?_
  rintro e V4 ⟨rfl, g⟩
  replace HCA := Lib.hid (IntsAt.mono HCA.out (World.grows.trans (by (repeat (first | exact World.grows.refl _ | assumption | refine World.grows.alloc ?_ _ | refine World.grows.plus ?_ _ _ | refine World.grows.drew ?_))) g))
  replace HW := Lib.hid (HW.out.trans (World.grows.trans (by (repeat (first | exact World.grows.refl _ | assumption | refine World.grows.alloc ?_ _ | refine World.grows.plus ?_ _ _ | refine World.grows.drew ?_))) g)); replace HB := Lib.hid (g.heap_of (World.grows.heap_of (by (repeat (first | exact World.grows.refl _ | assumption | refine World.grows.alloc ?_ _ | refine World.grows.plus ?_ _ _ | refine World.grows.drew ?_))) HB.out)); replace q0 := cell_of_heap (i := 0) HB.out rfl; replace q1 := cell_of_heap (i := 1) HB.out rfl; replace q2 := cell_of_heap (i := 2) HB.out rfl; replace HB1 := Lib.hid (g.heap_of (World.grows.heap_of (by (repeat (first | exact World.grows.refl _ | assumption | refine World.grows.alloc ?_ _ | refine World.grows.plus ?_ _ _ | refine World.grows.drew ?_))) HB1.out)); clear g
  clear h42 HLt
  have hwF : wrap64 ((F : Int) - 1) = (F : Int) - 1 := by unfold wrap64; omega
  have hj1 : ¬ (F : Int) < (m : Int) := by omega
  have hj2 : ¬ (m : Int) < (F : Int) - 1 := by omega
  go_upto_region 9 with fail
  go_cut [90] from 69 to 177 (fun s w' => s = .bool false ∧ Hid (V4.grows w'))
  case first =>
    by_cases hmF : m < F
    · have hmI : (m : Int) < (F : Int) := by omega
      rw [decide_eq_true hmF] at hin
      go_wp2_with (go_at_call 99; fail)
      refine (hin _ (IntsAt.mono HCA.out (by (repeat (first | exact World.grows.refl _ | assumption | refine World.grows.alloc ?_ _ | refine World.grows.plus ?_ _ _ | refine World.grows.drew ?_))))).mono ?_
      rintro e V5 ⟨rfl, g⟩
      go_wp2
      go_meet
      exact ⟨by rw [decide_eq_false (show ¬ F < m by omega), decide_eq_false (show ¬ (m : Int) < (F : Int) - 1 by omega)]; rfl, Lib.hid (World.grows.trans g (by (repeat (first | exact World.grows.refl _ | assumption | refine World.grows.alloc ?_ _ | refine World.grows.plus ?_ _ _ | refine World.grows.drew ?_))))⟩
    · have hmI : ¬ (m : Int) < (F : Int) := by omega
      rw [decide_eq_false hmF] at hin
      go_wp2_with (go_at_call 99; fail)
      refine (hin _ (IntsAt.mono HCA.out (by (repeat (first | exact World.grows.refl _ | assumption | refine World.grows.alloc ?_ _ | refine World.grows.plus ?_ _ _ | refine World.grows.drew ?_))))).mono ?_
      rintro e V5 ⟨rfl, g⟩
      go_wp2
      go_meet
      exact ⟨by rw [decide_eq_false (show ¬ F < m by omega), decide_eq_false (show ¬ (m : Int) < (F : Int) - 1 by omega)]; rfl, Lib.hid (World.grows.trans g (by (repeat (first | exact World.grows.refl _ | assumption | refine World.grows.alloc ?_ _ | refine World.grows.plus ?_ _ _ | refine World.grows.drew ?_))))⟩
  case rest =>
    obtain ⟨rfl, hv⟩ := hcut
    have g := hv.out
    replace HW := Lib.hid (HW.out.trans g)
    replace HB := Lib.hid (g.heap_of HB.out)
    replace HB1 := Lib.hid (g.heap_of HB1.out)
    clear g q0 q1 q2 hv HCA hin hj1 hj2 hwF
    have q0 : wc.cell? ⟨w.heap.size, 0, none⟩ = some (.int .i64 P0) := cell_of_heap HB.out rfl
    have q1 : wc.cell? ⟨w.heap.size, 1, none⟩ = some (.slice sa N1 sc) := cell_of_heap HB.out rfl
    have q2 : wc.cell? ⟨w.heap.size, 2, none⟩ = some (.slice va N2 vc) := cell_of_heap HB.out rfl
    have hwl : w.heap.size + 1 < wc.heap.size := World.lt_of_block HB1.out
    go_upto_region 12 with fail
    obtain ⟨xb, hxb⟩ : ∃ xb, wc.heap.size = xb := ⟨_, rfl⟩
    have HX : Hid ((wc.alloc (.cells #[.int .i64 P0, .slice sa N1 sc, .slice va N2 vc] 25)).heap[xb]? = some (.cells #[.int .i64 P0, .slice sa N1 sc, .slice va N2 vc] 25)) := Lib.hid (World.heap_at _ _ _ hxb.symm)
    have gX : wc.grows (wc.alloc (.cells #[.int .i64 P0, .slice sa N1 sc, .slice va N2 vc] 25)) := by (repeat (first | exact World.grows.refl _ | assumption | refine World.grows.alloc ?_ _ | refine World.grows.plus ?_ _ _ | refine World.grows.drew ?_))
    rw [hxb]
    generalize wc.alloc (.cells #[.int .i64 P0, .slice sa N1 sc, .slice va N2 vc] 25) = V5 at HX gX ⊢
    replace HW := Lib.hid (HW.out.trans gX)
    replace HB := Lib.hid (gX.heap_of HB.out)
    replace HB1 := Lib.hid (gX.heap_of HB1.out)
    clear q0 q1 q2 gX
    have q1 : V5.cell? ⟨w.heap.size, 1, none⟩ = some (.slice sa N1 sc) := cell_of_heap HB.out rfl
    have s0 := cell_of_heap (i := 0) HB1.out rfl
    have s1 := cell_of_heap (i := 1) HB1.out rfl
    have s2 := cell_of_heap (i := 2) HB1.out rfl
    have s3 := cell_of_heap (i := 3) HB1.out rfl
    have hS : Hid (SliceAt w (.slice sa N1 sc) N1 4 (scell t)) := Lib.hid (by
      obtain ⟨sv', vv', e9, h1, h2⟩ := HT.out
      have e8 := Array.toList_inj.2 (Value.agg.inj e9)
      simp only [List.cons.injEq, and_true] at e8
      obtain ⟨-, rfl, rfl⟩ := e8
      rw [HN1.out] at h1
      exact h1)
    refine wp_region_invT 6 [[], [], [1], [0, 2], [], [4]] [some 92, some 93, some 94, some 95, some 96, some 97] [kM0 V5.heap.size, kM (.pointer (some ⟨w.heap.size, 1, none⟩)), kM (.slice sa N1 sc), kMr V5.heap.size N1 (tableL N1 4 (scell t)), kM (.agg #[.int .i64 ma, .int .i64 mb, .int .i64 mlo, .int .i64 mhi]), kM1 ma mb mlo mhi] [kMT, kMT, kMT, kMT, kMT, kMT] (fun _ _ _ _ => True) (by kernel_rfl) (by kernel_rfl) (by decide) (by simp) (by simp) (fun r hr => by simp only [List.mem_cons, List.not_mem_nil, or_false] at hr; rcases hr with rfl | rfl | rfl | rfl | rfl | rfl <;> first | exact st_kM0 _ | exact st_kM _ | exact st_kMr _ _ _ | exact st_kM1 _ _ _ _) (fun _ _ _ _ _ _ _ _ _ _ => ⟨trivial, trivial⟩) ?_ ?_
    · simp only [List.take_succ_cons, List.take_zero, zipT, oblT, depQ, List.getD_cons_zero, List.getD_cons_succ, and_true]
      refine ⟨?_, ?_, ?_, ?_, ?_, ?_⟩
      · intro K nc xc hK
        go_simp
        exact ⟨by (repeat (first | exact World.grows.refl _ | assumption | refine World.grows.alloc ?_ _ | refine World.grows.plus ?_ _ _ | refine World.grows.drew ?_)), hK _ _ ⟨_, rfl, ownsRow_empty (World.heap_at _ _ _ (by simp)) rfl (by simp)⟩ trivial⟩
      · intro K nc xc hK
        go_simp
        exact ⟨by (repeat (first | exact World.grows.refl _ | assumption | refine World.grows.alloc ?_ _ | refine World.grows.plus ?_ _ _ | refine World.grows.drew ?_)), hK _ _ rfl trivial⟩
      · intro K nc xc hK v0 h0
        obtain rfl : v0 = _ := h0
        go_simp
        exact ⟨by (repeat (first | exact World.grows.refl _ | assumption | refine World.grows.alloc ?_ _ | refine World.grows.plus ?_ _ _ | refine World.grows.drew ?_)), hK _ _ rfl trivial⟩
      · intro K nc xc hK v0 h0 v2 h2
        obtain ⟨b0, rfl, h0o⟩ := h0
        obtain rfl : v2 = _ := h2
        exact goes_append_empty (.tmp 92) (.tmp 94) 22 rfl V5.heap.size 62 (.agg #[.int .i64 0, .int .i64 0, .int .i64 0, .int .i64 0]) 4 32 Try.underlying22 el62 (by rfl) (by omega) _ (by simp [go_sem]) h0o (by simp) _ (by simp [go_sem]) N1 _ (SliceAt.src (by omega) (hS.out.mono (HW.out.trans (World.grows_plus _ _ _)))) (by unfold maxLen; omega) (by omega) fun v' w' h1 _ => hK _ _ h1 trivial
      · intro K nc xc hK
        go_simp
        exact ⟨by (repeat (first | exact World.grows.refl _ | assumption | refine World.grows.alloc ?_ _ | refine World.grows.plus ?_ _ _ | refine World.grows.drew ?_)), hK _ _ rfl trivial⟩
      · intro K nc xc hK v0 h0
        obtain rfl : v0 = _ := h0
        go_simp
        exact ⟨by (repeat (first | exact World.grows.refl _ | assumption | refine World.grows.alloc ?_ _ | refine World.grows.plus ?_ _ _ | refine World.grows.drew ?_)), hK _ _ (one4 _ _ _ _ _ _ _ (by simp)) trivial⟩
    · intro val nc xc hv hd
      have e0 : ∃ b0, val 0 = .slice (some ⟨b0, 0, none⟩) 0 0 := by obtain ⟨b0, h, -⟩ := hv 0 (by omega); exact ⟨b0, h⟩
      obtain ⟨b0, e0⟩ := e0
      have e1 : val 1 = .pointer (some ⟨w.heap.size, 1, none⟩) := hv 1 (by omega)
      have e2 : val 2 = .slice sa N1 sc := hv 2 (by omega)
      have h3 : (V5.plus nc xc).ownsRow V5.heap.size 62 4 (val 3) N1 (tableL N1 4 (scell t)) := hv 3 (by omega)
      have e4 : val 4 = .agg #[.int .i64 ma, .int .i64 mb, .int .i64 mlo, .int .i64 mhi] := hv 4 (by omega)
      have h5 : SliceAt (V5.plus nc xc) (val 5) 1 4 (fun _ j => if j = 0 then .int .i64 ma else if j = 1 then .int .i64 mb else if j = 2 then .int .i64 mlo else .int .i64 mhi) := hv 5 (by omega)
      obtain ⟨v3, e3⟩ : ∃ x, val 3 = x := ⟨_, rfl⟩
      obtain ⟨v5, e5⟩ : ∃ x, val 5 = x := ⟨_, rfl⟩
      rw [e3] at h3
      rw [e5] at h5
      have gN := World.grows_plus V5 nc xc
      have hxV : xb < V5.heap.size := World.lt_of_block HX.out
      clear hv hd
      generalize V5.plus nc xc = V6 at h3 h5 gN ⊢
      rw [show List.range 6 = [0, 1, 2, 3, 4, 5] from rfl]
      simp only [putL, List.getD_cons_zero, List.getD_cons_succ, e0, e1, e2, e3, e4, e5, List.drop_succ_cons, List.drop_zero]
      clear e0 e1 e2 e3 e4 e5
      refine wpList_append_r _ rfl (.tmp 95) (.tmp 97) 22 (by rfl) V5.heap.size 62 (.agg #[.int .i64 0, .int .i64 0, .int .i64 0, .int .i64 0]) 4 32 Try.underlying22 el62 (by rfl) (by omega) v3 N1 _ (by simp [go_sem]) h3 v5 (by simp [go_sem]) 1 _ (SliceAt.src (by omega) h5) (one4_cells _ _ _ _) (by unfold maxLen; omega) (by omega) gN.size ?_
      intro v7 V7 hown hgb
      have gV7 : V5.grows V7 := hgb.grows h3 gN (Nat.le_refl _)
      obtain ⟨a7, c7, rfl, -, -⟩ := row_form hown
      have hcells : tableL N1 4 (scell t) ++ tableL 1 4 (fun _ j => if j = 0 then .int .i64 ma else if j = 1 then .int .i64 mb else if j = 2 then .int .i64 mlo else .int .i64 mhi) = tableL (N1 + 1) 4 (scell (t.more ma mb mlo mhi)) := by
        have := more_cells t ma mb mlo mhi
        rw [HN1.out] at this
        exact this
      rw [hcells] at hown
      replace HW := Lib.hid (HW.out.trans gV7)
      replace HB := Lib.hid (gV7.heap_of HB.out)
      replace HX := Lib.hid (gV7.heap_of HX.out)
      have x1 : V7.cell? ⟨xb, 1, none⟩ = some (.slice sa N1 sc) := cell_of_heap HX.out rfl
      have xf := frozen_of_heap HX.out 1
      have hne : xb ≠ w.heap.size := by omega
      have E := Lib.hid (store_of_heap HX.out 1 (.slice a7 (N1 + 1) c7))
      have B2 : Hid ((V7.setCell ⟨xb, 1, none⟩ (.slice a7 (N1 + 1) c7)).heap[w.heap.size]? = some (.cells #[.int .i64 P0, .slice sa N1 sc, .slice va N2 vc] 25)) := Lib.hid ((World.heap_setCell_map _ _ _ _ (show xb ≠ w.heap.size from hne)).trans HB.out)
      have GW : Hid (w.grows (V7.setCell ⟨xb, 1, none⟩ (.slice a7 (N1 + 1) c7))) := Lib.hid (HW.out.setCell (p := ⟨xb, 1, none⟩) (show w.heap.size ≤ xb by omega) _)
      have S9 : Hid (SliceAt (V7.setCell ⟨xb, 1, none⟩ (.slice a7 (N1 + 1) c7)) (.slice a7 (N1 + 1) c7) (N1 + 1) 4 (scell (t.more ma mb mlo mhi))) := Lib.hid ((hown.set (p := ⟨xb, 1, none⟩) hxV _).sliceAt fun i j hi hj => tableL_get _ hi hj)
      clear q1 s0 s1 s2 s3 HW HB HX gN h3 h5 hown hgb gV7 hcells HB1
      generalize hV8 : V7.setCell ⟨xb, 1, none⟩ (.slice a7 (N1 + 1) c7) = V8 at E B2 GW S9
      go_upto_region 13 with fail
      clear hV8 x1 xf
      have z0 := cell_of_heap (i := 0) E.out rfl
      have z1 := cell_of_heap (i := 1) E.out rfl
      have z2 := cell_of_heap (i := 2) E.out rfl
      have hTV : Hid (SliceAt w (.slice va N2 vc) N2 3 (vcell t)) := Lib.hid (by
        obtain ⟨sv', vv', e9, h1, h2⟩ := HT.out
        have e8 := Array.toList_inj.2 (Value.agg.inj e9)
        simp only [List.cons.injEq, and_true] at e8
        obtain ⟨-, rfl, rfl⟩ := e8
        rw [HN2.out] at h2
        exact h2)
      have HTX : Hid (TownAt V8 (.agg #[.int .i64 P0, .slice a7 (N1 + 1) c7, .slice va N2 vc]) (t.more ma mb mlo mhi)) := Lib.hid ⟨_, _, by show _ = Value.agg #[.int .i64 t.pl, _, _]; rw [HP0.out], by have h := S9.out; rw [← HN1.out] at h ⊢; exact h, by have h := SliceAt.mono hTV.out GW.out; rw [← HN2.out] at h ⊢; exact h⟩
      have hshort : (t.more ma mb mlo mhi).check = 0 → cartsN (t.more ma mb mlo mhi) slow ≤ F := fun h => by
        obtain ⟨h1, h2⟩ := few_short (slow := slow) Hok.out ((t.more ma mb mlo mhi).ok_iff.1 h) rfl rfl rfl rfl (fun φ hφ => more_pot hφ) HC.out
        unfold cartsN
        rw [if_pos h1, ← HF.out]
        exact h2
      have h41 := fine_c V8 _ _ HTX.out
      have h42 := fun W (g : V8.grows W) => carts_c W _ _ slow (HTX.out.mono g)
      obtain ⟨m2, hm2⟩ : ∃ x, cartsN (t.more ma mb mlo mhi) slow = x := ⟨_, rfl⟩
      rw [hm2] at h42 hshort
      have HSh := Lib.hid hshort
      clear hm2 hshort S9 HTX
      go_wp2_with (go_at_call 99; fail)
      refine h41.mono ?_
      rintro e V9 ⟨rfl, g⟩
      clear h41
      replace GW := Lib.hid (GW.out.trans g)
      replace B2 := Lib.hid (g.heap_of B2.out)
      replace E := Lib.hid (g.heap_of E.out)
      replace z0 := g.cell_of z0
      replace z1 := g.cell_of z1
      replace z2 := g.cell_of z2
      go_upto_if 101 with (fail)
      go_cut [19] from 14 to 177 (fun s w' => s = .pointer (some ⟨xb, 0, none⟩) ∧ Hid (V9.grows w'))
      case first =>
        by_cases hfx : (t.more ma mb mlo mhi).check = 0
        · rw [decide_eq_true hfx]
          have hj := HSh.out hfx
          have hjI : ¬ (F : Int) < (m2 : Int) := by omega
          clear hfx
          go_wp2_with (go_at_call 99; fail)
          refine (h42 _ (g.trans (by (repeat (first | exact World.grows.refl _ | assumption | refine World.grows.alloc ?_ _ | refine World.grows.plus ?_ _ _ | refine World.grows.drew ?_))))).mono ?_
          rintro e V10 ⟨rfl, g10⟩
          go_wp2
          go_meet
          exact ⟨rfl, Lib.hid (World.grows.trans g10 (by (repeat (first | exact World.grows.refl _ | assumption | refine World.grows.alloc ?_ _ | refine World.grows.plus ?_ _ _ | refine World.grows.drew ?_))))⟩
        · rw [decide_eq_false hfx]
          clear hfx
          go_wp2
          go_meet
          exact ⟨rfl, Lib.hid (by (repeat (first | exact World.grows.refl _ | assumption | refine World.grows.alloc ?_ _ | refine World.grows.plus ?_ _ _ | refine World.grows.drew ?_)))⟩
      case rest =>
        obtain ⟨rfl, hv⟩ := hcut
        have gc := hv.out
        replace GW := Lib.hid (GW.out.trans gc)
        replace B2 := Lib.hid (gc.heap_of B2.out)
        replace E := Lib.hid (gc.heap_of E.out)
        clear gc hv z0 z1 z2 h42 HSh g
        have q0 : wc.cell? ⟨w.heap.size, 0, none⟩ = some (.int .i64 P0) := cell_of_heap B2.out rfl
        have q1 : wc.cell? ⟨w.heap.size, 1, none⟩ = some (.slice sa N1 sc) := cell_of_heap B2.out rfl
        have q2 : wc.cell? ⟨w.heap.size, 2, none⟩ = some (.slice va N2 vc) := cell_of_heap B2.out rfl
        replace HW := GW
        replace HB := B2
        by_cases hz1 : N1 = 0
        · have hzI : decide ((N1 : Int) = 0) = true := decide_eq_true (by omega)
          have hzb : ((N1 : Int) == 0) = true := by rw [hz1]; rfl
          clear hz1
          go_wp2_with (go_at_call 99; fail)
          refine (works_c _).mono ?_; rintro e U9 ⟨rfl, g⟩; replace HW := Lib.hid (HW.out.trans (World.grows.trans (by (repeat (first | exact World.grows.refl _ | assumption | refine World.grows.alloc ?_ _ | refine World.grows.plus ?_ _ _ | refine World.grows.drew ?_))) g)); replace HB := Lib.hid (g.heap_of (World.grows.heap_of (by (repeat (first | exact World.grows.refl _ | assumption | refine World.grows.alloc ?_ _ | refine World.grows.plus ?_ _ _ | refine World.grows.drew ?_))) HB.out)); replace q0 := cell_of_heap (i := 0) HB.out rfl; replace q1 := cell_of_heap (i := 1) HB.out rfl; replace q2 := cell_of_heap (i := 2) HB.out rfl; clear g; go_wp2; (refine bodyPost_ret (v := .bool true) (by simp [results, Try.results11, go_sem]) rfl ?_); exact ⟨rfl, HW.out.trans (by (repeat (first | exact World.grows.refl _ | assumption | refine World.grows.alloc ?_ _ | refine World.grows.plus ?_ _ _ | refine World.grows.drew ?_)))⟩
        have hzI : ¬ (N1 : Int) = 0 := by omega
        have hzb : ((N1 : Int) == 0) = false := beq_eq_false_iff_ne.2 hzI
        go_upto_region 19 with fail
        iterate 10 go_step
        refine wpList_append_fresh _ rfl (.tmp 120) (.tmp 122) 22 (by rfl) 62 (.agg #[.int .i64 0, .int .i64 0, .int .i64 0, .int .i64 0]) 4 32 Try.underlying22 el62 (by rfl) (by omega) (some ⟨wc.heap.size, 0, none⟩) (by simp [go_sem]) (.slice sa N1 sc) (by simp [go_sem]) N1 _ (SliceAt.src (by omega) (hS.out.mono (HW.out.trans (by (repeat (first | exact World.grows.refl _ | assumption | refine World.grows.alloc ?_ _ | refine World.grows.plus ?_ _ _ | refine World.grows.drew ?_)))))) (by omega) (by unfold maxLen; omega) (by omega) ?_
        intro cap xs hc1 hc2 hc3 hc4
        obtain ⟨nb, hnb⟩ : ∃ nb, (wc.alloc (.cells #[] 62)).heap.size = nb := ⟨_, rfl⟩
        have HN : Hid (((wc.alloc (.cells #[] 62)).drew.alloc (.cells xs 62)).heap[nb]? = some (.cells xs 62)) := Lib.hid (World.heap_at _ _ _ hnb.symm)
        have gN : wc.grows ((wc.alloc (.cells #[] 62)).drew.alloc (.cells xs 62)) := ((World.grows.refl wc).alloc _).drew.alloc _
        have hxw : xb < wc.heap.size := World.lt_of_block E.out
        have hnx : xb < nb := by rw [← hnb]; simp; omega
        have hXS : Hid (∀ i j, i < N1 → j < 4 → xs[i * 4 + j]? = some (scell t i j)) := Lib.hid fun i j hi hj => by
          have h := tableL_get (m := N1) (sz := 4) (scell t) hi hj
          rw [← hc4, List.getElem?_take, if_pos (by omega)] at h
          rw [← Array.getElem?_toList]
          exact h
        rw [hnb]
        clear hnb hc3 hc4 q0 q1 q2
        generalize (wc.alloc (.cells #[] 62)).drew.alloc (.cells xs 62) = Y1 at HN gN ⊢
        replace HW := Lib.hid (HW.out.trans gN)
        replace HB := Lib.hid (gN.heap_of HB.out)
        replace E := Lib.hid (gN.heap_of E.out)
        have x1 := cell_of_heap (i := 1) E.out rfl
        have xf := frozen_of_heap E.out 1
        have hne : xb ≠ w.heap.size := by omega
        have E2 := Lib.hid (store_of_heap E.out 1 (.slice (some ⟨nb, 0, none⟩) N1 cap))
        have B3 : Hid ((Y1.setCell ⟨xb, 1, none⟩ (.slice (some ⟨nb, 0, none⟩) N1 cap)).heap[w.heap.size]? = some (.cells #[.int .i64 P0, .slice sa N1 sc, .slice va N2 vc] 25)) := Lib.hid ((World.heap_setCell_map _ _ _ _ (show xb ≠ w.heap.size from hne)).trans HB.out)
        have HNb : Hid ((Y1.setCell ⟨xb, 1, none⟩ (.slice (some ⟨nb, 0, none⟩) N1 cap)).heap[nb]? = some (.cells xs 62)) := Lib.hid ((World.heap_setCell_map _ _ _ _ (show xb ≠ nb by omega)).trans HN.out)
        have GW2 : Hid (w.grows (Y1.setCell ⟨xb, 1, none⟩ (.slice (some ⟨nb, 0, none⟩) N1 cap))) := Lib.hid (HW.out.setCell (p := ⟨xb, 1, none⟩) (show w.heap.size ≤ xb by omega) _)
        clear HW HB HN E gN
        generalize hY2 : Y1.setCell ⟨xb, 1, none⟩ (.slice (some ⟨nb, 0, none⟩) N1 cap) = Y2 at E2 B3 HNb GW2
        go_upto_region 20 with fail
        clear hY2 x1 xf
        have z1 : Y2.cell? ⟨xb, 1, none⟩ = some (.slice (some ⟨nb, 0, none⟩) N1 cap) := cell_of_heap E2.out rfl
        have q1 : Y2.cell? ⟨w.heap.size, 1, none⟩ = some (.slice sa N1 sc) := cell_of_heap B3.out rfl
        obtain ⟨q, hq⟩ : ∃ x : Nat, x1 % N1 = x := ⟨_, rfl⟩
        have hqn : q < N1 := by rw [← hq]; exact Nat.mod_lt _ (by omega)
        have hqI : (q : Int) < N1 := by omega
        have e2 := tmod_at hq
        have w2 : IntKind.i64.wrap (x1 : Int) = x1 := wrapI rfl (by omega)
        have k3 : ¬ N1 = 0 := by omega
        clear hq
        (refine wp_region_calm (by kernel_rfl) (by kernel_rfl) ?_; (repeat (refine wpCalm_step (fun K hK => ?_); go_simp; first | (refine hK _ ?_; clear hK K) | (apply Exists.intro; refine ⟨fun n' x' => ?_, hK _ ?_⟩; (fail); clear hK K))); refine wpCalm_nil ?_; intro nq xq)
        have gN := World.grows_plus Y2 nq xq
        replace GW2 := Lib.hid (GW2.out.trans gN)
        replace B3 := Lib.hid (gN.heap_of B3.out)
        replace HNb := Lib.hid (gN.heap_of HNb.out)
        replace E2 := Lib.hid (gN.heap_of E2.out)
        clear z1 q1 e2 w2
        generalize Y2.plus nq xq = Y3 at GW2 B3 HNb E2 ⊢
        have hlo := Hok.out.lo q (by rw [HN1.out]; exact hqn)
        obtain ⟨Lo, hLo⟩ : ∃ x, t.slo q = x := ⟨_, rfl⟩
        obtain ⟨Hi, hHi⟩ : ∃ x, t.shi q = x := ⟨_, rfl⟩
        have y3 : Y3.cell? ⟨nb, q * 4 + 3, none⟩ = some (.int .i64 Hi) := by rw [← hHi]; exact cell_of_heap HNb.out (hXS.out q 3 hqn (by omega))
        have y2 : Y3.cell? ⟨nb, q * 4 + 2, none⟩ = some (.int .i64 Lo) := by rw [← hLo]; exact cell_of_heap HNb.out (hXS.out q 2 hqn (by omega))
        have f3 := frozen_of_heap HNb.out (q * 4 + 3)
        have f2 := frozen_of_heap HNb.out (q * 4 + 2)
        rw [hLo, hHi] at hlo
        have HLo := Lib.hid hLo
        have HHi := Lib.hid hHi
        have v2 : wrap64 (Hi - (fs : Int)) = Hi - fs := wr_hi hfs hlo
        have HLH := Lib.hid hlo
        clear hlo
        have hwn : w.heap.size < nb := by omega
        clear hn1 hn1I hzI hzb hz1 k3 hne hm1 hm2 hwl hxb hkt hkn hqI hxV
        clear hLo hHi
        go_upto_region 22 with fail
        obtain ⟨H2, hH2⟩ : ∃ x, max 1 (Hi - (fs : Int)) = x := ⟨_, rfl⟩
        have HH2 := Lib.hid (hi_facts hfs HLH.out hH2)
        rw [hH2]
        have HNc : Hid ((Y3.setCell ⟨nb, q * 4 + 2 + 1, none⟩ (.int .i64 H2)).heap[nb]? = some (.cells (xs.setIfInBounds (q * 4 + 3) (.int .i64 H2)) 62)) := Lib.hid (store_of_heap HNb.out (q * 4 + 2 + 1) (.int .i64 H2))
        have B4 : Hid ((Y3.setCell ⟨nb, q * 4 + 2 + 1, none⟩ (.int .i64 H2)).heap[w.heap.size]? = some (.cells #[.int .i64 P0, .slice sa N1 sc, .slice va N2 vc] 25)) := Lib.hid ((World.heap_setCell_map _ _ _ _ (show nb ≠ w.heap.size by omega)).trans B3.out)
        have E4 := Lib.hid ((World.heap_setCell_map Y3 ⟨nb, q * 4 + 2 + 1, none⟩ (.int .i64 H2) xb (show nb ≠ xb by omega)).trans E2.out)
        have GW3 : Hid (w.grows (Y3.setCell ⟨nb, q * 4 + 2 + 1, none⟩ (.int .i64 H2))) := Lib.hid (GW2.out.setCell (p := ⟨nb, q * 4 + 2 + 1, none⟩) (Nat.le_of_lt hwn) _)
        clear y3 y2 f3 f2 v2 hH2
        generalize Y3.setCell ⟨nb, q * 4 + 2 + 1, none⟩ (.int .i64 H2) = Y4 at HNc B4 E4 GW3 ⊢
        clear GW2 B3 HNb E2
        have hxs : q * 4 + 3 < xs.size ∧ q * 4 + 2 < xs.size := lt_cells hXS.out hqn
        have y3 : Y4.cell? ⟨nb, q * 4 + 3, none⟩ = some (.int .i64 H2) := cell_of_heap HNc.out (by rw [Array.getElem?_setIfInBounds, if_pos rfl, if_pos hxs.1])
        have y2 : Y4.cell? ⟨nb, q * 4 + 2, none⟩ = some (.int .i64 Lo) := cell_of_heap HNc.out (by rw [Array.getElem?_setIfInBounds, if_neg (by omega), hXS.out q 2 hqn (by omega), ← HLo.out]; rfl)
        have f2 := frozen_of_heap HNc.out (q * 4 + 2)
        clear hxs
        go_upto_region 22 with fail
        (refine wp_region_tail 14 (by kernel_rfl) (by kernel_rfl) (by decide) ?_; simp only [List.take_succ_cons, List.take_zero, List.drop_succ_cons, List.drop_zero, List.take_nil, List.drop_nil, List.append_nil, List.nil_append, List.cons_append, Nat.reduceAdd, Nat.reduceSub]; (repeat (refine wpCalm_step (fun K hK => ?_); go_simp; first | (refine hK _ ?_; clear hK K) | (apply Exists.intro; refine ⟨fun n' x' => ?_, hK _ ?_⟩; (fail); clear hK K))); refine wpCalm_nil ?_; intro nq xq)
        go_upto_region 23 with fail
        obtain ⟨L2, hL2⟩ : ∃ x, min Lo H2 = x := ⟨_, rfl⟩
        have HL2 := Lib.hid (lo_facts HLH.out HH2.out hL2)
        rw [hL2]
        have gP := World.grows_plus (Y4.setCell ⟨nb, q * 4 + 2, none⟩ (.int .i64 L2)) nq (Y4.setIn nq xq ⟨nb, q * 4 + 2, none⟩ (.int .i64 L2))
        have HNd := Lib.hid (gP.heap_of (store_of_heap HNc.out (q * 4 + 2) (.int .i64 L2)))
        have B5 := Lib.hid (gP.heap_of ((World.heap_setCell_map Y4 ⟨nb, q * 4 + 2, none⟩ (.int .i64 L2) w.heap.size (show nb ≠ w.heap.size by omega)).trans B4.out))
        have E5 := Lib.hid (gP.heap_of ((World.heap_setCell_map Y4 ⟨nb, q * 4 + 2, none⟩ (.int .i64 L2) xb (show nb ≠ xb by omega)).trans E4.out))
        have GW5 := Lib.hid ((GW3.out.setCell (p := ⟨nb, q * 4 + 2, none⟩) (Nat.le_of_lt hwn) (.int .i64 L2)).trans gP)
        clear y3 y2 f2 hL2 gP
        generalize (Y4.setCell ⟨nb, q * 4 + 2, none⟩ (.int .i64 L2)).plus nq (Y4.setIn nq xq ⟨nb, q * 4 + 2, none⟩ (.int .i64 L2)) = Y5 at HNd B5 E5 GW5 ⊢
        clear HNc B4 E4 GW3
        have z0 : Y5.cell? ⟨xb, 0, none⟩ = some (.int .i64 P0) := cell_of_heap E5.out rfl
        have z1 : Y5.cell? ⟨xb, 1, none⟩ = some (.slice (some ⟨nb, 0, none⟩) N1 cap) := cell_of_heap E5.out rfl
        have z2 : Y5.cell? ⟨xb, 2, none⟩ = some (.slice va N2 vc) := cell_of_heap E5.out rfl
        have S5 : Hid (SliceAt Y5 (.slice (some ⟨nb, 0, none⟩) N1 cap) N1 4 (scell (t.fastS q L2 H2))) := Lib.hid ⟨some ⟨nb, 0, none⟩, cap, rfl, hc1, hc2, fun i j hi hj => ⟨nb, 0, rfl, cell_of_heap HNd.out (fast_cells hXS.out hi hj)⟩⟩
        have HTX : Hid (TownAt Y5 (.agg #[.int .i64 P0, .slice (some ⟨nb, 0, none⟩) N1 cap, .slice va N2 vc]) (t.fastS q L2 H2)) := Lib.hid ⟨_, _, by show _ = Value.agg #[.int .i64 t.pl, _, _]; rw [HP0.out], by have h := S5.out; rw [← HN1.out] at h ⊢; exact h, by have h := SliceAt.mono hTV.out GW5.out; rw [← HN2.out] at h ⊢; exact h⟩
        have hshort : cartsN (t.fastS q L2 H2) slow ≤ F := by
          obtain ⟨h1, h2⟩ := few_short (slow := slow) Hok.out (fastS_ok Hok.out HL2.out.1 HL2.out.2.1 HL2.out.2.2.1) rfl rfl rfl rfl (fun φ hφ => fastS_pot (by rw [HLo.out]; exact HL2.out.2.2.2.1) (by rw [HHi.out]; exact HL2.out.2.2.2.2) hφ) HC.out
          unfold cartsN
          rw [if_pos h1, ← HF.out]
          exact h2
        have h42 := carts_c Y5 _ _ slow HTX.out
        obtain ⟨m3, hm3⟩ : ∃ x, cartsN (t.fastS q L2 H2) slow = x := ⟨_, rfl⟩
        rw [hm3] at h42 hshort
        have hjI : (m3 : Int) ≤ (F : Int) := by omega
        clear hm3 hshort S5 HTX HNd E5 hc1 hc2
        go_wp2_with (go_at_call 99; fail)
        refine h42.mono ?_
        rintro e V10 ⟨rfl, g⟩
        replace HW := Lib.hid (GW5.out.trans g)
        replace HB := Lib.hid (g.heap_of B5.out)
        clear g h42 z0 z1 z2
        go_wp2_with (go_at_call 99; fail)
        refine (works_c _).mono ?_; rintro e U9 ⟨rfl, g⟩; replace HW := Lib.hid (HW.out.trans (World.grows.trans (by (repeat (first | exact World.grows.refl _ | assumption | refine World.grows.alloc ?_ _ | refine World.grows.plus ?_ _ _ | refine World.grows.drew ?_))) g)); replace HB := Lib.hid (g.heap_of (World.grows.heap_of (by (repeat (first | exact World.grows.refl _ | assumption | refine World.grows.alloc ?_ _ | refine World.grows.plus ?_ _ _ | refine World.grows.drew ?_))) HB.out)); replace q0 := cell_of_heap (i := 0) HB.out rfl; replace q1 := cell_of_heap (i := 1) HB.out rfl; replace q2 := cell_of_heap (i := 2) HB.out rfl; clear g; go_wp2; (refine bodyPost_ret (v := .bool true) (by simp [results, Try.results11, go_sem]) rfl ?_); exact ⟨rfl, HW.out.trans (by (repeat (first | exact World.grows.refl _ | assumption | refine World.grows.alloc ?_ _ | refine World.grows.plus ?_ _ _ | refine World.grows.drew ?_)))⟩
end Go.Proofs.Ytaanbdjmibjcbaa

/-
  What is proved: the statement RoundMore, at every input.
-/
namespace Go.Proofs.Ytaanbdjmibjcbaa
open Go.ChangeShapes Go.WideShapes Go.ChangeAt Go.RowKit

set_option maxRecDepth 100000 in
theorem roundMore_lifted (os : Os) (started : os.Started) (H : Type) (enc : TypeId × Value → H) :
    ReturnsInHanded {} Try.checked os 11 .any (Rows.roundMoreSpec.pre6 enc Try.prog Try.f11 Rows.roundMoreRow.domain false) (Rows.roundMoreSpec.post enc Try.prog Try.f11 false true false false) := by
  refine law_lifted (C := Try.checked) (tb := 4) started own_c laid_c (by kernel_rfl) Try.func11 (of_decide_eq_true (by kernel_rfl))
    (ChangeSpec.witness6 (enc := enc) (C := Try.checked) false ⟨#[], #[.agg #[.int .i64 0, .slice none 0 0, .slice none 0 0], .int .u8 0, .int .u8 0, .agg #[.int .i64 0, .int .i64 0, .int .i64 0, .int .i64 0], .int .u16 0, .bool false], []⟩ 8 (by kernel_rfl) (by kernel_rfl) (by kernel_rfl) (by kernel_rfl))
    rfl Try.underlying4 rfl (fun ds hl => ?_) (fun W base args ds ps hval hA => ?_)
  · match ds, hl with
    | [d1, d2, d3, d4, d5, d6], _ => exact ⟨rfl, rfl, rfl⟩
  · have hA' : DataW.TrodAll enc Try.prog W 0 (fun _ => true) true Try.f11.params.toList args.toList ds ps := hA
    have hval' : ∀ (j : Nat) t v, Try.f11.params[j]? = some t → args[j]? = some v → Value.okWide Try.prog W .any base t v := hval
    rw [Try.params11] at hA' hval'
    obtain ⟨v1, v2, v3, v4, v5, v6, d1, d2, d3, d4, d5, d6, p1, p2, p3, p4, p5, p6, rfl, rfl, rfl, h1, h2, h3, h4, h5, h6⟩ := trodAll_6 hA'
    obtain ⟨t1, ht1⟩ := town_of (hval' 0 25 v1 rfl rfl) h1
    obtain ⟨z2, rfl, -, -, hw2⟩ := open_int Try.underlying5 (hval' 1 5 v2 rfl rfl) h2; have hz2 := lit_u8 hw2
    obtain ⟨z3, rfl, -, -, hw3⟩ := open_int Try.underlying5 (hval' 2 5 v3 rfl rfl) h3; have hz3 := lit_u8 hw3
    obtain ⟨a4, b4, lo4, hi4, rfl⟩ := street_of (hval' 3 62 v4 rfl rfl) h4
    obtain ⟨z5, rfl, -, -, hw5⟩ := open_int Try.underlying63 (hval' 4 63 v5 rfl rfl) h5; have hz5 := lit_u16 hw5
    obtain ⟨z6, rfl, -⟩ := open_bool Try.underlying4 (hval' 5 4 v6 rfl rfl) h6
    obtain ⟨n2, rfl⟩ := Int.eq_ofNat_of_zero_le hz2.1
    obtain ⟨n3, rfl⟩ := Int.eq_ofNat_of_zero_le hz3.1
    obtain ⟨n5, rfl⟩ := Int.eq_ofNat_of_zero_le hz5.1
    exact more_w W v1 t1 ht1 n2 n3 (by omega) (by omega) a4 b4 lo4 hi4 n5 (by omega) z6

theorem roundMore_holds : Rows.RoundMoreSaid :=
  OpenClaim.holds_of_wide 11 Try.f11 rfl rfl rfl rfl rfl rfl rfl ⟨rfl, rfl, rfl, rfl, rfl⟩ rfl rfl rfl rfl rfl (by kernel_rfl) Try.func11 (by kernel_rfl)
    (of_decide_eq_true (by kernel_rfl)) (by unfold Func.isWrapper; first | (rw [if_pos (by decide +kernel)]; kernel_rfl) | (rw [if_neg (by decide +kernel)]; exact ⟨rfl, rfl⟩))
    (fun os started H enc _ => roundMore_lifted os started H enc)
end Go.Proofs.Ytaanbdjmibjcbaa

