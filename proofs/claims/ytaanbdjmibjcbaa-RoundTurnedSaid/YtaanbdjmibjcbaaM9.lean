/-
  What is proved: append onto a slice without elements and without room: the new block, outright.
-/
import Derived.Test.YtaanbdjmibjcbaaM1
import Derived.Test.YtaanbdjmibjcbaaM4
import Derived.Test.YtaanbdjmibjcbaaM8
import Derived.Lib.SliceRun
set_option linter.all false
namespace Go
open Go.RowKit
section
variable {P : Program} (w : World)
theorem run_append_fresh (t ty e : TypeId) (z : Value) (size bytes : Nat) (ht : P.underlying t = some (.slice e)) (hi : P.knows e z size bytes) (hzs : z.cells.size = size) (hsz : 0 < size)
    (A : Option Addr) (xv : Value) (m : Nat) (news : List Value) (hsrc : SrcAt w xv m size news) (h0 : 0 < m) (h63 : m ≤ maxLen) (hbytes : m * bytes ≤ 140737488355328) :
    ∃ cap xs, (Builtin.append_ #[t, t] ty #[.slice A 0 0, xv]).run P w = .ok (.slice (some ⟨w.heap.size, 0, none⟩) m cap) (w.drew.alloc (.cells xs e)) ∧ m ≤ cap ∧ cap ≤ maxLen ∧ xs.size = cap * size ∧ xs.toList.take (m * size) = news := by
  obtain ⟨i, hi, hz, rfl, rfl⟩ := hi
  obtain ⟨B, c, rfl, hl, hB⟩ := hsrc
  obtain ⟨ad, rfl, hc⟩ := hB h0
  have hge := grownCap_ge w m 0 e
  have hcm : grownCap w m 0 e ≤ maxLen := grownCap_le_maxLen w m 0 e h63
  refine ⟨grownCap w m 0 e, news.toArray ++ Builtin.zeroCells z.cells (grownCap w m 0 e - m), ?_, hge, hcm, ?_, ?_⟩
  · cases A with
    | none =>
      exact run_append_nil (P := P) w t ty e i z ht hi hz ad m c news hl hc (by omega) (by simp only [maxLen] at h63; omega) (by omega)
    | some b =>
      have hr := run_append_grow (P := P) w t ty e i z ht hi hz b 0 0 [] (by simp) (by simp) ad m c news hl hc (by omega) (by simp only [maxLen] at h63; omega) (growslice_fits (by omega) (by simpa using hbytes))
      simpa using hr
  · simp only [Array.size_append, List.size_toArray, size_zeroCells, hzs, hl, ← Nat.add_mul]
    congr 1
    omega
  · simp only [Array.toList_append]
    rw [← hl]
    exact List.take_left
theorem wpList_append_fresh {ops : Array Oper} {rest : List Oper} {o : Oper} {a : Act} {Q : Exit → Act → World → Prop} (hgd : o.guard = none) (s x : Operand) (t : TypeId)
    (ho : o.op = .call { callee := .builtin .append, args := #[s, x], argTypes := #[t, t] })
    (e : TypeId) (z : Value) (size bytes : Nat) (ht : P.underlying t = some (.slice e)) (hi : P.knows e z size bytes) (hzs : z.cells.size = size) (hsz : 0 < size)
    (A : Option Addr) (hs : a.eval s = .slice A 0 0) (xv : Value) (hx : a.eval x = xv) (m : Nat) (news : List Value) (hsrc : SrcAt w xv m size news) (h0 : 0 < m) (h63 : m ≤ maxLen) (hbytes : m * bytes ≤ 140737488355328)
    (h : ∀ cap xs, m ≤ cap → cap ≤ maxLen → xs.size = cap * size → xs.toList.take (m * size) = news → wpList P ops Q rest (a.put o.dst (.slice (some ⟨w.heap.size, 0, none⟩) m cap)) (w.drew.alloc (.cells xs e))) :
    wpList P ops Q (o :: rest) a w := by
  refine wpList_plain hgd fun K hK => ?_
  obtain ⟨cap, xs, hr, h2, h3, h4, h5⟩ := run_append_fresh (P := P) w t o.type e z size bytes ht hi hzs hsz A xv m news hsrc h0 h63 hbytes
  unfold Oper.wp execOp
  simp only [ho, resolve, invoke, builtin, Sem.run_bind, Sem.run_pure, Result.andThen_ok, List.map_toArray, List.map_cons, List.map_nil, hs, hx, hr]
  exact hK _ _ (h cap xs h2 h3 h4 h5)
/-- the same, as a step of a region that draws its order (go_region_law) -/
theorem step_append_fresh {ops : Array Oper} {o : Oper} {a : Act} {K : Act → World → Prop} {Q : Exit → Act → World → Prop} {E : Prop} (hgd : o.guard = none) (s x : Operand) (t : TypeId)
    (ho : o.op = .call { callee := .builtin .append, args := #[s, x], argTypes := #[t, t] })
    (e : TypeId) (z : Value) (size bytes : Nat) (ht : P.underlying t = some (.slice e)) (hi : P.knows e z size bytes) (hzs : z.cells.size = size) (hsz : 0 < size)
    (A : Option Addr) (hs : a.eval s = .slice A 0 0) (xv : Value) (hx : a.eval x = xv) (m : Nat) (news : List Value) (hsrc : SrcAt w xv m size news) (h0 : 0 < m) (h63 : m ≤ maxLen) (hbytes : m * bytes ≤ 140737488355328)
    (hK : ∀ cap xs, m ≤ cap → cap ≤ maxLen → xs.size = cap * size → xs.toList.take (m * size) = news → K (a.put o.dst (.slice (some ⟨w.heap.size, 0, none⟩) m cap)) (w.drew.alloc (.cells xs e))) :
    if Region.wanted o (yielded ops a.tmps) = true then Oper.wp P o a w K Q else E := by
  have hw : Region.wanted o (yielded ops a.tmps) = true := by simp [Region.wanted, hgd]
  rw [if_pos hw]
  obtain ⟨cap, xs, hr, h2, h3, h4, h5⟩ := run_append_fresh (P := P) w t o.type e z size bytes ht hi hzs hsz A xv m news hsrc h0 h63 hbytes
  unfold Oper.wp execOp
  simp only [ho, resolve, invoke, builtin, Sem.run_bind, Sem.run_pure, Result.andThen_ok, List.map_toArray, List.map_cons, List.map_nil, hs, hx, hr]
  exact hK cap xs h2 h3 h4 h5
end
/-- such a block is a row of the call's own -/
theorem ownsRow_of {w : World} {b cap n base : Nat} {e : TypeId} {size : Nat} {xs : Array Value} {l : List Value} (h : w.heap[b]? = some (.cells xs e)) (hb : base ≤ b) (h1 : n ≤ cap) (h2 : cap ≤ maxLen) (h3 : xs.size = cap * size) (h4 : xs.toList.take (n * size) = l) (hl : l.length = n * size) :
    w.ownsRow base e size (.slice (some ⟨b, 0, none⟩) n cap) n l :=
  ⟨hl, .inr ⟨b, cap, xs, rfl, hb, h, h1, h2, h3, h4⟩⟩
end Go

/-
  What is proved: append onto a slice without elements and without room, as a step of a chain.
-/
namespace Go
open Go.RowKit
section
variable {P : Program} {ops : Array Oper} {w0 : World}
theorem wpChain_append_fresh {rest : List Oper} {o : Oper} {a : Act} {Q : Act → World → Prop} {W : World} (hgd : o.guard = none) (s x : Operand) (t : TypeId)
    (ho : o.op = .call { callee := .builtin .append, args := #[s, x], argTypes := #[t, t] })
    (e : TypeId) (z : Value) (size bytes : Nat) (ht : P.underlying t = some (.slice e)) (hi : P.knows e z size bytes) (hzs : z.cells.size = size) (hsz : 0 < size)
    (A : Option Addr) (hs : a.eval s = .slice A 0 0) (xv : Value) (hx : a.eval x = xv) (m : Nat) (news : List Value) (hsrc : ∀ W0, W.grows W0 → SrcAt W0 xv m size news) (h0 : 0 < m) (h63 : m ≤ maxLen) (hbytes : m * bytes ≤ 140737488355328)
    (h : ∀ (W0 : World) cap xs, W.grows W0 → m ≤ cap → cap ≤ maxLen → xs.size = cap * size → xs.toList.take (m * size) = news → wpChain P ops w0 Q rest (a.put o.dst (.slice (some ⟨W0.heap.size, 0, none⟩) m cap)) (W0.drew.alloc (.cells xs e))) :
    wpChain P ops w0 Q (o :: rest) a W := by
  intro W0 hg hg0
  rw [if_pos (by simp [Region.wanted, hgd])]
  obtain ⟨cap, xs, hr, h2, h3, h4, h5⟩ := run_append_fresh (P := P) W0 t o.type e z size bytes ht hi hzs hsz A xv m news (hsrc W0 hg) h0 h63 hbytes
  unfold Oper.goesO execOp
  simp only [ho, resolve, invoke, builtin, Sem.run_bind, Sem.run_pure, Result.andThen_ok, List.map_toArray, List.map_cons, List.map_nil, hs, hx, hr]
  exact ⟨hg0.trans ((World.grows.refl _).drew.alloc _), h W0 cap xs hg h2 h3 h4 h5⟩
end
end Go

/-
  What is proved: append onto a row of the region's own, as a step of a chain.
-/
namespace Go
open Go.RowKit
section
variable {P : Program} {ops : Array Oper} {w0 : World}
theorem wpChain_append_own {rest : List Oper} {o : Oper} {a : Act} {Q : Act → World → Prop} {W : World} (hgd : o.guard = none) (s x : Operand) (t : TypeId)
    (ho : o.op = .call { callee := .builtin .append, args := #[s, x], argTypes := #[t, t] })
    (base : Nat) (e : TypeId) (z : Value) (size bytes : Nat) (ht : P.underlying t = some (.slice e)) (hi : P.knows e z size bytes) (hzs : z.cells.size = size) (hsz : 0 < size)
    (v : Value) (n : Nat) (xs : List Value) (hs : a.eval s = v) (hown : W.ownsRow base e size v n xs)
    (xv : Value) (hx : a.eval x = xv) (m : Nat) (news : List Value) (hsrc : ∀ W0, W.grows W0 → SrcAt W0 xv m size news) (h1 : ∀ u ∈ news, u.oneCell' = true)
    (h63 : n + m ≤ maxLen) (hbytes : (n + m) * bytes ≤ 140737488355328) (hb0 : w0.heap.size ≤ base) (hbase : base ≤ W.heap.size)
    (h : ∀ v' W', W'.ownsRow base e size v' (n + m) (xs ++ news) → w0.grows W' → W.heap.size ≤ W'.heap.size → wpChain P ops w0 Q rest (a.put o.dst v') W') :
    wpChain P ops w0 Q (o :: rest) a W := by
  intro W0 hg hg0
  rw [if_pos (by simp [Region.wanted, hgd])]
  obtain ⟨i, hi, hz, hsize, hby⟩ := hi
  have gs := hg.size
  obtain ⟨v', w', hr, h2, h3⟩ := run_append_g (P := P) W0 base t o.type e i z size bytes ht hi hz hsize hby hzs hsz v n xs (hown.grow hg) xv m news (hsrc W0 hg) h1 h63 hbytes (by omega)
  unfold Oper.goesO execOp
  simp only [ho, resolve, invoke, builtin, Sem.run_bind, Sem.run_pure, Result.andThen_ok, List.map_toArray, List.map_cons, List.map_nil, hs, hx, hr]
  have gs2 := h3.size
  have g' := h3.grows (hown.grow hg) hg0 hb0
  exact ⟨g', h v' w' h2 g' (by omega)⟩
end
/-- a slice without elements is a row of the call's own -/
theorem ownsRow_empty {w : World} {b base : Nat} {e : TypeId} {size : Nat} {xs : Array Value} (h : w.heap[b]? = some (.cells xs e)) (hx : xs.size = 0) (hb : base ≤ b) : w.ownsRow base e size (.slice (some ⟨b, 0, none⟩) 0 0) 0 [] :=
  ⟨by simp, .inr ⟨b, 0, xs, rfl, hb, h, by omega, by unfold maxLen; omega, by simpa using hx, by simp⟩⟩
end Go

/-
  What is proved: slices.IsSorted, Compact (its length) and Clone, at ints (79, 80, 81).
-/
namespace Go.Proofs.Ytaanbdjmibjcbaa
open Go.RowKit
attribute [local irreducible] Go.wpCalm rowI
theorem c111 (w : World) (x : Int) : Calls Try.prog 111 #[.int .i64 x] w fun e w' => e = .returned (.bool false) ∧ w' = w := by
  go_enter Try.func111, Try.ntmps111
  go_wp2
  go_ret
  exact ⟨by simp, rfl⟩
theorem less_c (w : World) (x y : Int) : Calls Try.prog 98 #[.int .i64 x, .int .i64 y] w fun e w' => e = .returned (.bool (decide (x < y))) ∧ w' = w := by
  go_enter Try.func98, Try.ntmps98
  go_wp2_with (go_at_call 111; refine (c111 _ _).mono ?_; rintro e w' ⟨rfl, rfl⟩)
  go_ret
  exact ⟨by simp, rfl⟩
/-- in order, not falling -/
def upto (f : Nat → Int) (n : Nat) : Bool := decide (∀ i, i < n → i + 1 < n → f i ≤ f (i + 1))
set_option maxRecDepth 100000 in
set_option maxHeartbeats 2000000 in
theorem sorted_c (w : World) (v : Value) (n : Nat) (f : Nat → Int) (h : IntsAt w v n f) (hn : n ≤ 1000000) : Calls Try.prog 79 #[v] w fun e w' => e = .returned (.bool (upto f n)) ∧ w.grows w' := by
  obtain ⟨sa, sc, rfl, s1, s2, h⟩ := h
  have Hs := Lib.hid h
  clear h
  unfold maxLen at s2
  go_enter Try.func79, Try.ntmps79
  by_cases hn0 : n = 0
  · subst hn0
    go_wp2
    refine wp_loop_rounds 1 ?_
    rw [rounds_succ]
    go_wp2
    (refine bodyPost_ret (v := .bool true) (by simp [results, Try.results79, go_sem]) rfl ?_)
    exact ⟨by unfold upto; rw [decide_eq_true (fun i hi => by omega)], by (repeat (first | exact World.grows.refl _ | assumption | refine World.grows.alloc ?_ _ | refine World.grows.plus ?_ _ _ | refine World.grows.drew ?_))⟩
  obtain ⟨m, hnm⟩ : ∃ m, n = m + 1 := ⟨n - 1, by omega⟩
  have hm : (n : Int) - 1 = (m : Nat) := by omega
  have HNM := Lib.hid hnm
  clear hnm
  go_wp2
  go_loopw [3] (fun i wr => ∃ k : Nat, k ≤ m ∧ i = .int .i64 k ∧ Hid (w.grows wr) ∧ Hid (∀ j, k ≤ j → j + 1 < n → f j ≤ f (j + 1))) (fun i _ => (intOf i).toNat)
  case atStart => exact ⟨m, Nat.le_refl _, by go_num, Lib.hid (by (repeat (first | exact World.grows.refl _ | assumption | refine World.grows.alloc ?_ _ | refine World.grows.plus ?_ _ _ | refine World.grows.drew ?_))), Lib.hid fun j h1 h2 => by have := HNM.out; omega⟩
  case round =>
    obtain ⟨k, hk, rfl, hg, hall⟩ := hrel
    by_cases hk0 : k = 0
    · subst hk0
      go_wp2
      (refine bodyPost_ret (v := .bool true) (by simp [results, Try.results79, go_sem]) rfl ?_)
      exact ⟨by unfold upto; rw [decide_eq_true (fun i _ h2 => hall.out i (by omega) h2)], hg.out.trans (by (repeat (first | exact World.grows.refl _ | assumption | refine World.grows.alloc ?_ _ | refine World.grows.plus ?_ _ _ | refine World.grows.drew ?_)))⟩
    · obtain ⟨p, hp⟩ : ∃ p, k = p + 1 := ⟨k - 1, by omega⟩
      have hnm := HNM.out
      obtain ⟨b, o, e, h0⟩ := Hs.out k 0 (by omega) (by omega)
      obtain ⟨_, _, e', h1⟩ := Hs.out p 0 (by omega) (by omega)
      subst e
      cases e'
      simp only [Nat.mul_one, Nat.add_zero] at h0 h1
      replace h0 := hg.out.cell_of h0
      replace h1 := hg.out.cell_of h1
      have hks : (k : Int) - 1 = (p : Nat) := by omega
      have hkw : IntKind.i64.wrap (p : Int) = (p : Int) := wrapI rfl (by omega)
      have hk1 : (0 : Int) < (k : Int) := by omega
      have hk2 : (k : Int) < (n : Int) := by omega
      have hk3 : (p : Int) < (n : Int) := by omega
      obtain ⟨x, hx⟩ : ∃ x, f k = x := ⟨_, rfl⟩
      obtain ⟨y, hy⟩ : ∃ y, f p = y := ⟨_, rfl⟩
      have HP := Lib.hid hp
      rw [hx] at h0
      rw [hy] at h1
      have HXY := Lib.hid (And.intro hx hy)
      clear hx hy hp hnm
      go_upto_region 4 with fail
      (refine wp_region_calm (by kernel_rfl) (by kernel_rfl) ?_; (repeat (refine wpCalm_step (fun K hK => ?_); go_simp; first | (refine hK _ ?_; clear hK K) | (apply Exists.intro; refine ⟨fun n' x' => ?_, hK _ ?_⟩; (exact (less_c _ x y).mono fun e w' h => ⟨h.1, by rw [h.2]; exact World.grows.refl _⟩); clear hK K))); refine wpCalm_nil ?_; intro nq xq)
      by_cases hlt : x < y
      · have hr : Hid (upto f n = false) := Lib.hid (by
          unfold upto
          rw [decide_eq_false]
          intro hh
          have h1 := hh p (by have := HP.out; have := HNM.out; omega) (by have := HP.out; have := HNM.out; omega)
          have h2 := HXY.out
          rw [show p + 1 = k from HP.out.symm] at h1
          omega)
        go_wp2
        (refine bodyPost_ret (v := .bool false) (by simp [results, Try.results79, go_sem]) rfl ?_)
        exact ⟨by rw [hr.out], hg.out.trans (by (repeat (first | exact World.grows.refl _ | assumption | refine World.grows.alloc ?_ _ | refine World.grows.plus ?_ _ _ | refine World.grows.drew ?_)))⟩
      · have HA : Hid (∀ j, p ≤ j → j + 1 < n → f j ≤ f (j + 1)) := Lib.hid fun j h1 h2 => by
          have hp := HP.out
          by_cases e : j = p
          · subst e; rw [← hp, HXY.out.1, HXY.out.2]; omega
          · exact hall.out j (by omega) h2
        go_wp2
        case roundEnd => exact ⟨⟨p, by have := HP.out; omega, by have := HP.out; go_num, Lib.hid (hg.out.trans (by (repeat (first | exact World.grows.refl _ | assumption | refine World.grows.alloc ?_ _ | refine World.grows.plus ?_ _ _ | refine World.grows.drew ?_)))), HA⟩, by have := HP.out; simp [intOf]; omega⟩
/-- no two alike side by side -/
def apartI (f : Nat → Int) (n : Nat) : Prop := ∀ i, i + 1 < n → f i ≠ f (i + 1)
/-- the first n cells are numbers -/
def AllI (xs : Array Value) (n : Nat) : Prop := ∀ j, j < n → ∃ z, xs[j]? = some (.int .i64 z)
theorem AllI.set {xs : Array Value} {n : Nat} (h : AllI xs n) (i : Nat) (z : Int) : AllI (xs.setIfInBounds i (.int .i64 z)) n := fun j hj => by
  obtain ⟨y, hy⟩ := h j hj
  rw [Array.getElem?_setIfInBounds]
  by_cases e : i = j
  · subst e
    have hl : i < xs.size := (Array.getElem?_eq_some_iff.1 hy).1
    rw [if_pos rfl, if_pos hl]
    exact ⟨z, rfl⟩
  · rw [if_neg e]
    exact ⟨y, hy⟩
theorem grows_setCells (b : Nat) : ∀ (vs : List Value) (o : Nat) (w0 W : World), w0.grows W → w0.heap.size ≤ b → w0.grows (W.setCells b o vs)
  | [], _, _, _, h, _ => h
  | v :: r, o, w0, W, h, hb => grows_setCells b r (o + 1) w0 _ (h.setCell (p := ⟨b, o, none⟩) hb v) hb
@[local go_sem ↓] theorem eqNil35 (w : World) (a : Option Addr) (n c : Nat) : (binOp .eql 35 (.slice a n c) (.slice none 0 0)).run Try.prog w = .ok (.bool a.isNone) w := Lib.run_eql_slice_nil w 35 3 a n c 0 0 Try.underlying35
set_option maxRecDepth 100000 in
set_option maxHeartbeats 2000000 in
theorem clone_c (w : World) (v : Value) (n : Nat) (f : Nat → Int) (h : IntsAt w v n f) (hn : n ≤ 1000000) : Calls Try.prog 81 #[v] w fun e w' => ∃ v', e = .returned v' ∧ w.grows w' ∧ w'.ownsRow w.heap.size 3 1 v' n (tableL n 1 fun i _ => .int .i64 (f i)) := by
  have H := Lib.hid h
  obtain ⟨sa, sc, rfl, s1, s2, h⟩ := h
  unfold maxLen at s2
  go_enter Try.func81, Try.ntmps81
  cases sa with
  | none =>
    have hn0 : n = 0 := by
      by_cases h0 : n = 0
      · exact h0
      · obtain ⟨b, o, e, -⟩ := h 0 0 (by omega) (by omega)
        cases e
    subst hn0
    clear h
    go_wp2
    go_ret
    exact ⟨_, rfl, by (repeat (first | exact World.grows.refl _ | assumption | refine World.grows.alloc ?_ _ | refine World.grows.plus ?_ _ _ | refine World.grows.drew ?_)), World.ownsRow_nil _ _ _ _⟩
  | some a =>
    clear h
    go_upto_region 3 with fail
    iterate 7 go_step
    refine wpList_append_r _ rfl (.tmp 5) (.tmp 6) 35 (by rfl) w.heap.size 3 (.int .i64 0) 1 8 Try.underlying35 el3 (by rfl) (by omega) _ 0 [] (by rfl) (ownsRow_empty (b := w.heap.size) (World.heap_at _ _ _ rfl) rfl (Nat.le_refl _)) (.slice (some a) n sc) (by rfl) n (tableL n 1 fun i _ => .int .i64 (f i)) ?_ ?_ (by unfold maxLen; omega) (by omega) (by simp) ?_
    · exact SliceAt.src (by omega) (SliceAt.mono H.out (by (repeat (first | exact World.grows.refl _ | assumption | refine World.grows.alloc ?_ _ | refine World.grows.plus ?_ _ _ | refine World.grows.drew ?_))))
    · intro u hu
      unfold tableL at hu
      obtain ⟨i, _, rfl⟩ := List.mem_map.1 hu
      rfl
    intro v' w3 hown hgb
    have hg3 := hgb.grows (ownsRow_empty (b := w.heap.size) (w := w.alloc (.cells #[] 3)) (e := 3) (size := 1) (World.heap_at _ _ _ rfl) rfl (Nat.le_refl _)) (World.grows.alloc (World.grows.refl w) _) (Nat.le_refl _)
    go_wp2
    go_ret
    rw [Nat.zero_add, List.nil_append] at hown
    exact ⟨_, rfl, hg3, hown⟩
end Go.Proofs.Ytaanbdjmibjcbaa

/-
  What is proved: slices.Compact at ints keeps the length just where no two numbers side by side are alike (80).
-/
namespace Go.Proofs.Ytaanbdjmibjcbaa
open Go.RowKit
attribute [local irreducible] Go.wpCalm rowI
set_option maxRecDepth 100000 in
set_option maxHeartbeats 4000000 in
theorem compact_c (w0 w : World) (v : Value) (n : Nat) (f : Nat → Int) (hg0 : w0.grows w) (ho : w.ownsRow w0.heap.size 3 1 v n (tableL n 1 fun i _ => .int .i64 (f i))) (hn : n ≤ 1000000) : Calls Try.prog 80 #[v] w fun e w' => ∃ a m c, e = .returned (.slice a m c) ∧ w0.grows w' ∧ (m = n ↔ apartI f n) := by
  obtain ⟨-, ⟨rfl, rfl⟩ | ⟨b, cap, cur, rfl, hb, hcur, h1, h2, h3, h4⟩⟩ := ho
  · go_enter Try.func80, Try.ntmps80
    go_wp2
    go_ret
    exact ⟨_, _, _, rfl, hg0, by unfold apartI; simp⟩
  have HB := Lib.hid hcur
  have HG0 := Lib.hid hg0
  have hC : ∀ j, j < n → cur[j]? = some (.int .i64 (f j)) := fun j hj => by
    have h := tableL_get (m := n) (sz := 1) (fun i _ => .int .i64 (f i)) hj (show 0 < 1 by omega)
    rw [← h4, Nat.mul_one, Nat.mul_one, Nat.add_zero, List.getElem?_take, if_pos hj] at h
    rw [← h, Array.getElem?_toList]
  have HC := Lib.hid hC
  unfold maxLen at h2
  clear hC h3 h4 hcur hg0
  go_enter Try.func80, Try.ntmps80
  by_cases hn2 : n < 2
  · have hn3 : (n : Int) < 2 := by omega
    go_wp2
    go_ret
    exact ⟨_, _, _, rfl, HG0.out, by unfold apartI; constructor <;> intros <;> omega⟩
  have hn3 : ¬ (n : Int) < 2 := by omega
  go_wp2
  go_loopw [3] (fun i wr => ∃ k : Nat, 1 ≤ k ∧ k ≤ n ∧ i = .int .i64 k ∧ Hid (w.grows wr) ∧ Hid (∀ j, j + 1 < k → f j ≠ f (j + 1))) (fun i _ => n - (intOf i).toNat)
  case atStart => exact ⟨1, Nat.le_refl _, by omega, rfl, Lib.hid (World.grows.refl _), Lib.hid fun j h => by omega⟩
  case round =>
    obtain ⟨k, hk1, hk, rfl, hg, hall⟩ := hrel
    by_cases hlt : k < n
    · obtain ⟨p, hp⟩ : ∃ p, k = p + 1 := ⟨k - 1, by omega⟩
      have c0 := hg.out.cell_of (cell_of_heap HB.out (HC.out k hlt))
      have c1 := hg.out.cell_of (cell_of_heap HB.out (HC.out p (by omega)))
      have hks : (k : Int) - 1 = (p : Nat) := by omega
      have hkw : IntKind.i64.wrap (p : Int) = (p : Int) := wrapI rfl (by omega)
      have hkI : (k : Int) < (n : Int) := by omega
      have hpI : (p : Int) < (n : Int) := by omega
      obtain ⟨x, hx⟩ : ∃ x, f k = x := ⟨_, rfl⟩
      obtain ⟨y, hy⟩ : ∃ y, f p = y := ⟨_, rfl⟩
      rw [hx] at c0
      rw [hy] at c1
      have HXY := Lib.hid (And.intro hx hy)
      have HP := Lib.hid hp
      clear hx hy hp
      go_upto_region 6 with fail
      (refine wp_region_calm (by kernel_rfl) (by kernel_rfl) ?_; (repeat (refine wpCalm_step (fun K hK => ?_); go_simp; first | (refine hK _ ?_; clear hK K) | (apply Exists.intro; refine ⟨fun n' x' => ?_, hK _ ?_⟩; (fail); clear hK K))); refine wpCalm_nil ?_; intro nq xq)
      by_cases hxy : x = y
      · subst hxy
        have HR : Hid (¬ apartI f n) := Lib.hid fun h => by
          have := h p (by have := HP.out; omega)
          rw [← HP.out, HXY.out.1, HXY.out.2] at this
          exact this rfl
        have hkc : (k : Int) ≤ cap := by omega
        have hkn : (k : Int) ≤ n := by omega
        have hcn : ¬ cap = k := by omega
        clear c0 c1 hpI hkw hks
        go_upto_region 9 with fail
        obtain ⟨M, hM⟩ : ∃ M, n - k = M := ⟨_, rfl⟩
        have hkM : k + M = n := by omega
        rw [hM]
        have HM := Lib.hid hkM
        have hM6 : M ≤ 1000000 := by omega
        have g1 : Hid (w0.grows (wr.plus nq xq)) := Lib.hid (HG0.out.trans (hg.out.trans (by (repeat (first | exact World.grows.refl _ | assumption | refine World.grows.alloc ?_ _ | refine World.grows.plus ?_ _ _ | refine World.grows.drew ?_)))))
        have b1 : Hid (∃ xs, (wr.plus nq xq).heap[b]? = some (.cells xs 3) ∧ AllI xs n) := Lib.hid ⟨cur, World.grows.heap_of (hg.out.trans (by (repeat (first | exact World.grows.refl _ | assumption | refine World.grows.alloc ?_ _ | refine World.grows.plus ?_ _ _ | refine World.grows.drew ?_)))) HB.out, fun j hj => ⟨_, HC.out j hj⟩⟩
        have h1M : 1 ≤ M := by omega
        clear hM hkM hall HXY HP hkI hkc hkn hlt
        simp only [beq_self_eq_true]
        go_loopw [3, 5] (fun q i wr => ∃ q' i' : Nat, 1 ≤ i' ∧ i' ≤ M ∧ q' + 1 ≤ k + i' ∧ k ≤ q' ∧ q = .int .i64 q' ∧ i = .int .i64 i' ∧ Hid (w0.grows wr) ∧ Hid (∃ xs, wr.heap[b]? = some (.cells xs 3) ∧ AllI xs n)) (fun _ i _ => M - (intOf i).toNat)
        case atStart => exact ⟨k, 1, Nat.le_refl _, h1M, Nat.le_refl _, Nat.le_refl _, rfl, rfl, g1, b1⟩
        case round =>
          clear g1 b1
          obtain ⟨q, i, hi1, hi, hqi, hkq, rfl, rfl, hg2, hb2⟩ := hrel
          obtain ⟨xs, hx1, hx2⟩ := hb2.out
          have hkM := HM.out
          by_cases hiM : i < M
          · obtain ⟨i0, hi0⟩ : ∃ i0, i = i0 + 1 := ⟨i - 1, by omega⟩
            obtain ⟨x, hx⟩ := hx2 (k + i) (by omega)
            obtain ⟨y, hy⟩ := hx2 (k + i0) (by omega)
            have c0 := cell_of_heap hx1 hx
            have c1 := cell_of_heap hx1 hy
            obtain ⟨z, hz⟩ := hx2 q (by omega)
            have c2 := cell_of_heap hx1 hz
            have f2 := frozen_of_heap hx1 q
            have his : (i : Int) - 1 = (i0 : Nat) := by omega
            have hiw : IntKind.i64.wrap (i0 : Int) = (i0 : Int) := wrapI rfl (by omega)
            have hiI : (i : Int) < (M : Int) := by omega
            have hi0I : (i0 : Int) < (M : Int) := by omega
            have hqI : (q : Int) < (n : Int) := by omega
            have hq6 : q ≤ 1000000 := by omega
            have HI := Lib.hid hi0
            have HX2 := Lib.hid hx2
            have HX1 := Lib.hid hx1
            clear hi0 hx hy hz hkM hx1 hx2
            go_upto_region 11 with fail
            (refine wp_region_calm (by kernel_rfl) (by kernel_rfl) ?_; (repeat (refine wpCalm_step (fun K hK => ?_); go_simp; first | (refine hK _ ?_; clear hK K) | (apply Exists.intro; refine ⟨fun n' x' => ?_, hK _ ?_⟩; (fail); clear hK K))); refine wpCalm_nil ?_; intro nq xq)
            by_cases hxy : x = y
            · subst hxy
              go_wp2
              case roundEnd => exact ⟨⟨q, i + 1, by omega, by omega, by omega, hkq, rfl, by go_num, Lib.hid (hg2.out.trans (by (repeat (first | exact World.grows.refl _ | assumption | refine World.grows.alloc ?_ _ | refine World.grows.plus ?_ _ _ | refine World.grows.drew ?_)))), Lib.hid ⟨xs, World.grows.heap_of (by (repeat (first | exact World.grows.refl _ | assumption | refine World.grows.alloc ?_ _ | refine World.grows.plus ?_ _ _ | refine World.grows.drew ?_))) HX1.out, HX2.out⟩⟩, by simp [intOf]; omega⟩
            · have hxyd : decide (x = y) = false := decide_eq_false hxy
              have gp := World.grows_plus wr nq xq
              replace c0 := gp.cell_of c0
              replace c2 := gp.cell_of c2
              have f2' := frozen_of_heap (gp.heap_of HX1.out) q
              have HX3 := Lib.hid (gp.heap_of HX1.out)
              have hg3 := Lib.hid (hg2.out.trans gp)
              clear f2 gp
              generalize wr.plus _ _ = wr2 at *
              go_wp2
              case roundEnd => exact ⟨⟨q + 1, i + 1, by omega, by omega, by omega, by omega, by go_num, by go_num, Lib.hid (hg3.out.setCell (p := ⟨b, q, none⟩) (by exact hb) _), Lib.hid ⟨_, store_of_heap HX3.out q _, HX2.out.set q x⟩⟩, by simp [intOf]; omega⟩
          · have hie : i = M := by omega
            subst hie
            have hqn : q < n := by omega
            have hqk : (q : Int) ≤ cap := by omega
            have hqn2 : (q : Int) ≤ n := by omega
            have hcq : ¬ cap = q := by omega
            have hrun : (Builtin.clear_ #[35] 0 #[.slice (some ⟨b, q, none⟩) (n - q) (cap - q)]).run Try.prog wr = .ok (.tuple #[]) (wr.setCells b q (List.replicate (n - q) (.int .i64 0))) :=
              Lib.run_clear_slice wr 35 3 0 (.int .i64 0) Try.underlying35 zero3 rfl rfl b q (n - q) (cap - q) (by omega) (fun j hj => by
                obtain ⟨z, hz⟩ := hx2 (q + j) (by omega)
                rw [cell_of_heap hx1 hz]; rfl) (fun j _ => frozen_of_heap hx1 _)
            have hg3 := grows_setCells b (List.replicate (n - q) (.int .i64 0)) q w0 wr hg2.out hb
            have HF := Lib.hid (And.intro hrun hg3)
            clear hrun hg3 hx1 hx2 hb2
            go_upto_region 14 with fail
            iterate 10 go_step
            refine wpList_clear rfl (.tmp 56) 35 (by rfl) _ (by rfl) HF.out.1 ?_
            have hg3 := HF.out.2
            clear HF
            generalize wr.setCells _ _ _ = wr3 at hg3 ⊢
            go_wp2
            (refine bodyPost_ret (v := .slice (some ⟨b, 0, none⟩) q cap) (by simp [results, Try.results80, go_sem]) rfl ?_)
            exact ⟨_, _, _, rfl, hg3, ⟨fun h => by omega, fun h => absurd h HR.out⟩⟩
      · have HA : Hid (∀ j, j + 1 < k + 1 → f j ≠ f (j + 1)) := Lib.hid fun j h => by
          have hp := HP.out
          by_cases e : j = p
          · subst e
            rw [← hp, HXY.out.1, HXY.out.2]
            exact fun h => hxy h.symm
          · exact hall.out j (by omega)
        go_wp2
        case roundEnd => exact ⟨⟨k + 1, by omega, by omega, by go_num, Lib.hid (hg.out.trans (by (repeat (first | exact World.grows.refl _ | assumption | refine World.grows.alloc ?_ _ | refine World.grows.plus ?_ _ _ | refine World.grows.drew ?_)))), HA⟩, by simp [intOf]; omega⟩
    · have hke : k = n := by omega
      subst hke
      go_wp2
      (refine bodyPost_ret (v := .slice (some ⟨b, 0, none⟩) k cap) (by simp [results, Try.results80, go_sem]) rfl ?_)
      exact ⟨_, _, _, rfl, HG0.out.trans hg.out, ⟨fun _ => hall.out, fun _ => rfl⟩⟩
end Go.Proofs.Ytaanbdjmibjcbaa

