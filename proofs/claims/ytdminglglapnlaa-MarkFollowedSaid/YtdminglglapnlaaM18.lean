/-
  What is proved: plain words on following a tree that tells the marks, and on two marks that one feature alone parts.
-/
import Derived.Test.YtdminglglapnlaaM2
import Derived.Test.YtdminglglapnlaaM16
import Derived.Test.YtdminglglapnlaaM17
import Derived.Deep.RegionHeldLaw
import Derived.Deep.CutRange
import Derived.Test.YtdminglglapnlaaM15
set_option linter.all false
namespace Go.Proofs.Ytdminglglapnlaa

theorem Tr.told {r : Reg} {t : Tr} (h : t.treeE r = 0) : r.check = 0 ∧ r.Ok ∧ t.Ok r.nc ∧ t.treeA r = mx (t.costAt r) r.nm ∧ ∀ m, m < r.nm → t.tellsB r m = true := by
  have hc : t.check r = 0 := by
    unfold Tr.treeE at h
    by_cases hc : t.check r = 0
    · exact hc
    · rw [if_neg hc] at h; exact h
  obtain ⟨hr0, ho⟩ := (Tr.ok_iff _ r).1 hc
  refine ⟨hr0, Reg.ok_of hr0, ho, by unfold Tr.treeA; rw [if_pos h], fun m hm => ?_⟩
  unfold Tr.treeE at h
  rw [if_pos hc] at h
  by_cases ha : (List.range r.nm).all (t.tellsB r) = true
  · exact List.all_eq_true.1 ha m (List.mem_range.2 hm)
  · rw [if_neg ha] at h; cases h
theorem Tr.told_say {r : Reg} {t : Tr} (h : t.treeE r = 0) {m : Nat} (hm : m < r.nm) : ∃ x, t.say r (r.val m) = some (-1 - r.who m, x) ∧ t.costAt r m = x := by
  have h1 := (Tr.told h).2.2.2.2 m hm
  unfold Tr.tellsB at h1
  unfold Tr.costAt
  cases hs : t.say r (r.val m) with
  | none => rw [hs] at h1; cases h1
  | some x =>
    rw [hs] at h1
    simp at h1
    refine ⟨x.2, ?_, rfl⟩
    have : x.1 = -1 - r.who m := by omega
    rw [← this]
theorem Tr.told_follow {r : Reg} {t : Tr} (h : t.treeE r = 0) {m : Nat} (hm : m < r.nm) : t.followE r r.nc (r.val m) = 0 ∧ t.followA r r.nc (r.val m) = r.who m ∧ t.followC r r.nc (r.val m) = t.costAt r m ∧ t.costAt r m ≤ t.treeA r := by
  obtain ⟨hc, hr, ho, hA, -⟩ := Tr.told h
  obtain ⟨x, hs, hx⟩ := Tr.told_say h hm
  have hv : valuesB (r.val m) r.nc = false := by
    unfold valuesB
    simp only [List.any_eq_false, List.mem_range, Bool.or_eq_true, decide_eq_true_eq]
    intro f hf
    have := hr.val m f hm hf
    omega
  have hE : t.followE r r.nc (r.val m) = 0 := by
    unfold Tr.followE
    rw [if_pos ((Tr.ok_iff _ r).2 ⟨hc, ho⟩), if_pos rfl, hv, hs]
    rfl
  refine ⟨hE, ?_, ?_, ?_⟩
  · unfold Tr.followA
    rw [if_pos hE, hs]
    show -1 - (-1 - r.who m) = r.who m
    omega
  · unfold Tr.followC
    rw [if_pos hE, hs, hx]
  · rw [hA]; exact le_mx _ hm
/-- the same values where one looks: the same looks -/
theorem Tr.looks_same (t : Tr) {v v' : Nat → Int} : ∀ (k : Nat) (p : Int), (∀ f ∈ (t.looks v k p).1, v f = v' f) → t.looks v' k p = t.looks v k p
  | 0, _, _ => rfl
  | k + 1, p, h => by
    by_cases hp : p < 0
    · rw [t.looks_end v _ hp, t.looks_end v' _ hp]
    · have e : v (t.ft p) = v' (t.ft p) := by
        refine h _ ?_
        simp only [Tr.looks, if_neg hp]
        cases t.branch p.toNat (v (t.ft p)) <;> simp
      simp only [Tr.looks, if_neg hp] at h ⊢
      rw [← e]
      cases hb : t.branch p.toNat (v (t.ft p)) with
      | none => rfl
      | some b =>
        rw [hb] at h
        have ih := t.looks_same k (t.bt p.toNat b) fun f hf => h f (List.mem_cons_of_mem _ hf)
        simp only [ih]
/-- for two marks of different makers that one feature alone parts one looks at it -/
theorem Tr.told_looks {r : Reg} {t : Tr} (h : t.treeE r = 0) {a b g : Nat} (ha : a < r.nm) (hb : b < r.nm) (hw : r.who a ≠ r.who b) (hg : ∀ f, f < r.nc → f ≠ g → r.val a f = r.val b f) : g ∈ (t.look (r.val a) t.root).1 := by
  obtain ⟨hc, hr, ho, hA, -⟩ := Tr.told h
  refine Classical.byContradiction fun hn => ?_
  have e := t.looks_same (v := r.val a) (v' := r.val b) (t.n + 1) t.root fun f hf => hg f (ho.look_lt (r.val a) f hf) (fun e => hn (e ▸ hf))
  obtain ⟨x, hx, -⟩ := Tr.told_say h ha
  obtain ⟨y, hy, -⟩ := Tr.told_say h hb
  have e2 : t.say r (r.val b) = t.say r (r.val a) := by
    rw [ho.say_eq, ho.say_eq]
    unfold Tr.look
    rw [e]
  rw [e2, hx] at hy
  simp at hy
  exact hw (by omega)
/-- how many of the first features part two marks, and the last of them -/
def Reg.apt2 (r : Reg) (a b : Nat) : Nat → Nat × Int
  | 0 => (0, -1)
  | k + 1 => if r.val a k = r.val b k then r.apt2 a b k else ((r.apt2 a b k).1 + 1, (k : Nat))
theorem Reg.apt2_le (r : Reg) (a b : Nat) : ∀ k, (r.apt2 a b k).1 ≤ k
  | 0 => Nat.le_refl _
  | k + 1 => by
    have := r.apt2_le a b k
    unfold Reg.apt2
    split
    · omega
    · dsimp only; omega
theorem Reg.apt2_zero (r : Reg) (a b : Nat) : ∀ k, (r.apt2 a b k).1 = 0 → ∀ f, f < k → r.val a f = r.val b f
  | 0, _, f, hf => absurd hf (by omega)
  | k + 1, h, f, hf => by
    unfold Reg.apt2 at h
    by_cases e : r.val a k = r.val b k
    · rw [if_pos e] at h
      rcases Nat.lt_or_ge f k with hl | hl
      · exact r.apt2_zero a b k h f hl
      · have : f = k := by omega
        rw [this]; exact e
    · rw [if_neg e] at h; cases h
theorem Reg.apt2_one (r : Reg) (a b : Nat) : ∀ k, (r.apt2 a b k).1 = 1 → ∃ g : Nat, g < k ∧ (r.apt2 a b k).2 = g ∧ ∀ f, f < k → f ≠ g → r.val a f = r.val b f
  | 0, h => by cases h
  | k + 1, h => by
    unfold Reg.apt2 at h ⊢
    by_cases e : r.val a k = r.val b k
    · rw [if_pos e] at h ⊢
      obtain ⟨g, h1, h2, h3⟩ := r.apt2_one a b k h
      refine ⟨g, by omega, h2, fun f hf hne => ?_⟩
      rcases Nat.lt_or_ge f k with hl | hl
      · exact h3 f hl hne
      · have : f = k := by omega
        rw [this]; exact e
    · rw [if_neg e] at h ⊢
      refine ⟨k, by omega, rfl, fun f hf hne => r.apt2_zero a b k (by dsimp only at h; omega) f (by omega)⟩
end Go.Proofs.Ytdminglglapnlaa

/-
  What is proved: MarkFollowed (7) answers true.
-/
namespace Go.Proofs.Ytdminglglapnlaa
open Go.RowKit
attribute [local irreducible] Go.wpCalm

theorem tmod_nat {a b x : Nat} (h : a % b = x) : (a : Int).tmod (b : Int) = (x : Nat) := by
  rw [Int.tmod_eq_emod_of_nonneg (Int.natCast_nonneg _), ← h]
  exact (Int.natCast_emod _ _).symm
theorem in_list (w : World) (lv : Value) (L : List Nat) (hl : ListAt w lv L) {x : Nat} (hx : x ∈ L) : Calls Try.prog 41 #[lv, .int .i64 x] w fun e w' => e = .returned (.bool true) ∧ w.grows w' := by
  have h := in_c w lv _ _ hl (x : Int)
  have e : ((List.range L.length).any fun i => decide (((L.getD i 0 : Nat) : Int) = (x : Int))) = true := by
    obtain ⟨i, hi, e⟩ := List.getElem_of_mem hx
    exact List.any_eq_true.2 ⟨i, List.mem_range.2 hi, by simp [hi, e]⟩
  rwa [e] at h
theorem Tr.looks_told {W : World} {ux : Int} {ua : Option Addr} {un uc : Nat} {r : Reg} {u : Tr} (ht : TreeAt W (.agg #[.int .i64 ux, .slice ua un uc]) u) (h : u.treeE r = 0) {mb mo cb co : Nat} {rb ro rc : Nat → Nat} (hR : RegIn W mb mo cb co rb ro rc r) {m : Nat} (hm : m < r.nm) :
    Calls Try.prog 40 #[.agg #[.int .i64 ux, .slice ua un uc], .slice (some ⟨rb m, ro m, none⟩) r.nc (rc m)] W fun e w' => ∃ lv x, e = .returned (.tuple #[lv, .int .i64 x]) ∧ ListAt w' lv (u.look (r.val m) u.root).1 ∧ W.grows w' := by
  obtain ⟨nv, he, hn⟩ := ht
  cases he
  refine (rlooks_c W _ u r.nc hn (Tr.told h).2.2.1 (rb m) (ro m) (rc m) (r.val m) (hR.cap m hm) (fun f hf => hR.val m f hm hf)).mono ?_
  rintro e w' ⟨lv, rfl, h1, h2⟩
  exact ⟨lv, _, rfl, h1, h2⟩
theorem Tr.pfollow_told {W : World} {v tv vv : Value} {r : Reg} {u : Tr} (hv : RegAt W v r) (ht : TreeAt W tv u) (h : u.treeE r = 0) {m : Nat} (hm : m < r.nm) (hi : IntsAt W vv r.nc (r.val m)) :
    Calls Try.prog 17 #[v, tv, vv] W fun e w' => e = .returned (.tuple #[.int .i64 (r.who m), .int .i64 (u.costAt r m), .int .i64 0]) ∧ W.grows w' := by
  have h1 := pfollow_c W v r hv tv u ht vv r.nc (r.val m) hi
  obtain ⟨e1, e2, e3, -⟩ := Tr.told_follow h hm
  rwa [e1, e2, e3] at h1
set_option maxRecDepth 100000 in
set_option maxHeartbeats 8000000 in
theorem followed_w (w : World) (rv : Value) (r : Reg) (hr : RegAt w rv r) (bv : Value) (nb : Nat) (b : Nat → Int) (hb : NumsAt .u8 w bv nb b) (hbb : ∀ i, i < nb → 0 ≤ b i ∧ b i ≤ 255) (z1 z2 : Int) (hz1 : 0 ≤ z1 ∧ z1 ≤ 255) (hz2 : 0 ≤ z2 ∧ z2 ≤ 255) :
    Calls Try.prog 7 #[rv, bv, .int .u8 z1, .int .u8 z2] w fun e w' => e = .returned (.bool true) ∧ w.grows w' := by
  obtain ⟨n1, rfl⟩ : ∃ n : Nat, z1 = (n : Int) := ⟨z1.toNat, by omega⟩
  obtain ⟨n2, rfl⟩ : ∃ n : Nat, z2 = (n : Int) := ⟨z2.toNat, by omega⟩
  have h37 := fun W (g : w.grows W) => fine_c W rv r (hr.mono g)
  have Hr := Lib.hid hr
  have Hb := Lib.hid hb
  have Hbb := Lib.hid hbb
  obtain ⟨mv, cv, row, rfl, ⟨ma, mc, rfl, -⟩, ⟨ca, cc, rfl, -⟩, -⟩ := hr
  obtain ⟨ba, bc, rfl, b1, b2⟩ := nums_shape hb
  clear hbb hb b1 b2
  go_enter Try.func7, Try.ntmps7
  by_cases hc : r.check = 0
  · rw [decide_eq_true hc] at h37
    by_cases hn : nb ≤ 40
    · have hnI : decide ((40 : Int) < (nb : Nat)) = false := by simp; omega
      have hnI' : ¬ (40 : Int) < (nb : Nat) := by omega
      have hok := Reg.ok_of hc
      go_upto_region 1 with fail
      generalize hV : World.alloc _ _ = V
      have gV : w.grows V := by rw [← hV]; (repeat (first | exact World.grows.refl _ | assumption | refine World.grows.alloc ?_ _ | refine World.grows.plus ?_ _ _ | refine World.grows.drew ?_))
      have q10 : V.cell? ⟨w.heap.size, 0, none⟩ = some (.slice ma r.nm mc) := by rw [← hV]; simp [go_sem]
      have q11 : V.cell? ⟨w.heap.size, 1, none⟩ = some (.slice ca r.nc cc) := by rw [← hV]; simp [go_sem]
      have HZ := Lib.hid gV
      clear hV gV
      go_wp2_with (go_at_call 44; fail)
      refine (h37 _ (HZ.out.trans (by (repeat (first | exact World.grows.refl _ | assumption | refine World.grows.alloc ?_ _ | refine World.grows.plus ?_ _ _ | refine World.grows.drew ?_))))).mono ?_
      rintro e U ⟨rfl, g⟩
      replace q10 := World.grows.cell_of (World.grows.trans (by (repeat (first | exact World.grows.refl _ | assumption | refine World.grows.alloc ?_ _ | refine World.grows.plus ?_ _ _ | refine World.grows.drew ?_))) g) q10; replace q11 := World.grows.cell_of (World.grows.trans (by (repeat (first | exact World.grows.refl _ | assumption | refine World.grows.alloc ?_ _ | refine World.grows.plus ?_ _ _ | refine World.grows.drew ?_))) g) q11; replace HZ := Lib.hid (HZ.out.trans (World.grows.trans (by (repeat (first | exact World.grows.refl _ | assumption | refine World.grows.alloc ?_ _ | refine World.grows.plus ?_ _ _ | refine World.grows.drew ?_))) g))
      clear g h37
      by_cases hnt : r.NoTwins
      · have hs := Reg.solvE_zero.2 ⟨hc, hnt⟩
        have h25 := fun W (g : w.grows W) => best_ok (Hr.out.mono g) hs
        have h38 := fun W (g : w.grows W) => ltree_c W _ r (Hr.out.mono g) hok _ nb b (Hb.out.mono g) Hbb.out hn
        obtain ⟨C, hC⟩ : ∃ x, r.cst (2 ^ r.nm - 1) = x := ⟨_, rfl⟩
        simp only [hC] at h25
        have Hok := Lib.hid hok
        have Hnt := Lib.hid hnt
        clear hs hnt hc hok hC hn
        go_wp2_with (go_at_call 44; fail)
        refine (h38 _ (HZ.out.trans (by (repeat (first | exact World.grows.refl _ | assumption | refine World.grows.alloc ?_ _ | refine World.grows.plus ?_ _ _ | refine World.grows.drew ?_))))).mono ?_
        rintro e U ⟨ox, oa, on, oc, ot, ok, rfl, hO, hO2, hO3, g⟩
        cases ok with
        | false => exact absurd Hnt.out (hO3 rfl)
        | true =>
        have HOE := Lib.hid (hO2 rfl)
        replace q10 := World.grows.cell_of (World.grows.trans (by (repeat (first | exact World.grows.refl _ | assumption | refine World.grows.alloc ?_ _ | refine World.grows.plus ?_ _ _ | refine World.grows.drew ?_))) g) q10; replace q11 := World.grows.cell_of (World.grows.trans (by (repeat (first | exact World.grows.refl _ | assumption | refine World.grows.alloc ?_ _ | refine World.grows.plus ?_ _ _ | refine World.grows.drew ?_))) g) q11; replace HZ := Lib.hid (HZ.out.trans (World.grows.trans (by (repeat (first | exact World.grows.refl _ | assumption | refine World.grows.alloc ?_ _ | refine World.grows.plus ?_ _ _ | refine World.grows.drew ?_))) g))
        clear g h38 hO2 hO3 hnI hnI'
        have HO := Lib.hid (hO.mono (World.grows.alloc (World.grows.refl U) (Obj.cells #[.int .i64 ox, .slice oa on oc] 28)))
        have q30 : (U.alloc (Obj.cells #[.int .i64 ox, .slice oa on oc] 28)).cell? ⟨U.heap.size, 0, none⟩ = some (.int .i64 ox) := cell_of_heap (World.heap_at _ _ _ rfl) rfl
        have q31 : (U.alloc (Obj.cells #[.int .i64 ox, .slice oa on oc] 28)).cell? ⟨U.heap.size, 1, none⟩ = some (.slice oa on oc) := cell_of_heap (World.heap_at _ _ _ rfl) rfl
        replace q10 := World.grows.cell_of (World.grows.alloc (World.grows.refl U) (Obj.cells #[.int .i64 ox, .slice oa on oc] 28)) q10
        replace q11 := World.grows.cell_of (World.grows.alloc (World.grows.refl U) (Obj.cells #[.int .i64 ox, .slice oa on oc] 28)) q11
        replace HZ := Lib.hid (HZ.out.trans (World.grows.alloc (World.grows.refl U) (Obj.cells #[.int .i64 ox, .slice oa on oc] 28)))
        clear hO
        go_upto_region 4 with fail
        obtain ⟨k9, hk9⟩ : ∃ k, U.heap.size = k := ⟨_, rfl⟩
        rw [hk9] at q30 q31 ⊢
        generalize World.alloc _ _ = Y at q30 q31 q10 q11 HZ HO ⊢
        clear hk9
        go_wp2_with (go_at_call 44; fail)
        refine (h25 _ (HZ.out.trans (by (repeat (first | exact World.grows.refl _ | assumption | refine World.grows.alloc ?_ _ | refine World.grows.plus ?_ _ _ | refine World.grows.drew ?_))))).mono ?_
        rintro e U ⟨bx, bea, ben, bec, bt, rfl, hB, g⟩
        replace q10 := World.grows.cell_of (World.grows.trans (by (repeat (first | exact World.grows.refl _ | assumption | refine World.grows.alloc ?_ _ | refine World.grows.plus ?_ _ _ | refine World.grows.drew ?_))) g) q10; replace q11 := World.grows.cell_of (World.grows.trans (by (repeat (first | exact World.grows.refl _ | assumption | refine World.grows.alloc ?_ _ | refine World.grows.plus ?_ _ _ | refine World.grows.drew ?_))) g) q11; replace HZ := Lib.hid (HZ.out.trans (World.grows.trans (by (repeat (first | exact World.grows.refl _ | assumption | refine World.grows.alloc ?_ _ | refine World.grows.plus ?_ _ _ | refine World.grows.drew ?_))) g))
        replace q30 := World.grows.cell_of (World.grows.trans (by (repeat (first | exact World.grows.refl _ | assumption | refine World.grows.alloc ?_ _ | refine World.grows.plus ?_ _ _ | refine World.grows.drew ?_))) g) q30; replace q31 := World.grows.cell_of (World.grows.trans (by (repeat (first | exact World.grows.refl _ | assumption | refine World.grows.alloc ?_ _ | refine World.grows.plus ?_ _ _ | refine World.grows.drew ?_))) g) q31; replace HO := Lib.hid (TreeAt.mono HO.out (World.grows.trans (by (repeat (first | exact World.grows.refl _ | assumption | refine World.grows.alloc ?_ _ | refine World.grows.plus ?_ _ _ | refine World.grows.drew ?_))) g))
        clear g h25
        go_upto_region 10 with fail
        obtain ⟨k13, hk13⟩ : ∃ k, U.heap.size = k := ⟨_, rfl⟩
        have q40 : (U.alloc (Obj.cells #[.int .i64 bx, .slice bea ben bec] 28)).cell? ⟨k13, 0, none⟩ = some (.int .i64 bx) := cell_of_heap (World.heap_at _ _ _ hk13.symm) rfl
        have q41 : (U.alloc (Obj.cells #[.int .i64 bx, .slice bea ben bec] 28)).cell? ⟨k13, 1, none⟩ = some (.slice bea ben bec) := cell_of_heap (World.heap_at _ _ _ hk13.symm) rfl
        have gA := World.grows.alloc (World.grows.refl U) (Obj.cells #[.int .i64 bx, .slice bea ben bec] 28)
        replace q10 := gA.cell_of q10
        replace q11 := gA.cell_of q11
        replace q30 := gA.cell_of q30
        replace q31 := gA.cell_of q31
        replace HZ := Lib.hid (HZ.out.trans gA)
        replace HO := Lib.hid (HO.out.mono gA)
        have HB := Lib.hid (hB.1.mono gA)
        have HB2 := Lib.hid hB.2
        rw [hk13]
        generalize World.alloc _ _ = Y at q40 q41 q30 q31 q10 q11 HZ HO HB ⊢
        clear hk13 gA hB
        go_upto_region 11 with fail
        obtain ⟨tk, htk⟩ : ∃ k, Y.heap.size = k := ⟨_, rfl⟩
        have hb5 : (Y.alloc (Obj.cells #[.int .i64 ox, .slice oa on oc, .int .i64 bx, .slice bea ben bec] 28)).heap[tk]? = some (.cells #[.int .i64 ox, .slice oa on oc, .int .i64 bx, .slice bea ben bec] 28) := World.heap_at _ _ _ htk.symm
        have gA := World.grows.alloc (World.grows.refl Y) (Obj.cells #[.int .i64 ox, .slice oa on oc, .int .i64 bx, .slice bea ben bec] 28)
        replace q10 := gA.cell_of q10
        replace q11 := gA.cell_of q11
        replace HZ := Lib.hid (HZ.out.trans gA)
        have hO := HO.out.mono gA
        have hB := HB.out.mono gA
        rw [htk]
        generalize World.alloc _ _ = Z at hb5 q10 q11 HZ hO hB ⊢
        have H2 : Hid (∀ k : Nat, k < 2 → ∃ (ux : Int) (ua : Option Addr) (un uc : Nat) (u : Tr), Z.cell? ⟨tk, k * 2, none⟩ = some (.int .i64 ux) ∧ Z.cell? ⟨tk, k * 2 + 1, none⟩ = some (.slice ua un uc) ∧ TreeAt Z (.agg #[.int .i64 ux, .slice ua un uc]) u ∧ u.treeE r = 0 ∧ (k = 1 → u.treeA r = C)) := Lib.hid (fun k hk => by
          have hk' : k = 0 ∨ k = 1 := by omega
          rcases hk' with rfl | rfl
          · exact ⟨ox, oa, on, oc, ot, cell_of_heap hb5 rfl, cell_of_heap hb5 rfl, hO, HOE.out, fun h => absurd h (by decide)⟩
          · exact ⟨bx, bea, ben, bec, bt, cell_of_heap hb5 rfl, cell_of_heap hb5 rfl, hB, HB2.out.1, fun _ => HB2.out.2⟩)
        have Hr' := Lib.hid (Hr.out.mono HZ.out)
        obtain ⟨mb, mo, mc', cb, co, cc', rb, ro, rc, he, hm1, hm2, hc1, hc2, hR⟩ := Hr'.out.ok Hok.out
        cases he
        have HR := Lib.hid hR
        have Q10 := Lib.hid q10
        have Q11 := Lib.hid q11
        unfold maxLen at hm2 hc2
        clear gA hO hB hb5 htk q30 q31 q40 q41 HO HB HB2 HOE hR q10 q11
        have hr1 := Hok.out.m1
        have hr10 := Hok.out.m10
        have hrc8 := Hok.out.c8
        go_wp2
        go_loopw [17] (fun i wr => ∃ k : Nat, k ≤ 2 ∧ i = .int .i64 k ∧ Hid (Z.grows wr)) (fun i _ => 2 - (intOf i).toNat)
        case atStart => exact ⟨0, by omega, rfl, Lib.hid (World.grows.refl _)⟩
        case round =>
          obtain ⟨k, hk, rfl, hg⟩ := hrel
          by_cases hk2 : k < 2
          · obtain ⟨ux, ua, un, uc, u, c0, c1, hu, huE, huC⟩ := H2.out k hk2
            have hkI : (k : Int) < 2 := by omega
            have q0 := hg.out.cell_of c0
            have q1 := hg.out.cell_of c1
            have q10 := hg.out.cell_of Q10.out
            have q11 := hg.out.cell_of Q11.out
            have h19 := fun W (g : Z.grows W) => ptree_ok (Hr'.out.mono g) (hu.mono g) huE rfl
            have h20 := fun W (g : Z.grows W) => rtree_ok (Hr'.out.mono g) (hu.mono g) huE rfl
            have Hu := Lib.hid hu
            have HuE := Lib.hid huE
            obtain ⟨A, hA⟩ : ∃ x, u.treeA r = x := ⟨_, rfl⟩
            rw [hA] at h19 h20 huC
            have HA := Lib.hid hA
            have H2a := Lib.hid (And.intro c0 c1)
            clear hu huE hA c0 c1
            go_wp2
            (refine wp_region_chainR 6 [5] (by kernel_rfl) (by kernel_rfl) (by decide) ?_; simp only [without, only, withNo, List.take_succ_cons, List.take_zero, List.drop_succ_cons, List.drop_zero, List.take_nil, List.drop_nil, Nat.reduceAdd, Nat.reduceSub, List.filter, List.contains_cons, List.contains_nil, Nat.reduceBEq, Bool.or_false, Bool.false_or, Bool.true_or, Bool.or_true, Bool.or_self, Bool.not_true, Bool.not_false, List.map_cons, List.map_nil]; (repeat (refine wpCalm_step (fun K hK => ?_); go_simp; first | (refine hK _ ?_; clear hK K) | (apply Exists.intro; refine ⟨fun n' x' => ?_, hK _ ?_⟩; (fail); clear hK K))); refine wpCalm_nil ?_)
            (refine wpChain_step (fun K hK nc xc => ?_); go_simp)
            refine (h19 _ (hg.out.trans (by (repeat (first | exact World.grows.refl _ | assumption | refine World.grows.alloc ?_ _ | refine World.grows.plus ?_ _ _ | refine World.grows.drew ?_))))).mono ?_
            rintro e W1 ⟨rfl, g⟩
            refine ⟨_, rfl, g, hK _ _ ?_⟩
            clear hK K
            (refine wpChain_nil (fun nc xc => ?_))
            have gV : wr.grows (W1.plus nc xc) := World.grows.trans (World.grows.trans (by (repeat (first | exact World.grows.refl _ | assumption | refine World.grows.alloc ?_ _ | refine World.grows.plus ?_ _ _ | refine World.grows.drew ?_))) g) (by (repeat (first | exact World.grows.refl _ | assumption | refine World.grows.alloc ?_ _ | refine World.grows.plus ?_ _ _ | refine World.grows.drew ?_)))
            generalize W1.plus nc xc = V at gV ⊢
            ((try simp only [without, only, withNo, List.take_succ_cons, List.take_zero, List.drop_succ_cons, List.drop_zero, List.take_nil, List.drop_nil, Nat.reduceAdd, Nat.reduceSub, List.filter, List.contains_cons, List.contains_nil, Nat.reduceBEq, Bool.or_false, Bool.false_or, Bool.true_or, Bool.or_true, Bool.or_self, Bool.not_true, Bool.not_false, List.map_cons, List.map_nil]); (repeat (refine wpCalm_step (fun K hK => ?_); go_simp; first | (refine hK _ ?_; clear hK K) | (apply Exists.intro; refine ⟨fun n' x' => ?_, hK _ ?_⟩; (fail); clear hK K))); refine wpCalm_nil ?_; intro nq xq)
            replace hg := Lib.hid (hg.out.trans (gV.trans (World.grows_plus _ nq xq))); generalize World.plus V nq xq = V2 at hg ⊢; obtain ⟨wr, rfl⟩ : ∃ wr, wr = V2 := ⟨_, rfl⟩; clear gV q0 q1 q10 q11; have q0 := hg.out.cell_of (H2a.out.1); have q1 := hg.out.cell_of (H2a.out.2); have q10 := hg.out.cell_of Q10.out; have q11 := hg.out.cell_of Q11.out
            go_wp2
            (refine wp_region_chainR 6 [5] (by kernel_rfl) (by kernel_rfl) (by decide) ?_; simp only [without, only, withNo, List.take_succ_cons, List.take_zero, List.drop_succ_cons, List.drop_zero, List.take_nil, List.drop_nil, Nat.reduceAdd, Nat.reduceSub, List.filter, List.contains_cons, List.contains_nil, Nat.reduceBEq, Bool.or_false, Bool.false_or, Bool.true_or, Bool.or_true, Bool.or_self, Bool.not_true, Bool.not_false, List.map_cons, List.map_nil]; (repeat (refine wpCalm_step (fun K hK => ?_); go_simp; first | (refine hK _ ?_; clear hK K) | (apply Exists.intro; refine ⟨fun n' x' => ?_, hK _ ?_⟩; (fail); clear hK K))); refine wpCalm_nil ?_)
            (refine wpChain_step (fun K hK nc xc => ?_); go_simp)
            refine (h20 _ (hg.out.trans (by (repeat (first | exact World.grows.refl _ | assumption | refine World.grows.alloc ?_ _ | refine World.grows.plus ?_ _ _ | refine World.grows.drew ?_))))).mono ?_
            rintro e W1 ⟨rfl, g⟩
            refine ⟨_, rfl, g, hK _ _ ?_⟩
            clear hK K
            (refine wpChain_nil (fun nc xc => ?_))
            have gV : wr.grows (W1.plus nc xc) := World.grows.trans (World.grows.trans (by (repeat (first | exact World.grows.refl _ | assumption | refine World.grows.alloc ?_ _ | refine World.grows.plus ?_ _ _ | refine World.grows.drew ?_))) g) (by (repeat (first | exact World.grows.refl _ | assumption | refine World.grows.alloc ?_ _ | refine World.grows.plus ?_ _ _ | refine World.grows.drew ?_)))
            generalize W1.plus nc xc = V at gV ⊢
            ((try simp only [without, only, withNo, List.take_succ_cons, List.take_zero, List.drop_succ_cons, List.drop_zero, List.take_nil, List.drop_nil, Nat.reduceAdd, Nat.reduceSub, List.filter, List.contains_cons, List.contains_nil, Nat.reduceBEq, Bool.or_false, Bool.false_or, Bool.true_or, Bool.or_true, Bool.or_self, Bool.not_true, Bool.not_false, List.map_cons, List.map_nil]); (repeat (refine wpCalm_step (fun K hK => ?_); go_simp; first | (refine hK _ ?_; clear hK K) | (apply Exists.intro; refine ⟨fun n' x' => ?_, hK _ ?_⟩; (fail); clear hK K))); refine wpCalm_nil ?_; intro nq xq)
            replace hg := Lib.hid (hg.out.trans (gV.trans (World.grows_plus _ nq xq))); generalize World.plus V nq xq = V2 at hg ⊢; obtain ⟨wr, rfl⟩ : ∃ wr, wr = V2 := ⟨_, rfl⟩; clear gV q0 q1 q10 q11; have q0 := hg.out.cell_of (H2a.out.1); have q1 := hg.out.cell_of (H2a.out.2); have q10 := hg.out.cell_of Q10.out; have q11 := hg.out.cell_of Q11.out
            clear h19 h20
            go_upto_region 16 with fail
            go_cut [111] from 75 to 237 (fun s w' => s = .bool false ∧ Hid (wr.grows w'))
            case first =>
              by_cases hk1 : k = 1
              · have hkb : ((k : Int) == 1) = true := by rw [hk1]; rfl
                have hAb : (A != C) = false := by rw [huC hk1]; simp
                have hAb2 : (A == C) = true := by rw [huC hk1]; simp
                clear huC hk1
                go_wp2
                go_meet
                exact ⟨rfl, Lib.hid (by (repeat (first | exact World.grows.refl _ | assumption | refine World.grows.alloc ?_ _ | refine World.grows.plus ?_ _ _ | refine World.grows.drew ?_)))⟩
              · have hkb : ((k : Int) == 1) = false := beq_eq_false_iff_ne.2 (by omega)
                have hkb' : ¬ (k : Int) = 1 := by omega
                go_wp2
                go_meet
                exact ⟨rfl, Lib.hid (by (repeat (first | exact World.grows.refl _ | assumption | refine World.grows.alloc ?_ _ | refine World.grows.plus ?_ _ _ | refine World.grows.drew ?_)))⟩
            case rest =>
              obtain ⟨rfl, hv⟩ := hcut
              replace hg := Lib.hid (hg.out.trans hv.out)
              clear q0 q1 q10 q11 hv huC
              have h17 := Lib.hid fun (W : World) (g : Z.grows W) (m : Nat) (hm : m < r.nm) => Tr.pfollow_told (Hr'.out.mono g) (Hu.out.mono g) HuE.out hm ((HR.out.ints' hm).mono g)
              obtain ⟨Wc, rfl⟩ : ∃ Wc, Wc = wc := ⟨_, rfl⟩
              go_wp2
              go_loopw [22, 23] (fun s i wr => ∃ m : Nat, m ≤ r.nm ∧ i = .int .i64 m ∧ s = .int .i64 (mx (u.costAt r) m) ∧ Hid (Wc.grows wr)) (fun _ i _ => r.nm - (intOf i).toNat)
              case atStart => exact ⟨0, by omega, rfl, rfl, Lib.hid (by (repeat (first | exact World.grows.refl _ | assumption | refine World.grows.alloc ?_ _ | refine World.grows.plus ?_ _ _ | refine World.grows.drew ?_)))⟩
              case round =>
                obtain ⟨m, hm, rfl, rfl, hgm⟩ := hrel
                have hgz := Lib.hid (hg.out.trans hgm.out)
                have q10 := hgz.out.cell_of Q10.out
                have q11 := hgz.out.cell_of Q11.out
                by_cases hml : m < r.nm
                · have q0 := hgz.out.cell_of (H2a.out.1)
                  have q1 := hgz.out.cell_of (H2a.out.2)
                  have d0 := hgz.out.cell_of (HR.out.who m hml)
                  have d1 := hgz.out.cell_of (HR.out.row m hml)
                  have hmI : (m : Int) < r.nm := by omega
                  have hcA := (Tr.told_follow HuE.out hml).2.2.2
                  have h17m := fun W g => h17.out W g m hml
                  have hmx : Hid (mx (u.costAt r) (m + 1) = max (mx (u.costAt r) m) (u.costAt r m)) := Lib.hid rfl
                  obtain ⟨M, hM⟩ : ∃ M, mx (u.costAt r) m = M := ⟨_, rfl⟩
                  obtain ⟨c, hc⟩ : ∃ c, u.costAt r m = c := ⟨_, rfl⟩
                  rw [hM, hc] at hmx
                  rw [hc] at h17m hcA
                  rw [HA.out] at hcA
                  rw [hM]
                  have hcd : decide (A < c) = false := by simp; omega
                  have hcd' : ¬ A < c := by omega
                  clear hM hc
                  go_wp2
                  (refine wp_region_chainR 12 [11] (by kernel_rfl) (by kernel_rfl) (by decide) ?_; simp only [without, only, withNo, List.take_succ_cons, List.take_zero, List.drop_succ_cons, List.drop_zero, List.take_nil, List.drop_nil, Nat.reduceAdd, Nat.reduceSub, List.filter, List.contains_cons, List.contains_nil, Nat.reduceBEq, Bool.or_false, Bool.false_or, Bool.true_or, Bool.or_true, Bool.or_self, Bool.not_true, Bool.not_false, List.map_cons, List.map_nil]; (repeat (refine wpCalm_step (fun K hK => ?_); go_simp; first | (refine hK _ ?_; clear hK K) | (apply Exists.intro; refine ⟨fun n' x' => ?_, hK _ ?_⟩; (fail); clear hK K))); refine wpCalm_nil ?_)
                  (refine wpChain_step (fun K hK nc xc => ?_); go_simp)
                  refine (h17m _ (hgz.out.trans (by (repeat (first | exact World.grows.refl _ | assumption | refine World.grows.alloc ?_ _ | refine World.grows.plus ?_ _ _ | refine World.grows.drew ?_))))).mono ?_
                  rintro e W1 ⟨rfl, g⟩
                  refine ⟨_, rfl, g, hK _ _ ?_⟩
                  clear hK K
                  (refine wpChain_nil (fun nc xc => ?_))
                  have gV : wr.grows (W1.plus nc xc) := World.grows.trans (World.grows.trans (by (repeat (first | exact World.grows.refl _ | assumption | refine World.grows.alloc ?_ _ | refine World.grows.plus ?_ _ _ | refine World.grows.drew ?_))) g) (by (repeat (first | exact World.grows.refl _ | assumption | refine World.grows.alloc ?_ _ | refine World.grows.plus ?_ _ _ | refine World.grows.drew ?_)))
                  generalize W1.plus nc xc = V at gV ⊢
                  ((try simp only [without, only, withNo, List.take_succ_cons, List.take_zero, List.drop_succ_cons, List.drop_zero, List.take_nil, List.drop_nil, Nat.reduceAdd, Nat.reduceSub, List.filter, List.contains_cons, List.contains_nil, Nat.reduceBEq, Bool.or_false, Bool.false_or, Bool.true_or, Bool.or_true, Bool.or_self, Bool.not_true, Bool.not_false, List.map_cons, List.map_nil]); (repeat (refine wpCalm_step (fun K hK => ?_); go_simp; first | (refine hK _ ?_; clear hK K) | (apply Exists.intro; refine ⟨fun n' x' => ?_, hK _ ?_⟩; (fail); clear hK K))); refine wpCalm_nil ?_; intro nq xq)
                  replace q10 := gV.cell_of q10
                  replace q11 := gV.cell_of q11
                  replace d0 := gV.cell_of d0
                  clear q0 q1 d1 h17m
                  go_wp2
                  go_roundw
                  case rel => exact ⟨m + 1, by omega, by go_num, by rw [hmx.out, ← max_if], Lib.hid (hgm.out.trans (gV.trans (by (repeat (first | exact World.grows.refl _ | assumption | refine World.grows.alloc ?_ _ | refine World.grows.plus ?_ _ _ | refine World.grows.drew ?_)))))⟩
                  case measure => simp [intOf]; omega
                · have hme : m = r.nm := by omega
                  have hmA : mx (u.costAt r) m = A := by rw [hme, ← (Tr.told HuE.out).2.2.2.1, HA.out]
                  rw [hmA]
                  have hAb : (A != A) = false := by simp
                  subst hme
                  clear hml hm hmA
                  obtain ⟨a1, ha1⟩ : ∃ x : Nat, n1 % r.nm = x := ⟨_, rfl⟩
                  obtain ⟨a2, ha2⟩ : ∃ x : Nat, n2 % r.nm = x := ⟨_, rfl⟩
                  have l1 : a1 < r.nm := by rw [← ha1]; exact Nat.mod_lt _ (by omega)
                  have l2 : a2 < r.nm := by rw [← ha2]; exact Nat.mod_lt _ (by omega)
                  have e1 : (n1 : Int).tmod (r.nm : Int) = a1 := tmod_nat ha1
                  have e2 : (n2 : Int).tmod (r.nm : Int) = a2 := tmod_nat ha2
                  have w1 : IntKind.i64.wrap (n1 : Int) = n1 := wrapI rfl (by omega)
                  have w2 : IntKind.i64.wrap (n2 : Int) = n2 := wrapI rfl (by omega)
                  have hnI : ¬ (r.nm : Int) = 0 := by omega
                  have hn0 : ¬ r.nm = 0 := by omega
                  have l1I : (a1 : Int) < r.nm := by omega
                  have l2I : (a2 : Int) < r.nm := by omega
                  have d10 := hgz.out.cell_of (HR.out.who a1 l1)
                  have d11 := hgz.out.cell_of (HR.out.row a1 l1)
                  have d20 := hgz.out.cell_of (HR.out.who a2 l2)
                  have d21 := hgz.out.cell_of (HR.out.row a2 l2)
                  clear ha1 ha2 q11
                  go_upto_region 28 with fail
                  go_cut [27, 28] from 75 to 237 (fun p q w' => ∃ b1 b2 : Nat, p = .pointer (some ⟨b1, 0, none⟩) ∧ q = .pointer (some ⟨b2, 0, none⟩) ∧ Hid (w'.heap[b1]? = some (.cells #[.int .i64 (r.who a1), .slice (some ⟨rb a1, ro a1, none⟩) r.nc (rc a1)] 65)) ∧ Hid (w'.heap[b2]? = some (.cells #[.int .i64 (r.who a2), .slice (some ⟨rb a2, ro a2, none⟩) r.nc (rc a2)] 65)) ∧ Hid (wr.grows w'))
                  case first =>
                    go_region_held_law (fun w' => w'.cell? ⟨w.heap.size, 0, none⟩ = some (.slice (some ⟨mb, mo, none⟩) r.nm mc) ∧ w'.cell? ⟨mb, mo + a1 * 2, none⟩ = some (.int .i64 (r.who a1)) ∧ w'.cell? ⟨mb, mo + a1 * 2 + 1, none⟩ = some (.slice (some ⟨rb a1, ro a1, none⟩) r.nc (rc a1)) ∧ w'.cell? ⟨mb, mo + a2 * 2, none⟩ = some (.int .i64 (r.who a2)) ∧ w'.cell? ⟨mb, mo + a2 * 2 + 1, none⟩ = some (.slice (some ⟨rb a2, ro a2, none⟩) r.nc (rc a2)))
                      (first | assumption | (simp [go_sem, *]; done))
                      (first | (go_at_call 44; fail))
                    · go_wp2
                      go_meet
                      exact ⟨_, _, rfl, rfl, Lib.hid (World.grows.heap_of (by (repeat (first | exact World.grows.refl _ | assumption | refine World.grows.alloc ?_ _ | refine World.grows.plus ?_ _ _ | refine World.grows.drew ?_))) (World.heap_at _ _ _ rfl)), Lib.hid ((World.heap_drew _ _).trans (World.heap_at _ _ _ (by simp))), Lib.hid (by (repeat (first | exact World.grows.refl _ | assumption | refine World.grows.alloc ?_ _ | refine World.grows.plus ?_ _ _ | refine World.grows.drew ?_)))⟩
                    · go_wp2
                      go_meet
                      exact ⟨_, _, rfl, rfl, Lib.hid ((World.heap_drew _ _).trans (World.heap_at _ _ _ (by simp))), Lib.hid (World.grows.heap_of (by (repeat (first | exact World.grows.refl _ | assumption | refine World.grows.alloc ?_ _ | refine World.grows.plus ?_ _ _ | refine World.grows.drew ?_))) (World.heap_at _ _ _ rfl)), Lib.hid (by (repeat (first | exact World.grows.refl _ | assumption | refine World.grows.alloc ?_ _ | refine World.grows.plus ?_ _ _ | refine World.grows.drew ?_)))⟩
                  case rest =>
                    obtain ⟨b1, b2, rfl, rfl, Hb1, Hb2, hv⟩ := hcut
                    have hgz2 := Lib.hid (hgz.out.trans hv.out)
                    clear q10 d10 d11 d20 d21 hv e1 e2 w1 w2 hnI hn0 l1I l2I
                    obtain ⟨Wd, rfl⟩ : ∃ Wd, Wd = wc := ⟨_, rfl⟩
                    go_wp2
                    go_loopw [29, 30, 31] (fun f1 mn i wr => ∃ j : Nat, j ≤ r.nc ∧ i = .int .i64 j ∧ f1 = .int .i64 (r.apt2 a1 a2 j).2 ∧ mn = .int .i64 ((r.apt2 a1 a2 j).1 : Nat) ∧ Hid (Wd.grows wr)) (fun _ _ i _ => r.nc - (intOf i).toNat)
                    case atStart => exact ⟨0, by omega, rfl, rfl, rfl, Lib.hid (by (repeat (first | exact World.grows.refl _ | assumption | refine World.grows.alloc ?_ _ | refine World.grows.plus ?_ _ _ | refine World.grows.drew ?_)))⟩
                    case round =>
                      obtain ⟨j, hj, rfl, rfl, rfl, hgj⟩ := hrel
                      have hgy := Lib.hid (hgz2.out.trans hgj.out)
                      have q11 := hgy.out.cell_of Q11.out
                      have x1 : wr.cell? ⟨b1, 1, none⟩ = some (.slice (some ⟨rb a1, ro a1, none⟩) r.nc (rc a1)) := cell_of_heap (hgj.out.heap_of Hb1.out) rfl
                      have x2 : wr.cell? ⟨b2, 1, none⟩ = some (.slice (some ⟨rb a2, ro a2, none⟩) r.nc (rc a2)) := cell_of_heap (hgj.out.heap_of Hb2.out) rfl
                      by_cases hjl : j < r.nc
                      · have y1 := hgy.out.cell_of (HR.out.val a1 j l1 hjl)
                        have y2 := hgy.out.cell_of (HR.out.val a2 j l2 hjl)
                        obtain ⟨p1, p2⟩ := HR.out.cap a1 l1
                        obtain ⟨p3, p4⟩ := HR.out.cap a2 l2
                        unfold maxLen at p2 p4
                        have hjI : (j : Int) < r.nc := by omega
                        have hle := r.apt2_le a1 a2 j
                        have hsuc : Hid (r.apt2 a1 a2 (j + 1) = if r.val a1 j = r.val a2 j then r.apt2 a1 a2 j else ((r.apt2 a1 a2 j).1 + 1, ((j : Nat) : Int))) := Lib.hid rfl
                        obtain ⟨D, hD⟩ : ∃ D, r.apt2 a1 a2 j = D := ⟨_, rfl⟩
                        obtain ⟨D1, D2⟩ := D
                        rw [hD] at hle hsuc ⊢
                        dsimp only at hle ⊢
                        clear hD
                        by_cases he : r.val a1 j = r.val a2 j
                        · rw [if_pos he] at hsuc
                          rw [he] at y1
                          clear he
                          as_aux_lemma =>
                            go_wp2
                            (refine wp_region_calm (by kernel_rfl) (by kernel_rfl) ?_; (repeat (refine wpCalm_step (fun K hK => ?_); go_simp; first | (refine hK _ ?_; clear hK K) | (apply Exists.intro; refine ⟨fun n' x' => ?_, hK _ ?_⟩; (fail); clear hK K))); refine wpCalm_nil ?_; intro nq xq)
                            go_wp2
                            go_roundw
                            case rel => exact ⟨j + 1, by omega, by go_num, by rw [hsuc.out], by rw [hsuc.out], Lib.hid (hgj.out.trans (by (repeat (first | exact World.grows.refl _ | assumption | refine World.grows.alloc ?_ _ | refine World.grows.plus ?_ _ _ | refine World.grows.drew ?_))))⟩
                            case measure => simp [intOf]; omega
                        · rw [if_neg he] at hsuc
                          have heb : (r.val a1 j == r.val a2 j) = false := beq_eq_false_iff_ne.2 he
                          as_aux_lemma =>
                            go_wp2
                            (refine wp_region_calm (by kernel_rfl) (by kernel_rfl) ?_; (repeat (refine wpCalm_step (fun K hK => ?_); go_simp; first | (refine hK _ ?_; clear hK K) | (apply Exists.intro; refine ⟨fun n' x' => ?_, hK _ ?_⟩; (fail); clear hK K))); refine wpCalm_nil ?_; intro nq xq)
                            go_wp2
                            clear he heb y1 y2
                            go_roundw
                            case rel => exact ⟨j + 1, by omega, by go_num, by rw [hsuc.out], by rw [hsuc.out]; go_num, Lib.hid (hgj.out.trans (by (repeat (first | exact World.grows.refl _ | assumption | refine World.grows.alloc ?_ _ | refine World.grows.plus ?_ _ _ | refine World.grows.drew ?_))))⟩
                            case measure => simp [intOf]; omega
                      · have hje : j = r.nc := by omega
                        rw [hje]
                        clear hj hjl
                        have z1 : wr.cell? ⟨b1, 0, none⟩ = some (.int .i64 (r.who a1)) := cell_of_heap (hgj.out.heap_of Hb1.out) rfl
                        have z2 : wr.cell? ⟨b2, 0, none⟩ = some (.int .i64 (r.who a2)) := cell_of_heap (hgj.out.heap_of Hb2.out) rfl
                        have hone := Lib.hid (r.apt2_one a1 a2 r.nc)
                        obtain ⟨D, hD⟩ : ∃ D, r.apt2 a1 a2 r.nc = D := ⟨_, rfl⟩
                        obtain ⟨D1, D2⟩ := D
                        rw [hD] at hone ⊢
                        dsimp only at hone ⊢
                        clear hD
                        subst hje
                        by_cases hw : r.who a1 = r.who a2
                        · rw [hw] at z1
                          clear hw
                          go_wp2
                          go_roundw
                          case rel => exact ⟨k + 1, by omega, by go_num, Lib.hid (hgz2.out.trans (hgj.out.trans (by (repeat (first | exact World.grows.refl _ | assumption | refine World.grows.alloc ?_ _ | refine World.grows.plus ?_ _ _ | refine World.grows.drew ?_)))))⟩
                          case measure => simp [intOf]; omega
                        · have hwb : (r.who a1 == r.who a2) = false := beq_eq_false_iff_ne.2 hw
                          by_cases hmn : D1 = 1
                          · subst hmn
                            obtain ⟨G, hG, hGe, hGs⟩ := hone.out rfl
                            subst hGe
                            have hin1 := Lib.hid (Tr.told_looks HuE.out l1 l2 hw hGs)
                            have hin2 := Lib.hid (Tr.told_looks HuE.out l2 l1 (Ne.symm hw) fun f hf hne => (hGs f hf hne).symm)
                            have hgy := Lib.hid (hgz2.out.trans hgj.out)
                            have q0 := hgy.out.cell_of (H2a.out.1)
                            have q1 := hgy.out.cell_of (H2a.out.2)
                            have h40a := Lib.hid fun (W : World) (g : Z.grows W) => Tr.looks_told (Hu.out.mono g) HuE.out (HR.out.mono g) l1
                            have h40b := Lib.hid fun (W : World) (g : Z.grows W) => Tr.looks_told (Hu.out.mono g) HuE.out (HR.out.mono g) l2
                            obtain ⟨L1, hL1⟩ : ∃ x, (u.look (r.val a1) u.root).1 = x := ⟨_, rfl⟩
                            obtain ⟨L2, hL2⟩ : ∃ x, (u.look (r.val a2) u.root).1 = x := ⟨_, rfl⟩
                            rw [hL1] at h40a hin1
                            rw [hL2] at h40b hin2
                            clear hG hGs hL1 hL2 hone
                            as_aux_lemma =>
                              go_wp2
                              clear hw hwb z1 z2 q11
                              (refine wp_region_chainR 7 [6] (by kernel_rfl) (by kernel_rfl) (by decide) ?_; simp only [without, only, withNo, List.take_succ_cons, List.take_zero, List.drop_succ_cons, List.drop_zero, List.take_nil, List.drop_nil, Nat.reduceAdd, Nat.reduceSub, List.filter, List.contains_cons, List.contains_nil, Nat.reduceBEq, Bool.or_false, Bool.false_or, Bool.true_or, Bool.or_true, Bool.or_self, Bool.not_true, Bool.not_false, List.map_cons, List.map_nil]; (repeat (refine wpCalm_step (fun K hK => ?_); go_simp; first | (refine hK _ ?_; clear hK K) | (apply Exists.intro; refine ⟨fun n' x' => ?_, hK _ ?_⟩; (fail); clear hK K))); refine wpCalm_nil ?_)
                              (refine wpChain_step (fun K hK nc xc => ?_); go_simp)
                              refine (h40a.out _ (hgy.out.trans (by (repeat (first | exact World.grows.refl _ | assumption | refine World.grows.alloc ?_ _ | refine World.grows.plus ?_ _ _ | refine World.grows.drew ?_))))).mono ?_
                              rintro e W1 ⟨lv1, x9, rfl, hl1, g⟩
                              refine ⟨_, rfl, g, hK _ _ ?_⟩
                              clear hK K
                              (refine wpChain_nil (fun nc xc => ?_))
                              have gV : wr.grows (W1.plus nc xc) := World.grows.trans (World.grows.trans (by (repeat (first | exact World.grows.refl _ | assumption | refine World.grows.alloc ?_ _ | refine World.grows.plus ?_ _ _ | refine World.grows.drew ?_))) g) (by (repeat (first | exact World.grows.refl _ | assumption | refine World.grows.alloc ?_ _ | refine World.grows.plus ?_ _ _ | refine World.grows.drew ?_)))
                              have HL1 := Lib.hid (hl1.mono (World.grows_plus W1 nc xc))
                              generalize W1.plus nc xc = V at gV HL1 ⊢
                              ((try simp only [without, only, withNo, List.take_succ_cons, List.take_zero, List.drop_succ_cons, List.drop_zero, List.take_nil, List.drop_nil, Nat.reduceAdd, Nat.reduceSub, List.filter, List.contains_cons, List.contains_nil, Nat.reduceBEq, Bool.or_false, Bool.false_or, Bool.true_or, Bool.or_true, Bool.or_self, Bool.not_true, Bool.not_false, List.map_cons, List.map_nil]); (repeat (refine wpCalm_step (fun K hK => ?_); go_simp; first | (refine hK _ ?_; clear hK K) | (apply Exists.intro; refine ⟨fun n' x' => ?_, hK _ ?_⟩; (fail); clear hK K))); refine wpCalm_nil ?_; intro nq xq)
                              clear hl1 g x1
                              replace gV := gV.trans (World.grows_plus V nq xq)
                              replace HL1 := Lib.hid (HL1.out.mono (World.grows_plus V nq xq))
                              generalize V.plus nq xq = V2 at gV HL1 ⊢
                              replace q0 := gV.cell_of q0
                              replace q1 := gV.cell_of q1
                              replace x2 := gV.cell_of x2
                              have HgV := Lib.hid (hgy.out.trans gV)
                              clear gV
                              go_wp2
                              (refine wp_region_chainR 7 [6] (by kernel_rfl) (by kernel_rfl) (by decide) ?_; simp only [without, only, withNo, List.take_succ_cons, List.take_zero, List.drop_succ_cons, List.drop_zero, List.take_nil, List.drop_nil, Nat.reduceAdd, Nat.reduceSub, List.filter, List.contains_cons, List.contains_nil, Nat.reduceBEq, Bool.or_false, Bool.false_or, Bool.true_or, Bool.or_true, Bool.or_self, Bool.not_true, Bool.not_false, List.map_cons, List.map_nil]; (repeat (refine wpCalm_step (fun K hK => ?_); go_simp; first | (refine hK _ ?_; clear hK K) | (apply Exists.intro; refine ⟨fun n' x' => ?_, hK _ ?_⟩; (fail); clear hK K))); refine wpCalm_nil ?_)
                              (refine wpChain_step (fun K hK nc xc => ?_); go_simp)
                              refine (h40b.out _ (HgV.out.trans (by (repeat (first | exact World.grows.refl _ | assumption | refine World.grows.alloc ?_ _ | refine World.grows.plus ?_ _ _ | refine World.grows.drew ?_))))).mono ?_
                              rintro e W1 ⟨lv2, x8, rfl, hl2, g⟩
                              refine ⟨_, rfl, g, hK _ _ ?_⟩
                              clear hK K
                              (refine wpChain_nil (fun nc xc => ?_))
                              have gV : V2.grows (W1.plus nc xc) := World.grows.trans (World.grows.trans (by (repeat (first | exact World.grows.refl _ | assumption | refine World.grows.alloc ?_ _ | refine World.grows.plus ?_ _ _ | refine World.grows.drew ?_))) g) (by (repeat (first | exact World.grows.refl _ | assumption | refine World.grows.alloc ?_ _ | refine World.grows.plus ?_ _ _ | refine World.grows.drew ?_)))
                              have HL2 := Lib.hid (hl2.mono (World.grows_plus W1 nc xc))
                              generalize W1.plus nc xc = V at gV HL2 ⊢
                              ((try simp only [without, only, withNo, List.take_succ_cons, List.take_zero, List.drop_succ_cons, List.drop_zero, List.take_nil, List.drop_nil, Nat.reduceAdd, Nat.reduceSub, List.filter, List.contains_cons, List.contains_nil, Nat.reduceBEq, Bool.or_false, Bool.false_or, Bool.true_or, Bool.or_true, Bool.or_self, Bool.not_true, Bool.not_false, List.map_cons, List.map_nil]); (repeat (refine wpCalm_step (fun K hK => ?_); go_simp; first | (refine hK _ ?_; clear hK K) | (apply Exists.intro; refine ⟨fun n' x' => ?_, hK _ ?_⟩; (fail); clear hK K))); refine wpCalm_nil ?_; intro nq xq)
                              clear hl2 g x2 q0 q1
                              replace gV := gV.trans (World.grows_plus V nq xq)
                              replace HL2 := Lib.hid (HL2.out.mono (World.grows_plus V nq xq))
                              generalize V.plus nq xq = V3 at gV HL2 ⊢
                              replace HL1 := Lib.hid (HL1.out.mono gV)
                              replace HgV := Lib.hid (HgV.out.trans gV)
                              clear gV
                              go_wp2_with (go_at_call 44; fail)
                              refine (in_list _ _ _ (HL1.out.mono (by (repeat (first | exact World.grows.refl _ | assumption | refine World.grows.alloc ?_ _ | refine World.grows.plus ?_ _ _ | refine World.grows.drew ?_)))) hin1.out).mono ?_
                              rintro e U ⟨rfl, g⟩
                              replace HL2 := Lib.hid (HL2.out.mono (World.grows.trans (by (repeat (first | exact World.grows.refl _ | assumption | refine World.grows.alloc ?_ _ | refine World.grows.plus ?_ _ _ | refine World.grows.drew ?_))) g))
                              replace HgV := Lib.hid (HgV.out.trans (World.grows.trans (by (repeat (first | exact World.grows.refl _ | assumption | refine World.grows.alloc ?_ _ | refine World.grows.plus ?_ _ _ | refine World.grows.drew ?_))) g))
                              clear g
                              go_wp2_with (go_at_call 44; fail)
                              refine (in_list _ _ _ (HL2.out.mono (by (repeat (first | exact World.grows.refl _ | assumption | refine World.grows.alloc ?_ _ | refine World.grows.plus ?_ _ _ | refine World.grows.drew ?_)))) hin2.out).mono ?_
                              rintro e U ⟨rfl, g⟩
                              replace HgV := Lib.hid (HgV.out.trans (World.grows.trans (by (repeat (first | exact World.grows.refl _ | assumption | refine World.grows.alloc ?_ _ | refine World.grows.plus ?_ _ _ | refine World.grows.drew ?_))) g))
                              clear g
                              go_wp2
                              go_roundw
                              case rel => exact ⟨k + 1, by omega, by go_num, Lib.hid (HgV.out.trans (by (repeat (first | exact World.grows.refl _ | assumption | refine World.grows.alloc ?_ _ | refine World.grows.plus ?_ _ _ | refine World.grows.drew ?_))))⟩
                              case measure => simp [intOf]; omega
                          · have hmI : ((D1 : Int) == 1) = false := beq_eq_false_iff_ne.2 (by omega)
                            have hmI' : ((D1 : Int) != 1) = true := by simp; omega
                            have hmI2 : ¬ (D1 : Int) = 1 := by omega
                            go_wp2
                            clear hw hwb hmn hmI hmI' hmI2
                            go_roundw
                            case rel => exact ⟨k + 1, by omega, by go_num, Lib.hid (hgz2.out.trans (hgj.out.trans (by (repeat (first | exact World.grows.refl _ | assumption | refine World.grows.alloc ?_ _ | refine World.grows.plus ?_ _ _ | refine World.grows.drew ?_)))))⟩
                            case measure => simp [intOf]; omega
          · have hke : k = 2 := by omega
            subst hke
            have HZ9 := Lib.hid (HZ.out.trans hg.out)
            clear HZ
            have HZ := HZ9
            go_wp2_with (go_at_call 44; fail); refine (works_c _).mono ?_; rintro e U ⟨rfl, g⟩; replace HZ := Lib.hid (HZ.out.trans (World.grows.trans (by (repeat (first | exact World.grows.refl _ | assumption | refine World.grows.alloc ?_ _ | refine World.grows.plus ?_ _ _ | refine World.grows.drew ?_))) g)); clear g; go_wp2; (refine bodyPost_ret (v := .bool true) (by simp [results, Try.results7, go_sem]) rfl ?_); exact ⟨rfl, HZ.out.trans (by (repeat (first | exact World.grows.refl _ | assumption | refine World.grows.alloc ?_ _ | refine World.grows.plus ?_ _ _ | refine World.grows.drew ?_)))⟩
      · have h38 := fun W (g : w.grows W) => ltree_c W _ r (Hr.out.mono g) hok _ nb b (Hb.out.mono g) Hbb.out hn
        have Hnt := Lib.hid hnt
        clear hnt hc hok hn
        go_wp2_with (go_at_call 44; fail)
        refine (h38 _ (HZ.out.trans (by (repeat (first | exact World.grows.refl _ | assumption | refine World.grows.alloc ?_ _ | refine World.grows.plus ?_ _ _ | refine World.grows.drew ?_))))).mono ?_
        rintro e U ⟨ox, oa, on, oc, ot, ok, rfl, hO, hO2, hO3, g⟩
        cases ok with
        | true => exact absurd (hO2 rfl) (Reg.twins_tree Hnt.out ot)
        | false =>
        replace q10 := World.grows.cell_of (World.grows.trans (by (repeat (first | exact World.grows.refl _ | assumption | refine World.grows.alloc ?_ _ | refine World.grows.plus ?_ _ _ | refine World.grows.drew ?_))) g) q10; replace q11 := World.grows.cell_of (World.grows.trans (by (repeat (first | exact World.grows.refl _ | assumption | refine World.grows.alloc ?_ _ | refine World.grows.plus ?_ _ _ | refine World.grows.drew ?_))) g) q11; replace HZ := Lib.hid (HZ.out.trans (World.grows.trans (by (repeat (first | exact World.grows.refl _ | assumption | refine World.grows.alloc ?_ _ | refine World.grows.plus ?_ _ _ | refine World.grows.drew ?_))) g))
        clear g h38 hO2 hO3 hnI hnI'
        have HO := Lib.hid (hO.mono (World.grows.alloc (World.grows.refl U) (Obj.cells #[.int .i64 ox, .slice oa on oc] 28)))
        have q30 : (U.alloc (Obj.cells #[.int .i64 ox, .slice oa on oc] 28)).cell? ⟨U.heap.size, 0, none⟩ = some (.int .i64 ox) := cell_of_heap (World.heap_at _ _ _ rfl) rfl
        have q31 : (U.alloc (Obj.cells #[.int .i64 ox, .slice oa on oc] 28)).cell? ⟨U.heap.size, 1, none⟩ = some (.slice oa on oc) := cell_of_heap (World.heap_at _ _ _ rfl) rfl
        replace q10 := World.grows.cell_of (World.grows.alloc (World.grows.refl U) (Obj.cells #[.int .i64 ox, .slice oa on oc] 28)) q10
        replace q11 := World.grows.cell_of (World.grows.alloc (World.grows.refl U) (Obj.cells #[.int .i64 ox, .slice oa on oc] 28)) q11
        replace HZ := Lib.hid (HZ.out.trans (World.grows.alloc (World.grows.refl U) (Obj.cells #[.int .i64 ox, .slice oa on oc] 28)))
        clear hO
        go_upto_region 4 with fail
        obtain ⟨k9, hk9⟩ : ∃ k, U.heap.size = k := ⟨_, rfl⟩
        rw [hk9] at q30 q31 ⊢
        generalize World.alloc _ _ = Y at q30 q31 q10 q11 HZ HO ⊢
        clear hk9
        have hE0 := Reg.twins_tree Hnt.out ot
        have h19 := fun W (g1 : w.grows W) (g2 : Y.grows W) => ptree_c W _ r (Hr.out.mono g1) _ ot (HO.out.mono g2)
        obtain ⟨E, hE⟩ : ∃ x, ot.treeE r = x := ⟨_, rfl⟩
        obtain ⟨A, hA⟩ : ∃ x, ot.treeA r = x := ⟨_, rfl⟩
        rw [hE] at hE0
        rw [hA, hE] at h19
        have hEb : (E == 0) = false := by simpa using hE0
        have hEb' : (E != 0) = true := by simpa using hE0
        clear hE hA
        go_wp2_with (go_at_call 44; fail)
        refine (h19 _ (HZ.out.trans (by (repeat (first | exact World.grows.refl _ | assumption | refine World.grows.alloc ?_ _ | refine World.grows.plus ?_ _ _ | refine World.grows.drew ?_)))) (by (repeat (first | exact World.grows.refl _ | assumption | refine World.grows.alloc ?_ _ | refine World.grows.plus ?_ _ _ | refine World.grows.drew ?_)))).mono ?_
        rintro e U ⟨rfl, g⟩
        replace q10 := World.grows.cell_of (World.grows.trans (by (repeat (first | exact World.grows.refl _ | assumption | refine World.grows.alloc ?_ _ | refine World.grows.plus ?_ _ _ | refine World.grows.drew ?_))) g) q10; replace q11 := World.grows.cell_of (World.grows.trans (by (repeat (first | exact World.grows.refl _ | assumption | refine World.grows.alloc ?_ _ | refine World.grows.plus ?_ _ _ | refine World.grows.drew ?_))) g) q11; replace HZ := Lib.hid (HZ.out.trans (World.grows.trans (by (repeat (first | exact World.grows.refl _ | assumption | refine World.grows.alloc ?_ _ | refine World.grows.plus ?_ _ _ | refine World.grows.drew ?_))) g))
        clear g h19
        go_wp2_with (go_at_call 44; fail); refine (works_c _).mono ?_; rintro e U ⟨rfl, g⟩; replace HZ := Lib.hid (HZ.out.trans (World.grows.trans (by (repeat (first | exact World.grows.refl _ | assumption | refine World.grows.alloc ?_ _ | refine World.grows.plus ?_ _ _ | refine World.grows.drew ?_))) g)); clear g; go_wp2; (refine bodyPost_ret (v := .bool true) (by simp [results, Try.results7, go_sem]) rfl ?_); exact ⟨rfl, HZ.out.trans (by (repeat (first | exact World.grows.refl _ | assumption | refine World.grows.alloc ?_ _ | refine World.grows.plus ?_ _ _ | refine World.grows.drew ?_)))⟩
    · have hnI : decide ((40 : Int) < (nb : Nat)) = true := by simp; omega
      have hnI' : (40 : Int) < (nb : Nat) := by omega
      go_wp2_with (first | (go_at_call 37; refine (h37 _ (by (repeat (first | exact World.grows.refl _ | assumption | refine World.grows.alloc ?_ _ | refine World.grows.plus ?_ _ _ | refine World.grows.drew ?_)))).mono ?_; rintro e w' ⟨rfl, hg⟩; obtain ⟨n2, x2, rfl⟩ := World.plus_of hg) | (go_at_call 14; refine (works_c _).mono ?_; rintro e w' ⟨rfl, hg⟩; obtain ⟨n2, x2, rfl⟩ := World.plus_of hg)); (refine bodyPost_ret (v := .bool true) (by simp [results, Try.results7, go_sem]) rfl ?_); exact ⟨rfl, by (repeat (first | exact World.grows.refl _ | assumption | refine World.grows.alloc ?_ _ | refine World.grows.plus ?_ _ _ | refine World.grows.drew ?_))⟩
  · rw [decide_eq_false hc] at h37
    go_wp2_with (first | (go_at_call 37; refine (h37 _ (by (repeat (first | exact World.grows.refl _ | assumption | refine World.grows.alloc ?_ _ | refine World.grows.plus ?_ _ _ | refine World.grows.drew ?_)))).mono ?_; rintro e w' ⟨rfl, hg⟩; obtain ⟨n2, x2, rfl⟩ := World.plus_of hg) | (go_at_call 14; refine (works_c _).mono ?_; rintro e w' ⟨rfl, hg⟩; obtain ⟨n2, x2, rfl⟩ := World.plus_of hg)); (refine bodyPost_ret (v := .bool true) (by simp [results, Try.results7, go_sem]) rfl ?_); exact ⟨rfl, by (repeat (first | exact World.grows.refl _ | assumption | refine World.grows.alloc ?_ _ | refine World.grows.plus ?_ _ _ | refine World.grows.drew ?_))⟩
end Go.Proofs.Ytdminglglapnlaa

/-
  What is proved: the statement MarkFollowed, at every input.
-/
namespace Go.Proofs.Ytdminglglapnlaa
open Go.ChangeShapes Go.WideShapes Go.ChangeAt Go.RowKit

set_option maxRecDepth 100000 in
theorem markFollowed_lifted (os : Os) (started : os.Started) (H : Type) (enc : TypeId × Value → H) :
    ReturnsInHanded {} Try.checked os 7 .any (Rows.markFollowedSpec.pre6 enc Try.prog Try.f7 Rows.markFollowedRow.domain false) (Rows.markFollowedSpec.post enc Try.prog Try.f7 false true false false) := by
  refine law_lifted (C := Try.checked) (tb := 4) started own_c laid_c (by kernel_rfl) Try.func7 (of_decide_eq_true (by kernel_rfl))
    (ChangeSpec.witness6 (enc := enc) (C := Try.checked) false ⟨#[], #[.agg #[.slice none 0 0, .slice none 0 0], .slice none 0 0, .int .u8 0, .int .u8 0], []⟩ 8 (by kernel_rfl) (by kernel_rfl) (by kernel_rfl) (by kernel_rfl))
    rfl Try.underlying4 rfl (fun ds hl => ?_) (fun W base args ds ps hval hA => ?_)
  · match ds, hl with
    | [d1, d2, d3, d4], _ => exact ⟨rfl, rfl, rfl⟩
  · have hA' : DataW.TrodAll enc Try.prog W 0 (fun _ => true) true Try.f7.params.toList args.toList ds ps := hA
    have hval' : ∀ (j : Nat) t v, Try.f7.params[j]? = some t → args[j]? = some v → Value.okWide Try.prog W .any base t v := hval
    rw [Try.params7] at hA' hval'
    obtain ⟨v1, v2, v3, v4, d1, d2, d3, d4, p1, p2, p3, p4, rfl, rfl, rfl, h1, h2, h3, h4⟩ := trodAll_four hA'
    obtain ⟨r1, hr1⟩ := reg_of (hval' 0 25 v1 rfl rfl) h1
    obtain ⟨m2, f2, hf2, hb2⟩ := bytes_of (hval' 1 58 v2 rfl rfl) h2
    obtain ⟨z3, rfl, -, -, hw3⟩ := open_int Try.underlying5 (hval' 2 5 v3 rfl rfl) h3; have hz3 := lit_u8 hw3
    obtain ⟨z4, rfl, -, -, hw4⟩ := open_int Try.underlying5 (hval' 3 5 v4 rfl rfl) h4; have hz4 := lit_u8 hw4
    exact followed_w W v1 r1 hr1 v2 m2 f2 hf2 hb2 z3 z4 hz3 hz4

theorem markFollowed_holds : Rows.MarkFollowedSaid :=
  OpenClaim.holds_of_wide 7 Try.f7 rfl rfl rfl rfl rfl rfl rfl ⟨rfl, rfl, rfl, rfl, rfl⟩ rfl rfl rfl rfl rfl (by kernel_rfl) Try.func7 (by kernel_rfl)
    (of_decide_eq_true (by kernel_rfl)) (by unfold Func.isWrapper; first | (rw [if_pos (by decide +kernel)]; kernel_rfl) | (rw [if_neg (by decide +kernel)]; exact ⟨rfl, rfl⟩))
    (fun os started H enc _ => markFollowed_lifted os started H enc)
end Go.Proofs.Ytdminglglapnlaa

