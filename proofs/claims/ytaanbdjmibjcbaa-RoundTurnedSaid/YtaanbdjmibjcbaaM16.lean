/-
  What is proved: the library's sort by a function (74), laid at this program.
-/
import Derived.Shelf.SlGeneric
import Derived.Shelf.SlSortCmp.Whole1
import Derived.Ground.SlsfProg
import Derived.Test.YtaanbdjmibjcbaaProg
import Derived.Test.YtaanbdjmibjcbaaM14
import Derived.Shelf.SlSortCmp.NoneTotal
import Derived.Test.YtaanbdjmibjcbaaM13
import Derived.Test.YtaanbdjmibjcbaaM11
import Derived.Test.YtaanbdjmibjcbaaM12
set_option linter.all false
namespace Go.Proofs.Ytaanbdjmibjcbaa
open Go.Shelf
def sortL_ren : Go.Shelf.Ren := ⟨fun | 6 => 74 | 15 => 95 | 14 => 94 | 28 => 108 | 29 => 109 | 20 => 100 | 21 => 101 | 22 => 102 | 23 => 103 | 24 => 104 | 25 => 105 | 26 => 106 | 27 => 107 | 46 => 112 | 47 => 113 | 48 => 114 | 49 => 115 | 50 => 116 | 57 => 117 | n => n, fun | 22 => 39 | 24 => 35 | 25 => 112 | 3 => 3 | 39 => 128 | 0 => 0 | 53 => 143 | 55 => 145 | 4 => 4 | 46 => 137 | 45 => 136 | 50 => 55 | 5 => 5 | 9 => 9 | 66 => 146 | 70 => 150 | 76 => 152 | 77 => 153 | n => n, fun | n => n⟩
theorem sortL : Go.Proofs.SlLaysF.n6 Try.prog sortL_ren := {
  mixed := by kernel_rfl
  f6 := ⟨Try.f74.name, by decide, Try.func74.trans (congrArg some (by kernel_rfl))⟩
  f14 := ⟨Try.f94.name, by decide, Try.func94.trans (congrArg some (by kernel_rfl))⟩
  f15 := Try.func95.trans (congrArg some (by kernel_rfl))
  f20 := ⟨Try.f100.name, by decide, Try.func100.trans (congrArg some (by kernel_rfl))⟩
  f21 := ⟨Try.f101.name, by decide, Try.func101.trans (congrArg some (by kernel_rfl))⟩
  f22 := ⟨Try.f102.name, by decide, Try.func102.trans (congrArg some (by kernel_rfl))⟩
  f23 := ⟨Try.f103.name, by decide, Try.func103.trans (congrArg some (by kernel_rfl))⟩
  f24 := ⟨Try.f104.name, by decide, Try.func104.trans (congrArg some (by kernel_rfl))⟩
  f25 := ⟨Try.f105.name, by decide, Try.func105.trans (congrArg some (by kernel_rfl))⟩
  f26 := ⟨Try.f106.name, by decide, Try.func106.trans (congrArg some (by kernel_rfl))⟩
  f27 := ⟨Try.f107.name, by decide, Try.func107.trans (congrArg some (by kernel_rfl))⟩
  f28 := Try.func108.trans (congrArg some (by kernel_rfl))
  f29 := Try.func109.trans (congrArg some (by kernel_rfl))
  f46 := ⟨Try.f112.name, by decide, Try.func112.trans (congrArg some (by kernel_rfl))⟩
  f47 := Try.func113.trans (congrArg some (by kernel_rfl))
  f48 := Try.func114.trans (congrArg some (by kernel_rfl))
  f49 := ⟨Try.f115.name, by decide, Try.func115.trans (congrArg some (by kernel_rfl))⟩
  f50 := ⟨Try.f116.name, by decide, Try.func116.trans (congrArg some (by kernel_rfl))⟩
  f57 := ⟨Try.f117.name, by decide, Try.func117.trans (congrArg some (by kernel_rfl))⟩
  t0 := Try.underlying0
  a0 := Try.isAgg0
  z0 := Try.sizeOf0
  v0 := Try.zeroValue0
  t3 := Try.underlying3
  a3 := Try.isAgg3
  z3 := Try.sizeOf3
  v3 := Try.zeroValue3
  t4 := Try.underlying4
  a4 := Try.isAgg4
  z4 := Try.sizeOf4
  v4 := Try.zeroValue4
  t5 := Try.underlying5
  a5 := Try.isAgg5
  z5 := Try.sizeOf5
  v5 := Try.zeroValue5
  t9 := Try.underlying9
  a9 := Try.isAgg9
  z9 := Try.sizeOf9
  v9 := Try.zeroValue9
  t22 := Try.underlying39
  a22 := Try.isAgg39
  z22 := Try.sizeOf39
  v22 := Try.zeroValue39
  a24 := Try.isAgg35
  z24 := Try.sizeOf35
  t25 := Try.underlying112
  a25 := Try.isAgg112
  z25 := Try.sizeOf112
  v25 := Try.zeroValue112
  t39 := Try.underlying128
  a39 := Try.isAgg128
  z39 := Try.sizeOf128
  v39 := Try.zeroValue128
  t45 := Try.underlying136
  a45 := Try.isAgg136
  z45 := Try.sizeOf136
  v45 := Try.zeroValue136
  t46 := Try.underlying137
  a46 := Try.isAgg137
  z46 := Try.sizeOf137
  v46 := Try.zeroValue137
  t50 := Try.underlying55
  a50 := Try.isAgg55
  z50 := Try.sizeOf55
  v50 := Try.zeroValue55
  t53 := Try.underlying143
  a53 := Try.isAgg143
  z53 := Try.sizeOf143
  v53 := Try.zeroValue143
  t55 := Try.underlying145
  a55 := Try.isAgg145
  z55 := Try.sizeOf145
  v55 := Try.zeroValue145
  t66 := Try.underlying146
  a66 := Try.isAgg146
  z66 := Try.sizeOf146
  v66 := Try.zeroValue146
  t70 := Try.underlying150
  a70 := Try.isAgg150
  z70 := Try.sizeOf150
  v70 := Try.zeroValue150
  t76 := Try.underlying152
  a76 := Try.isAgg152
  z76 := Try.sizeOf152
  v76 := Try.zeroValue152
  t77 := Try.underlying153
  a77 := Try.isAgg153
  z77 := Try.sizeOf153
  v77 := Try.zeroValue153 }
end Go.Proofs.Ytaanbdjmibjcbaa

/-
  What is proved: the carts of Best are sorted by their least visits (74 with the closure 75).
-/
namespace Go.Proofs.Ytaanbdjmibjcbaa
open Go.RowKit Go.Shelf Go.Sort
attribute [local irreducible] Go.wpCalm rowI
section
variable {α : Type} [Inhabited α]
theorem sort_size (enc : α → Value) (w : World) (blk off m : Nat) (dk : Array α) (os : Array Obj) : (sortWorld enc w blk off m dk os).heap.size = w.heap.size + os.size := by
  unfold sortWorld Sort.grow
  show ((Sort.putRow enc (Sort.ahead w m) blk off dk).heap ++ os).size = _
  rw [Array.size_append, size_putRow]
  rfl
theorem sort_heap (enc : α → Value) (w : World) (blk off m : Nat) (dk : Array α) (os : Array Obj) {k : Nat} (hk : k < w.heap.size) (hne : k ≠ blk) : (sortWorld enc w blk off m dk os).heap[k]? = w.heap[k]? := by
  unfold sortWorld Sort.grow Sort.putRow mapBlock Sort.ahead
  show ((w.heap.modify blk _) ++ os)[k]? = _
  rw [Array.getElem?_append_left (by simpa using hk), Array.getElem?_modify, if_neg (fun e => hne e.symm)]
theorem sort_grows {w0 w : World} (enc : α → Value) (blk off m : Nat) (dk : Array α) (os : Array Obj) (g : w0.grows w) (hb : w0.heap.size ≤ blk) : w0.grows (sortWorld enc w blk off m dk os) :=
  ⟨g.os, g.tape, g.output, by rw [sort_size]; have := g.size; omega, fun k hk => by rw [sort_heap enc w blk off m dk os (by have := g.size; omega) (by omega)]; exact g.block k hk⟩
end
/-- a cart in memory of the call's own -/
def OwnC (W : World) (B : Nat) (x : Value × List Nat) : Prop := W.ownsRow B 3 1 x.1 x.2.length (intsL (cI x.2))
theorem OwnC.row {W : World} {B : Nat} {x : Value × List Nat} (h : OwnC W B x) : RowAt W x.1 (cI x.2) := World.ownsRow.rowAt h (cI_len _).symm
theorem OwnC.grow {W W' : World} {B : Nat} {x : Value × List Nat} (h : OwnC W B x) (g : W.grows W') : OwnC W' B x := World.ownsRow.grow h g
theorem OwnC.sort {α : Type} [Inhabited α] {W : World} {B : Nat} {x : Value × List Nat} (h : OwnC W B x) {blk : Nat} {cur : Array Value} {fr : Nat × Nat} (hb : W.heap[blk]? = some (.cells cur 35 fr)) (enc : α → Value) (off m : Nat) (dk : Array α) (os : Array Obj) : OwnC (sortWorld enc W blk off m dk os) B x := by
  obtain ⟨h1, h2⟩ := h
  refine ⟨h1, ?_⟩
  rcases h2 with h2 | ⟨g, cap, c2, e, hg, hgg, h3⟩
  · exact .inl h2
  · refine .inr ⟨g, cap, c2, e, hg, ?_, h3⟩
    rw [sort_heap enc W blk off m dk os (World.lt_of_block hgg) (fun e => by rw [e, hb] at hgg; cases hgg)]
    exact hgg
/-- what a cart must be -/
def CartP (W : World) (B : Nat) (x : Value × List Nat) : Prop := OwnC W B x ∧ x.2 ≠ [] ∧ ∀ u ∈ x.2, u < 16
theorem low_lt {c : List Nat} (h : c ≠ []) (h2 : ∀ u ∈ c, u < 16) : 0 ≤ low (cI c) ∧ low (cI c) < 16 := by
  obtain ⟨v, hv, e⟩ := low_nat h
  have := h2 v hv
  omega
theorem cart_pos {c : List Nat} (h : c ≠ []) : 0 < (cI c).length := by rw [cI_len]; exact List.length_pos_iff.2 h
section
variable {W : World} {B : Nat}
def encC (x : {x : Value × List Nat // CartP W B x}) : Value := x.1.1
def cfC (x y : {x : Value × List Nat // CartP W B x}) : Int := low (cI x.1.2) - low (cI y.1.2)
theorem ltC (x y : {x : Value × List Nat // CartP W B x}) : ltOf cfC x y = decide (low (cI x.1.2) < low (cI y.1.2)) := by
  unfold ltOf cfC
  by_cases h : low (cI x.1.2) < low (cI y.1.2)
  · rw [decide_eq_true h, decide_eq_true (by omega)]
  · rw [decide_eq_false h, decide_eq_false (by omega)]
theorem swoC : SWO (ltOf (cfC (W := W) (B := B))) where
  irrefl x := by rw [ltC]; simp
  trans x y z h1 h2 := by rw [ltC] at *; simp at *; omega
  ntrans x y z h1 h2 := by rw [ltC] at *; simp at *; omega
theorem encC_one : OneCell (encC (W := W) (B := B)) := fun x => by
  obtain ⟨a, c, e, -, -⟩ := row_form x.2.1
  unfold encC
  rw [e]; rfl
theorem cmpC [Inhabited {x : Value × List Nat // CartP W B x}] {blk : Nat} {cur : Array Value} {fr : Nat × Nat} (hb : W.heap[blk]? = some (.cells cur 35 fr)) (off size : Nat) : CmpLays1 Try.prog 75 #[] (encC (W := W) (B := B)) cfC blk off size W := by
  intro m os dk _ x y
  have hx := (x.2.1.sort hb encC off m dk os).row
  have hy := (y.2.1.sort hb encC off m dk os).row
  have lx := low_lt x.2.2.1 x.2.2.2
  have ly := low_lt y.2.2.1 y.2.2.2
  refine (cmp_c _ _ _ _ _ hx hy (cart_pos x.2.2.1) (cart_pos y.2.2.1) (by omega)).mono ?_
  rintro e w' ⟨rfl, rfl⟩
  exact ⟨rfl, 0, #[], (Sort.grow_empty _).symm⟩
end
theorem perm_whole {α : Type} [Inhabited α] {d d' : Array α} (h : PermIn 0 d.size d d') : d'.toList.Perm d.toList := by
  obtain ⟨h1, -, h3⟩ := h
  have e1 : d.extract 0 d.size = d := by simp
  have e2 : d'.extract 0 d.size = d' := by rw [← h1]; simp
  rw [e1, e2] at h3
  exact h3
theorem get_bang {α : Type} [Inhabited α] {d : Array α} {i : Nat} (h : i < d.size) : d[i]! = d.toList[i]'(by simpa using h) := by
  rw [getElem!_pos d i h]; simp
set_option maxHeartbeats 1000000 in
theorem sort_c (w0 w : World) (B : Nat) (v : Value) (cs : List (Value × List Nat)) (ho : w.ownsRow B 35 1 v cs.length (cs.map (·.1))) (hcs : ∀ x ∈ cs, CartP w B x) (g0 : w0.grows w) (hB : w0.heap.size ≤ B) (hm : cs.length ≤ 1000) :
    Calls Try.prog 74 #[v, .func (.func 75) #[] #[]] w fun e w' => e = .returned (.tuple #[]) ∧ w0.grows w' ∧ ∃ Q, (cs.map (·.2)).Perm Q ∧ (∀ i j, i < j → j < Q.length → low (cI (Q.getD i [])) ≤ low (cI (Q.getD j []))) ∧ PlanAt w' v (pI Q) := by
  by_cases hz : cs = []
  · subst hz
    obtain ⟨a, cap, rfl, h1, h2⟩ := row_form ho
    have h := AnyF.slices_SortFunc_none (P := Try.prog) (ρ := sortL_ren) { sortL with } a cap (.func (.func 75) #[] #[]) w
    change Calls Try.prog 74 _ _ _ at h
    refine h.mono ?_
    rintro e w' ⟨rfl, rfl⟩
    exact ⟨rfl, g0, [], List.Perm.refl _, fun i j _ hj => by simp at hj, fun _ => .int .i64 0, ⟨a, cap, rfl, h1, h2, fun i j hi => by simp [pI] at hi⟩, fun i hi => by simp [pI] at hi⟩
  · obtain ⟨hlen, ⟨rfl, hn⟩ | ⟨blk, cap, cur, rfl, hBb, hcur, hc1, hc2, hc3, hc4⟩⟩ := ho
    · exact absurd (List.eq_nil_of_length_eq_zero hn) hz
    obtain ⟨ds, hds⟩ : ∃ ds : List {x : Value × List Nat // CartP w B x}, ds.map (·.1) = cs := ⟨cs.attachWith _ hcs, List.attachWith_map_subtype_val ..⟩
    have hdl : ds.length = cs.length := by rw [← hds]; simp
    have hne : ds ≠ [] := fun e => hz (by rw [← hds, e]; rfl)
    obtain ⟨x0, hx0⟩ := List.exists_mem_of_ne_nil ds hne
    letI : Inhabited {x : Value × List Nat // CartP w B x} := ⟨x0⟩
    have hH : Holds (encC (W := w) (B := B)) w blk 0 ds.toArray := fun j hj => by
      refine ⟨?_, frozen_of_heap hcur _⟩
      have hj' : j < ds.length := by simpa using hj
      rw [get_bang hj]
      refine cell_of_heap hcur ?_
      rw [Nat.zero_add, ← Array.getElem?_toList]
      have h5 : (cs.map (·.1))[j]? = some (encC ds[j]) := by rw [← hds]; simp [encC, hj']
      rw [← hc4, List.getElem?_take, if_pos (by omega)] at h5
      rw [h5]
    have hcon := Any.slices_SortFunc (P := Try.prog) (ρ := sortL_ren) sortL (encC (W := w) (B := B)) encC_one cfC swoC 75 #[] blk 0 cap ds.toArray w (enters_of Try.func75 (by kernel_rfl) rfl) (cmpC hcur 0 _) hH (World.lt_of_block hcur) (by simp; omega)
    rw [show ds.toArray.size = cs.length by simpa using hdl] at hcon
    change Calls Try.prog 74 _ _ _ at hcon
    refine hcon.mono ?_
    rintro e w' ⟨rfl, d', n, os, hp, hs, rfl⟩
    have hps : d'.size = cs.length := by have := hp.1; simp at this; omega
    have hpw : d'.toList.Perm ds := by
      have h6 := perm_whole (d := ds.toArray) (d' := d') (by rw [show ds.toArray.size = cs.length by simpa using hdl]; exact hp)
      simpa using h6
    refine ⟨rfl, sort_grows _ _ _ _ _ _ g0 (by omega), d'.toList.map (·.1.2), ?_, ?_, ?_⟩
    · rw [← hds, List.map_map]
      exact (hpw.map (fun x => x.1.2)).symm
    · intro i j hij hj
      have hj' : j < d'.size := by simpa using hj
      have h7 := hs i j (Nat.zero_le _) hij (by omega)
      rw [ltC, decide_eq_false_iff_not, get_bang hj', get_bang (show i < d'.size by omega)] at h7
      rw [List.getD_eq_getElem?_getD, List.getD_eq_getElem?_getD, List.getElem?_map, List.getElem?_map, List.getElem?_eq_getElem (show i < d'.toList.length by simp; omega), List.getElem?_eq_getElem (show j < d'.toList.length by simp; omega)]
      simp only [Option.map_some, Option.getD_some]
      omega
    · have hH' := holds_sortWorld (encC (W := w) (B := B)) w blk 0 n ds.toArray d' os (World.lt_of_block hcur) hH (by simp; omega)
      have hl : (pI (d'.toList.map (·.1.2))).length = cs.length := by simp [pI_len, hps]
      refine ⟨fun i => encC d'[i]!, ⟨_, cap, by rw [hl], by rw [hl]; exact hc1, hc2, fun i j hi hj => ⟨blk, 0, rfl, ?_⟩⟩, fun i hi => ?_⟩
      · rw [hl, ← hps] at hi
        have h8 := (hH' i hi).1
        rw [show 0 + i * 1 + j = 0 + i by omega]
        exact h8
      · rw [hl, ← hps] at hi
        have h9 := (d'[i]!.2.1.sort hcur encC 0 n d' os).row
        rw [pI_get _ (by simp; exact hi), List.getD_eq_getElem?_getD, List.getElem?_map, List.getElem?_eq_getElem (show i < d'.toList.length by simpa using hi)]
        rw [get_bang hi] at h9
        show RowAt _ (encC d'[i]!) _
        rw [get_bang hi]
        exact h9
end Go.Proofs.Ytaanbdjmibjcbaa

/-
  What is proved: a plan with the fewest carts, in the program (30).
-/
namespace Go.Proofs.Ytaanbdjmibjcbaa
open Go.RowKit
attribute [local irreducible] Go.wpCalm rowI
theorem el35 : Try.prog.knows 35 (.slice none 0 0) 1 24 := Program.knows_of (by kernel_rfl)
def lenV : Value → Nat
  | .slice _ n _ => n
  | _ => 0
theorem befV_none {J : Jn} {n k : Nat} (h : bef n J k = none) : befV J n k = .tuple #[.int .i64 (-1), .bool false] := by unfold befV; rw [h]
theorem befV_some {J : Jn} {n k l : Nat} (h : bef n J k = some l) : befV J n k = .tuple #[.int .i64 (l : Int), .bool true] := by unfold befV; rw [h]
theorem cI_snoc (c : List Nat) (k : Nat) : cI (c ++ [k]) = cI c ++ [(k : Int)] := by simp [cI]
theorem intsL_one1 (x : Int) : tableL 1 1 (fun _ _ => Value.int .i64 x) = intsL [x] := by rw [tableL_one]; rfl
theorem slice_cell (a : Option Addr) (n c : Nat) : ∀ u ∈ tableL 1 1 (fun _ _ => Value.slice a n c), u.oneCell' = true := by
  intro u hu; rw [tableL_one] at hu; simp at hu; subst hu; rfl
theorem OwnC.other {w w' : World} {B B' n : Nat} {x : Value × List Nat} {u : Value} {ys : List Value} (h : OwnC w B x) (hu : w.ownsRow B' 35 1 u n ys) (g : w.grownBy w' u.ownBlock) : OwnC w' B x := World.ownsRow.other h hu (by decide) g
theorem head_snoc {c : List Nat} {k x : Nat} (h : c.head? = some x) : (c ++ [k]).head? = some x := by
  cases c with
  | nil => cases h
  | cons a r => exact h
set_option maxRecDepth 100000 in
set_option maxHeartbeats 8000000 in
theorem best_c (w : World) (tv : Value) (t : Town) (slow : Bool) (ht : TownAt w tv t) : Calls Try.prog 30 #[tv, .bool slow] w fun e w' => ∃ v, e = .returned (.tuple #[v, .int .i64 (needE t slow : Nat)]) ∧ w.grows w' ∧ if needE t slow = 0 then ∃ Q, BestPl t slow Q ∧ PlanAt w' v (pI Q) else v = .slice none 0 0 := by
  have Ht := Lib.hid ht
  have h71 := fun W (g : w.grows W) => ready0_c W _ t slow (Ht.out.mono g)
  have hok : needE t slow = 0 → t.Ok := fun h => by
    by_cases hc : t.check = 0
    · exact t.ok_iff.1 hc
    · unfold needE at h; rw [if_pos hc] at h; exact absurd h hc
  obtain ⟨sv, vv, rfl, ⟨sa, sc, rfl, -⟩, ⟨va, vc, rfl, -⟩⟩ := ht
  obtain ⟨C, hC⟩ : ∃ C : Nat, needE t slow = C := ⟨_, rfl⟩
  rw [hC] at hok ⊢
  simp only [hC] at h71
  clear hC
  go_enter Try.func30, Try.ntmps30
  go_wp2_with (go_at_call 99; fail)
  have h := h71 (w.alloc (.cells #[.int .i64 t.pl, .slice sa t.ns sc, .slice va t.nv vc] 25)) (by (repeat (first | exact World.grows.refl _ | assumption | refine World.grows.alloc ?_ _ | refine World.grows.plus ?_ _ _ | refine World.grows.drew ?_)))
  refine h.mono ?_
  intro e W hR
  have hR' : RdyIs _ t slow C e W := hR
  clear hR h71
  unfold RdyIs at hR'
  by_cases hc0 : C = 0
  case neg =>
    rw [if_neg hc0] at hR'
    obtain ⟨rfl, g⟩ := hR'
    have gW : w.grows W := World.grows.trans (by (repeat (first | exact World.grows.refl _ | assumption | refine World.grows.alloc ?_ _ | refine World.grows.plus ?_ _ _ | refine World.grows.drew ?_))) g
    have hcI : ¬ (C : Int) = 0 := by omega
    clear g hok
    go_wp2
    (refine bodyPost_ret (v := .tuple #[.slice none 0 0, .int .i64 (C : Int)]) (by simp [results, Try.results30, go_sem]) rfl ?_)
    first | exact ⟨rfl, gW.trans (by (repeat (first | exact World.grows.refl _ | assumption | refine World.grows.alloc ?_ _ | refine World.grows.plus ?_ _ _ | refine World.grows.drew ?_)))⟩ | exact gW.trans (by (repeat (first | exact World.grows.refl _ | assumption | refine World.grows.alloc ?_ _ | refine World.grows.plus ?_ _ _ | refine World.grows.drew ?_)))
  rw [if_pos hc0] at hR'
  subst hc0
  obtain ⟨y, rfl, g, hlt, hY⟩ := hR'
  have Hok := Lib.hid (hok rfl)
  have h16 := Hok.out.v16
  have HGW : Hid (w.grows W) := Lib.hid (World.grows.trans (by (repeat (first | exact World.grows.refl _ | assumption | refine World.grows.alloc ?_ _ | refine World.grows.plus ?_ _ _ | refine World.grows.drew ?_))) g)
  have HB : Hid (W.heap[w.heap.size]? = some (.cells #[.int .i64 t.pl, .slice sa t.ns sc, .slice va t.nv vc] 25)) := Lib.hid (World.grows.heap_of g (World.heap_at _ _ _ rfl))
  obtain ⟨sv2, va2, vc2, hy, vc2a, vc2b, -, ⟨sa2, sc2, rfl, -⟩⟩ := hY
  have HYa := Lib.hid hy
  have HVC := Lib.hid (And.intro vc2a vc2b)
  clear hok hlt g vc2a vc2b hy
  go_wp2_with (go_at_call 99; fail)
  refine (join_c W y t.nv (aftF t slow t.nv) (aft t slow) ⟨_, _, _, _, _, HYa.out, HVC.out.1, HVC.out.2⟩ (rows_aft t slow h16) h16).mono ?_
  rintro e V ⟨jb, m, rfl, g4, hmb, hJ, -⟩
  have HU := Lib.hid (join_upto (aft t slow) t.nv t.nv (Nat.le_refl _))
  have HS := Lib.hid (join_size (aft t slow) t.nv)
  obtain ⟨J, hJe⟩ : ∃ J, joinF (aft t slow) t.nv t.nv = J := ⟨_, rfl⟩
  rw [hJe] at HU HS hJ
  have HM := Lib.hid HU.out.mat
  have HJ := Lib.hid hJ
  have HMB := Lib.hid hmb
  replace HGW := Lib.hid (HGW.out.trans g4)
  replace HB := Lib.hid (g4.heap_of HB.out)
  have HRi := Lib.hid (aft_rises Hok.out slow)
  have hwV : w.heap.size < V.heap.size := World.lt_of_block HB.out
  clear g4 hJe hJ hmb HYa HVC HU
  have q2 : V.cell? ⟨w.heap.size, 2, none⟩ = some (.slice va t.nv vc) := cell_of_heap HB.out rfl
  go_wp2
  clear q2
  go_loopw [9, 30] (fun l i wr => ∃ (k : Nat) (cs : List (Value × List Nat)), k ≤ t.nv ∧ cs.length ≤ k ∧ i = .int .i64 k ∧ Hid (wr.ownsRow V.heap.size 35 1 l cs.length (cs.map (·.1))) ∧ Hid (∀ x ∈ cs, OwnC wr V.heap.size x ∧ Follows J x.2) ∧ Hid ((cs.map (·.2)).map List.head? = (filtL (fun k => (bef t.nv J k).isNone) k).map some) ∧ Hid (V.grows wr)) (fun _ i _ => t.nv - (intOf i).toNat)
  case atStart => exact ⟨0, [], by omega, by simp, rfl, Lib.hid (World.ownsRow_nil _ _ _ _), Lib.hid (fun x hx => by cases hx), Lib.hid rfl, Lib.hid (World.grows.refl _)⟩
  case round =>
    obtain ⟨k, cs, hk, hcl, rfl, ho, hcs, hh, hg⟩ := hrel
    obtain ⟨Wo, rfl⟩ : ∃ Wo, Wo = wr := ⟨_, rfl⟩
    obtain ⟨la, lc, rfl, -, -⟩ := row_form ho.out
    by_cases hlt : k < t.nv
    · have hkI : (k : Int) < t.nv := by omega
      have h73 := bef_c Wo jb m J (aft t slow) t.nv k HJ.out HM.out (hg.out.heap_of HMB.out)
      have hS := filtL_succ (fun k => (bef t.nv J k).isNone) k
      cases hb : bef t.nv J k with
      | some l =>
        rw [befV_some hb] at h73
        simp only [hb, Option.isNone_some, Bool.false_eq_true, if_false] at hS
        have HS2 := Lib.hid hS
        clear hb hS
        go_wp2_with (go_at_call 99; fail)
        refine h73.mono ?_
        rintro e W2 ⟨rfl, g2⟩
        replace ho := Lib.hid (ho.out.grow g2)
        replace hcs : Hid (∀ x ∈ cs, OwnC W2 V.heap.size x ∧ Follows J x.2) := Lib.hid fun x hx => ⟨(hcs.out x hx).1.grow g2, (hcs.out x hx).2⟩
        replace hg := Lib.hid (hg.out.trans g2)
        clear h73 g2
        go_wp2
        case roundEnd => exact ⟨⟨k + 1, cs, by omega, by omega, by go_num, ho, hcs, by rw [HS2.out]; exact hh, hg⟩, by simp [intOf]; omega⟩
      | none =>
        rw [befV_none hb] at h73
        simp only [hb, Option.isNone_none, if_true] at hS
        have HS2 := Lib.hid hS
        clear hb hS
        go_wp2_with (go_at_call 99; fail)
        refine h73.mono ?_
        rintro e W2 ⟨rfl, g2⟩
        replace ho := Lib.hid (ho.out.grow g2)
        replace hcs : Hid (∀ x ∈ cs, OwnC W2 V.heap.size x ∧ Follows J x.2) := Lib.hid fun x hx => ⟨(hcs.out x hx).1.grow g2, (hcs.out x hx).2⟩
        replace hg := Lib.hid (hg.out.trans g2)
        clear h73 g2
        go_wp2
        have HW2 : Hid (OwnC (W2.alloc (.cells #[.int .i64 k] 3)) V.heap.size (.slice (some ⟨W2.heap.size, 0, none⟩) 1 1, [k])) := Lib.hid ⟨rfl, .inr ⟨W2.heap.size, 1, #[.int .i64 k], rfl, hg.out.size, World.heap_at _ _ _ rfl, Nat.le_refl _, by unfold maxLen; omega, rfl, rfl⟩⟩
        go_loopw [13] (fun s wr => ∃ c : List Nat, Hid (OwnC wr V.heap.size (s, c)) ∧ Hid (Path J c ∧ c.head? = some k) ∧ Hid (W2.grows wr)) (fun s _ => t.nv - lenV s)
        case atStart => exact ⟨[k], HW2, Lib.hid ⟨trivial, rfl⟩, Lib.hid (by (repeat (first | exact World.grows.refl _ | assumption | refine World.grows.alloc ?_ _ | refine World.grows.plus ?_ _ _ | refine World.grows.drew ?_)))⟩
        case round =>
          clear HW2
          obtain ⟨c, ho2, hp, hg2⟩ := hrel
          have hrf := row_form ho2.out
          simp only at hrf
          obtain ⟨a2, cap, rfl, h1, h2⟩ := hrf
          unfold maxLen at h2
          have hne := hp.out.1.ne
          have hL0 : 0 < c.length := List.length_pos_iff.2 hne
          obtain ⟨L, hL⟩ : ∃ L, c.length = L := ⟨_, rfl⟩
          rw [hL] at hL0
          obtain ⟨p, hLp⟩ : ∃ p, L = p + 1 := ⟨L - 1, by omega⟩
          have hLn : L ≤ t.nv := by rw [← hL]; exact hp.out.1.len HRi.out HM.out fun x hx => by rw [hp.out.2] at hx; cases hx; exact hlt
          have hLc : L ≤ cap := by omega
          have hLcI : (L : Int) ≤ cap := by omega
          obtain ⟨l, hl⟩ : ∃ l, c.getLast? = some l := ⟨c.getLast hne, List.getLast?_eq_some_getLast hne⟩
          have hrow := ho2.out.row
          have HRow : Hid (IntsAt wr (.slice a2 L cap) L (fun i => (cI c).getD i 0)) := Lib.hid (by
            have h9 : IntsAt wr (.slice a2 c.length cap) (cI c).length (fun i => (cI c).getD i 0) := hrow
            rw [cI_len, hL] at h9
            exact h9)
          obtain ⟨a3, cap3, e3, -, -, hcell⟩ := hrow
          have ea : a2 = a3 := (Value.slice.inj e3).1
          subst ea
          clear e3
          obtain ⟨rb, ro, rfl, hcp⟩ := hcell p 0 (by show p < (cI c).length; rw [cI_len]; omega) (by omega)
          have hlast : (cI c).getD p 0 = (l : Int) := by
            have hpc : p < c.length := by omega
            rw [cI_get c hpc]
            rw [List.getLast?_eq_getElem?, show c.length - 1 = p by omega] at hl
            rw [List.getD_eq_getElem?_getD, hl]
            rfl
          simp only [hlast, Nat.mul_one, Nat.add_zero] at hcp
          have hLI : (L : Int) - 1 = (p : Int) := by omega
          have hwp : IntKind.i64.wrap (p : Int) = (p : Int) := wrapI rfl (by omega)
          have hpL : p < L := by omega
          have hpLI : (p : Int) < L := by omega
          have hmb := hg2.out.heap_of (hg.out.heap_of HMB.out)
          have hlk := lko105 m jb wr hmb (l : Int)
          rw [PM.getD, HJ.out.at] at hlk
          have HLp := Lib.hid hLp
          have HLL := Lib.hid hL
          rw [hL]
          clear hcell hmb hne hL hLp hlast
          cases hj : J l with
          | none =>
            rw [hj] at hlk
            simp only [Option.map_none, Option.getD_none, Option.isSome_none] at hlk
            have hF := Lib.hid (hp.out.1.follows hj hl)
            have ho3 := Lib.hid (ho.out.grow hg2.out)
            have hg3 := Lib.hid (hg.out.trans hg2.out)
            clear hj
            go_upto_region 15 with fail
            clear hlk hLI hwp hcp
            iterate 10 go_step
            refine wpList_append_r _ rfl (.tmp 65) (.tmp 67) 39 (by rfl) V.heap.size 35 (.slice none 0 0) 1 24 Try.underlying39 el35 (by rfl) (by omega) (.slice la cs.length lc) cs.length _ (by rfl) (ho3.out.grow (by (repeat (first | exact World.grows.refl _ | assumption | refine World.grows.alloc ?_ _ | refine World.grows.plus ?_ _ _ | refine World.grows.drew ?_)))) (.slice (some ⟨wr.heap.size, 0, none⟩) 1 1) (by rfl) 1 _ (SliceAt.src (by omega) (one_slice _ _ _ _ (by simp))) (slice_cell _ _ _) (by unfold maxLen; omega) (by omega) (by have := hg3.out.size; simp; omega) ?_
            intro v' w3 hown3 hgb
            have ho4 := ho3.out.grow (show wr.grows (wr.alloc (.cells #[.slice (some ⟨rb, ro, none⟩) L cap] 35)) by (repeat (first | exact World.grows.refl _ | assumption | refine World.grows.alloc ?_ _ | refine World.grows.plus ?_ _ _ | refine World.grows.drew ?_)))
            have hg4 := Lib.hid (hgb.grows ho4 (World.grows.trans hg3.out (by (repeat (first | exact World.grows.refl _ | assumption | refine World.grows.alloc ?_ _ | refine World.grows.plus ?_ _ _ | refine World.grows.drew ?_)))) (Nat.le_refl _))
            have hcs4 : Hid (∀ x ∈ cs ++ [(.slice (some ⟨rb, ro, none⟩) L cap, c)], OwnC w3 V.heap.size x ∧ Follows J x.2) := Lib.hid fun x hx => by
              rcases List.mem_append.1 hx with hx | hx
              · exact ⟨((((hcs.out x hx).1.grow hg2.out).grow (by (repeat (first | exact World.grows.refl _ | assumption | refine World.grows.alloc ?_ _ | refine World.grows.plus ?_ _ _ | refine World.grows.drew ?_)))).other ho4 hgb), (hcs.out x hx).2⟩
              · rw [List.mem_singleton] at hx
                subst hx
                exact ⟨(by rw [HLL.out] at ho2; exact (ho2.out.grow (by (repeat (first | exact World.grows.refl _ | assumption | refine World.grows.alloc ?_ _ | refine World.grows.plus ?_ _ _ | refine World.grows.drew ?_)))).other ho4 hgb), hF.out⟩
            have hh4 : Hid (((cs ++ [(Value.slice (some ⟨rb, ro, none⟩) L cap, c)]).map (·.2)).map List.head? = (filtL (fun k => (bef t.nv J k).isNone) (k + 1)).map some) := Lib.hid (by
              rw [HS2.out, List.map_append, List.map_append, List.map_append, hh.out]
              show _ ++ [c.head?] = _
              rw [hp.out.2]; rfl)
            have ho5 : Hid (w3.ownsRow V.heap.size 35 1 v' (cs ++ [(Value.slice (some ⟨rb, ro, none⟩) L cap, c)]).length ((cs ++ [(Value.slice (some ⟨rb, ro, none⟩) L cap, c)]).map (·.1))) := Lib.hid (by
              rw [tableL_one] at hown3
              rw [List.length_append, List.map_append]
              exact hown3)
            obtain ⟨la5, lc5, rfl, -, -⟩ := row_form hown3
            clear hown3 hgb ho4
            go_wp2
            case roundEnd => exact ⟨⟨k + 1, _, by omega, by rw [List.length_append]; exact Nat.succ_le_succ hcl, by go_num, by rw [List.length_append] at ho5 ⊢; exact ho5, hcs4, hh4, hg4⟩, by simp [intOf]; omega⟩
          | some k2 =>
            rw [hj] at hlk
            simp only [Option.map_some, Option.getD_some, Option.isSome_some] at hlk
            have hP := Lib.hid (Path.snoc hj hp.out.1 hl)
            have hH := Lib.hid (head_snoc (k := k2) hp.out.2)
            have hlen2 : L + 1 ≤ t.nv := by
              have h9 := hP.out.len HRi.out HM.out fun x hx => by rw [hH.out] at hx; cases hx; exact hlt
              rw [List.length_append, HLL.out] at h9
              exact h9
            clear hj
            go_upto_region 14 with fail
            clear hlk hLI hwp hcp
            go_wp2_with (at_builtin; refine wpList_append_cap _ rfl (.tmp 61) (.tmp 63) 35 (by rfl) 3 (.int .i64 0) 1 8 Try.underlying35 el3 (by rfl) (by omega) (some ⟨rb, ro, none⟩) L _ (by rfl) ((SliceAt.src (by omega) (IntsAt.mono HRow.out (show wr.grows (wr.alloc (.cells #[.int .i64 k2] 3)) by (repeat (first | exact World.grows.refl _ | assumption | refine World.grows.alloc ?_ _ | refine World.grows.plus ?_ _ _ | refine World.grows.drew ?_))))).cap L) (fun h => by cases h) _ (by rfl) 1 _ (SliceAt.src (by omega) (one_slice _ _ _ _ (by simp))) (by omega) (by unfold maxLen; omega) (by omega) ?_; intro v' w3 hown hg3)
            obtain ⟨la6, lc6, rfl, -, -⟩ := row_form hown
            have hsz6 := (hg.out.trans hg2.out).size
            have hO : Hid (OwnC w3 V.heap.size (.slice la6 (L + 1) lc6, c ++ [k2])) := Lib.hid (by
              show w3.ownsRow V.heap.size 3 1 (.slice la6 (L + 1) lc6) (c ++ [k2]).length (intsL (cI (c ++ [k2])))
              have e1 : tableL L 1 (fun i _ => Value.int .i64 ((cI c).getD i 0)) = intsL (cI c) := by
                have := intsL_table (cI c)
                rw [cI_len, HLL.out] at this
                exact this
              rw [e1, intsL_one1] at hown
              rw [List.length_append, HLL.out, cI_snoc, intsL_append]
              exact hown.down (by simp; omega))
            have hG := Lib.hid (hg2.out.trans (World.grows.trans (show wr.grows (wr.alloc (.cells #[.int .i64 k2] 3)) by (repeat (first | exact World.grows.refl _ | assumption | refine World.grows.alloc ?_ _ | refine World.grows.plus ?_ _ _ | refine World.grows.drew ?_))) hg3))
            exact ⟨⟨c ++ [k2], hO, Lib.hid ⟨hP.out, hH.out⟩, hG⟩, by show t.nv - (L + 1) < t.nv - L; omega⟩
    · have hke : k = t.nv := by omega
      subst hke
      obtain ⟨hRt, hsum⟩ := plan_right HRi.out HM.out (P := cs.map (·.2)) (fun c hc => by obtain ⟨x, hx, rfl⟩ := List.mem_map.1 hc; exact (hcs.out x hx).2) hh.out
      have hsort := sort_c w Wo V.heap.size _ cs ho.out (fun x hx => ⟨(hcs.out x hx).1, hRt.ne _ (List.mem_map_of_mem hx), fun u hu => by have := hRt.lt _ (List.mem_map_of_mem hx) u hu; omega⟩) (HGW.out.trans hg.out) HGW.out.size (by omega)
      have HRt := Lib.hid hRt
      have Hsum := Lib.hid hsum
      clear hRt hsum ho hcs hh
      go_wp2_with (go_at_call 99; fail)
      refine hsort.mono ?_
      rintro e U ⟨rfl, gU, Q, hperm, hord, hplan⟩
      have hRq := HRt.out.perm hperm
      have HBp : Hid (BestPl t slow Q) := Lib.hid (BestPl.mk' Hok.out hRq (by rw [← hperm.length_eq, ← HS.out]; exact Hsum.out) (ord_of hRq hord))
      have Hplan := Lib.hid hplan
      have HgU := Lib.hid gU
      clear hsort hperm hord hplan hRq gU
      go_wp2
      (refine bodyPost_ret (v := .tuple #[.slice la cs.length lc, .int .i64 0]) (by simp [results, Try.results30, go_sem]) rfl ?_)
      exact ⟨_, rfl, HgU.out.trans (by (repeat (first | exact World.grows.refl _ | assumption | refine World.grows.alloc ?_ _ | refine World.grows.plus ?_ _ _ | refine World.grows.drew ?_))), Q, HBp.out, Hplan.out.mono (by (repeat (first | exact World.grows.refl _ | assumption | refine World.grows.alloc ?_ _ | refine World.grows.plus ?_ _ _ | refine World.grows.drew ?_)))⟩
end Go.Proofs.Ytaanbdjmibjcbaa

/-
  What is proved: plain: what the examples' town gives.
-/
namespace Go.Proofs.Ytaanbdjmibjcbaa
theorem ex_ok : exT.check = 0 := by decide +kernel
theorem ex_Ok : exT.Ok := exT.ok_iff.1 ex_ok
theorem ex_d1 : dist exT true 0 2 = 50 := by decide +kernel
theorem ex_d2 : dist exT false 0 2 = 15 := by decide +kernel
/-- which visits can come after which -/
def exS (i k : Nat) : Bool := [(0, 2), (0, 4), (1, 4), (3, 2), (3, 4)].contains (i, k)
def exF (i k : Nat) : Bool := [(0, 1), (0, 2), (0, 4), (1, 2), (1, 4), (2, 4), (3, 2), (3, 4)].contains (i, k)
theorem ex_aftS : ∀ i, i < 5 → ∀ k, k < 5 → aft exT true i k = exS i k := by decide +kernel
theorem ex_aftF : ∀ i, i < 5 → ∀ k, k < 5 → aft exT false i k = exF i k := by decide +kernel
theorem ex_mmS : mm (aft exT true) 5 = 2 := by
  rw [mm_congr (B := exS) fun i k hi hk => ex_aftS i hi k hk]
  decide +kernel
theorem ex_mmF : mm (aft exT false) 5 = 3 := by
  rw [mm_congr (B := exF) fun i k hi hk => ex_aftF i hi k hk]
  decide +kernel
theorem ex_fewS : few exT true = 3 := by unfold few; rw [show exT.nv = 5 from rfl, ex_mmS]
theorem ex_fewF : few exT false = 2 := by unfold few; rw [show exT.nv = 5 from rfl, ex_mmF]
theorem ex_late : ∀ i, i < 5 → lateV exT true i = false ∧ lateV exT false i = false := by decide +kernel
theorem ex_lateL (slow : Bool) : filtL (lateV exT slow) 5 = [] := by
  cases slow <;> decide +kernel
theorem ex_any (slow : Bool) : anyLate exT slow = false := by
  cases slow <;> decide +kernel
theorem ex_need (slow : Bool) : needE exT slow = 0 := by unfold needE; rw [if_neg (by rw [ex_ok]; decide), ex_any]; rfl
theorem ex_way1 : wayE exT true 0 2 = 0 := by decide +kernel
theorem ex_way2 : wayM exT true 0 2 = 50 := by decide +kernel
theorem ex_way3 : wayE exT false 0 2 = 0 := by decide +kernel
theorem ex_way4 : wayM exT false 0 2 = 15 := by decide +kernel
theorem ex_two (a b : Int) (h : isV 5 a = true) (h2 : isV 5 b = true) : twoE exT a b = 0 := by unfold twoE; rw [if_neg (by rw [ex_ok]; decide), show exT.nv = 5 from rfl, h, h2]; rfl
theorem ex_aft1 : aftX exT true 0 1 = false := by decide +kernel
theorem ex_aft2 : aftX exT false 0 1 = true := by decide +kernel
theorem ex_aft3 : aftX exT true 0 2 = true := by decide +kernel
theorem ex_plan1 : planX exT true [[0, 2], [1, 4], [3]] = 0 := by decide +kernel
theorem ex_plan2 : planX exT true [[0, 1, 2, 4], [3]] = 16 := by decide +kernel
theorem ex_plan3 : planX exT false [[0, 1, 2, 4], [3]] = 0 := by decide +kernel
theorem ex_ask (slow : Bool) : askE exT slow 0 1 = 0 ∧ askE exT slow 0 2 = 0 ∧ askE exT slow 1 2 = 0 := by
  have h : ∀ a b : Int, isV 5 a = true → isV 5 b = true → decide (a = b) = false → askE exT slow a b = 0 := fun a b h1 h2 h3 => by
    unfold askE
    rw [if_neg (by rw [ex_ok]; decide), show exT.nv = 5 from rfl, h1, h2, h3, ex_any]; rfl
  exact ⟨h 0 1 rfl rfl rfl, h 0 2 rfl rfl rfl, h 1 2 rfl rfl rfl⟩
theorem kindA_congr {A B : Nat → Nat → Bool} {n : Nat} (h : ∀ i k, i < n → k < n → A i k = B i k) {a b : Nat} (ha : a < n) (hb : b < n) : kindA A n a b = kindA B n a b := by
  unfold kindA
  rw [h a b ha hb, mm_congr h, mm_congr (A := partA A a b) (B := partA B a b) fun i k hi hk => by unfold partA; rw [h i k hi hk], mm_congr (A := heldA A a b) (B := heldA B a b) fun i k hi hk => by unfold heldA; rw [h i k hi hk]]
theorem ex_kind1 : kindX exT false 0 1 = 2 := by
  unfold kindX
  rw [if_pos (ex_ask false).1, show exT.nv = 5 from rfl, kindA_congr (B := exF) (fun i k hi hk => ex_aftF i hi k hk) (by decide) (by decide)]
  decide +kernel
theorem ex_kind2 : kindX exT true 0 2 = 1 := by
  unfold kindX
  rw [if_pos (ex_ask true).2.1, show exT.nv = 5 from rfl, kindA_congr (B := exS) (fun i k hi hk => ex_aftS i hi k hk) (by decide) (by decide)]
  decide +kernel
theorem ex_kind3 : kindX exT true 1 2 = 0 := by
  unfold kindX
  rw [if_pos (ex_ask true).2.2, show exT.nv = 5 from rfl, kindA_congr (B := exS) (fun i k hi hk => ex_aftS i hi k hk) (by decide) (by decide)]
  decide +kernel
theorem lessA_congr {A B : Nat → Nat → Bool} {n : Nat} (h : ∀ i k, i < n → k < n → A i k = B i k) (v : Nat) : mm (lessA A v) n = mm (lessA B v) n := mm_congr fun i k hi hk => by unfold lessA; rw [h i k hi hk]
theorem filtL_congr {p q : Nat → Bool} {n : Nat} (h : ∀ i, i < n → p i = q i) : filtL p n = filtL q n := by
  unfold filtL
  exact List.filter_congr fun i hi => h i (List.mem_range.1 hi)
theorem ex_costS : filtL (costB exT true) 5 = [0, 1, 3] := by
  rw [filtL_congr (q := fun v => decide (5 - mm (lessA exS v) 5 = 5 - mm exS 5)) fun v hv => by
    rw [cost_iff true (show v < exT.nv from hv), show exT.nv = 5 from rfl, lessA_congr (fun i k hi hk => ex_aftS i hi k hk) v, mm_congr (B := exS) fun i k hi hk => ex_aftS i hi k hk]]
  decide +kernel
theorem ex_costF : filtL (costB exT false) 5 = [3] := by
  rw [filtL_congr (q := fun v => decide (5 - mm (lessA exF v) 5 = 5 - mm exF 5)) fun v hv => by
    rw [cost_iff false (show v < exT.nv from hv), show exT.nv = 5 from rfl, lessA_congr (fun i k hi hk => ex_aftF i hi k hk) v, mm_congr (B := exF) fun i k hi hk => ex_aftF i hi k hk]]
  decide +kernel
def lst (l : List Int) (i : Nat) : Int := l.getD i 0
theorem ex_ap1 : apE exT true 3 (lst [0, 1, 3]) = 0 := by decide +kernel
theorem ex_ap2 : apE exT true 2 (lst [0, 2]) = 14 := by decide +kernel
/-- the town with a visit more -/
def exT2 : Town := { exT with nv := 6, vp := fun i => if i = 5 then 2 else exT.vp i, vf := fun i => if i = 5 then 49 else exT.vf i, vb := fun i => if i = 5 then 50 else exT.vb i }
theorem ex2_ok : exT2.check = 0 := by decide +kernel
theorem ex2_late1 : filtL (lateV exT2 true) 6 = [5] := by decide +kernel
theorem ex2_late2 : filtL (lateV exT2 false) 6 = [] := by decide +kernel
end Go.Proofs.Ytaanbdjmibjcbaa

/-
  What is proved: plain words about the answers of Best and Apart, for the laws.
-/
namespace Go.Proofs.Ytaanbdjmibjcbaa
open Go.RowKit
theorem need_zero {t : Town} {slow : Bool} (h : needE t slow = 0) : t.check = 0 ∧ anyLate t slow = false := by
  unfold needE at h
  split at h
  · rename_i h1; exact absurd h h1
  · rename_i h1
    split at h
    · cases h
    · rename_i h2
      exact ⟨by omega, by simpa using h2⟩
theorem need_of {t : Town} {slow : Bool} (h : t.check = 0) (h2 : anyLate t slow = false) : needE t slow = 0 := by
  unfold needE
  rw [if_neg (by omega), h2]; rfl
theorem RightP.len {A : Nat → Nat → Bool} {n : Nat} {Q : List (List Nat)} (h : RightP A n Q) : (pI Q).flatten.length ≤ n := by
  have e : (pI Q).flatten = cI Q.flatten := by unfold pI cI; rw [← List.map_flatten]
  have hnd : (cI Q.flatten).Nodup := by
    unfold cI List.Nodup
    rw [List.pairwise_map]
    exact h.nodup.imp fun hne e => hne (by omega)
  obtain ⟨r, hr⟩ := perm_of_sub hnd (L := rangeI n) fun a ha => by
    obtain ⟨v, hv, rfl⟩ := List.mem_map.1 ha
    obtain ⟨c, hc, hvc⟩ := List.mem_flatten.1 hv
    exact List.mem_map.2 ⟨v, List.mem_range.2 (h.lt c hc v hvc), rfl⟩
  have := hr.length_eq
  rw [List.length_append] at this
  have e2 : (rangeI n).length = n := by simp [rangeI]
  rw [e]
  omega
theorem BestPl.planX {t : Town} {slow : Bool} {Q : List (List Nat)} (h : BestPl t slow Q) (h0 : needE t slow = 0) : planX t slow (pI Q) = 0 := by
  obtain ⟨h1, h2⟩ := need_zero h0
  have := right_planE h.right (anyLate t slow)
  unfold Go.Proofs.Ytaanbdjmibjcbaa.planX
  rw [if_neg (by omega)]
  rw [h2] at this ⊢
  exact this
theorem BestPl.planN {t : Town} {slow : Bool} {Q : List (List Nat)} (h : BestPl t slow Q) (h0 : needE t slow = 0) : planN t slow (pI Q) = few t slow := by
  unfold Go.Proofs.Ytaanbdjmibjcbaa.planN
  rw [if_pos (h.planX h0), pI_len, h.size]
theorem few_nv (t : Town) (slow : Bool) : few t slow ≤ t.nv := by unfold few; omega
theorem BestPl.ne {t : Town} {slow : Bool} {Q : List (List Nat)} (h : BestPl t slow Q) : ∀ i, i < (pI Q).length → 0 < ((pI Q).getD i []).length := fun i hi => by
  rw [pI_len] at hi
  rw [pI_get _ hi]
  exact cart_pos (h.right.ne _ (getD_mem hi))
theorem filtL_at_getD {X : Nat → Bool} {n i : Nat} (h : i < (filtL X n).length) : (filtL X n).getD i 0 < n ∧ X ((filtL X n).getD i 0) = true := by
  have hm : (filtL X n).getD i 0 ∈ filtL X n := getD_mem h
  unfold filtL at hm ⊢
  obtain ⟨h1, h2⟩ := List.mem_filter.1 hm
  exact ⟨List.mem_range.1 h1, h2⟩
theorem filtL_rise {X : Nat → Bool} {n i : Nat} (h : i + 1 < (filtL X n).length) : (filtL X n).getD i 0 < (filtL X n).getD (i + 1) 0 := by
  have hp : (filtL X n).Pairwise (· < ·) := List.Pairwise.filter _ List.pairwise_lt_range
  rw [List.pairwise_iff_getElem] at hp
  have := hp i (i + 1) (by omega) h (by omega)
  rw [List.getD_eq_getElem?_getD, List.getD_eq_getElem?_getD, List.getElem?_eq_getElem h, List.getElem?_eq_getElem (show i < (filtL X n).length by omega)]
  exact this
/-- visits that stand apart, as many as carts -/
structure ApL (t : Town) (slow : Bool) (L : List Nat) : Prop where
  chk : apE t slow L.length (fun i => ((L.getD i 0 : Nat) : Int)) = 0
  size : L.length = few t slow
theorem ApIs.list {w : World} {t : Town} {slow : Bool} {v : Value} (h : ApIs w t slow v) (h0 : needE t slow = 0) : ∃ L, ListAt w v L ∧ ApL t slow L := by
  obtain ⟨X, h1, h2, h3⟩ := h
  obtain ⟨hc, -⟩ := need_zero h0
  have hok := t.ok_iff.1 hc
  refine ⟨filtL X t.nv, h1, ⟨?_, ?_⟩⟩
  · unfold apE
    have e1 : okL t.nv (filtL X t.nv).length (fun i => (((filtL X t.nv).getD i 0 : Nat) : Int)) = true := by
      unfold okL
      rw [any_false_of fun i hi => ?_]
      · unfold riseF
        rw [Bool.not_false, Bool.true_and, decide_eq_true_eq]
        intro i _ hi
        exact Int.ofNat_lt.2 (filtL_rise hi)
      · have := (filtL_at_getD hi).1
        rw [Bool.not_eq_false']
        unfold isV
        rw [Bool.and_eq_true, decide_eq_true_eq, decide_eq_true_eq]
        exact ⟨Int.natCast_nonneg _, Int.ofNat_lt.2 this⟩
    have e2 : hitL (aft t slow) (filtL X t.nv).length (fun i => (((filtL X t.nv).getD i 0 : Nat) : Int)) = false := by
      unfold hitL
      refine any_false_of fun i hi => any_false_of fun k hk => ?_
      rw [Int.toNat_natCast, Int.toNat_natCast]
      obtain ⟨a1, a2⟩ := filtL_at_getD hi
      obtain ⟨b1, b2⟩ := filtL_at_getD hk
      exact h2 _ _ a1 b1 a2 b2
    rw [if_neg (by omega), e1, e2]; rfl
  · obtain ⟨M, hM, hm⟩ := mm_ex (aft t slow) t.nv
    have := apart_le (aft_rises hok slow) hM h2
    have e : (filtL X t.nv).length = cntB X t.nv := filter_count X t.nv
    rw [e]
    unfold few
    omega
/-! ### literals in memory -/
theorem row_lit {W : World} {b : Nat} {c : List Int} (h : W.heap[b]? = some (.cells (intsL c).toArray 3)) (hc : c.length ≤ 1000) : RowAt W (.slice (some ⟨b, 0, none⟩) c.length c.length) c := by
  refine ⟨_, _, rfl, Nat.le_refl _, by unfold maxLen; omega, fun i j hi hj => ⟨b, 0, rfl, ?_⟩⟩
  refine cell_of_heap h ?_
  rw [show 0 + i * 1 + j = i by omega, List.getElem?_toArray]
  exact intsL_get c hi
theorem plan_lit {W : World} {b : Nat} {vs : List Value} {P : List (List Int)} (h : W.heap[b]? = some (.cells vs.toArray 35)) (hl : vs.length = P.length) (hc : P.length ≤ 1000) (hr : ∀ i, i < P.length → RowAt W (vs.getD i undef) (P.getD i [])) : PlanAt W (.slice (some ⟨b, 0, none⟩) P.length P.length) P := by
  refine ⟨fun i => vs.getD i undef, ⟨_, _, rfl, Nat.le_refl _, by unfold maxLen; omega, fun i j hi hj => ⟨b, 0, rfl, ?_⟩⟩, hr⟩
  refine cell_of_heap h ?_
  rw [show 0 + i * 1 + j = i by omega, List.getElem?_toArray]
  show _ = some (vs.getD i undef)
  rw [List.getD_eq_getElem?_getD, List.getElem?_eq_getElem (show i < vs.length by omega)]
  rfl
end Go.Proofs.Ytaanbdjmibjcbaa

/-
  What is proved: Works (16) answers true.
-/
namespace Go.Proofs.Ytaanbdjmibjcbaa
open Go.RowKit
attribute [local irreducible] Go.wpCalm rowI
section
variable {X : World} {tv : Value}
theorem w_way (h : TownAt X tv exT) : Calls Try.prog 17 #[tv, .int .i64 0, .int .i64 2, .bool true] X fun e w' => e = .returned (.tuple #[.int .i64 50, .int .i64 0]) ∧ X.grows w' := by
  have := way_c X tv exT true h 0 2
  rw [ex_way1, ex_way2] at this
  exact this
theorem w_aft1 (h : TownAt X tv exT) : Calls Try.prog 21 #[tv, .int .i64 0, .int .i64 1, .bool true] X fun e w' => e = .returned (.tuple #[.bool false, .int .i64 0]) ∧ X.grows w' := by
  have := after_c X tv exT true h 0 1
  rw [ex_aft1, ex_two 0 1 rfl rfl] at this
  exact this
theorem w_aft2 (h : TownAt X tv exT) : Calls Try.prog 21 #[tv, .int .i64 0, .int .i64 1, .bool false] X fun e w' => e = .returned (.tuple #[.bool true, .int .i64 0]) ∧ X.grows w' := by
  have := after_c X tv exT false h 0 1
  rw [ex_aft2, ex_two 0 1 rfl rfl] at this
  exact this
theorem w_late (h : TownAt X tv exT) (slow : Bool) : Calls Try.prog 23 #[tv, .bool slow] X fun e w' => ∃ a c, e = .returned (.tuple #[.slice a 0 c, .int .i64 0]) ∧ X.grows w' := by
  refine (lateX_c X tv exT slow h).mono ?_
  rintro e w' ⟨v, rfl, g, hL⟩
  rw [ex_ok]
  unfold lateL at hL
  rw [if_pos ex_ok, show exT.nv = 5 from rfl, ex_lateL] at hL
  obtain ⟨a, c, rfl, -⟩ := hL
  exact ⟨a, c, rfl, g⟩
theorem w_plan (h : TownAt X tv exT) (slow : Bool) {pv : Value} {P : List (List Int)} {n E : Nat} (hp : PlanAt X pv P) (hE : planX exT slow P = E) (hn : (if E = 0 then P.length else 0) = n) (hF : P.flatten.length ≤ 1000) (hm : P.length ≤ 1000) : Calls Try.prog 28 #[tv, pv, .bool slow] X fun e w' => e = .returned (.tuple #[.int .i64 (n : Nat), .int .i64 (E : Nat)]) ∧ X.grows w' := by
  have := checkPlan_c X tv pv exT slow h P hp (by omega) (by omega)
  unfold planN at this
  rw [hE, hn] at this
  exact this
theorem w_best (h : TownAt X tv exT) (slow : Bool) : Calls Try.prog 30 #[tv, .bool slow] X fun e w' => ∃ v Q, e = .returned (.tuple #[v, .int .i64 0]) ∧ X.grows w' ∧ PlanAt w' v (pI Q) ∧ BestPl exT slow Q := by
  refine (best_c X tv exT slow h).mono ?_
  rintro e w' ⟨v, rfl, g, hL⟩
  rw [ex_need] at hL ⊢
  obtain ⟨Q, h1, h2⟩ := hL
  exact ⟨v, Q, rfl, g, h2, h1⟩
theorem w_rplan (h : TownAt X tv exT) {v : Value} {Q : List (List Nat)} (hp : PlanAt X v (pI Q)) (hQ : BestPl exT true Q) : Calls Try.prog 29 #[tv, v, .bool true] X fun e w' => e = .returned (.tuple #[.int .i64 3, .int .i64 0]) ∧ X.grows w' := by
  have h1 := hQ.right.len
  have h2 := hQ.size
  rw [ex_fewS] at h2
  have := rplan_c X tv v exT true h (pI Q) hp (Nat.le_trans h1 (by decide)) (by rw [pI_len]; omega)
  rw [hQ.planX (ex_need true), hQ.planN (ex_need true), ex_fewS] at this
  exact this
theorem w_apC (h : TownAt X tv exT) {lv : Value} {m E : Nat} {f : Nat → Int} (hl : IntsAt X lv m f) (hm : m ≤ 1000) (hE : apE exT true m f = E) : Calls Try.prog 35 #[tv, lv, .bool true] X fun e w' => e = .returned (.int .i64 (E : Nat)) ∧ X.grows w' := by
  have := checkApart_c X tv lv exT true h m f hl (by omega)
  rw [hE] at this
  exact this
theorem w_apart (h : TownAt X tv exT) : Calls Try.prog 34 #[tv, .bool false] X fun e w' => ∃ a c L, e = .returned (.tuple #[.slice a 2 c, .int .i64 0]) ∧ X.grows w' ∧ ListAt w' (.slice a 2 c) L ∧ ApL exT false L := by
  refine (apartT_c X tv exT false h).mono ?_
  rintro e w' ⟨v, rfl, g, hL⟩
  rw [ex_need] at hL ⊢
  obtain ⟨L, h1, h2⟩ := ApIs.list hL (ex_need false)
  have h3 := h2.size
  rw [ex_fewF] at h3
  obtain ⟨a, c, rfl, -⟩ := id h1
  rw [h3] at h1 ⊢
  exact ⟨a, c, L, rfl, g, h1, h2⟩
theorem w_rap (h : TownAt X tv exT) {v : Value} {L : List Nat} (hl : ListAt X v L) (hL : ApL exT false L) : Calls Try.prog 36 #[tv, v, .bool false] X fun e w' => e = .returned (.int .i64 0) ∧ X.grows w' := by
  have h3 := hL.size
  rw [ex_fewF] at h3
  have := rapart_c X tv v exT false h L.length _ hl (by omega)
  rw [hL.chk] at this
  exact this
theorem w_kind (h : TownAt X tv exT) : Calls Try.prog 37 #[tv, .int .i64 0, .int .i64 1, .bool false] X fun e w' => e = .returned (.tuple #[.int .i64 2, .int .i64 0]) ∧ X.grows w' := by
  have := kind_c X tv exT false h 0 1
  rw [ex_kind1, (ex_ask false).1] at this
  exact this
theorem w_costs (h : TownAt X tv exT) : Calls Try.prog 39 #[tv, .bool true] X fun e w' => ∃ a c, e = .returned (.tuple #[.slice a 3 c, .int .i64 0]) ∧ X.grows w' ∧ IntsAt w' (.slice a 3 c) 3 (lst [0, 1, 3]) := by
  refine (costs_c X tv exT true h).mono ?_
  rintro e w' ⟨v, rfl, g, hL⟩
  rw [ex_need] at hL ⊢
  rw [if_pos rfl, show exT.nv = 5 from rfl, ex_costS] at hL
  obtain ⟨a, c, rfl, h1, h2, h3⟩ := hL
  refine ⟨a, c, rfl, g, a, c, rfl, h1, h2, fun i j hi hj => ?_⟩
  obtain ⟨b, o, e1, e2⟩ := h3 i j hi hj
  refine ⟨b, o, e1, ?_⟩
  rw [e2]
  rcases (show i = 0 ∨ i = 1 ∨ i = 2 by omega) with rfl | rfl | rfl <;> rfl
theorem w_ints {av bv : Value} {n : Nat} {f : Nat → Int} (ha : IntsAt X av n f) (hb : IntsAt X bv n f) : Calls Try.prog 25 #[av, bv] X fun e w' => e = .returned (.bool true) ∧ X.grows w' := by
  have := ints_c X av bv n n f f ha hb
  rw [decide_eq_true rfl, eqL_yes fun _ _ => rfl] at this
  exact this
end
theorem three_rows (U : World) (c1 c2 c3 : List Int) (h1 : c1.length ≤ 1000) (h2 : c2.length ≤ 1000) (h3 : c3.length ≤ 1000) :
    PlanAt ((((U.alloc (.cells (intsL c1).toArray 3)).alloc (.cells (intsL c2).toArray 3)).alloc (.cells (intsL c3).toArray 3)).alloc (.cells [.slice (some ⟨U.heap.size, 0, none⟩) c1.length c1.length, .slice (some ⟨U.heap.size + 1, 0, none⟩) c2.length c2.length, .slice (some ⟨U.heap.size + 2, 0, none⟩) c3.length c3.length].toArray 35)) (.slice (some ⟨U.heap.size + 3, 0, none⟩) 3 3) [c1, c2, c3] := by
  have hh := World.heap_at (((U.alloc (.cells (intsL c1).toArray 3)).alloc (.cells (intsL c2).toArray 3)).alloc (.cells (intsL c3).toArray 3)) (.cells [.slice (some ⟨U.heap.size, 0, none⟩) c1.length c1.length, .slice (some ⟨U.heap.size + 1, 0, none⟩) c2.length c2.length, .slice (some ⟨U.heap.size + 2, 0, none⟩) c3.length c3.length].toArray 35) (U.heap.size + 3) (by simp)
  refine plan_lit (P := [c1, c2, c3]) hh rfl (by simp) fun i hi => ?_
  have r1 := row_lit (World.heap_at U (.cells (intsL c1).toArray 3) U.heap.size rfl) h1
  have r2 := row_lit (World.heap_at (U.alloc (.cells (intsL c1).toArray 3)) (.cells (intsL c2).toArray 3) (U.heap.size + 1) (by simp)) h2
  have r3 := row_lit (World.heap_at ((U.alloc (.cells (intsL c1).toArray 3)).alloc (.cells (intsL c2).toArray 3)) (.cells (intsL c3).toArray 3) (U.heap.size + 2) (by simp)) h3
  have hi : i < 3 := hi
  rcases (show i = 0 ∨ i = 1 ∨ i = 2 by omega) with rfl | rfl | rfl
  · exact IntsAt.mono r1 (by (repeat (first | exact World.grows.refl _ | assumption | refine World.grows.alloc ?_ _ | refine World.grows.plus ?_ _ _ | refine World.grows.drew ?_)))
  · exact IntsAt.mono r2 (by (repeat (first | exact World.grows.refl _ | assumption | refine World.grows.alloc ?_ _ | refine World.grows.plus ?_ _ _ | refine World.grows.drew ?_)))
  · exact IntsAt.mono r3 (by (repeat (first | exact World.grows.refl _ | assumption | refine World.grows.alloc ?_ _ | refine World.grows.plus ?_ _ _ | refine World.grows.drew ?_)))
theorem two_rows (U : World) (c1 c2 : List Int) (h1 : c1.length ≤ 1000) (h2 : c2.length ≤ 1000) :
    PlanAt (((U.alloc (.cells (intsL c1).toArray 3)).alloc (.cells (intsL c2).toArray 3)).alloc (.cells [.slice (some ⟨U.heap.size, 0, none⟩) c1.length c1.length, .slice (some ⟨U.heap.size + 1, 0, none⟩) c2.length c2.length].toArray 35)) (.slice (some ⟨U.heap.size + 2, 0, none⟩) 2 2) [c1, c2] := by
  have hh := World.heap_at ((U.alloc (.cells (intsL c1).toArray 3)).alloc (.cells (intsL c2).toArray 3)) (.cells [.slice (some ⟨U.heap.size, 0, none⟩) c1.length c1.length, .slice (some ⟨U.heap.size + 1, 0, none⟩) c2.length c2.length].toArray 35) (U.heap.size + 2) (by simp)
  refine plan_lit (P := [c1, c2]) hh rfl (by simp) fun i hi => ?_
  have r1 := row_lit (World.heap_at U (.cells (intsL c1).toArray 3) U.heap.size rfl) h1
  have r2 := row_lit (World.heap_at (U.alloc (.cells (intsL c1).toArray 3)) (.cells (intsL c2).toArray 3) (U.heap.size + 1) (by simp)) h2
  have hi : i < 2 := hi
  rcases (show i = 0 ∨ i = 1 by omega) with rfl | rfl
  · exact IntsAt.mono r1 (by (repeat (first | exact World.grows.refl _ | assumption | refine World.grows.alloc ?_ _ | refine World.grows.plus ?_ _ _ | refine World.grows.drew ?_)))
  · exact IntsAt.mono r2 (by (repeat (first | exact World.grows.refl _ | assumption | refine World.grows.alloc ?_ _ | refine World.grows.plus ?_ _ _ | refine World.grows.drew ?_)))
set_option maxRecDepth 100000 in
set_option maxHeartbeats 16000000 in
theorem works_c (w : World) : Calls Try.prog 16 #[] w fun e w' => e = .returned (.bool true) ∧ w.grows w' := by
  go_enter Try.func16, Try.ntmps16
  go_wp2_with (go_at_call 99; fail)
  refine (town_c _).mono ?_
  rintro e W1 ⟨tv, rfl, hT, g⟩
  have G : Hid (w.grows W1) := Lib.hid (World.grows.trans (by (repeat (first | exact World.grows.refl _ | assumption | refine World.grows.alloc ?_ _ | refine World.grows.plus ?_ _ _ | refine World.grows.drew ?_))) g)
  have HT := Lib.hid hT
  obtain ⟨sv, vv, rfl, ⟨sa, sc, rfl, -⟩, ⟨va, vc, rfl, -⟩⟩ := hT
  obtain ⟨P, hP⟩ : ∃ P, exT.pl = P := ⟨_, rfl⟩
  obtain ⟨N1, hN1⟩ : ∃ N, exT.ns = N := ⟨_, rfl⟩
  obtain ⟨N2, hN2⟩ : ∃ N, exT.nv = N := ⟨_, rfl⟩
  rw [hP, hN1, hN2] at HT ⊢
  clear g hP hN1 hN2
  go_wp2_with (go_at_call 99; fail)
  have HB : Hid ((W1.alloc (.cells #[.int .i64 P, .slice sa N1 sc, .slice va N2 vc] 25)).heap[W1.heap.size]? = some (.cells #[.int .i64 P, .slice sa N1 sc, .slice va N2 vc] 25)) := Lib.hid (World.heap_at _ _ _ rfl)
  have HW : Hid (W1.grows (W1.alloc (.cells #[.int .i64 P, .slice sa N1 sc, .slice va N2 vc] 25))) := Lib.hid (by (repeat (first | exact World.grows.refl _ | assumption | refine World.grows.alloc ?_ _ | refine World.grows.plus ?_ _ _ | refine World.grows.drew ?_)))
  have q0 := cell_of_heap (i := 0) HB.out rfl
  have q1 := cell_of_heap (i := 1) HB.out rfl
  have q2 := cell_of_heap (i := 2) HB.out rfl
  refine (w_way (HT.out.mono (HW.out.trans (by (repeat (first | exact World.grows.refl _ | assumption | refine World.grows.alloc ?_ _ | refine World.grows.plus ?_ _ _ | refine World.grows.drew ?_)))))).mono ?_
  rintro e U ⟨rfl, g⟩
  replace HW := Lib.hid (HW.out.trans (World.grows.trans (by (repeat (first | exact World.grows.refl _ | assumption | refine World.grows.alloc ?_ _ | refine World.grows.plus ?_ _ _ | refine World.grows.drew ?_))) g)); replace HB := Lib.hid (g.heap_of (World.grows.heap_of (by (repeat (first | exact World.grows.refl _ | assumption | refine World.grows.alloc ?_ _ | refine World.grows.plus ?_ _ _ | refine World.grows.drew ?_))) HB.out)); replace q0 := cell_of_heap (i := 0) HB.out rfl; replace q1 := cell_of_heap (i := 1) HB.out rfl; replace q2 := cell_of_heap (i := 2) HB.out rfl
  clear g
  go_wp2_with (go_at_call 99; fail)
  refine (w_aft1 (HT.out.mono (HW.out.trans (by (repeat (first | exact World.grows.refl _ | assumption | refine World.grows.alloc ?_ _ | refine World.grows.plus ?_ _ _ | refine World.grows.drew ?_)))))).mono ?_
  rintro e U ⟨rfl, g⟩
  replace HW := Lib.hid (HW.out.trans (World.grows.trans (by (repeat (first | exact World.grows.refl _ | assumption | refine World.grows.alloc ?_ _ | refine World.grows.plus ?_ _ _ | refine World.grows.drew ?_))) g)); replace HB := Lib.hid (g.heap_of (World.grows.heap_of (by (repeat (first | exact World.grows.refl _ | assumption | refine World.grows.alloc ?_ _ | refine World.grows.plus ?_ _ _ | refine World.grows.drew ?_))) HB.out)); replace q0 := cell_of_heap (i := 0) HB.out rfl; replace q1 := cell_of_heap (i := 1) HB.out rfl; replace q2 := cell_of_heap (i := 2) HB.out rfl
  clear g
  go_wp2_with (go_at_call 99; fail)
  refine (w_aft2 (HT.out.mono (HW.out.trans (by (repeat (first | exact World.grows.refl _ | assumption | refine World.grows.alloc ?_ _ | refine World.grows.plus ?_ _ _ | refine World.grows.drew ?_)))))).mono ?_
  rintro e U ⟨rfl, g⟩
  replace HW := Lib.hid (HW.out.trans (World.grows.trans (by (repeat (first | exact World.grows.refl _ | assumption | refine World.grows.alloc ?_ _ | refine World.grows.plus ?_ _ _ | refine World.grows.drew ?_))) g)); replace HB := Lib.hid (g.heap_of (World.grows.heap_of (by (repeat (first | exact World.grows.refl _ | assumption | refine World.grows.alloc ?_ _ | refine World.grows.plus ?_ _ _ | refine World.grows.drew ?_))) HB.out)); replace q0 := cell_of_heap (i := 0) HB.out rfl; replace q1 := cell_of_heap (i := 1) HB.out rfl; replace q2 := cell_of_heap (i := 2) HB.out rfl
  clear g
  go_wp2_with (go_at_call 99; fail)
  refine (w_late (HT.out.mono (HW.out.trans (by (repeat (first | exact World.grows.refl _ | assumption | refine World.grows.alloc ?_ _ | refine World.grows.plus ?_ _ _ | refine World.grows.drew ?_))))) true).mono ?_
  rintro e U ⟨a1, c1, rfl, g⟩
  replace HW := Lib.hid (HW.out.trans (World.grows.trans (by (repeat (first | exact World.grows.refl _ | assumption | refine World.grows.alloc ?_ _ | refine World.grows.plus ?_ _ _ | refine World.grows.drew ?_))) g)); replace HB := Lib.hid (g.heap_of (World.grows.heap_of (by (repeat (first | exact World.grows.refl _ | assumption | refine World.grows.alloc ?_ _ | refine World.grows.plus ?_ _ _ | refine World.grows.drew ?_))) HB.out)); replace q0 := cell_of_heap (i := 0) HB.out rfl; replace q1 := cell_of_heap (i := 1) HB.out rfl; replace q2 := cell_of_heap (i := 2) HB.out rfl
  clear g
  go_wp2_with (go_at_call 99; fail)
  refine (w_plan (HT.out.mono (HW.out.trans (by (repeat (first | exact World.grows.refl _ | assumption | refine World.grows.alloc ?_ _ | refine World.grows.plus ?_ _ _ | refine World.grows.drew ?_))))) true (P := [[0, 2], [1, 4], [3]]) (E := 0) (n := 3) (three_rows U [0, 2] [1, 4] [3] (by decide) (by decide) (by decide)) ex_plan1 rfl (by decide) (by decide)).mono ?_
  rintro e U ⟨rfl, g⟩
  replace HW := Lib.hid (HW.out.trans (World.grows.trans (by (repeat (first | exact World.grows.refl _ | assumption | refine World.grows.alloc ?_ _ | refine World.grows.plus ?_ _ _ | refine World.grows.drew ?_))) g)); replace HB := Lib.hid (g.heap_of (World.grows.heap_of (by (repeat (first | exact World.grows.refl _ | assumption | refine World.grows.alloc ?_ _ | refine World.grows.plus ?_ _ _ | refine World.grows.drew ?_))) HB.out)); replace q0 := cell_of_heap (i := 0) HB.out rfl; replace q1 := cell_of_heap (i := 1) HB.out rfl; replace q2 := cell_of_heap (i := 2) HB.out rfl
  clear g
  go_wp2_with (go_at_call 99; fail)
  refine (w_plan (HT.out.mono (HW.out.trans (by (repeat (first | exact World.grows.refl _ | assumption | refine World.grows.alloc ?_ _ | refine World.grows.plus ?_ _ _ | refine World.grows.drew ?_))))) true (P := [[0, 1, 2, 4], [3]]) (E := 16) (n := 0) (two_rows U [0, 1, 2, 4] [3] (by decide) (by decide)) ex_plan2 rfl (by decide) (by decide)).mono ?_
  rintro e U ⟨rfl, g⟩
  replace HW := Lib.hid (HW.out.trans (World.grows.trans (by (repeat (first | exact World.grows.refl _ | assumption | refine World.grows.alloc ?_ _ | refine World.grows.plus ?_ _ _ | refine World.grows.drew ?_))) g)); replace HB := Lib.hid (g.heap_of (World.grows.heap_of (by (repeat (first | exact World.grows.refl _ | assumption | refine World.grows.alloc ?_ _ | refine World.grows.plus ?_ _ _ | refine World.grows.drew ?_))) HB.out)); replace q0 := cell_of_heap (i := 0) HB.out rfl; replace q1 := cell_of_heap (i := 1) HB.out rfl; replace q2 := cell_of_heap (i := 2) HB.out rfl
  clear g
  go_wp2_with (go_at_call 99; fail)
  refine (w_best (HT.out.mono (HW.out.trans (by (repeat (first | exact World.grows.refl _ | assumption | refine World.grows.alloc ?_ _ | refine World.grows.plus ?_ _ _ | refine World.grows.drew ?_))))) true).mono ?_
  rintro e U ⟨v, Q, rfl, g, hPl, hQ⟩
  have HPl := Lib.hid hPl
  have HQ := Lib.hid hQ
  obtain ⟨row, ⟨pa, pc, rfl, -⟩, -⟩ := hPl
  obtain ⟨PL, hPL⟩ : ∃ PL, (pI Q).length = PL := ⟨_, rfl⟩
  rw [hPL] at HPl ⊢
  replace HW := Lib.hid (HW.out.trans (World.grows.trans (by (repeat (first | exact World.grows.refl _ | assumption | refine World.grows.alloc ?_ _ | refine World.grows.plus ?_ _ _ | refine World.grows.drew ?_))) g)); replace HB := Lib.hid (g.heap_of (World.grows.heap_of (by (repeat (first | exact World.grows.refl _ | assumption | refine World.grows.alloc ?_ _ | refine World.grows.plus ?_ _ _ | refine World.grows.drew ?_))) HB.out)); replace q0 := cell_of_heap (i := 0) HB.out rfl; replace q1 := cell_of_heap (i := 1) HB.out rfl; replace q2 := cell_of_heap (i := 2) HB.out rfl
  clear g hQ hPL
  go_wp2_with (go_at_call 99; fail)
  refine (w_apC (HT.out.mono (HW.out.trans (by (repeat (first | exact World.grows.refl _ | assumption | refine World.grows.alloc ?_ _ | refine World.grows.plus ?_ _ _ | refine World.grows.drew ?_))))) (m := 3) (f := lst [0, 1, 3]) (E := 0) (row_lit (c := [0, 1, 3]) (World.heap_at U _ _ rfl) (by decide)) (by decide) ex_ap1).mono ?_
  rintro e U2 ⟨rfl, g⟩
  replace HPl := Lib.hid (HPl.out.mono (World.grows.trans (by (repeat (first | exact World.grows.refl _ | assumption | refine World.grows.alloc ?_ _ | refine World.grows.plus ?_ _ _ | refine World.grows.drew ?_))) g))
  replace HW := Lib.hid (HW.out.trans (World.grows.trans (by (repeat (first | exact World.grows.refl _ | assumption | refine World.grows.alloc ?_ _ | refine World.grows.plus ?_ _ _ | refine World.grows.drew ?_))) g)); replace HB := Lib.hid (g.heap_of (World.grows.heap_of (by (repeat (first | exact World.grows.refl _ | assumption | refine World.grows.alloc ?_ _ | refine World.grows.plus ?_ _ _ | refine World.grows.drew ?_))) HB.out)); replace q0 := cell_of_heap (i := 0) HB.out rfl; replace q1 := cell_of_heap (i := 1) HB.out rfl; replace q2 := cell_of_heap (i := 2) HB.out rfl
  clear g
  go_wp2_with (go_at_call 99; fail)
  refine (w_apC (HT.out.mono (HW.out.trans (by (repeat (first | exact World.grows.refl _ | assumption | refine World.grows.alloc ?_ _ | refine World.grows.plus ?_ _ _ | refine World.grows.drew ?_))))) (m := 2) (f := lst [0, 2]) (E := 14) (row_lit (c := [0, 2]) (World.heap_at U2 _ _ rfl) (by decide)) (by decide) ex_ap2).mono ?_
  rintro e U3 ⟨rfl, g⟩
  replace HPl := Lib.hid (HPl.out.mono (World.grows.trans (by (repeat (first | exact World.grows.refl _ | assumption | refine World.grows.alloc ?_ _ | refine World.grows.plus ?_ _ _ | refine World.grows.drew ?_))) g))
  replace HW := Lib.hid (HW.out.trans (World.grows.trans (by (repeat (first | exact World.grows.refl _ | assumption | refine World.grows.alloc ?_ _ | refine World.grows.plus ?_ _ _ | refine World.grows.drew ?_))) g)); replace HB := Lib.hid (g.heap_of (World.grows.heap_of (by (repeat (first | exact World.grows.refl _ | assumption | refine World.grows.alloc ?_ _ | refine World.grows.plus ?_ _ _ | refine World.grows.drew ?_))) HB.out)); replace q0 := cell_of_heap (i := 0) HB.out rfl; replace q1 := cell_of_heap (i := 1) HB.out rfl; replace q2 := cell_of_heap (i := 2) HB.out rfl
  clear g
  go_wp2_with (go_at_call 99; fail)
  refine (w_apart (HT.out.mono (HW.out.trans (by (repeat (first | exact World.grows.refl _ | assumption | refine World.grows.alloc ?_ _ | refine World.grows.plus ?_ _ _ | refine World.grows.drew ?_)))))).mono ?_
  rintro e U4 ⟨xa, xc, L, rfl, g, hLa, hL⟩
  have HL := Lib.hid hL
  have HLa := Lib.hid hLa
  replace HPl := Lib.hid (HPl.out.mono (World.grows.trans (by (repeat (first | exact World.grows.refl _ | assumption | refine World.grows.alloc ?_ _ | refine World.grows.plus ?_ _ _ | refine World.grows.drew ?_))) g))
  replace HW := Lib.hid (HW.out.trans (World.grows.trans (by (repeat (first | exact World.grows.refl _ | assumption | refine World.grows.alloc ?_ _ | refine World.grows.plus ?_ _ _ | refine World.grows.drew ?_))) g)); replace HB := Lib.hid (g.heap_of (World.grows.heap_of (by (repeat (first | exact World.grows.refl _ | assumption | refine World.grows.alloc ?_ _ | refine World.grows.plus ?_ _ _ | refine World.grows.drew ?_))) HB.out)); replace q0 := cell_of_heap (i := 0) HB.out rfl; replace q1 := cell_of_heap (i := 1) HB.out rfl; replace q2 := cell_of_heap (i := 2) HB.out rfl
  clear g hL hLa
  go_wp2_with (go_at_call 99; fail)
  refine (w_kind (HT.out.mono (HW.out.trans (by (repeat (first | exact World.grows.refl _ | assumption | refine World.grows.alloc ?_ _ | refine World.grows.plus ?_ _ _ | refine World.grows.drew ?_)))))).mono ?_
  rintro e U5 ⟨rfl, g⟩
  replace HPl := Lib.hid (HPl.out.mono (World.grows.trans (by (repeat (first | exact World.grows.refl _ | assumption | refine World.grows.alloc ?_ _ | refine World.grows.plus ?_ _ _ | refine World.grows.drew ?_))) g))
  replace HLa := Lib.hid (HLa.out.mono (World.grows.trans (by (repeat (first | exact World.grows.refl _ | assumption | refine World.grows.alloc ?_ _ | refine World.grows.plus ?_ _ _ | refine World.grows.drew ?_))) g))
  replace HW := Lib.hid (HW.out.trans (World.grows.trans (by (repeat (first | exact World.grows.refl _ | assumption | refine World.grows.alloc ?_ _ | refine World.grows.plus ?_ _ _ | refine World.grows.drew ?_))) g)); replace HB := Lib.hid (g.heap_of (World.grows.heap_of (by (repeat (first | exact World.grows.refl _ | assumption | refine World.grows.alloc ?_ _ | refine World.grows.plus ?_ _ _ | refine World.grows.drew ?_))) HB.out)); replace q0 := cell_of_heap (i := 0) HB.out rfl; replace q1 := cell_of_heap (i := 1) HB.out rfl; replace q2 := cell_of_heap (i := 2) HB.out rfl
  clear g
  go_wp2_with (go_at_call 99; fail)
  refine (w_costs (HT.out.mono (HW.out.trans (by (repeat (first | exact World.grows.refl _ | assumption | refine World.grows.alloc ?_ _ | refine World.grows.plus ?_ _ _ | refine World.grows.drew ?_)))))).mono ?_
  rintro e U6 ⟨ya, yc, rfl, g, hC⟩
  have HC := Lib.hid hC
  replace HPl := Lib.hid (HPl.out.mono (World.grows.trans (by (repeat (first | exact World.grows.refl _ | assumption | refine World.grows.alloc ?_ _ | refine World.grows.plus ?_ _ _ | refine World.grows.drew ?_))) g))
  replace HLa := Lib.hid (HLa.out.mono (World.grows.trans (by (repeat (first | exact World.grows.refl _ | assumption | refine World.grows.alloc ?_ _ | refine World.grows.plus ?_ _ _ | refine World.grows.drew ?_))) g))
  replace HW := Lib.hid (HW.out.trans (World.grows.trans (by (repeat (first | exact World.grows.refl _ | assumption | refine World.grows.alloc ?_ _ | refine World.grows.plus ?_ _ _ | refine World.grows.drew ?_))) g)); replace HB := Lib.hid (g.heap_of (World.grows.heap_of (by (repeat (first | exact World.grows.refl _ | assumption | refine World.grows.alloc ?_ _ | refine World.grows.plus ?_ _ _ | refine World.grows.drew ?_))) HB.out)); replace q0 := cell_of_heap (i := 0) HB.out rfl; replace q1 := cell_of_heap (i := 1) HB.out rfl; replace q2 := cell_of_heap (i := 2) HB.out rfl
  clear g hC
  go_wp2_with (go_at_call 99; fail)
  refine (w_rplan (HT.out.mono (HW.out.trans (by (repeat (first | exact World.grows.refl _ | assumption | refine World.grows.alloc ?_ _ | refine World.grows.plus ?_ _ _ | refine World.grows.drew ?_))))) HPl.out HQ.out).mono ?_
  rintro e U7 ⟨rfl, g⟩
  replace HLa := Lib.hid (HLa.out.mono (World.grows.trans (by (repeat (first | exact World.grows.refl _ | assumption | refine World.grows.alloc ?_ _ | refine World.grows.plus ?_ _ _ | refine World.grows.drew ?_))) g))
  replace HC := Lib.hid (IntsAt.mono HC.out (World.grows.trans (by (repeat (first | exact World.grows.refl _ | assumption | refine World.grows.alloc ?_ _ | refine World.grows.plus ?_ _ _ | refine World.grows.drew ?_))) g))
  replace HW := Lib.hid (HW.out.trans (World.grows.trans (by (repeat (first | exact World.grows.refl _ | assumption | refine World.grows.alloc ?_ _ | refine World.grows.plus ?_ _ _ | refine World.grows.drew ?_))) g)); replace HB := Lib.hid (g.heap_of (World.grows.heap_of (by (repeat (first | exact World.grows.refl _ | assumption | refine World.grows.alloc ?_ _ | refine World.grows.plus ?_ _ _ | refine World.grows.drew ?_))) HB.out)); replace q0 := cell_of_heap (i := 0) HB.out rfl; replace q1 := cell_of_heap (i := 1) HB.out rfl; replace q2 := cell_of_heap (i := 2) HB.out rfl
  clear g HPl HQ
  go_wp2_with (go_at_call 99; fail)
  refine (w_rap (HT.out.mono (HW.out.trans (by (repeat (first | exact World.grows.refl _ | assumption | refine World.grows.alloc ?_ _ | refine World.grows.plus ?_ _ _ | refine World.grows.drew ?_))))) HLa.out HL.out).mono ?_
  rintro e U8 ⟨rfl, g⟩
  replace HC := Lib.hid (IntsAt.mono HC.out (World.grows.trans (by (repeat (first | exact World.grows.refl _ | assumption | refine World.grows.alloc ?_ _ | refine World.grows.plus ?_ _ _ | refine World.grows.drew ?_))) g))
  replace HW := Lib.hid (HW.out.trans (World.grows.trans (by (repeat (first | exact World.grows.refl _ | assumption | refine World.grows.alloc ?_ _ | refine World.grows.plus ?_ _ _ | refine World.grows.drew ?_))) g)); replace HB := Lib.hid (g.heap_of (World.grows.heap_of (by (repeat (first | exact World.grows.refl _ | assumption | refine World.grows.alloc ?_ _ | refine World.grows.plus ?_ _ _ | refine World.grows.drew ?_))) HB.out)); replace q0 := cell_of_heap (i := 0) HB.out rfl; replace q1 := cell_of_heap (i := 1) HB.out rfl; replace q2 := cell_of_heap (i := 2) HB.out rfl
  clear g HLa HL
  go_wp2_with (go_at_call 99; fail)
  refine (w_ints (IntsAt.mono HC.out (by (repeat (first | exact World.grows.refl _ | assumption | refine World.grows.alloc ?_ _ | refine World.grows.plus ?_ _ _ | refine World.grows.drew ?_)))) (row_lit (c := [0, 1, 3]) (World.heap_at U8 _ _ rfl) (by decide))).mono ?_
  rintro e U9 ⟨rfl, g⟩
  have G9 : w.grows U9 := G.out.trans (HW.out.trans (World.grows.trans (by (repeat (first | exact World.grows.refl _ | assumption | refine World.grows.alloc ?_ _ | refine World.grows.plus ?_ _ _ | refine World.grows.drew ?_))) g))
  clear g HC q0 q1 q2
  go_wp2
  (refine bodyPost_ret (v := .bool true) (by simp [results, Try.results16, go_sem]) rfl ?_)
  exact ⟨rfl, G9.trans (by (repeat (first | exact World.grows.refl _ | assumption | refine World.grows.alloc ?_ _ | refine World.grows.plus ?_ _ _ | refine World.grows.drew ?_)))⟩
end Go.Proofs.Ytaanbdjmibjcbaa

