/-
  What is proved: the law of a region that draws its order, by properties, where the blocks that some operations make are pairwise different; behind the head a tail in order.
-/
import Derived.Test.YteingahlmlndkaaM6
import Derived.Test.YteingahlmlndkaaM9
import Derived.Test.YteingahlmlndkaaM3
import Derived.Test.YteingahlmlndkaaM7
import Derived.Test.YteingahlmlndkaaM5
import Derived.MapKept
set_option linter.all false
namespace Go
open Go.RowKit
variable {P : Program} {ops : Array Oper}

def Region.invTailB (ops : Array Oper) (n : Nat) (ds : List (List Nat)) (dl : List (Option Tmp)) : Bool :=
  Region.invB ops n ds dl && (decide (n = ops.size) || (decide (n < ops.size) && Region.sinkB .any ops n && Region.chainB .any ops n)) &&
  Region.seqB .any ops (ops.size - n) n ((List.range ops.size).map fun i => decide (i < n)).toArray
/-- what is asked of the operations of the head; each may be asked to answer something new, too -/
def oblT (P : Program) (dl : List (Option Tmp)) (R : List (Value → World → Prop)) (w0 : World) (a : Act) : List (Oper × List Nat × (Value → World → Prop) × (Value → World → Prop)) → Prop
  | [] => True
  | (o, D, r, N) :: l => (∀ K : Value → World → Prop, ∀ n x, (∀ v W, r v W → N v (w0.plus n x) → K v W) → depQ dl R (w0.plus n x) (fun a' => o.goes P a' (w0.plus n x) K) D a) ∧ oblT P dl R w0 a l
def zipT : List Oper → List (List Nat) → List (Value → World → Prop) → List (Value → World → Prop) → List (Oper × List Nat × (Value → World → Prop) × (Value → World → Prop))
  | o :: l, D :: ds, r :: R, m :: N => (o, D, r, m) :: zipT l ds R N
  | _, _, _, _ => []
end Go

/-
  What is proved: the law of a region that draws its order, by properties that a relation of worlds keeps (an operation may write into what the region has made).
-/
namespace Go
open Go.RowKit
variable {P : Program} {ops : Array Oper}

/-- what is asked of the operations of the head -/
def oblG (P : Program) (dl : List (Option Tmp)) (R : List (Value → World → Prop)) (G : World → World → Prop) (w0 : World) (a : Act) : List (Oper × List Nat × (Value → World → Prop)) → Prop
  | [] => True
  | (o, D, r) :: l => (∀ n x (K : Value → World → Prop), (∀ v W', G (w0.plus n x) W' → r v W' → K v W') → depQ dl R (w0.plus n x) (fun a' => o.goesO P a' w0 (w0.plus n x) K) D a) ∧ oblG P dl R G w0 a l
theorem oblG_at {dl : List (Option Tmp)} {R : List (Value → World → Prop)} {G : World → World → Prop} {w0 : World} {a : Act} : ∀ (l : List (Oper × List Nat × (Value → World → Prop))), oblG P dl R G w0 a l → ∀ (i : Nat) (o : Oper) (D : List Nat) (r : Value → World → Prop), l[i]? = some (o, D, r) →
    ∀ W, w0.grows W → depQ dl R W (fun a' => Oper.goesO P o a' w0 W (fun v W' => G W W' ∧ r v W')) D a
  | [], _, i, o, D, r, h => by simp at h
  | _ :: l, hl, 0, o, D, r, h => by
    cases Option.some.inj h
    intro W hg
    obtain ⟨n, x, rfl⟩ := World.plus_of hg
    exact hl.1 n x _ (fun _ _ h1 h2 => ⟨h1, h2⟩)
  | _ :: l, hl, i + 1, o, D, r, h => oblG_at l hl.2 i o D r (by simpa using h)
theorem wpAnyIn_of_invG {F : Fence} (hF : F.Free P) {Nf : Nat} {w0 : World} {a : Act} {R : List (Value → World → Prop)} {Q : Exit → Act → World → Prop} {n : Nat} {ds : List (List Nat)} {dl : List (Option Tmp)} (hB : Region.invB ops n ds dl = true) (hnd : Region.noDeferB ops = true)
    (hheads0 : ∀ (listed : Array Bool) (i0 : Nat), HeadInv .any ops n listed → i0 < n → listed.getD i0 true = false → ∀ t ∈ Region.ready .any ops listed, t < n)
    {G : World → World → Prop} (hR : ∀ i v W W', R.getD i (fun _ _ => True) v W → G W W' → R.getD i (fun _ _ => True) v W')
    (hop : ∀ i o, i < n → ops[i]? = some o → ∀ W, w0.grows W → depQ dl R W (fun a' => o.goesO P a' w0 W (fun v W' => G W W' ∧ R.getD i (fun _ _ => True) v W')) (ds.getD i []) a)
    (hK : ∀ val W, w0.grows W → (∀ i, i < n → R.getD i (fun _ _ => True) (val i) W) → ∀ listed, HeadInv .any ops n listed → (∀ i, i < n → listed.getD i false = true) → wpAnyIn F Nf P .any ops Q (ops.size - n) listed (putL dl val (List.range n) a) W) :
    ∀ (cnt : Nat) (L U : List Nat) (listed : Array Bool) (val : Nat → Value) (W : World), U.length = cnt → L.Nodup → U.Nodup → (∀ i, i ∈ L ↔ i < n ∧ listed.getD i false = true) → (∀ i, i ∈ U ↔ i < n ∧ listed.getD i false = false) →
      HeadInv .any ops n listed → w0.grows W → (∀ i ∈ L, R.getD i (fun _ _ => True) (val i) W) → wpAnyIn F Nf P .any ops Q (cnt + (ops.size - n)) listed (putL dl val L a) W := by
  simp only [Region.invB, Bool.and_eq_true, decide_eq_true_eq] at hB
  obtain ⟨⟨hmix, hnle⟩, hall⟩ := hB
  simp only [Region.mixB, Bool.and_eq_true, decide_eq_true_eq] at hmix
  obtain ⟨⟨⟨hsel, _⟩, _⟩, hedge⟩ := hmix
  have hsp := Region.noSelect_spec hsel
  have spec : ∀ i o, i < n → ops[i]? = some o → o.guard = none ∧ dl.getD i none = o.dst ∧ (∀ j ∈ ds.getD i [], j < n ∧ Region.waitsFor .any ops i j = true) ∧ (ds.getD i []).Nodup ∧
      ∀ j, j < n → j ≠ i → (∀ d, dl.getD i none = some d → dl.getD j none ≠ some d) ∧ (j ∉ ds.getD i [] → ∀ d, dl.getD j none = some d → d ∉ o.looksAt ops) := by
    intro i o hi ho
    have h1 := List.all_eq_true.1 hall i (List.mem_range.2 hi)
    simp only [ho, Bool.and_eq_true, decide_eq_true_eq] at h1
    obtain ⟨⟨⟨⟨g1, g2⟩, g3⟩, g4⟩, g5⟩ := h1
    refine ⟨by simpa using g1, g2, fun j hj => ?_, g4, fun j hj hji => ?_⟩
    · have := List.all_eq_true.1 g3 j hj
      simpa using this
    · have h2 := List.all_eq_true.1 g5 j (List.mem_range.2 hj)
      simp only [Bool.or_eq_true, Bool.and_eq_true, decide_eq_true_eq] at h2
      rcases h2 with h2 | ⟨h2, h3⟩
      · exact absurd h2 hji
      · refine ⟨fun d hd hj' => ?_, fun hnd d hd => ?_⟩
        · rcases h2 with h2 | h2
          · rw [hd] at h2; cases h2
          · exact h2 (hj'.trans hd.symm)
        · rcases h3 with h3 | h3
          · exact absurd (by simpa using h3) hnd
          · rw [hd] at h3
            simpa using h3
  have edgeOf : ∀ i o, i < n → ops[i]? = some o → ∀ e ∈ o.after, Region.binds .any e = true → e.on < i := by
    intro i o hi ho e he hb
    have h1 := List.all_eq_true.1 hedge i (List.mem_range.2 hi)
    simp only [ho, Bool.and_eq_true] at h1
    have h2 := Array.all_eq_true_iff_forall_mem.1 h1.1 e he
    simpa only [hb, Bool.not_true, Bool.false_or, decide_eq_true_eq] using h2
  have unwait : ∀ (listed : Array Bool) (i j : Nat), i ∈ Region.ready .any ops listed → Region.waitsFor .any ops i j = true → listed.getD j false = true := by
    intro listed i j hi hw
    obtain ⟨oi, hoi, e, he, hb, hon⟩ := Region.waitsFor_spec hw
    obtain ⟨_, o', ho', hall⟩ := mem_ready.1 hi
    rw [hoi] at ho'; cases ho'
    have := hall e he hb
    rwa [hon] at this
  have at_lt : ∀ i, i < n → ∃ o, ops[i]? = some o := fun i hi => ⟨ops[i]'(by omega), Array.getElem?_eq_getElem (by omega)⟩
  have dst_ne : ∀ i, i < n → ∀ j, j < n → i ≠ j → ∀ d, dl.getD i none = some d → dl.getD j none ≠ some d := fun i hi j hj hij => by
    obtain ⟨o, ho⟩ := at_lt i hi
    exact ((spec i o hi ho).2.2.2.2 j hj (Ne.symm hij)).1
  intro cnt
  induction cnt with
  | zero =>
    intro L U listed val W hc hL hU hLm hUm inv hg hv
    have he : U = [] := List.eq_nil_of_length_eq_zero hc
    have hl : ∀ i, i < n → listed.getD i false = true := fun i hi => by
      cases h : listed.getD i false with
      | true => rfl
      | false =>
        have := (hUm i).2 ⟨hi, h⟩
        rw [he] at this
        cases this
    have hp : L.Perm (List.range n) := (List.perm_ext_iff_of_nodup hL List.nodup_range).2 fun i => by
      rw [hLm, List.mem_range]
      exact ⟨fun h => h.1, fun h => ⟨h, hl i h⟩⟩
    rw [Nat.zero_add, putL_perm hp (fun i hi j hj hij => dst_ne i ((hLm i).1 hi).1 j ((hLm j).1 hj).1 hij)]
    exact hK val W hg (fun i hi => hv i ((hLm i).2 ⟨hi, hl i hi⟩)) listed inv hl
  | succ cnt ih =>
    intro L U listed val W hc hL hU hLm hUm inv hg hv
    rw [show cnt + 1 + (ops.size - n) = (cnt + (ops.size - n)) + 1 by omega]
    obtain ⟨i0, hi0⟩ : ∃ i, i ∈ U := by
      cases U with
      | nil => simp at hc
      | cons x _ => exact ⟨x, List.mem_cons_self ..⟩
    have hi0' := (hUm i0).1 hi0
    have hheads := hheads0 listed i0 inv hi0'.1 (getD_in (by rw [inv.size]; omega) hi0'.2)
    have least : ∀ i, i < n → listed.getD i false = false → ∃ t, t ∈ Region.ready .any ops listed := by
      intro i
      induction i using Nat.strongRecOn with
      | _ i ih2 =>
        intro hi hl
        obtain ⟨o, ho⟩ := at_lt i hi
        by_cases h : ∃ e ∈ o.after, Region.binds .any e = true ∧ listed.getD e.on false = false
        · obtain ⟨e, he, hb, hel⟩ := h
          have := edgeOf i o hi ho e he hb
          exact ih2 e.on this (by omega) hel
        · refine ⟨i, mem_ready.2 ⟨getD_in (by rw [inv.size]; omega) hl, o, ho, fun e he hb => ?_⟩⟩
          cases hq : listed.getD e.on false with
          | true => rfl
          | false => exact absurd ⟨e, he, hb, hq⟩ h
    refine ⟨fun hnil => ?_, fun i hi => ?_⟩
    · exfalso
      obtain ⟨t, ht⟩ := least i0 hi0'.1 hi0'.2
      rw [hnil] at ht
      cases ht
    · have hin := hheads i hi
      have hl : listed.getD i false = false := getD_both (mem_ready.1 hi).1
      have inv' := inv.set hi hin
      obtain ⟨o, ho⟩ := at_lt i hin
      obtain ⟨sg, sd, sw, snd, sl⟩ := spec i o hin ho
      have set_ne : ∀ j, j ≠ i → (listed.setIfInBounds i true).getD j false = listed.getD j false := fun j hji => getD_set_ne false (Ne.symm hji)
      have set_self : (listed.setIfInBounds i true).getD i false = true := by
        have : i < listed.size := by rw [inv.size]; omega
        simp [this]
      have hiL : i ∉ L := fun h => by
        have := ((hLm i).1 h).2
        rw [hl] at this; cases this
      have hDL : ∀ j ∈ ds.getD i [], j ∈ L := fun j hj => (hLm j).2 ⟨(sw j hj).1, unwait listed i j hi (sw j hj).2⟩
      have hexec : execOp (putL dl val L a).eval o = execOp (putL dl val (ds.getD i []) a).eval o := by
        have hp : L.Perm (ds.getD i [] ++ L.filter fun j => !(ds.getD i []).contains j) := by
          refine (List.perm_ext_iff_of_nodup hL (List.nodup_append.2 ⟨snd, hL.filter _, fun x hx y hy e => ?_⟩)).2 fun j => ?_
          · subst e
            have h3 : (ds.getD i []).contains x = true := List.contains_iff_mem.2 hx
            have h4 := (List.mem_filter.1 hy).2
            simp only [h3] at h4
            cases h4
          · rw [List.mem_append, List.mem_filter]
            constructor
            · intro hj
              by_cases h : j ∈ ds.getD i []
              · exact .inl h
              · exact .inr ⟨hj, by simpa using h⟩
            · rintro (h | h)
              · exact hDL j h
              · exact h.1
        rw [putL_perm hp (fun i hi j hj hij => dst_ne i ((hLm i).1 hi).1 j ((hLm j).1 hj).1 hij), putL_append]
        refine execOp_putL (ops := ops) (fun cs b => hsp i o cs b ho) _ _ fun j hj d hd => ?_
        obtain ⟨h1, h2⟩ := List.mem_filter.1 hj
        refine (sl j ((hLm j).1 h1).1 (fun e => hiL (e ▸ h1))).2 (by simpa using h2) d hd
      have hgo := depQ_of (val := val) _ _ (hop i o hin ho W hg) (fun j hj => hv j (hDL j hj))
      have hrest : ∀ v W', w0.grows W' → G W W' ∧ R.getD i (fun _ _ => True) v W' → wpAnyIn F Nf P .any ops Q (cnt + (ops.size - n)) (listed.setIfInBounds i true) ((putL dl val L a).put o.dst v) W' := by
        intro v W' g ⟨hG1, hr⟩
        have e : (putL dl val L a).put o.dst v = putL dl (fun k => if k = i then v else val k) (L ++ [i]) a := by
          rw [putL_append, putL_congr (val' := fun k => if k = i then v else val k) L a (fun j hj => (if_neg (fun h => hiL (by rw [← h]; exact hj))).symm)]
          simp only [putL, if_true, sd]
        rw [e]
        refine ih (L ++ [i]) (U.erase i) _ _ W' ?_ ?_ (hU.erase _) (fun j => ?_) (fun j => ?_) inv' g (fun j hj => ?_)
        · have := List.length_erase_of_mem ((hUm i).2 ⟨hin, hl⟩)
          omega
        · rw [List.nodup_append]
          refine ⟨hL, List.nodup_cons.2 ⟨by simp, List.nodup_nil⟩, fun x hx y hy e => ?_⟩
          rw [List.mem_singleton] at hy
          exact hiL (by rw [← hy, ← e]; exact hx)
        · rw [List.mem_append, List.mem_singleton, hLm]
          by_cases hji : j = i
          · subst hji
            simp [set_self, hin]
          · rw [set_ne j hji]
            simp [hji]
        · rw [hU.mem_erase_iff, hUm]
          by_cases hji : j = i
          · subst hji
            simp [set_self]
          · rw [set_ne j hji]
            simp [hji]
        · rcases List.mem_append.1 hj with hj | hj
          · have : j ≠ i := fun h => hiL (by rw [← h]; exact hj)
            show R.getD j _ (if j = i then v else val j) W'
            rw [if_neg this]
            exact hR j _ _ _ (hv j hj) hG1
          · rw [List.mem_singleton] at hj
            subst hj
            show R.getD j _ (if j = j then v else val j) W'
            rw [if_pos rfl]
            exact hr
      unfold wpOpIn
      simp only [ho]
      rw [if_pos (by simp [Region.wanted, sg])]
      unfold Oper.wpIn
      refine ⟨fun f _ => hF.fn f, ?_⟩
      rw [Oper.semAt_plain F (putL dl val L a).eval o (Region.noDefer_spec hnd i o ho)]
      unfold Oper.goesO at hgo
      rw [hexec]
      generalize (execOp (putL dl val (ds.getD i []) a).eval o).run P W = r at *
      cases r with
      | halt z w' => simp only [goesUponO] at hgo
      | ok nx w' =>
        cases nx <;> simp only [goesUponO] at hgo <;> simp only [Oper.uponIn]
        case value u => exact hrest _ _ hgo.1 hgo.2
        case skip => exact hrest _ _ hgo.1 hgo.2
        case enter f args =>
          obtain ⟨rfl, hcall⟩ := hgo
          refine ⟨(fun h => by rw [hF.depth] at h; cases h), hF.calls _ _ _ _ _ (hcall.mono fun e w'' ⟨v, he, g, hp⟩ => ?_)⟩
          subst he
          exact hrest _ _ g hp

/-- operations, each with a property that G keeps; behind them a tail in order -/
theorem wpIn_region_invG {F : Fence} (hF : F.Free P) {Nf : Nat} {id : Nat} {Q : Exit → Act → World → Prop} {a : Act} {w : World} {l : List Oper} (n : Nat) (ds : List (List Nat)) (dl : List (Option Tmp)) (R : List (Value → World → Prop)) (G : World → World → Prop) (hm : P.follows .mixedOrders = true)
    (hB : (Region.invTailB l.toArray n ds dl && decide (n ≤ ds.length)) = true) (hnd : Region.noDeferB l.toArray = true) (hn : n ≤ l.length) (hRn : n ≤ R.length) (hR : ∀ r ∈ R, ∀ v W W', r v W → G W W' → r v W')
    (hop : oblG P dl R G w a (zipQ (l.take n) ds R))
    (h : ∀ (val : Nat → Value) W, w.grows W → (∀ i, i < n → R.getD i (fun _ _ => True) (val i) W) → wpListIn F Nf P l.toArray Q (l.drop n) (putL dl val (List.range n) a) W) : (Code.region id l.toArray true).wpIn F Nf P Q a w := by
  simp only [Region.invTailB, Bool.and_eq_true, Bool.or_eq_true, decide_eq_true_eq] at hB
  obtain ⟨⟨⟨hinv, hplan⟩, hseq⟩, hds⟩ := hB
  have hnle : n ≤ l.toArray.size := by simpa using hn
  refine wpIn_region_any hm ?_
  obtain ⟨n0, x0, h0⟩ := World.more_drew w
  rw [h0]
  have key := wpAnyIn_of_invG hF (Nf := Nf) (P := P) (ops := l.toArray) (w0 := w) (a := a) (R := R) (Q := Q) (n := n) (ds := ds) (dl := dl) hinv hnd
    (fun listed i0 inv hi0 hun0 => by
      rcases hplan with h | ⟨⟨h1, h2⟩, h3⟩
      · subst h; exact heads_of_all listed
      · exact heads_of_tail h1 h2 h3 listed i0 inv hi0 hun0)
    (G := G) (fun i => by
      rw [List.getD_eq_getElem?_getD]
      cases hi : R[i]? with
      | none => exact fun _ _ _ _ _ => trivial
      | some r => exact hR r (List.mem_of_getElem? hi))
    (fun i o hi ho W hg => oblG_at _ hop i o _ _ (zipQ_at (l.take n) ds R (by simp; omega) (by simp; omega) i o (by rw [List.getElem?_take, if_pos hi]; simpa using ho)) W hg)
    (fun val W hg hv listed inv hall => by
      have hl := seq_listed inv hnle hall
      subst hl
      have hd : (l.drop n).length = l.toArray.size - n := by simp
      have := wpAnyIn_of_seq hnd (Q' := Q) (l.drop n) n _ (putL dl val (List.range n) a) W (fun j => by simp [List.getElem?_drop]) (by rw [hd]; exact hseq) (h val W hg hv)
      rwa [hd] at this)
    n [] (List.range n) (Array.replicate l.toArray.size false) (fun _ => undef) (w.plus n0 x0) (by simp) List.nodup_nil List.nodup_range
    (fun i => ⟨fun h => absurd h List.not_mem_nil, fun h => by rw [getD_replicate_false] at h; exact absurd h.2 (by decide)⟩)
    (fun i => by rw [List.mem_range, getD_replicate_false]; exact ⟨fun h => ⟨h, rfl⟩, fun h => h.1⟩)
    (headInv_start n) (World.grows_plus _ _ _) (fun i hi => by cases hi)
  rw [show n + (l.toArray.size - n) = l.toArray.size by omega] at key
  exact key
end Go

/-
  What is proved: the things that some greatest matching leaves alone (65).
-/
namespace Go.Proofs.Yteingahlmlndkaa
open Go.RowKit
attribute [local irreducible] Go.wpCalm rowV
attribute [local go_sem] Oper.semAt_some
structure KpS (w : World) (P : List (Nat × Obj)) (U : World) : Prop where
  g : w.grows U
  at_ : ∀ y ∈ P, U.heap[y.1]? = some y.2
section
variable {w U U' : World} {P : List (Nat × Obj)}
theorem KpS.mono (h : KpS w P U) (g : U.grows U') : KpS w P U' := ⟨h.g.trans g, fun y hy => g.heap_of (h.at_ y hy)⟩
theorem KpS.hd {b : Nat} {o : Obj} (h : KpS w ((b, o) :: P) U) : U.heap[b]? = some o := h.at_ (b, o) (List.mem_cons_self ..)
theorem KpS.drop {y : Nat × Obj} (h : KpS w (y :: P) U) : KpS w P U := ⟨h.g, fun y hy => h.at_ y (List.mem_cons_of_mem _ hy)⟩
theorem KpS.add (h : KpS w P U) {b : Nat} {o : Obj} (hb : U.heap[b]? = some o) : KpS w ((b, o) :: P) U := ⟨h.g, fun y hy => by rcases List.mem_cons.1 hy with rfl | hy; exact hb; exact h.at_ y hy⟩
theorem KpS.putL (h : KpS w P U) {b : Nat} {lo lo' : Loop} (hL : U.heap[b]? = some (.loop lo)) (hb : w.heap.size ≤ b) (hP : ∀ y ∈ P, ∀ l : Loop, y.2 ≠ Obj.loop l) : KpS w P (U.putObj b (.loop lo')) :=
  ⟨World.putObj_grows h.g _ hb, fun y hy => by
    rw [World.putObj_heap_other (fun e => by have := h.at_ y hy; rw [e, hL] at this; exact hP y hy lo (Option.some.inj this).symm)]; exact h.at_ y hy⟩
/-- a box is written: what is not it stays -/
theorem KpS.put (h : KpS w P U) {b : Nat} (hb : w.heap.size ≤ b) (hP : ∀ y ∈ P, y.1 ≠ b) (v : Value) : KpS w P (U.setCell ⟨b, 0, none⟩ v) :=
  ⟨h.g.setCell (p := ⟨b, 0, none⟩) hb v, fun y hy => by rw [World.heap_setCell_map _ _ _ _ (fun e => hP y hy e.symm)]; exact h.at_ y hy⟩
theorem KpS.obj (h : KpS w P U) {b : Nat} {o : Obj} (hb : w.heap.size ≤ b) (hP : ∀ y ∈ P, y.1 ≠ b) : KpS w P (U.putObj b o) :=
  ⟨World.putObj_grows h.g _ hb, fun y hy => by rw [World.putObj_heap_other (hP y hy)]; exact h.at_ y hy⟩
end
def kK (x : Value) (v : Value) (_ : World) : Prop := v = x
def kZ (L t : Nat) (v : Value) (_ : World) : Prop := ∃ Z : Nat, v = .int .u32 (Z : Nat) ∧ Z < 65536 ∧ Z.testBit = less1 L.testBit t
def kTu (u : Nat) (v : Value) (_ : World) : Prop := ∃ m, v = .tuple #[.agg (rowI 16 (mvI m)), .int .i64 (u : Nat)]
def kRo (v : Value) (_ : World) : Prop := ∃ m, v = .agg (rowI 16 (mvI m))
def kAl (base : Nat) (v : Value) (W : World) : Prop := ∃ b c, v = .pointer (some ⟨b, 0, none⟩) ∧ base ≤ b ∧ W.heap[b]? = some (.cells c 99) ∧ c.size = 16
/-- rows stay rows -/
def gRow (W W' : World) : Prop := ∀ (k : Nat) (c : Array Value), W.heap[k]? = some (.cells c 99) → ∃ c', W'.heap[k]? = some (.cells c' 99) ∧ c'.size = c.size
theorem gRow.of {W W' : World} (g : W.grows W') : gRow W W' := fun _ c h => ⟨c, g.heap_of h, rfl⟩
theorem gRow.put {W : World} {b : Nat} {c c' : Array Value} (h : W.heap[b]? = some (.cells c 99)) (hs : c'.size = c.size) : gRow W (W.putObj b (.cells c' 99)) := fun k d hk => by
  by_cases e : k = b
  · subst e
    rw [h] at hk
    cases hk
    exact ⟨c', World.putObj_heap_same (World.lt_of_block h), hs⟩
  · exact ⟨d, by rw [World.putObj_heap_other e]; exact hk, rfl⟩
theorem goesO_store_row {o : Oper} {a : Act} {w0 W : World} {post : Value → World → Prop} (ty : TypeId) (x y : Operand) (ho : o.op = .store ty x y) (b : Nat) (c c' : Array Value)
    (hb : W.heap[b]? = some (.cells c ty)) (hx : a.eval x = .pointer (some ⟨b, 0, none⟩)) (hy : a.eval y = .agg c') (hi : (Try.prog.info? ty).map (·.size) = some c'.size) (hs : c.size = c'.size) (h1 : c'.all (·.oneCell') = true)
    (h : w0.grows (W.putObj b (.cells c' ty)) ∧ post undef (W.putObj b (.cells c' ty))) : o.goesO Try.prog a w0 W post := by
  unfold Oper.goesO execOp
  simp only [ho, hx, hy, Instr.storeAt, Instr.sureAddr, Sem.run_bind, Sem.run_pure, Result.andThen_ok, run_storeVar_row (P := Try.prog) W b ty ty c c' hb hi hs h1, setRow_put hb]
  exact h
def kTr (_ : Value) (_ : World) : Prop := True
theorem best_nu (w : World) (bb n : Nat) (L : Nat) (A : Nat → Nat → Bool) (Lf : Nat → Bool)
    (hB : BenchOf w bb n A) (hLb : L < 65536) (hL : L.testBit = Lf) (hA : ∀ a b, A a b = A b a) (hL16 : ∀ v, Lf v = true → v < 16) :
    Calls Try.prog 64 #[.pointer (some ⟨bb, 0, none⟩), .int .u32 (L : Nat)] w fun e w' => ∃ (m : Nat → Nat), e = .returned (.tuple #[.agg (rowI 16 (mvI m)), .int .i64 (nu A Lf 16 : Nat)]) ∧ Mx A Lf 16 m ∧ w.grows w' :=
  (best_c w bb n L A Lf hB hLb hL hA).mono fun e w' ⟨m, k, h1, h2, h3, h4⟩ => ⟨m, by
    have := nu_mx hA hL16 h2
    rw [h1, show k = nu A Lf 16 by omega], h2, h4⟩
set_option maxRecDepth 100000 in
set_option maxHeartbeats 4000000 in
theorem spare_c (w : World) (bb n : Nat) (A : Nat → Nat → Bool) (hB : BenchOf w bb n A) (hn : n ≤ 16) (hA : ∀ a b, A a b = A b a) :
    Calls Try.prog 65 #[.pointer (some ⟨bb, 0, none⟩)] w fun e w' => ∃ Z : Nat, e = .returned (.int .u32 (Z : Nat)) ∧ Z < 65536 ∧ (∀ t, Z.testBit t = true ↔ Spare A (belowN n) 16 t) ∧ w.grows w' := by
  have HB := Lib.hid hB
  have HA := Lib.hid hA
  clear hB hA
  (refine (callsIn_wide (n := 0)).1 (callsIn_of_wp_marks Try.func65 rfl trivial ((wpIn_wide (n := 0)).2 ?_) rfl); simp only [Try.ntmps65, List.size_toArray, List.length_cons, List.length_nil, Nat.reduceAdd, Nat.reduceSub, Array.replicate_succ, Array.replicate_zero, List.push_toArray, List.append_toArray, List.nil_append, List.cons_append])
  go_wp2_with (go_at_call 99; fail)
  refine (all_c _ bb n A (HB.out.grow (by (repeat (first | exact World.grows.refl _ | assumption | refine World.grows.alloc ?_ _ | refine World.grows.plus ?_ _ _ | refine World.grows.drew ?_)))) hn).mono ?_
  rintro e W1 ⟨⟨L, rfl, hLb, hL⟩, g1⟩
  have b1 : W1.cell? ⟨w.heap.size, 0, none⟩ = some (.pointer (some ⟨bb, 0, none⟩)) := g1.cell_of (cell_box (World.heap_at w _ _ rfl))
  have hl1 : w.heap.size < W1.heap.size := by have := g1.size; simp at this; omega
  have HL := Lib.hid hL
  have hA16 : ∀ v, belowN n v = true → v < 16 := fun v hv => by have := belowN_lt hv; omega
  have b1' : (W1.alloc (.cells #[.int .u32 (L : Nat)] 75)).cell? ⟨w.heap.size, 0, none⟩ = some (.pointer (some ⟨bb, 0, none⟩)) := World.grows.cell_of (by (repeat (first | exact World.grows.refl _ | assumption | refine World.grows.alloc ?_ _ | refine World.grows.plus ?_ _ _ | refine World.grows.drew ?_))) b1
  go_upto_region 2 with fail
  obtain ⟨x3, hx3⟩ : ∃ x3, W1.heap.size = x3 := ⟨_, rfl⟩
  obtain ⟨V1, hV1⟩ : ∃ V1, V1 = W1.alloc (.cells #[.int .u32 (L : Nat)] 75) := ⟨_, rfl⟩
  have c1 : V1.heap[w.heap.size]? = some (.cells #[.pointer (some ⟨bb, 0, none⟩)] 71) := by rw [hV1]; exact World.grows.heap_of (by (repeat (first | exact World.grows.refl _ | assumption | refine World.grows.alloc ?_ _ | refine World.grows.plus ?_ _ _ | refine World.grows.drew ?_))) (g1.heap_of (World.heap_at w _ _ rfl))
  have c3 : V1.heap[x3]? = some (.cells #[.int .u32 (L : Nat)] 75) := by rw [hV1]; exact World.heap_at _ _ _ hx3.symm
  have gV : w.grows V1 := by rw [hV1]; exact World.grows.trans (by (repeat (first | exact World.grows.refl _ | assumption | refine World.grows.alloc ?_ _ | refine World.grows.plus ?_ _ _ | refine World.grows.drew ?_))) (World.grows.trans g1 (by (repeat (first | exact World.grows.refl _ | assumption | refine World.grows.alloc ?_ _ | refine World.grows.plus ?_ _ _ | refine World.grows.drew ?_))))
  rw [← hV1]
  simp only [hx3]
  clear hV1 b1 b1' g1
  have b1 := cell_box c1
  have b3 := cell_box c3
  iterate 7 go_step
  refine wpList_step (fun K hK => ?_)
  go_simp
  refine (best_nu _ bb n L A (belowN n) (HB.out.grow gV) hLb hL HA.out hA16).mono ?_
  rintro e W2 ⟨m0, rfl, -, g2⟩
  refine hK _ _ ?_
  clear hK K
  iterate 4 (refine wpList_step (fun K hK => ?_); go_simp; refine hK _ _ ?_; clear hK K)
  rw [zero99]
  (refine wpList_step (fun K hK => ?_); go_simp; refine hK _ _ ?_; clear hK K)
  obtain ⟨x1, hx1⟩ : ∃ x, w.heap.size = x := ⟨_, rfl⟩
  obtain ⟨x4, hx4⟩ : ∃ x4, W2.heap.size = x4 := ⟨_, rfl⟩
  have hs2 := g2.size
  have h3l := World.lt_of_block c3
  have h1l := World.lt_of_block c1
  obtain ⟨W3, hW3⟩ : ∃ W3, W3 = (W2.alloc (.cells (rowI 16 fun _ => 0) 99)).alloc (.cells #[.int .i64 0] 3) := ⟨_, rfl⟩
  have g3 : W2.grows W3 := by rw [hW3]; (repeat (first | exact World.grows.refl _ | assumption | refine World.grows.alloc ?_ _ | refine World.grows.plus ?_ _ _ | refine World.grows.drew ?_))
  have e4 : W3.heap[x4]? = some (.cells (rowI 16 fun _ => 0) 99) := by rw [hW3]; exact World.grows.heap_of (by (repeat (first | exact World.grows.refl _ | assumption | refine World.grows.alloc ?_ _ | refine World.grows.plus ?_ _ _ | refine World.grows.drew ?_))) (World.heap_at _ _ _ hx4.symm)
  have e5 : W3.heap[x4 + 1]? = some (.cells #[.int .i64 0] 3) := by rw [hW3]; exact World.heap_at _ _ _ (by simp [hx4])
  have k3 : KpS w [(x4 + 1, .cells #[.int .i64 0] 3), (x1, .cells #[.pointer (some ⟨bb, 0, none⟩)] 71), (x3, .cells #[.int .u32 (L : Nat)] 75)] W3 := (((KpS.mk (gV.trans (g2.trans g3)) (fun y hy => absurd hy List.not_mem_nil)).add (g3.heap_of (g2.heap_of c3))).add (by rw [← hx1]; exact g3.heap_of (g2.heap_of c1))).add e5
  rw [← hW3]
  simp only [hx4, hx1]
  clear hW3 g2 g3 gV e5 c1 c3 b1 b3
  refine wpList_store_row rfl 99 (.tmp 4) (.tmp 16) rfl x4 (rowI 16 fun _ => 0) (rowI 16 (mvI m0)) e4 (by rfl) (by rfl) (by rw [s99, rowI_size]) (by rw [rowI_size, rowI_size]) (rowI_one _ _) ?_
  have k4 := k3.obj (b := x4) (o := .cells (rowI 16 (mvI m0)) 99) (by omega) (by
    intro y hy
    simp only [List.mem_cons, List.not_mem_nil, or_false] at hy
    rcases hy with rfl | rfl | rfl
    · show x4 + 1 ≠ x4; omega
    · show x1 ≠ x4; omega
    · show x3 ≠ x4; omega)
  generalize W3.putObj x4 (.cells (rowI 16 (mvI m0)) 99) = W4 at k4 ⊢
  clear k3 e4
  obtain ⟨NU, hNU⟩ : ∃ N, nu A (belowN n) 16 = N := ⟨_, rfl⟩
  have HNU := Lib.hid hNU
  simp only [hNU]
  clear hNU
  have c5 := cell_box k4.hd
  have f5 := frozen_of_heap k4.hd 0
  have k5 := (k4.drop.put (b := x4 + 1) (by omega) (by
    intro y hy
    simp only [List.mem_cons, List.not_mem_nil, or_false] at hy
    rcases hy with rfl | rfl
    · show x1 ≠ x4 + 1; omega
    · show x3 ≠ x4 + 1; omega) (.int .i64 (NU : Nat))).add (store_of_heap k4.hd 0 (.int .i64 (NU : Nat)))
  (refine wpList_step (fun K hK => ?_); go_simp; refine hK _ _ ?_; clear hK K)
  generalize W4.setCell ⟨x4 + 1, 0, none⟩ (.int .i64 (NU : Nat)) = W5 at k5 ⊢
  clear c5 f5 k4
  have b3 := cell_box k5.drop.drop.hd
  go_wp2_with (go_at_call 99; fail)
  refine (things_c _ L).mono ?_
  rintro e W6 ⟨rfl, hW6⟩
  go_wp2
  obtain ⟨x6, hx6⟩ : ∃ x, W5.heap.size = x := ⟨_, rfl⟩
  obtain ⟨bx, hbx⟩ : ∃ b, x6 + 1 = b := ⟨_, rfl⟩
  have g6 : W5.grows W6 := by rw [hW6]; (repeat (first | exact World.grows.refl _ | assumption | refine World.grows.alloc ?_ _ | refine World.grows.plus ?_ _ _ | refine World.grows.drew ?_))
  have hs5 := World.lt_of_block k5.hd
  have k6 := (k5.mono g6).add (b := bx) (o := .cells #[.int .u32 (L : Nat)] 75) (by rw [hW6, ← hbx, ← hx6]; exact World.heap_at _ _ _ (by simp))
  replace k6 := k6.add (b := x6) (o := .cells #[.int .u32 0] 75) (by rw [hW6, ← hx6]; exact World.grows.heap_of (by (repeat (first | exact World.grows.refl _ | assumption | refine World.grows.alloc ?_ _ | refine World.grows.plus ?_ _ _ | refine World.grows.drew ?_))) (World.heap_at W5 _ _ rfl))
  rw [← hW6]
  simp only [hx6, hbx]
  obtain ⟨D, hD⟩ : ∃ D, W6.heap.size = D := ⟨_, rfl⟩
  have hDw : w.heap.size ≤ D := by rw [← hD]; exact k6.g.size
  have h6D : x6 < D := by rw [← hD]; exact World.lt_of_block k6.hd
  have hx6w : w.heap.size ≤ x6 := by rw [← hx6]; exact k5.g.size
  have HK6 := Lib.hid k6
  clear hW6 g6 k5 k6 b3
  refine wp_rangeFunc_own (f := 79) (by rfl) (fun _ _ => rfl) (things_seq bx L hLb) (fun x hx => by obtain ⟨r, _, rfl⟩ := List.mem_map.1 hx; rfl)
    (fun k U => ∃ Z : Nat, Hid (KpS w ((D, .deferred (some [])) :: (x6, .cells #[.int .u32 (Z : Nat)] 75) :: (bx, .cells #[.int .u32 (L : Nat)] 75) :: (x4 + 1, .cells #[.int .i64 (NU : Nat)] 3) :: (x1, .cells #[.pointer (some ⟨bb, 0, none⟩)] 71) :: (x3, .cells #[.int .u32 (L : Nat)] 75) :: []) U) ∧ Z < 65536 ∧ Hid (∀ j, Z.testBit j = true ↔ j ∈ (filtL L.testBit 16).take k ∧ nu A (less1 L.testBit j) 16 = NU))
    ?_ ?_ ?_ ?_ ?_ ?_
  · rintro k U U' ⟨Z, h1, h2, h3⟩ g
    exact ⟨Z, Lib.hid (h1.out.mono g), h2, h3⟩
  · rintro k U lo lo' hl ⟨Z, h1, h2, h3⟩
    rw [hD] at hl ⊢
    refine ⟨Z, Lib.hid (h1.out.putL hl (by omega) ?_), h2, h3⟩
    intro y hy l
    simp only [List.mem_cons, List.not_mem_nil, or_false] at hy
    rcases hy with rfl | rfl | rfl | rfl | rfl | rfl <;> exact fun e => by cases e
  · rintro k U ⟨Z, h1, h2, h3⟩
    exact cell_box h1.out.drop.drop.hd
  · intro lo
    have g : W6.grows ((W6.alloc (.deferred (some []))).alloc lo) := by (repeat (first | exact World.grows.refl _ | assumption | refine World.grows.alloc ?_ _ | refine World.grows.plus ?_ _ _ | refine World.grows.drew ?_))
    exact ⟨0, Lib.hid ((HK6.out.mono g).add (World.grows.heap_of (by (repeat (first | exact World.grows.refl _ | assumption | refine World.grows.alloc ?_ _ | refine World.grows.plus ?_ _ _ | refine World.grows.drew ?_))) (World.heap_at _ _ _ hD.symm))), by omega, Lib.hid fun j => by simp⟩
  · rintro k y U hy ⟨Z, h1, h2, h3⟩ hDf ⟨lo, hLo⟩ K0 hK0
    rw [hD] at hDf hLo hK0 ⊢
    obtain ⟨t, rfl, ht⟩ : ∃ t, y = stepV t ∧ (filtL L.testBit 16)[k]? = some t := by
      rw [List.getElem?_map] at hy
      cases ht : (filtL L.testBit 16)[k]? with
      | none => rw [ht] at hy; cases hy
      | some t => rw [ht] at hy; exact ⟨t, (Option.some.inj hy).symm, rfl⟩
    have htm := List.mem_of_getElem? ht
    simp only [filtL, List.mem_filter, List.mem_range] at htm
    obtain ⟨ht16, htL⟩ := htm
    have hLl := World.lt_of_block hLo
    dsimp only [stepV]
    rw [zip_one]
    simp only [List.setIfInBounds_toArray, List.set_cons_zero, List.set_cons_succ]
    gi_wp2
    refine hK0.out _ _ (by (repeat (first | exact World.grows.refl _ | assumption | refine World.grows.alloc ?_ _ | refine World.grows.plus ?_ _ _ | refine World.grows.drew ?_))) fun lo' K1 hK1 => ?_
    obtain ⟨U1, hU1⟩ : ∃ U1, U1 = U.putObj (D + 1) (.loop lo') := ⟨_, rfl⟩
    have y1 : KpS w ((D + 1, .loop lo') :: (D, .deferred (some [])) :: (x6, .cells #[.int .u32 (Z : Nat)] 75) :: (bx, .cells #[.int .u32 (L : Nat)] 75) :: (x4 + 1, .cells #[.int .i64 (NU : Nat)] 3) :: (x1, .cells #[.pointer (some ⟨bb, 0, none⟩)] 71) :: (x3, .cells #[.int .u32 (L : Nat)] 75) :: []) U1 := by
      have := h1.out.putL (lo' := lo') hLo (by omega) (by
        intro y hy l
        simp only [List.mem_cons, List.not_mem_nil, or_false] at hy
        rcases hy with rfl | rfl | rfl | rfl | rfl | rfl <;> exact fun e => by cases e)
      rw [hU1]
      exact this.add (World.putObj_heap_same hLl)
    have htake : (filtL L.testBit 16).take (k + 1) = (filtL L.testBit 16).take k ++ [t] := by
      obtain ⟨hk, he⟩ := List.getElem?_eq_some_iff.1 ht
      rw [List.take_succ, ht]; rfl
    have HFin : Hid (∀ (a' : Act) (U' : World) (Z' : Nat), KpS w ((D + 1, .loop lo') :: (D, .deferred (some [])) :: (x6, .cells #[.int .u32 (Z' : Nat)] 75) :: (bx, .cells #[.int .u32 (L : Nat)] 75) :: (x4 + 1, .cells #[.int .i64 (NU : Nat)] 3) :: (x1, .cells #[.pointer (some ⟨bb, 0, none⟩)] 71) :: (x3, .cells #[.int .u32 (L : Nat)] 75) :: []) U' → Z' < 65536 → (∀ j, Z'.testBit j = (Z.testBit j || (decide (j = t) && decide (nu A (less1 L.testBit t) 16 = NU)))) → K1 .normal a' U') := Lib.hid fun a' U' Z' g1 g2 g3 => hK1.out a' U' ⟨Z', Lib.hid g1.drop, g2, Lib.hid fun j => by
      rw [g3, Bool.or_eq_true, h3.out, htake, List.mem_append, List.mem_singleton, Bool.and_eq_true, decide_eq_true_eq, decide_eq_true_eq]
      constructor
      · rintro (⟨q1, q2⟩ | ⟨rfl, q2⟩)
        · exact ⟨.inl q1, q2⟩
        · exact ⟨.inr rfl, q2⟩
      · rintro ⟨q1 | rfl, q2⟩
        · exact .inl ⟨q1, q2⟩
        · exact .inr ⟨rfl, q2⟩⟩ g1.drop.hd g1.hd
    rw [← hU1]
    have HY := Lib.hid y1
    clear hK1 hK0 hU1 hDf hLo hLl h1 h3 hy ht y1 htake
    have htI : (t : Int) < 16 := by omega
    have b1 := cell_box HY.out.drop.drop.drop.drop.drop.hd
    have b3 := cell_box HY.out.drop.drop.drop.drop.drop.drop.hd
    obtain ⟨NT, hNT⟩ : ∃ N, nu A (less1 L.testBit t) 16 = N := ⟨_, rfl⟩
    rw [hNT] at HFin
    have HNT := Lib.hid hNT
    have hl16 : ∀ v, less1 L.testBit t v = true → v < 16 := fun v hv => by
      unfold less1 at hv
      simp only [Bool.and_eq_true] at hv
      rw [HL.out] at hv
      exact hA16 v hv.1
    clear hNT htL
    gi_wp2
    refine wpIn_region_invG (Fence.free_round _ _) 11 [[], [], [], [1, 2], [0, 3], [4], [5], [5], [], [8, 6], [7]] [some 22, some 23, some 24, some 25, some 26, some 21, some 27, some 28, some 8, none, some 9] [kK (.pointer (some ⟨bb, 0, none⟩)), kK (.int .u32 (L : Nat)), kK (.int .i64 (t : Nat)), kZ L t, kTu NT, kTu NT, kRo, kK (.int .i64 (NT : Nat)), kAl U1.heap.size, kTr, kK (.int .i64 (NT : Nat))] gRow (by kernel_rfl) (by kernel_rfl) (by kernel_rfl) (by decide) (by simp) (fun r hr v W W' h g => ?_) ?_ ?_
    · simp only [List.mem_cons, List.not_mem_nil, or_false] at hr
      rcases hr with rfl | rfl | rfl | rfl | rfl | rfl | rfl | rfl | rfl | rfl | rfl
      iterate 8 exact h
      · obtain ⟨b, c, h1, h2, h3, h4⟩ := h
        obtain ⟨c', h5, h6⟩ := g b c h3
        exact ⟨b, c', h1, h2, h5, h6.trans h4⟩
      iterate 2 exact h
    · simp only [List.take_succ_cons, List.take_zero, zipQ, oblG, depQ, List.getD_cons_zero, List.getD_cons_succ, and_true]
      refine ⟨?_, ?_, ?_, ?_, ?_, ?_, ?_, ?_, ?_, ?_, ?_⟩
      · intro nc xc K hK
        go_simp
        exact ⟨by (repeat (first | exact World.grows.refl _ | assumption | refine World.grows.alloc ?_ _ | refine World.grows.plus ?_ _ _ | refine World.grows.drew ?_)), hK _ _ (gRow.of (World.grows.refl _)) rfl⟩
      · intro nc xc K hK
        go_simp
        exact ⟨by (repeat (first | exact World.grows.refl _ | assumption | refine World.grows.alloc ?_ _ | refine World.grows.plus ?_ _ _ | refine World.grows.drew ?_)), hK _ _ (gRow.of (World.grows.refl _)) rfl⟩
      · intro nc xc K hK
        go_simp
        exact ⟨by (repeat (first | exact World.grows.refl _ | assumption | refine World.grows.alloc ?_ _ | refine World.grows.plus ?_ _ _ | refine World.grows.drew ?_)), hK _ _ (gRow.of (World.grows.refl _)) rfl⟩
      · intro nc xc K hK v1 e1 v2 e2
        obtain rfl : v1 = _ := e1
        obtain rfl : v2 = _ := e2
        go_simp
        refine (less_c _ L t hLb ht16).mono ?_
        rintro e W ⟨⟨Y, rfl, y1, y2⟩, g⟩
        exact ⟨_, rfl, World.grows.trans (World.grows_plus _ _ _) g, hK _ _ (gRow.of g) ⟨Y, rfl, y1, y2⟩⟩
      · intro nc xc K hK v1 e1 v2 e2
        obtain rfl : v1 = _ := e1
        obtain ⟨Y, rfl, y1, y2⟩ := e2
        go_simp
        refine (best_nu _ bb n Y A (less1 L.testBit t) (HB.out.grow (HY.out.g.trans (World.grows_plus _ _ _))) y1 y2 HA.out hl16).mono ?_
        rintro e W ⟨m, rfl, -, g⟩
        exact ⟨_, rfl, World.grows.trans (World.grows_plus _ _ _) g, hK _ _ (gRow.of g) ⟨m, by rw [HNT.out]⟩⟩
      · intro nc xc K hK v1 e1
        obtain ⟨m, rfl⟩ := e1
        go_simp
        exact ⟨by (repeat (first | exact World.grows.refl _ | assumption | refine World.grows.alloc ?_ _ | refine World.grows.plus ?_ _ _ | refine World.grows.drew ?_)), hK _ _ (gRow.of (World.grows.refl _)) ⟨m, rfl⟩⟩
      · intro nc xc K hK v1 e1
        obtain ⟨m, rfl⟩ := e1
        go_simp
        exact ⟨by (repeat (first | exact World.grows.refl _ | assumption | refine World.grows.alloc ?_ _ | refine World.grows.plus ?_ _ _ | refine World.grows.drew ?_)), hK _ _ (gRow.of (World.grows.refl _)) ⟨m, rfl⟩⟩
      · intro nc xc K hK v1 e1
        obtain ⟨m, rfl⟩ := e1
        go_simp
        exact ⟨by (repeat (first | exact World.grows.refl _ | assumption | refine World.grows.alloc ?_ _ | refine World.grows.plus ?_ _ _ | refine World.grows.drew ?_)), hK _ _ (gRow.of (World.grows.refl _)) rfl⟩
      · intro nc xc K hK
        go_simp
        rw [zero99]
        refine ⟨by (repeat (first | exact World.grows.refl _ | assumption | refine World.grows.alloc ?_ _ | refine World.grows.plus ?_ _ _ | refine World.grows.drew ?_)), hK _ _ (gRow.of (by (repeat (first | exact World.grows.refl _ | assumption | refine World.grows.alloc ?_ _ | refine World.grows.plus ?_ _ _ | refine World.grows.drew ?_)))) ⟨_, _, rfl, ?_, World.heap_at _ _ _ (by simp), rowI_size _ _⟩⟩
        simp
      · intro nc xc K hK v1 e1 v2 e2
        obtain ⟨b, c, rfl, h5, h6, h7⟩ := e1
        obtain ⟨m, rfl⟩ := e2
        refine goesO_store_row 99 (.tmp 8) (.tmp 27) rfl b c (rowI 16 (mvI m)) h6 (by rfl) (by rfl) (by rw [s99, rowI_size]) (by rw [h7, rowI_size]) (rowI_one _ _) ⟨World.putObj_grows (World.grows_plus _ _ _) _ h5, hK _ _ (gRow.put h6 (by rw [h7, rowI_size])) trivial⟩
      · intro nc xc K hK v1 e1
        obtain rfl : v1 = _ := e1
        go_simp
        exact ⟨by (repeat (first | exact World.grows.refl _ | assumption | refine World.grows.alloc ?_ _ | refine World.grows.plus ?_ _ _ | refine World.grows.drew ?_)), hK _ _ (gRow.of (World.grows.refl _)) rfl⟩
    · intro val V gV hv
      have q0 : val 0 = .pointer (some ⟨bb, 0, none⟩) := hv 0 (by omega)
      have q1 : val 1 = .int .u32 (L : Nat) := hv 1 (by omega)
      have q2 : val 2 = .int .i64 (t : Nat) := hv 2 (by omega)
      obtain ⟨Y, q3, -⟩ := hv 3 (by omega)
      obtain ⟨m4, q4⟩ := hv 4 (by omega)
      obtain ⟨m5, q5⟩ := hv 5 (by omega)
      obtain ⟨m6, q6⟩ := hv 6 (by omega)
      have q7 : val 7 = .int .i64 (NT : Nat) := hv 7 (by omega)
      obtain ⟨b8, c8, q8, -⟩ := hv 8 (by omega)
      have q10 : val 10 = .int .i64 (NT : Nat) := hv 10 (by omega)
      rw [show List.range 11 = [0, 1, 2, 3, 4, 5, 6, 7, 8, 9, 10] from rfl]
      simp only [putL, List.getD_cons_zero, List.getD_cons_succ, q0, q1, q2, q3, q4, q5, q6, q7, q8, q10, List.drop_succ_cons, List.drop_zero, Act.put, List.setIfInBounds_toArray, List.set_cons_zero, List.set_cons_succ]
      clear hv q0 q1 q2 q3 q4 q5 q6 q7 q8 q10 b1 b3
      have HY2 := Lib.hid (HY.out.mono gV)
      clear gV
      have b5 := cell_box HY2.out.drop.drop.drop.drop.hd
      have b6 := cell_box HY2.out.drop.drop.hd
      by_cases hq : NT = NU
      · have HQ := Lib.hid hq
        have hqB : (((NT : Nat) : Int) == ((NU : Nat) : Int)) = true := by rw [beq_iff_eq]; omega
        obtain ⟨Z2, o1, o2, o3⟩ := or_bit h2 ht16
        have hsh := shlw_u32 ht16
        obtain ⟨N1, hN1⟩ : ∃ N, 2 ^ t = N := ⟨_, rfl⟩
        rw [hN1] at o1 hsh
        clear hN1 hq
        gi_wp2
        (refine wpIn_region_tail (Fence.free_round _ _) 4 (by kernel_rfl) (by kernel_rfl) (by kernel_rfl) (by decide) ?_; simp only [List.take_succ_cons, List.take_zero, List.drop_succ_cons, List.drop_zero, List.take_nil, List.drop_nil, List.append_nil, List.nil_append, List.cons_append, Nat.reduceAdd, Nat.reduceSub]; (repeat (refine wpCalm_step (fun K hK => ?_); go_simp; first | (refine hK _ ?_; clear hK K) | (apply Exists.intro; refine ⟨fun n' x' => ?_, hK _ ?_⟩; (fail); clear hK K))); refine wpCalm_nil ?_; intro nq xq)
        have gU : V.grows (V.plus nq xq) := by (repeat (first | exact World.grows.refl _ | assumption | refine World.grows.alloc ?_ _ | refine World.grows.plus ?_ _ _ | refine World.grows.drew ?_))
        generalize V.plus nq xq = V2 at gU ⊢
        have y2 := HY2.out.mono gU
        have c6 := cell_box y2.drop.drop.hd
        have f6 := frozen_of_heap y2.drop.drop.hd 0
        have ne1 : D ≠ x6 := by omega
        have ne2 : D + 1 ≠ x6 := by omega
        have y3 := y2.drop.drop.drop.put hx6w (by
          intro y hy
          simp only [List.mem_cons, List.not_mem_nil, or_false] at hy
          rcases hy with rfl | rfl | rfl | rfl
          · show bx ≠ x6; omega
          · show x4 + 1 ≠ x6; omega
          · show x1 ≠ x6; omega
          · show x3 ≠ x6; omega) (.int .u32 (Z2 : Nat))
        have y4 := ((y3.add (store_of_heap y2.drop.drop.hd 0 (.int .u32 (Z2 : Nat)))).add (b := D) (o := .deferred (some [])) (by rw [World.heap_setCell_map _ _ _ _ (Ne.symm ne1)]; exact y2.drop.hd)).add (b := D + 1) (o := .loop lo') (by rw [World.heap_setCell_map _ _ _ _ (Ne.symm ne2)]; exact y2.hd)
        have HY4 := Lib.hid y4
        clear y3 y4 y2 gU
        gi_wp2
        exact HFin.out _ _ Z2 HY4.out o2 (fun j => by rw [o3, HQ.out]; simp)
      · have HQ := Lib.hid hq
        have hqB : (((NT : Nat) : Int) == ((NU : Nat) : Int)) = false := by rw [beq_eq_false_iff_ne]; omega
        clear hq
        gi_wp2
        exact HFin.out _ _ Z HY2.out h2 (fun j => by simp [HQ.out])
  · rintro U ⟨Z, h1, h2, h3⟩ hDf
    rw [hD] at hDf ⊢
    have HMk : Hid (Marks w.heap.size [{ target := .collected D, args := #[] }] U) := Lib.hid ⟨⟨D, rfl, hDw, hDf, fun d' hd => by simp at hd⟩, trivial⟩
    have b6 := cell_box h1.out.drop.hd
    have HG := Lib.hid h1.out.g
    have HS : Hid (∀ t, Z.testBit t = true ↔ Spare A (belowN n) 16 t) := Lib.hid fun t => by
      rw [h3.out, List.length_map, List.take_of_length_le (Nat.le_refl _)]
      simp only [filtL, List.mem_filter, List.mem_range, HL.out]
      constructor
      · rintro ⟨⟨q1, q2⟩, q3⟩
        exact (Spare.iff_nu HA.out hA16 q2).2 (by rw [q3, HNU.out])
      · intro q
        have q2 := q.1
        exact ⟨⟨hA16 t q2, q2⟩, by rw [(Spare.iff_nu HA.out hA16 q2).1 q, HNU.out]⟩
    clear h1 h3 hDf
    go_wp2
    try dsimp only [Exit.noGoto]
    refine Marks.leaves (B := w.heap.size) (fun W' => w.grows W') (fun W' D h hD hd => World.putObj_grows h _ hD) (fun W' h => ⟨_, by simp [results, Try.results65, go_sem] <;> rfl, Z, rfl, h2, HS.out, h⟩) _ _ HMk.out HG.out
end Go.Proofs.Yteingahlmlndkaa

/-
  What is proved: the first thing of a set (81).
-/
namespace Go.Proofs.Yteingahlmlndkaa
open Go.RowKit
attribute [local irreducible] Go.wpCalm
attribute [local go_sem] Oper.semAt_some
set_option maxRecDepth 100000 in
set_option maxHeartbeats 4000000 in
theorem first_c (w : World) (bx L x : Nat) (h : w.cell? ⟨bx, 0, none⟩ = some (.int .u32 (L : Nat))) (hb : bx < w.heap.size) (hL : L < 65536) (hx : (filtL L.testBit 16)[0]? = some x) :
    Calls Try.prog 81 #[.func (.func 79) #[] #[.pointer (some ⟨bx, 0, none⟩)], .func (.func 82) #[] #[]] w fun e w' => e = .returned (.int .i64 (x : Nat)) ∧ w.grows w' := by
  (refine (callsIn_wide (n := 0)).1 (callsIn_of_wp_marks Try.func81 rfl trivial ((wpIn_wide (n := 0)).2 ?_) rfl); simp only [Try.ntmps81, List.size_toArray, List.length_cons, List.length_nil, Nat.reduceAdd, Nat.reduceSub, Array.replicate_succ, Array.replicate_zero, List.push_toArray, List.append_toArray, List.nil_append, List.cons_append])
  go_wp2
  obtain ⟨y0, hy0⟩ : ∃ y, w.heap.size = y := ⟨_, rfl⟩
  obtain ⟨W1, hW1⟩ : ∃ W1, W1 = (w.alloc (.cells #[.func (.func 82) #[] #[]] 80)).alloc (.cells #[.int .i64 0] 3) := ⟨_, rfl⟩
  have g1 : w.grows W1 := by rw [hW1]; (repeat (first | exact World.grows.refl _ | assumption | refine World.grows.alloc ?_ _ | refine World.grows.plus ?_ _ _ | refine World.grows.drew ?_))
  have k1 : KpS w [(y0 + 1, .cells #[.int .i64 0] 3), (y0, .cells #[.func (.func 82) #[] #[]] 80)] W1 := ((KpS.mk g1 (fun y hy => absurd hy List.not_mem_nil)).add (by rw [hW1, ← hy0]; exact World.grows.heap_of (by (repeat (first | exact World.grows.refl _ | assumption | refine World.grows.alloc ?_ _ | refine World.grows.plus ?_ _ _ | refine World.grows.drew ?_))) (World.heap_at w _ _ rfl))).add (by rw [hW1, ← hy0]; exact World.heap_at _ _ _ (by simp))
  rw [← hW1]
  simp only [hy0]
  obtain ⟨D, hD⟩ : ∃ D, W1.heap.size = D := ⟨_, rfl⟩
  have hDl : y0 + 1 < D := by rw [← hD]; exact World.lt_of_block k1.hd
  have HK := Lib.hid k1
  have Hh := Lib.hid h
  clear hW1 g1 k1 h
  refine wp_rangeFunc_ownX (f := 79) (by rfl) (fun _ _ => rfl) (things_seq bx L hL) (fun x hx => by obtain ⟨r, _, rfl⟩ := List.mem_map.1 hx; rfl)
    (fun k U => k = 0 ∧ Hid (KpS w [(y0 + 1, .cells #[.int .i64 0] 3), (y0, .cells #[.func (.func 82) #[] #[]] 80)] U))
    (fun c U => c = .ret ∧ Hid (KpS w [(y0 + 1, .cells #[.int .i64 (x : Nat)] 3)] U)) ?_ ?_ ?_ ?_ ?_ ?_ ?_ ?_ ?_
  · rintro k U U' ⟨h1, h2⟩ g
    exact ⟨h1, Lib.hid (h2.out.mono g)⟩
  · rintro c U U' ⟨h1, h2⟩ g
    exact ⟨h1, Lib.hid (h2.out.mono g)⟩
  · rintro k U lo lo' hl ⟨h1, h2⟩
    rw [hD] at hl ⊢
    exact ⟨h1, Lib.hid (h2.out.putL hl (by omega) (by
      intro y hy l
      simp only [List.mem_cons, List.not_mem_nil, or_false] at hy
      rcases hy with rfl | rfl <;> exact fun e => by cases e))⟩
  · rintro c U lo lo' hl ⟨h1, h2⟩
    rw [hD] at hl ⊢
    exact ⟨h1, Lib.hid (h2.out.putL hl (by omega) (by
      intro y hy l
      simp only [List.mem_cons, List.not_mem_nil, or_false] at hy
      rcases hy with rfl <;> exact fun e => by cases e))⟩
  · rintro k U ⟨h1, h2⟩
    exact h2.out.g.cell_of Hh.out
  · intro lo
    exact ⟨rfl, Lib.hid (HK.out.mono (by (repeat (first | exact World.grows.refl _ | assumption | refine World.grows.alloc ?_ _ | refine World.grows.plus ?_ _ _ | refine World.grows.drew ?_))))⟩
  · rintro k y U hy ⟨rfl, h2⟩ hDf ⟨lo, hLo⟩ K0 hK0
    rw [hD] at hDf hLo hK0 ⊢
    rw [List.getElem?_map, hx] at hy
    have hy' := Option.some.inj hy
    subst hy'
    have hLl := World.lt_of_block hLo
    dsimp only [stepV]
    rw [zip_one]
    simp only [List.setIfInBounds_toArray, List.set_cons_zero, List.set_cons_succ]
    gi_wp2
    refine hK0.out _ _ (by (repeat (first | exact World.grows.refl _ | assumption | refine World.grows.alloc ?_ _ | refine World.grows.plus ?_ _ _ | refine World.grows.drew ?_))) fun lo' K1 hK1 => ?_
    obtain ⟨U1, hU1⟩ : ∃ U1, U1 = U.putObj (D + 1) (.loop lo') := ⟨_, rfl⟩
    have y1 : KpS w [(D + 1, .loop lo'), (D, .deferred (some [])), (y0 + 1, .cells #[.int .i64 0] 3), (y0, .cells #[.func (.func 82) #[] #[]] 80)] U1 := by
      have := h2.out.putL (lo' := lo') hLo (by omega) (by
        intro y hy l
        simp only [List.mem_cons, List.not_mem_nil, or_false] at hy
        rcases hy with rfl | rfl <;> exact fun e => by cases e)
      rw [hU1]
      exact (this.add (by rw [World.putObj_heap_other (by omega)]; exact hDf)).add (World.putObj_heap_same hLl)
    rw [← hU1]
    have HY := Lib.hid y1
    have HX : Hid (∀ U' a', KpS w [(D + 1, .loop lo'), (D, .deferred (some [])), (y0 + 1, .cells #[.int .i64 (x : Nat)] 3)] U' → K1 .ret a' U') := Lib.hid fun U' a' g => hK1.out.2.1 a' U' ⟨by first | rfl | trivial, Lib.hid g.drop.drop⟩ g.drop.hd g.hd
    clear hK1 hK0 hU1 hDf hLo hLl h2 y1 hy
    have b0 := cell_box HY.out.drop.drop.drop.hd
    gi_wp2_with (gi_at_call 99; fail)
    refine (Fence.free_round Try.prog _).calls _ _ _ _ _ ((good_c _ (x : Nat)).mono ?_)
    rintro e U2 ⟨rfl, g2⟩
    have y2 := HY.out.mono g2
    have c1 := cell_box y2.drop.drop.hd
    have f1 := frozen_of_heap y2.drop.drop.hd 0
    have y3 := y2.drop.drop.drop.drop.put (b := y0 + 1) (by omega) (fun y hy => absurd hy List.not_mem_nil) (.int .i64 (x : Nat))
    have y4 := Lib.hid (((y3.add (store_of_heap y2.drop.drop.hd 0 (.int .i64 (x : Nat)))).add (b := D) (o := .deferred (some [])) (by rw [World.heap_setCell_map _ _ _ _ (show y0 + 1 ≠ D by omega)]; exact y2.drop.hd)).add (b := D + 1) (o := .loop lo') (by rw [World.heap_setCell_map _ _ _ _ (show y0 + 1 ≠ D + 1 by omega)]; exact y2.hd))
    clear y2 y3 g2 b0 HY
    gi_wp2
    exact HX.out _ _ y4.out
  · rintro U ⟨h1, h2⟩ hDf
    rw [List.length_map] at h1
    have := (List.getElem?_eq_some_iff.1 hx).1
    omega
  · rintro c U ⟨rfl, h2⟩ hDf
    rw [hD] at hDf ⊢
    have HMk : Hid (Marks w.heap.size [{ target := .collected D, args := #[] }] U) := Lib.hid ⟨⟨D, rfl, by omega, hDf, fun d' hd => by simp at hd⟩, trivial⟩
    clear hDf
    go_wp2
    try dsimp only [Exit.noGoto]
    refine Marks.leaves (B := w.heap.size) (fun W' => w.grows W' ∧ W'.heap[y0 + 1]? = some (.cells #[.int .i64 (x : Nat)] 3)) (fun W' D h hD hd => ⟨World.putObj_grows h.1 _ hD, by rw [World.putObj_heap_other (fun e => by rw [← e, h.2] at hd; cases hd)]; exact h.2⟩) (fun W' h => ?_) _ _ HMk.out ⟨h2.out.g, h2.out.hd⟩
    have k := cell_box h.2
    exact ⟨.int .i64 (x : Nat), by simp [results, Try.results81, go_sem, k], rfl, h.1⟩
end Go.Proofs.Yteingahlmlndkaa

/-
  What is proved: maps whose keys are numbers, their values whatever, as lists of keys, values and stamps.
-/
namespace Go
open Go.RowKit

structure VU where
  l : List (Nat × Value × Nat)
  clock : Nat
def VU.ents (l : List (Nat × Value × Nat)) : List MapEntry := l.map fun x => ⟨.int .u32 (x.1 : Nat), x.2.1, x.2.2⟩
def VU.obj (m : VU) : Obj := .map (VU.ents m.l).toArray m.clock
def VU.empty : VU := ⟨[], 0⟩
def VU.fnd : List (Nat × Value × Nat) → Nat → Nat → Option (Nat × Value)
  | [], _, _ => none
  | x :: r, k, i => if k = x.1 then some (i, x.2.1) else VU.fnd r k (i + 1)
def VU.get (m : VU) (k : Nat) : Option Value := (VU.fnd m.l k 0).map (·.2)
def VU.put : List (Nat × Value × Nat) → Nat → Value → List (Nat × Value × Nat)
  | [], _, _ => []
  | x :: r, k, v => if k = x.1 then (x.1, v, x.2.2) :: r else x :: VU.put r k v
def VU.set (m : VU) (k : Nat) (v : Value) : VU :=
  if (m.get k).isSome then ⟨VU.put m.l k v, m.clock⟩ else ⟨m.l ++ [(k, v, m.clock)], m.clock + 1⟩
def VU.cut : List (Nat × Value × Nat) → Nat → List (Nat × Value × Nat)
  | [], _ => []
  | x :: r, k => if k = x.1 then r else x :: VU.cut r k
def VU.del (m : VU) (k : Nat) : VU := ⟨VU.cut m.l k, m.clock⟩
def VU.Ok (m : VU) : Prop := (m.l.map (·.1)).Nodup

section
variable {P : Program} {kT T eT : TypeId}
theorem findNow_vu (k : Nat) : ∀ (l : List (Nat × Value × Nat)) (i : Nat), Instr.findNow (.int .u32) (.int .u32 (k : Nat)) (VU.ents l) i = some (VU.fnd l k i)
  | [], i => rfl
  | x :: r, i => by
    have ih := findNow_vu k r (i + 1)
    simp only [VU.ents, List.map_cons, Instr.findNow, Instr.sameNow, if_true, VU.fnd] at ih ⊢
    by_cases h : k = x.1
    · subst h; simp
    · have hb : (((k : Nat) : Int) == ((x.1 : Nat) : Int)) = false := beq_eq_false_iff_ne.2 (by omega)
      rw [hb, if_neg h]
      exact ih
theorem run_findKey_vu (hk : P.underlying kT = some (.int .u32)) (k : Nat) (w : World) (l : List (Nat × Value × Nat)) :
    (Instr.findKey kT (.int .u32 (k : Nat)) (VU.ents l)).run P w = .ok (VU.fnd l k 0) w := by
  simp [Instr.findKey, run_underlying hk, Result.andThen, findNow_vu]
theorem run_chk_vu (hk : P.underlying kT = some (.int .u32)) (em : Bool) (k : Int) (w : World) : (Instr.checkKey em 10000 kT (.int .u32 k)).run P w = .ok () w := by
  show (Instr.checkKey em (9999 + 1) kT (.int .u32 k)).run P w = .ok () w
  unfold Instr.checkKey
  simp [run_underlying hk, Result.andThen]
theorem bits_vu (k : Nat) : Instr.sameBits 10000 (.int .u32 (k : Nat)) (.int .u32 (k : Nat)) = true := by
  show Instr.sameBits (9999 + 1) _ _ = true
  unfold Instr.sameBits
  simp
theorem run_lookup_ok_vu (hk : P.underlying kT = some (.int .u32)) (hT : P.underlying T = some (.map kT eT)) {z : Value} (hz : ∀ w, (zeroValue eT).run P w = .ok z w) (m : VU) (b : Nat) (w : World)
    (hb : w.heap[b]? = some m.obj) (k : Nat) : (Instr.lookup T (.map (some b)) (.int .u32 (k : Nat)) true).run P w = .ok (.tuple #[(m.get k).getD z, .bool (m.get k).isSome]) w := by
  have hb' : w.heap[b]? = some (.map (VU.ents m.l).toArray m.clock) := hb
  simp only [Instr.lookup, Sem.run_bind, run_underlying hT, Result.andThen, MapKept.run_getObj_map hb', Sem.run_pure, run_chk_vu hk, run_findKey_vu hk]
  unfold VU.get
  cases VU.fnd m.l k 0 with
  | none => simp [hz]
  | some p => simp

theorem VU.fnd_spec : ∀ (l : List (Nat × Value × Nat)) (k : Nat) (i j : Nat) (v : Value), VU.fnd l k i = some (j, v) → i ≤ j ∧ ∃ b, l[j - i]? = some (k, v, b)
  | [], _, _, _, _, h => by simp [VU.fnd] at h
  | x :: r, k, i, j, v, h => by
    simp only [VU.fnd] at h
    split at h
    · rename_i hk
      simp only [Option.some.injEq, Prod.mk.injEq] at h
      obtain ⟨rfl, rfl⟩ := h
      subst hk
      exact ⟨Nat.le_refl _, x.2.2, by simp⟩
    · obtain ⟨h1, b, h2⟩ := VU.fnd_spec r k (i + 1) j v h
      refine ⟨by omega, b, ?_⟩
      rw [show j - i = (j - (i + 1)) + 1 by omega, List.getElem?_cons_succ]
      exact h2

theorem VU.put_modify (v : Value) : ∀ (l : List (Nat × Value × Nat)) (k : Nat) (i j : Nat) (u : Value), VU.fnd l k i = some (j, u) →
    (VU.ents l).modify (j - i) (fun e => { e with key := .int .u32 (k : Nat), val := v }) = VU.ents (VU.put l k v)
  | [], _, _, _, _, h => by simp [VU.fnd] at h
  | x :: r, k, i, j, u, h => by
    have hs := VU.fnd_spec (x :: r) k i j u h
    simp only [VU.fnd] at h
    split at h
    · rename_i hk
      simp only [Option.some.injEq, Prod.mk.injEq] at h
      obtain ⟨rfl, rfl⟩ := h
      simp [VU.put, hk, VU.ents]
    · rename_i hk
      have h1 := (VU.fnd_spec r k (i + 1) j u h).1
      have ih := VU.put_modify v r k (i + 1) j u h
      rw [show j - i = (j - (i + 1)) + 1 by omega]
      simp only [VU.put, hk, if_false, VU.ents, List.map_cons, List.modify_succ_cons] at ih ⊢
      rw [ih]

theorem run_mapUpdate_vu (hk : P.underlying kT = some (.int .u32)) (hT : P.underlying T = some (.map kT eT)) (m : VU) (b : Nat) (w : World)
    (hb : w.heap[b]? = some (m.obj)) (k : Nat) (v : Value) : (Instr.mapUpdate T (.map (some b)) (.int .u32 (k : Nat)) v).run P w = .ok () (w.putObj b ((m.set k v).obj)) := by
  have hb' : w.heap[b]? = some (.map (VU.ents m.l).toArray m.clock) := hb
  have hset : ∀ o, (setObj b o).run P w = .ok () (w.putObj b o) := fun o => by simp [setObj, Sem.run, hb', World.putObj]
  simp only [Instr.mapUpdate, Sem.run_bind, run_underlying hT, Result.andThen, MapKept.run_getObj_map hb', run_chk_vu hk, run_findKey_vu hk]
  cases hf : VU.fnd m.l k 0 with
  | none =>
    have hg : (m.get k).isSome = false := by simp [VU.get, hf]
    simp only [Option.map_none, hset, VU.set, hg, Bool.false_eq_true, if_false, VU.obj, VU.ents, List.map_append, List.map_cons, List.map_nil]
    simp
  | some p =>
    obtain ⟨j, u⟩ := p
    have hg : (m.get k).isSome = true := by simp [VU.get, hf]
    obtain ⟨_, bn, hat⟩ := VU.fnd_spec m.l k 0 j u hf
    rw [Nat.sub_zero] at hat
    have hk0 : (((VU.ents m.l).toArray)[j]?.map (·.key)).getD (.int .u32 (k : Nat)) = .int .u32 (k : Nat) := by simp [VU.ents, hat]
    have hm := VU.put_modify v m.l k 0 j u hf
    rw [Nat.sub_zero] at hm
    simp only [Option.map_some, Instr.keyThatStays, hk0, bits_vu k, if_true, Sem.run_pure, Sem.run_bind, Result.andThen, hset, VU.set, hg, VU.obj]
    rw [List.modify_toArray, hm]

theorem VU.cut_erase : ∀ (l : List (Nat × Value × Nat)) (k : Nat) (i j : Nat) (u : Value), VU.fnd l k i = some (j, u) → (VU.ents l).eraseIdx (j - i) = VU.ents (VU.cut l k)
  | [], _, _, _, _, h => by simp [VU.fnd] at h
  | x :: r, k, i, j, u, h => by
    simp only [VU.fnd] at h
    split at h
    · rename_i hk
      simp only [Option.some.injEq, Prod.mk.injEq] at h
      obtain ⟨rfl, rfl⟩ := h
      simp [VU.cut, hk, VU.ents]
    · rename_i hk
      have h1 := (VU.fnd_spec r k (i + 1) j u h).1
      have ih := VU.cut_erase r k (i + 1) j u h
      rw [show j - i = (j - (i + 1)) + 1 by omega]
      simp only [VU.cut, hk, if_false, VU.ents, List.map_cons, List.eraseIdx_cons_succ] at ih ⊢
      rw [ih]
theorem VU.cut_none : ∀ (l : List (Nat × Value × Nat)) (k : Nat) (i : Nat), VU.fnd l k i = none → VU.cut l k = l
  | [], _, _, _ => rfl
  | x :: r, k, i, h => by
    simp only [VU.fnd] at h
    split at h
    · cases h
    · rename_i hk; simp [VU.cut, hk, VU.cut_none r k (i + 1) h]

end

theorem VU.fnd_none_iff : ∀ (l : List (Nat × Value × Nat)) (k : Nat) (i : Nat), VU.fnd l k i = none ↔ k ∉ l.map (·.1)
  | [], _, _ => by simp [VU.fnd]
  | x :: r, k, i => by
    simp only [VU.fnd]
    by_cases h : k = x.1
    · simp [h]
    · simp only [h, if_false, List.map_cons, List.mem_cons, false_or]
      exact VU.fnd_none_iff r k (i + 1)
theorem VU.fnd_shift : ∀ (l : List (Nat × Value × Nat)) (k : Nat) (i j : Nat), (VU.fnd l k i).map (·.2) = (VU.fnd l k j).map (·.2)
  | [], _, _, _ => rfl
  | x :: r, k, i, j => by
    simp only [VU.fnd]
    by_cases h : k = x.1
    · simp [h]
    · simp only [h, if_false]
      exact VU.fnd_shift r k _ _
theorem VU.fnd_append : ∀ (l r : List (Nat × Value × Nat)) (k : Nat) (i : Nat), VU.fnd (l ++ r) k i = match VU.fnd l k i with | some p => some p | none => VU.fnd r k (i + l.length)
  | [], r, k, i => by simp [VU.fnd]
  | x :: l, r, k, i => by
    simp only [List.cons_append, VU.fnd]
    by_cases h : k = x.1
    · simp [h]
    · simp only [h, if_false]
      rw [VU.fnd_append l r k (i + 1), List.length_cons, show i + 1 + l.length = i + (l.length + 1) by omega]
theorem VU.fnd_put (v : Value) : ∀ (l : List (Nat × Value × Nat)) (k j : Nat) (i : Nat), (VU.fnd (VU.put l k v) j i).map (·.2) = if j = k ∧ (VU.fnd l k i).isSome then some v else (VU.fnd l j i).map (·.2)
  | [], k, j, i => by simp [VU.put, VU.fnd]
  | x :: r, k, j, i => by
    have ih := VU.fnd_put v r k j (i + 1)
    simp only [VU.put, VU.fnd]
    by_cases h : k = x.1
    · subst h
      by_cases h2 : j = x.1
      · subst h2; simp [VU.fnd]
      · simp [VU.fnd, h2]
    · simp only [h, if_false, VU.fnd]
      by_cases h2 : j = x.1
      · subst h2
        simp [Ne.symm h]
      · simp only [h2, if_false]
        exact ih

theorem VU.get_set (m : VU) (k j : Nat) (v : Value) : (m.set k v).get j = if j = k then some v else m.get j := by
  unfold VU.set
  split
  · rename_i h
    have h' : (VU.fnd m.l k 0).isSome = true := by simpa [VU.get] using h
    have := VU.fnd_put v m.l k j 0
    simp only [VU.get, this, h', and_true]
  · rename_i h
    have h' : VU.fnd m.l k 0 = none := by
      cases hf : VU.fnd m.l k 0 with
      | none => rfl
      | some p => simp [VU.get, hf] at h
    simp only [VU.get, VU.fnd_append]
    by_cases hj : j = k
    · subst hj
      rw [h']
      simp [VU.fnd]
    · rw [if_neg hj]
      cases VU.fnd m.l j 0 with
      | none => simp [VU.fnd, hj]
      | some p => rfl
theorem VU.get_empty (k : Nat) : VU.empty.get k = none := rfl
theorem VU.put_keys (v : Value) : ∀ (l : List (Nat × Value × Nat)) (k : Nat), (VU.put l k v).map (·.1) = l.map (·.1)
  | [], _ => rfl
  | x :: r, k => by
    simp only [VU.put]
    split
    · rfl
    · simp [VU.put_keys v r k]

theorem VU.Ok.empty : VU.empty.Ok := List.nodup_nil
theorem VU.Ok.set {m : VU} (h : m.Ok) (k : Nat) (v : Value) : (m.set k v).Ok := by
  unfold VU.set VU.Ok
  split
  · show ((VU.put m.l k v).map (·.1)).Nodup
    rw [VU.put_keys]; exact h
  · rename_i hn
    have h1 : VU.fnd m.l k 0 = none := by
      cases hf : VU.fnd m.l k 0 with
      | none => rfl
      | some p => exact absurd (by simp [VU.get, hf]) hn
    have h2 := (VU.fnd_none_iff m.l k 0).1 h1
    show ((m.l ++ [(k, v, m.clock)]).map (·.1)).Nodup
    rw [List.map_append, List.nodup_append]
    refine ⟨h, by simp, fun a ha b hb => ?_⟩
    simp at hb
    subst hb
    rintro rfl
    exact h2 ha
theorem VU.cut_keys : ∀ (l : List (Nat × Value × Nat)) (k : Nat), ((VU.cut l k).map (·.1)).Sublist (l.map (·.1))
  | [], _ => List.Sublist.refl _
  | x :: r, k => by
    simp only [VU.cut]
    split
    · simp
    · simp only [List.map_cons]
      exact (VU.cut_keys r k).cons_cons _
theorem VU.Ok.del {m : VU} (h : m.Ok) (k : Nat) : (m.del k).Ok := List.Sublist.nodup (VU.cut_keys m.l k) h
theorem VU.fnd_cut : ∀ (l : List (Nat × Value × Nat)) (k j : Nat) (i : Nat), (l.map (·.1)).Nodup → (VU.fnd (VU.cut l k) j i).map (·.2) = if j = k then none else (VU.fnd l j i).map (·.2)
  | [], k, j, i, _ => by simp [VU.cut, VU.fnd]
  | x :: r, k, j, i, h => by
    simp only [List.map_cons, List.nodup_cons] at h
    have ih := VU.fnd_cut r k j (i + 1) h.2
    simp only [VU.cut]
    by_cases h1 : k = x.1
    · rw [if_pos h1]
      by_cases h2 : j = k
      · rw [if_pos h2]
        have : VU.fnd r j i = none := (VU.fnd_none_iff r j i).2 (by rw [h2, h1]; exact h.1)
        rw [this]; rfl
      · rw [if_neg h2]
        simp only [VU.fnd]
        rw [if_neg (by rw [← h1]; exact h2)]
        exact VU.fnd_shift r j _ _
    · rw [if_neg h1]
      simp only [VU.fnd]
      by_cases h2 : j = x.1
      · subst h2
        rw [if_pos rfl, if_neg (fun e => h1 e.symm), if_pos rfl]
      · rw [if_neg h2, ih, if_neg h2]
theorem VU.get_del {m : VU} (h : m.Ok) (k j : Nat) : (m.del k).get j = if j = k then none else m.get j := VU.fnd_cut m.l k j 0 h
end Go

/-
  What is proved: how many greatest matchings there are (67): what is asked; the empty set; a set that is known.
-/
namespace Go.Proofs.Yteingahlmlndkaa
open Go.RowKit
attribute [local irreducible] Go.wpCalm rowV
attribute [local go_sem] Oper.semAt_some
def talS (A : Nat → Nat → Bool) (L : Nat) : Nat × Nat := (nu A L.testBit 16, cnt A L.testBit 16)
/-- what is known is so -/
def Known (A : Nat → Nat → Bool) (m : VU) : Prop := ∀ k v, m.get k = some v → v = talV (talS A k)
/-- what a count of sets of at most d things answers -/
def TalC (d bb n mb : Nat) (A : Nat → Nat → Bool) : Prop := ∀ (W : World) (L : Nat) (m : VU), BenchOf W bb n A → bb ≠ mb → W.heap[mb]? = some m.obj → Known A m → L < 65536 → cntB L.testBit 16 ≤ d →
  Calls Try.prog 67 #[.pointer (some ⟨bb, 0, none⟩), .int .u32 (L : Nat), .map (some mb)] W fun e w' => ∃ m', e = .returned (talV (talS A L)) ∧ w'.heap[mb]? = some m'.obj ∧ Known A m' ∧ (W.putObj mb m'.obj).grows w'
theorem num_none (A : Nat → Nat → Bool) (k : Nat) : ∀ i, num A i (fun _ => false) k = if k = 0 then 1 else 0
  | 0 => rfl
  | i + 1 => by
    show num A i (fun _ => false) k + (if false = true then _ else 0) = _
    rw [num_none A k i]
    simp
theorem tal_zero (A : Nat → Nat → Bool) (hA : ∀ a b, A a b = A b a) : talS A 0 = (0, 1) := by
  unfold talS cnt
  have e0 : (0 : Nat).testBit = fun _ => false := funext fun i => Nat.zero_testBit i
  rw [e0]
  have e1 : nu A (fun _ => false) 16 = 0 := nu_unique hA (by rw [num_none]; simp) (fun j hj => by rw [num_none, if_neg (by omega)])
  rw [e1, num_none]
  rfl
set_option maxRecDepth 100000 in
set_option maxHeartbeats 4000000 in
theorem tally_zero (W : World) (bb mb : Nat) (A : Nat → Nat → Bool) (m : VU) (hA : ∀ a b, A a b = A b a) (hm : W.heap[mb]? = some m.obj) (hK : Known A m) :
    Calls Try.prog 67 #[.pointer (some ⟨bb, 0, none⟩), .int .u32 ((0 : Nat) : Int), .map (some mb)] W fun e w' => ∃ m', e = .returned (talV (talS A 0)) ∧ w'.heap[mb]? = some m'.obj ∧ Known A m' ∧ (W.putObj mb m'.obj).grows w' := by
  rw [tal_zero A hA]
  have Hm := Lib.hid hm
  have HK := Lib.hid hK
  clear hm hK
  (refine (callsIn_wide (n := 0)).1 (callsIn_of_wp_marks Try.func67 rfl trivial ((wpIn_wide (n := 0)).2 ?_) rfl); simp only [Try.ntmps67, List.size_toArray, List.length_cons, List.length_nil, Nat.reduceAdd, Nat.reduceSub, Array.replicate_succ, Array.replicate_zero, List.push_toArray, List.append_toArray, List.nil_append, List.cons_append])
  go_wp2
  (refine bodyPostM_ret (v := .agg #[.int .i64 0, .int .i64 1]) (by simp [results, Try.results67, go_sem]) ?_)
  refine ⟨m, rfl, World.grows.heap_of (by (repeat (first | exact World.grows.refl _ | assumption | refine World.grows.alloc ?_ _ | refine World.grows.plus ?_ _ _ | refine World.grows.drew ?_))) Hm.out, HK.out, ?_⟩
  rw [World.putObj_self Hm.out]
  (repeat (first | exact World.grows.refl _ | assumption | refine World.grows.alloc ?_ _ | refine World.grows.plus ?_ _ _ | refine World.grows.drew ?_))
end Go.Proofs.Yteingahlmlndkaa

/-
  What is proved: a set that is known (67).
-/
namespace Go.Proofs.Yteingahlmlndkaa
open Go.RowKit
attribute [local irreducible] Go.wpCalm rowV
attribute [local go_sem] Oper.semAt_some
theorem key75 : Try.prog.underlying 75 = some (.int .u32) := by kernel_rfl
theorem zero106 : ∀ w, (zeroValue 106).run Try.prog w = .ok (.agg #[.int .i64 0, .int .i64 0]) w := fun w => by
  have h : (Try.prog.info? 106).map (·.zero) = some (some (.agg #[.int .i64 0, .int .i64 0])) := by kernel_rfl
  cases hi : Try.prog.info? 106 with
  | none => rw [hi] at h; cases h
  | some i =>
    rw [hi] at h
    have hz : i.zero = some (.agg #[.int .i64 0, .int .i64 0]) := by simpa using h
    simp [zeroValue, typeInfo, hi, hz]
theorem lk108 (m : VU) (b : Nat) (w : World) (hb : w.heap[b]? = some m.obj) (k : Nat) : (Instr.lookup 108 (.map (some b)) (.int .u32 (k : Nat)) true).run Try.prog w = .ok (.tuple #[(m.get k).getD (.agg #[.int .i64 0, .int .i64 0]), .bool (m.get k).isSome]) w :=
  run_lookup_ok_vu key75 Try.underlying108 zero106 m b w hb k
theorem up108 (m : VU) (b : Nat) (w : World) (hb : w.heap[b]? = some m.obj) (k : Nat) (v : Value) : (Instr.mapUpdate 108 (.map (some b)) (.int .u32 (k : Nat)) v).run Try.prog w = .ok () (w.putObj b (m.set k v).obj) :=
  run_mapUpdate_vu key75 Try.underlying108 m b w hb k v
set_option maxRecDepth 100000 in
set_option maxHeartbeats 4000000 in
theorem tally_known (W : World) (bb mb L : Nat) (A : Nat → Nat → Bool) (m : VU) (hm : W.heap[mb]? = some m.obj) (hK : Known A m) (hL : L ≠ 0) (v : Value) (hv : m.get L = some v) :
    Calls Try.prog 67 #[.pointer (some ⟨bb, 0, none⟩), .int .u32 (L : Nat), .map (some mb)] W fun e w' => ∃ m', e = .returned (talV (talS A L)) ∧ w'.heap[mb]? = some m'.obj ∧ Known A m' ∧ (W.putObj mb m'.obj).grows w' := by
  have hvv := hK L v hv
  obtain ⟨⟨P, C⟩, hT⟩ : ∃ x, talS A L = x := ⟨_, rfl⟩
  rw [hT] at hvv ⊢
  have hlk := fun w (g : W.grows w) => lk108 m mb w (g.heap_of hm) L
  simp only [hv, hvv, Option.getD_some, Option.isSome_some, talV] at hlk
  have Hm := Lib.hid hm
  have HK := Lib.hid hK
  have hL0 : (((L : Nat) : Int) == 0) = false := by rw [beq_eq_false_iff_ne]; omega
  have hl2 := hlk (((W.alloc (.cells #[.pointer (some ⟨bb, 0, none⟩)] 71)).alloc (.cells #[.map (some mb)] 108)).alloc (.cells #[.int .i64 0, .int .i64 0] 106)) (by (repeat (first | exact World.grows.refl _ | assumption | refine World.grows.alloc ?_ _ | refine World.grows.plus ?_ _ _ | refine World.grows.drew ?_)))
  clear hm hK hT hvv hv hlk
  (refine (callsIn_wide (n := 0)).1 (callsIn_of_wp_marks Try.func67 rfl trivial ((wpIn_wide (n := 0)).2 ?_) rfl); simp only [Try.ntmps67, List.size_toArray, List.length_cons, List.length_nil, Nat.reduceAdd, Nat.reduceSub, Array.replicate_succ, Array.replicate_zero, List.push_toArray, List.append_toArray, List.nil_append, List.cons_append])
  go_wp2
  (refine bodyPostM_ret (v := .agg #[.int .i64 (P : Nat), .int .i64 (C : Nat)]) (by simp [results, Try.results67, go_sem]) ?_)
  refine ⟨m, rfl, World.grows.heap_of (by (repeat (first | exact World.grows.refl _ | assumption | refine World.grows.alloc ?_ _ | refine World.grows.plus ?_ _ _ | refine World.grows.drew ?_))) Hm.out, HK.out, ?_⟩
  rw [World.putObj_self Hm.out]
  (repeat (first | exact World.grows.refl _ | assumption | refine World.grows.alloc ?_ _ | refine World.grows.plus ?_ _ _ | refine World.grows.drew ?_))
end Go.Proofs.Yteingahlmlndkaa

/-
  What is proved: the law of a region that draws its order, by properties that a relation of worlds keeps, where the operations keep a property of the world (an operation may write into what was there).
-/
namespace Go
open Go.RowKit
variable {P : Program} {ops : Array Oper}

/-- what is asked of the operations of the head -/
def oblJ (P : Program) (dl : List (Option Tmp)) (R : List (Value → World → Prop)) (G : World → World → Prop) (I : World → Prop) (a : Act) : List (Oper × List Nat × (Value → World → Prop)) → Prop
  | [] => True
  | (o, D, r) :: l => (∀ W (K : Value → World → Prop), I W → (∀ v W', G W W' → r v W' → K v W') → depQ dl R W (fun a' => o.goesOJ P a' I W K) D a) ∧ oblJ P dl R G I a l
theorem oblJ_at {dl : List (Option Tmp)} {R : List (Value → World → Prop)} {G : World → World → Prop} {I : World → Prop} {a : Act} : ∀ (l : List (Oper × List Nat × (Value → World → Prop))), oblJ P dl R G I a l → ∀ (i : Nat) (o : Oper) (D : List Nat) (r : Value → World → Prop), l[i]? = some (o, D, r) →
    ∀ W, I W → depQ dl R W (fun a' => Oper.goesOJ P o a' I W (fun v W' => G W W' ∧ r v W')) D a
  | [], _, i, o, D, r, h => by simp at h
  | _ :: l, hl, 0, o, D, r, h => by
    cases Option.some.inj h
    intro W hg
    exact hl.1 W _ hg (fun _ _ h1 h2 => ⟨h1, h2⟩)
  | _ :: l, hl, i + 1, o, D, r, h => oblJ_at l hl.2 i o D r (by simpa using h)
theorem wpAnyIn_of_invJ {F : Fence} (hF : F.Free P) {Nf : Nat} {I : World → Prop} {a : Act} {R : List (Value → World → Prop)} {Q : Exit → Act → World → Prop} {n : Nat} {ds : List (List Nat)} {dl : List (Option Tmp)} (hB : Region.invB ops n ds dl = true) (hnd : Region.noDeferB ops = true)
    (hheads0 : ∀ (listed : Array Bool) (i0 : Nat), HeadInv .any ops n listed → i0 < n → listed.getD i0 true = false → ∀ t ∈ Region.ready .any ops listed, t < n)
    {G : World → World → Prop} (hR : ∀ i v W W', R.getD i (fun _ _ => True) v W → G W W' → R.getD i (fun _ _ => True) v W')
    (hop : ∀ i o, i < n → ops[i]? = some o → ∀ W, I W → depQ dl R W (fun a' => o.goesOJ P a' I W (fun v W' => G W W' ∧ R.getD i (fun _ _ => True) v W')) (ds.getD i []) a)
    (hK : ∀ val W, I W → (∀ i, i < n → R.getD i (fun _ _ => True) (val i) W) → ∀ listed, HeadInv .any ops n listed → (∀ i, i < n → listed.getD i false = true) → wpAnyIn F Nf P .any ops Q (ops.size - n) listed (putL dl val (List.range n) a) W) :
    ∀ (cnt : Nat) (L U : List Nat) (listed : Array Bool) (val : Nat → Value) (W : World), U.length = cnt → L.Nodup → U.Nodup → (∀ i, i ∈ L ↔ i < n ∧ listed.getD i false = true) → (∀ i, i ∈ U ↔ i < n ∧ listed.getD i false = false) →
      HeadInv .any ops n listed → I W → (∀ i ∈ L, R.getD i (fun _ _ => True) (val i) W) → wpAnyIn F Nf P .any ops Q (cnt + (ops.size - n)) listed (putL dl val L a) W := by
  simp only [Region.invB, Bool.and_eq_true, decide_eq_true_eq] at hB
  obtain ⟨⟨hmix, hnle⟩, hall⟩ := hB
  simp only [Region.mixB, Bool.and_eq_true, decide_eq_true_eq] at hmix
  obtain ⟨⟨⟨hsel, _⟩, _⟩, hedge⟩ := hmix
  have hsp := Region.noSelect_spec hsel
  have spec : ∀ i o, i < n → ops[i]? = some o → o.guard = none ∧ dl.getD i none = o.dst ∧ (∀ j ∈ ds.getD i [], j < n ∧ Region.waitsFor .any ops i j = true) ∧ (ds.getD i []).Nodup ∧
      ∀ j, j < n → j ≠ i → (∀ d, dl.getD i none = some d → dl.getD j none ≠ some d) ∧ (j ∉ ds.getD i [] → ∀ d, dl.getD j none = some d → d ∉ o.looksAt ops) := by
    intro i o hi ho
    have h1 := List.all_eq_true.1 hall i (List.mem_range.2 hi)
    simp only [ho, Bool.and_eq_true, decide_eq_true_eq] at h1
    obtain ⟨⟨⟨⟨g1, g2⟩, g3⟩, g4⟩, g5⟩ := h1
    refine ⟨by simpa using g1, g2, fun j hj => ?_, g4, fun j hj hji => ?_⟩
    · have := List.all_eq_true.1 g3 j hj
      simpa using this
    · have h2 := List.all_eq_true.1 g5 j (List.mem_range.2 hj)
      simp only [Bool.or_eq_true, Bool.and_eq_true, decide_eq_true_eq] at h2
      rcases h2 with h2 | ⟨h2, h3⟩
      · exact absurd h2 hji
      · refine ⟨fun d hd hj' => ?_, fun hnd d hd => ?_⟩
        · rcases h2 with h2 | h2
          · rw [hd] at h2; cases h2
          · exact h2 (hj'.trans hd.symm)
        · rcases h3 with h3 | h3
          · exact absurd (by simpa using h3) hnd
          · rw [hd] at h3
            simpa using h3
  have edgeOf : ∀ i o, i < n → ops[i]? = some o → ∀ e ∈ o.after, Region.binds .any e = true → e.on < i := by
    intro i o hi ho e he hb
    have h1 := List.all_eq_true.1 hedge i (List.mem_range.2 hi)
    simp only [ho, Bool.and_eq_true] at h1
    have h2 := Array.all_eq_true_iff_forall_mem.1 h1.1 e he
    simpa only [hb, Bool.not_true, Bool.false_or, decide_eq_true_eq] using h2
  have unwait : ∀ (listed : Array Bool) (i j : Nat), i ∈ Region.ready .any ops listed → Region.waitsFor .any ops i j = true → listed.getD j false = true := by
    intro listed i j hi hw
    obtain ⟨oi, hoi, e, he, hb, hon⟩ := Region.waitsFor_spec hw
    obtain ⟨_, o', ho', hall⟩ := mem_ready.1 hi
    rw [hoi] at ho'; cases ho'
    have := hall e he hb
    rwa [hon] at this
  have at_lt : ∀ i, i < n → ∃ o, ops[i]? = some o := fun i hi => ⟨ops[i]'(by omega), Array.getElem?_eq_getElem (by omega)⟩
  have dst_ne : ∀ i, i < n → ∀ j, j < n → i ≠ j → ∀ d, dl.getD i none = some d → dl.getD j none ≠ some d := fun i hi j hj hij => by
    obtain ⟨o, ho⟩ := at_lt i hi
    exact ((spec i o hi ho).2.2.2.2 j hj (Ne.symm hij)).1
  intro cnt
  induction cnt with
  | zero =>
    intro L U listed val W hc hL hU hLm hUm inv hg hv
    have he : U = [] := List.eq_nil_of_length_eq_zero hc
    have hl : ∀ i, i < n → listed.getD i false = true := fun i hi => by
      cases h : listed.getD i false with
      | true => rfl
      | false =>
        have := (hUm i).2 ⟨hi, h⟩
        rw [he] at this
        cases this
    have hp : L.Perm (List.range n) := (List.perm_ext_iff_of_nodup hL List.nodup_range).2 fun i => by
      rw [hLm, List.mem_range]
      exact ⟨fun h => h.1, fun h => ⟨h, hl i h⟩⟩
    rw [Nat.zero_add, putL_perm hp (fun i hi j hj hij => dst_ne i ((hLm i).1 hi).1 j ((hLm j).1 hj).1 hij)]
    exact hK val W hg (fun i hi => hv i ((hLm i).2 ⟨hi, hl i hi⟩)) listed inv hl
  | succ cnt ih =>
    intro L U listed val W hc hL hU hLm hUm inv hg hv
    rw [show cnt + 1 + (ops.size - n) = (cnt + (ops.size - n)) + 1 by omega]
    obtain ⟨i0, hi0⟩ : ∃ i, i ∈ U := by
      cases U with
      | nil => simp at hc
      | cons x _ => exact ⟨x, List.mem_cons_self ..⟩
    have hi0' := (hUm i0).1 hi0
    have hheads := hheads0 listed i0 inv hi0'.1 (getD_in (by rw [inv.size]; omega) hi0'.2)
    have least : ∀ i, i < n → listed.getD i false = false → ∃ t, t ∈ Region.ready .any ops listed := by
      intro i
      induction i using Nat.strongRecOn with
      | _ i ih2 =>
        intro hi hl
        obtain ⟨o, ho⟩ := at_lt i hi
        by_cases h : ∃ e ∈ o.after, Region.binds .any e = true ∧ listed.getD e.on false = false
        · obtain ⟨e, he, hb, hel⟩ := h
          have := edgeOf i o hi ho e he hb
          exact ih2 e.on this (by omega) hel
        · refine ⟨i, mem_ready.2 ⟨getD_in (by rw [inv.size]; omega) hl, o, ho, fun e he hb => ?_⟩⟩
          cases hq : listed.getD e.on false with
          | true => rfl
          | false => exact absurd ⟨e, he, hb, hq⟩ h
    refine ⟨fun hnil => ?_, fun i hi => ?_⟩
    · exfalso
      obtain ⟨t, ht⟩ := least i0 hi0'.1 hi0'.2
      rw [hnil] at ht
      cases ht
    · have hin := hheads i hi
      have hl : listed.getD i false = false := getD_both (mem_ready.1 hi).1
      have inv' := inv.set hi hin
      obtain ⟨o, ho⟩ := at_lt i hin
      obtain ⟨sg, sd, sw, snd, sl⟩ := spec i o hin ho
      have set_ne : ∀ j, j ≠ i → (listed.setIfInBounds i true).getD j false = listed.getD j false := fun j hji => getD_set_ne false (Ne.symm hji)
      have set_self : (listed.setIfInBounds i true).getD i false = true := by
        have : i < listed.size := by rw [inv.size]; omega
        simp [this]
      have hiL : i ∉ L := fun h => by
        have := ((hLm i).1 h).2
        rw [hl] at this; cases this
      have hDL : ∀ j ∈ ds.getD i [], j ∈ L := fun j hj => (hLm j).2 ⟨(sw j hj).1, unwait listed i j hi (sw j hj).2⟩
      have hexec : execOp (putL dl val L a).eval o = execOp (putL dl val (ds.getD i []) a).eval o := by
        have hp : L.Perm (ds.getD i [] ++ L.filter fun j => !(ds.getD i []).contains j) := by
          refine (List.perm_ext_iff_of_nodup hL (List.nodup_append.2 ⟨snd, hL.filter _, fun x hx y hy e => ?_⟩)).2 fun j => ?_
          · subst e
            have h3 : (ds.getD i []).contains x = true := List.contains_iff_mem.2 hx
            have h4 := (List.mem_filter.1 hy).2
            simp only [h3] at h4
            cases h4
          · rw [List.mem_append, List.mem_filter]
            constructor
            · intro hj
              by_cases h : j ∈ ds.getD i []
              · exact .inl h
              · exact .inr ⟨hj, by simpa using h⟩
            · rintro (h | h)
              · exact hDL j h
              · exact h.1
        rw [putL_perm hp (fun i hi j hj hij => dst_ne i ((hLm i).1 hi).1 j ((hLm j).1 hj).1 hij), putL_append]
        refine execOp_putL (ops := ops) (fun cs b => hsp i o cs b ho) _ _ fun j hj d hd => ?_
        obtain ⟨h1, h2⟩ := List.mem_filter.1 hj
        refine (sl j ((hLm j).1 h1).1 (fun e => hiL (e ▸ h1))).2 (by simpa using h2) d hd
      have hgo := depQ_of (val := val) _ _ (hop i o hin ho W hg) (fun j hj => hv j (hDL j hj))
      have hrest : ∀ v W', I W' → G W W' ∧ R.getD i (fun _ _ => True) v W' → wpAnyIn F Nf P .any ops Q (cnt + (ops.size - n)) (listed.setIfInBounds i true) ((putL dl val L a).put o.dst v) W' := by
        intro v W' g ⟨hG1, hr⟩
        have e : (putL dl val L a).put o.dst v = putL dl (fun k => if k = i then v else val k) (L ++ [i]) a := by
          rw [putL_append, putL_congr (val' := fun k => if k = i then v else val k) L a (fun j hj => (if_neg (fun h => hiL (by rw [← h]; exact hj))).symm)]
          simp only [putL, if_true, sd]
        rw [e]
        refine ih (L ++ [i]) (U.erase i) _ _ W' ?_ ?_ (hU.erase _) (fun j => ?_) (fun j => ?_) inv' g (fun j hj => ?_)
        · have := List.length_erase_of_mem ((hUm i).2 ⟨hin, hl⟩)
          omega
        · rw [List.nodup_append]
          refine ⟨hL, List.nodup_cons.2 ⟨by simp, List.nodup_nil⟩, fun x hx y hy e => ?_⟩
          rw [List.mem_singleton] at hy
          exact hiL (by rw [← hy, ← e]; exact hx)
        · rw [List.mem_append, List.mem_singleton, hLm]
          by_cases hji : j = i
          · subst hji
            simp [set_self, hin]
          · rw [set_ne j hji]
            simp [hji]
        · rw [hU.mem_erase_iff, hUm]
          by_cases hji : j = i
          · subst hji
            simp [set_self]
          · rw [set_ne j hji]
            simp [hji]
        · rcases List.mem_append.1 hj with hj | hj
          · have : j ≠ i := fun h => hiL (by rw [← h]; exact hj)
            show R.getD j _ (if j = i then v else val j) W'
            rw [if_neg this]
            exact hR j _ _ _ (hv j hj) hG1
          · rw [List.mem_singleton] at hj
            subst hj
            show R.getD j _ (if j = j then v else val j) W'
            rw [if_pos rfl]
            exact hr
      unfold wpOpIn
      simp only [ho]
      rw [if_pos (by simp [Region.wanted, sg])]
      unfold Oper.wpIn
      refine ⟨fun f _ => hF.fn f, ?_⟩
      rw [Oper.semAt_plain F (putL dl val L a).eval o (Region.noDefer_spec hnd i o ho)]
      unfold Oper.goesOJ at hgo
      rw [hexec]
      generalize (execOp (putL dl val (ds.getD i []) a).eval o).run P W = r at *
      cases r with
      | halt z w' => simp only [goesUponOJ] at hgo
      | ok nx w' =>
        cases nx <;> simp only [goesUponOJ] at hgo <;> simp only [Oper.uponIn]
        case value u => exact hrest _ _ hgo.1 hgo.2
        case skip => exact hrest _ _ hgo.1 hgo.2
        case enter f args =>
          obtain ⟨rfl, hcall⟩ := hgo
          refine ⟨(fun h => by rw [hF.depth] at h; cases h), hF.calls _ _ _ _ _ (hcall.mono fun e w'' ⟨v, he, g, hp⟩ => ?_)⟩
          subst he
          exact hrest _ _ g hp

/-- operations, each with a property that G keeps; behind them a tail in order -/
theorem wpIn_region_invJ {F : Fence} (hF : F.Free P) {Nf : Nat} {id : Nat} {Q : Exit → Act → World → Prop} {a : Act} {w : World} {l : List Oper} (n : Nat) (ds : List (List Nat)) (dl : List (Option Tmp)) (R : List (Value → World → Prop)) (G : World → World → Prop) (I : World → Prop) (hI : ∀ W W', I W → W.grows W' → I W') (hIw : I w) (hm : P.follows .mixedOrders = true)
    (hB : (Region.invTailB l.toArray n ds dl && decide (n ≤ ds.length)) = true) (hnd : Region.noDeferB l.toArray = true) (hn : n ≤ l.length) (hRn : n ≤ R.length) (hR : ∀ r ∈ R, ∀ v W W', r v W → G W W' → r v W')
    (hop : oblJ P dl R G I a (zipQ (l.take n) ds R))
    (h : ∀ (val : Nat → Value) W, I W → (∀ i, i < n → R.getD i (fun _ _ => True) (val i) W) → wpListIn F Nf P l.toArray Q (l.drop n) (putL dl val (List.range n) a) W) : (Code.region id l.toArray true).wpIn F Nf P Q a w := by
  simp only [Region.invTailB, Bool.and_eq_true, Bool.or_eq_true, decide_eq_true_eq] at hB
  obtain ⟨⟨⟨hinv, hplan⟩, hseq⟩, hds⟩ := hB
  have hnle : n ≤ l.toArray.size := by simpa using hn
  refine wpIn_region_any hm ?_
  obtain ⟨n0, x0, h0⟩ := World.more_drew w
  rw [h0]
  have key := wpAnyIn_of_invJ hF (Nf := Nf) (P := P) (ops := l.toArray) (I := I) (a := a) (R := R) (Q := Q) (n := n) (ds := ds) (dl := dl) hinv hnd
    (fun listed i0 inv hi0 hun0 => by
      rcases hplan with h | ⟨⟨h1, h2⟩, h3⟩
      · subst h; exact heads_of_all listed
      · exact heads_of_tail h1 h2 h3 listed i0 inv hi0 hun0)
    (G := G) (fun i => by
      rw [List.getD_eq_getElem?_getD]
      cases hi : R[i]? with
      | none => exact fun _ _ _ _ _ => trivial
      | some r => exact hR r (List.mem_of_getElem? hi))
    (fun i o hi ho W hg => oblJ_at _ hop i o _ _ (zipQ_at (l.take n) ds R (by simp; omega) (by simp; omega) i o (by rw [List.getElem?_take, if_pos hi]; simpa using ho)) W hg)
    (fun val W hg hv listed inv hall => by
      have hl := seq_listed inv hnle hall
      subst hl
      have hd : (l.drop n).length = l.toArray.size - n := by simp
      have := wpAnyIn_of_seq hnd (Q' := Q) (l.drop n) n _ (putL dl val (List.range n) a) W (fun j => by simp [List.getElem?_drop]) (by rw [hd]; exact hseq) (h val W hg hv)
      rwa [hd] at this)
    n [] (List.range n) (Array.replicate l.toArray.size false) (fun _ => undef) (w.plus n0 x0) (by simp) List.nodup_nil List.nodup_range
    (fun i => ⟨fun h => absurd h List.not_mem_nil, fun h => by rw [getD_replicate_false] at h; exact absurd h.2 (by decide)⟩)
    (fun i => by rw [List.mem_range, getD_replicate_false]; exact ⟨fun h => ⟨h, rfl⟩, fun h => h.1⟩)
    (headInv_start n) (hI _ _ hIw (World.grows_plus _ _ _)) (fun i hi => by cases hi)
  rw [show n + (l.toArray.size - n) = l.toArray.size by omega] at key
  exact key
end Go

/-
  What is proved: small laws for the step of the count (67): the map's block changes, a box changes, sums of tallies.
-/
namespace Go.Proofs.Yteingahlmlndkaa
open Go.RowKit
attribute [local irreducible] Go.wpCalm rowV
theorem KpS.map {W U U' : World} {mb : Nat} {m m' : VU} {P : List (Nat × Obj)} (h : KpS (W.putObj mb m.obj) P U) (hmb : mb < W.heap.size) (hP : ∀ y ∈ P, y.1 ≠ mb) (g : (U.putObj mb m'.obj).grows U') : KpS (W.putObj mb m'.obj) P U' := by
  have h1 := h.g.putObj m'.obj (b := mb) (by simpa using hmb)
  rw [World.putObj_putObj] at h1
  exact ⟨h1.trans g, fun y hy => g.heap_of (by rw [World.putObj_heap_other (hP y hy)]; exact h.at_ y hy)⟩
theorem KpS.only {w U U' : World} {b : Nat} {P : List (Nat × Obj)} (h : KpS w P U) (o : Only b U U') (hb : w.heap.size ≤ b) (hP : ∀ y ∈ P, y.1 ≠ b) : KpS w P U' :=
  ⟨o.grows _ h.g hb, fun y hy => o.other _ _ (hP y hy) (h.at_ y hy)⟩
theorem BenchOf.put {w : World} {b n r : Nat} {o : Obj} {A : Nat → Nat → Bool} (h : BenchOf w b n A) (hb : b ≠ r) : BenchOf (w.putObj r o) b n A := by
  obtain ⟨ta, tc, mv, wide, F, h1, h2⟩ := h
  exact ⟨ta, tc, mv, wide, F, h1.put hb, h2⟩
theorem KpS.bench {W U : World} {bb n mb : Nat} {m : VU} {A : Nat → Nat → Bool} {P : List (Nat × Obj)} (h : KpS (W.putObj mb m.obj) P U) (hB : BenchOf W bb n A) (hne : bb ≠ mb) : BenchOf U bb n A := (hB.put hne).grow h.g
theorem KpS.mapAt {W U : World} {mb : Nat} {m : VU} {P : List (Nat × Obj)} (h : KpS (W.putObj mb m.obj) P U) (hmb : mb < W.heap.size) : U.heap[mb]? = some m.obj := h.g.heap_of (World.putObj_heap_same hmb)
/-- the tally's sum so far -/
def talF (A : Nat → Nat → Bool) (S : Nat → Bool) (t : Nat) (Z k : Nat) : Nat × Nat :=
  ((filtL Z.testBit 16).take k).foldl (fun y u => addT y (nu A (less1 (less1 S t) u) 16 + 1, cnt A (less1 (less1 S t) u) 16)) (addT (0, 0) (nu A (less1 S t) 16, cnt A (less1 S t) 16))
theorem talF_step {A : Nat → Nat → Bool} {S : Nat → Bool} {t Z k u : Nat} (h : (filtL Z.testBit 16)[k]? = some u) : talF A S t Z (k + 1) = addT (talF A S t Z k) (nu A (less1 (less1 S t) u) 16 + 1, cnt A (less1 (less1 S t) u) 16) := by
  unfold talF
  rw [List.take_succ, h, List.foldl_append]
  rfl
theorem talF_all {A : Nat → Nat → Bool} (hA : ∀ a b, A a b = A b a) (hI : ∀ a, A a a = false) {S : Nat → Bool} {t Z : Nat} (hZ : Z.testBit = fun u => less1 S t u && A t u) (ht : t < 16) (hS : S t = true) : talF A S t Z (filtL Z.testBit 16).length = (nu A S 16, cnt A S 16) := by
  have h := parts_tally (n := 16) hA hI ht hS
  unfold parts at h
  rw [List.foldl_cons, List.foldl_map] at h
  unfold talF
  rw [List.take_of_length_le (Nat.le_refl _), ← h, hZ]
  rfl
theorem addT_le (a b : Nat × Nat) : (addT a b).2 ≤ a.2 + b.2 := by
  unfold addT
  split
  · omega
  · split
    · exact Nat.le_refl _
    · omega
theorem fct16 : fct 16 = 20922789888000 := by decide
theorem cnt_le (A : Nat → Nat → Bool) (S : Nat → Bool) : cnt A S 16 ≤ 20922789888000 := by
  have := num_le (A := A) 16 S (nu A S 16)
  rw [fct16] at this
  exact this
theorem talF_le {A : Nat → Nat → Bool} {S : Nat → Bool} {t Z : Nat} : ∀ k, k ≤ (filtL Z.testBit 16).length → (talF A S t Z k).2 ≤ (k + 1) * 20922789888000
  | 0, _ => by
    have := addT_le (0, 0) (nu A (less1 S t) 16, cnt A (less1 S t) 16)
    have h2 := cnt_le A (less1 S t)
    show (addT _ _).2 ≤ _
    simp only at this
    omega
  | k + 1, h => by
    rw [talF_step (List.getElem?_eq_getElem (by omega))]
    have h1 := talF_le (A := A) (S := S) (t := t) (Z := Z) k (by omega)
    refine Nat.le_trans (addT_le _ _) ?_
    have h2 := cnt_le A (less1 (less1 S t) (filtL Z.testBit 16)[k])
    simp only
    omega
theorem less1_bits {L t : Nat} (hL : L < 65536) : ∀ v, less1 L.testBit t v = true → v < 16 := fun v hv => by
  unfold less1 at hv
  simp only [Bool.and_eq_true] at hv
  exact bit_lt hL hv.1
theorem nu16 {A : Nat → Nat → Bool} (hA : ∀ a b, A a b = A b a) {S : Nat → Bool} (hS : ∀ v, S v = true → v < 16) : nu A S 16 ≤ 8 := by
  have := nu_le (n := 16) hA hS
  omega
theorem KpS.set {w U : World} {P : List (Nat × Obj)} (h : KpS w P U) {b : Nat} (hb : w.heap.size ≤ b) (hP : ∀ y ∈ P, y.1 ≠ b) (i : Nat) (v : Value) : KpS w P (U.setCell ⟨b, i, none⟩ v) :=
  ⟨h.g.setCell (p := ⟨b, i, none⟩) hb v, fun y hy => by rw [World.heap_setCell_map _ _ _ _ (fun e => hP y hy e.symm)]; exact h.at_ y hy⟩
theorem alloc_old {w : World} {o o' : Obj} {b : Nat} (h : w.heap[b]? = some o) : (w.alloc o').heap[b]? = some o := (World.grows.alloc (World.grows.refl w) o').heap_of h
end Go.Proofs.Yteingahlmlndkaa

