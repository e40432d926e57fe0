/-
  What is proved: the law of a region that draws its order: reads and calls beside a chain of operations that make memory, and behind it operations that only read, in any order.
-/
import Derived.Test.YtaanbdjmibjcbaaM4
import Derived.Test.YtaanbdjmibjcbaaM1
import Derived.Test.YtaanbdjmibjcbaaM2
import Derived.Test.YtaanbdjmibjcbaaM5
import Derived.Deep.MidRow
import Derived.Deep.WholeRow
import Derived.ChangeKeysEq
set_option linter.all false
namespace Go
open Go.RowKit
variable {P : Program} {ops : Array Oper}

/-- each operation behind n waits for one from n on -/
def Region.restB (ops : Array Oper) (n : Nat) : Bool := (List.range ops.size).all fun t => decide (t ≤ n) || (List.range t).any fun e => decide (n ≤ e) && Region.waitsFor .any ops t e

theorem rest_waits {n : Nat} {listed : Array Bool} (hs : Region.sinkB .any ops n = true) (hc : Region.restB ops n = true) (hn : n < ops.size) (inv : HeadInv .any ops n listed) :
    ∀ (d i : Nat), n - i = d → i < n → listed.getD i true = false → ∀ t, n ≤ t → t ∉ Region.ready .any ops listed := by
  intro d
  induction d using Nat.strongRecOn with
  | _ d ih =>
    intro i hd hi hun t ht hr
    obtain ⟨_, ot, hot, hall⟩ := mem_ready.1 hr
    have htlt : t < ops.size := (Array.getElem?_eq_some_iff.1 hot).1
    by_cases htn : t = n
    · subst htn
      have h1 := List.all_eq_true.1 hs i (List.mem_range.2 hi)
      obtain ⟨j, hj, hj2⟩ := List.any_eq_true.1 h1
      simp only [Bool.and_eq_true, decide_eq_true_eq] at hj2
      obtain ⟨oj, hoj, e, he, hb, hon⟩ := Region.waitsFor_spec hj2.2
      have hjle : j ≤ t := by have := List.mem_range.1 hj; omega
      by_cases hjt : j = t
      · subst hjt
        have : oj = ot := Option.some.inj (hoj.symm.trans hot)
        subst this
        have h2 := hall e he hb
        rw [hon, getD_both hun] at h2
        cases h2
      · cases hl : listed.getD j false with
        | true =>
          have h2 := inv.closed j oj hoj hl e he hb
          rw [hon, getD_both hun] at h2
          cases h2
        | false =>
          have hjs : j < listed.size := by rw [inv.size]; omega
          exact ih (t - j) (by omega) j rfl (by omega) (getD_in hjs hl) t (Nat.le_refl _) hr
    · have h1 := List.all_eq_true.1 hc t (List.mem_range.2 htlt)
      simp only [Bool.or_eq_true, decide_eq_true_eq] at h1
      rcases h1 with h1 | h1
      · omega
      · obtain ⟨k, hk, hk2⟩ := List.any_eq_true.1 h1
        simp only [Bool.and_eq_true, decide_eq_true_eq] at hk2
        have hkt := List.mem_range.1 hk
        obtain ⟨o', ho', e, he, hb, hon⟩ := Region.waitsFor_spec hk2.2
        have : o' = ot := Option.some.inj (ho'.symm.trans hot)
        subst this
        have h2 := hall e he hb
        rw [hon, getD_both (inv.tail k hk2.1 (by omega))] at h2
        cases h2

theorem wpAny_calm_rest {Q : Exit → Act → World → Prop} {l : List Oper} {n : Nat} (hmix : Region.mixB l.toArray l.length [] = true) (hn : n ≤ l.length) {listed : Array Bool} {a : Act} {W : World}
    (inv : HeadInv .any l.toArray n listed) (hall : ∀ i, i < n → listed.getD i false = true)
    (h : wpCalm P l.toArray W (fun a' => ∀ k x, Q .normal a' (W.plus k x)) (l.drop n) a) : wpAny P .any l.toArray Q (l.toArray.size - n) listed a W := by
  obtain ⟨n0, x0, h0⟩ := World.plus_of (World.grows.refl W)
  have key := wpAny_of_order (P := P) (ops := l.toArray) (w0 := W) (Q := Q) (n := l.toArray.size) (as0 := []) (by simpa using hmix)
    (fun listed i0 inv hi0 hun0 => heads_of_all listed)
    (K := fun F a' => ∀ n' x, F (W.plus n' x) → Q .normal a' (W.plus n' x))
    (fun F F' a hFF hK n' x hf => hK n' x (hFF _ hf))
    (fun F a hK n' x hf listed inv hall => by
      rw [Nat.sub_self]
      refine ⟨List.eq_nil_iff_forall_not_mem.2 fun t ht => ?_, hK n' x hf⟩
      obtain ⟨hun, ot, hot, _⟩ := mem_ready.1 ht
      have h1 := hall t (Array.getElem?_eq_some_iff.1 hot).1
      rw [getD_both hun] at h1
      cases h1)
    (l.length - n) (withNo n (l.drop n)) [] listed (fun _ => True) a
    (by have := congrArg List.length (withNo_snd n (l.drop n)); simp at this; simp; omega)
    ⟨inv.size, inv.closed, fun t h1 h2 => by omega⟩
    (fun i hi => by
      simp only [List.map_nil, List.not_mem_nil, or_false, List.mem_map]
      have hi' : i < l.length := by simpa using hi
      constructor
      · intro hf
        have hni : n ≤ i := by
          rcases Nat.lt_or_ge i n with h1 | h1
          · rw [hall i h1] at hf; cases hf
          · exact h1
        exact ⟨(i, l[i]), (withNo_mem n _ _).2 ⟨hni, by rw [List.getElem?_drop]; simp [show n + (i - n) = i by omega]⟩, rfl⟩
      · rintro ⟨p, hp, rfl⟩
        exact getD_both (inv.tail p.1 ((withNo_mem n _ _).1 hp).1 (by simpa using hi')))
    (fun p hp => by
      obtain ⟨h1, h2⟩ := (withNo_mem n _ _).1 hp
      rw [List.getElem?_drop, show n + (p.1 - n) = p.1 by omega] at h2
      exact ⟨by have := (List.getElem?_eq_some_iff.1 h2).1; simpa using this, by simpa using h2, by simp⟩)
    (by simp)
    (by rw [withNo_fst]; exact List.pairwise_lt_range')
    (by simp)
    (fun _ _ _ _ => trivial)
    (by
      rw [withNo_snd]
      exact wpCalm_mono (fun a' h => fun n' x _ => h n' x) _ _ h)
    n0 x0 trivial
  rw [← h0] at key
  simpa using key

def Region.chainRestB (ops : Array Oper) (n : Nat) (ms : List Nat) : Bool :=
  Region.chainsB ops n ms && decide (n < ops.size) && Region.sinkB .any ops n && Region.restB ops n && Region.mixB ops ops.size []

/-- a chain beside reads and calls, and behind all of them (from n on) operations that only read, in any order -/
theorem wp_region_chainR {id : Nat} {Q : Exit → Act → World → Prop} {a : Act} {w : World} {l : List Oper} (n : Nat) (ms : List Nat) (hm : P.follows .mixedOrders = true)
    (hB : (Region.chainRestB l.toArray n ms && decide (((withNo 0 (l.take n)).filter fun p => ms.contains p.1).map (·.1) = ms)) = true) (hn : n ≤ l.length)
    (h : wpCalm P l.toArray w (fun a' => wpChain P l.toArray w (fun a'' W => wpCalm P l.toArray W (fun a3 => ∀ k x, Q .normal a3 (W.plus k x)) (l.drop n) a'') (only l n ms) a' w) (without l n ms) a) : (Code.region id l.toArray true).wp P Q a w := by
  simp only [Region.chainRestB, Bool.and_eq_true, decide_eq_true_eq] at hB
  obtain ⟨⟨⟨⟨⟨hch, hlt⟩, hsink⟩, hrest⟩, hmix⟩, hms⟩ := hB
  have hch0 := hch
  refine wp_region_any hm ?_
  obtain ⟨n0, x0, h0⟩ := World.more_drew w
  rw [h0]
  have hat : ∀ p ∈ withNo 0 (l.take n), p.1 < n ∧ l.toArray[p.1]? = some p.2 := fun p hp => by
    have h2 := ((withNo_mem 0 _ p).1 hp).2
    rw [Nat.sub_zero, List.getElem?_take] at h2
    split at h2
    · rename_i hlt; exact ⟨by omega, by simpa using h2⟩
    · cases h2
  have hsorted : ((withNo 0 (l.take n)).map (·.1)).Pairwise (· < ·) := by rw [withNo_fst]; exact List.pairwise_lt_range'
  have hfilt : ∀ (q : Nat × Oper → Bool), (((withNo 0 (l.take n)).filter q).map (·.1)).Pairwise (· < ·) := fun q => by
    have : ((withNo 0 (l.take n)).filter q).Sublist (withNo 0 (l.take n)) := List.filter_sublist
    exact hsorted.sublist (this.map _)
  have hlen : ((withNo 0 (l.take n)).filter fun p => !ms.contains p.1).length + ((withNo 0 (l.take n)).filter fun p => ms.contains p.1).length = n := by
    have e1 : (withNo 0 (l.take n)).length = n := by
      have := congrArg List.length (withNo_snd 0 (l.take n))
      simp at this
      omega
    have := filt_len (fun p : Nat × Oper => ms.contains p.1) (withNo 0 (l.take n))
    omega
  have key := wpAny_of_chain (P := P) (ops := l.toArray) (w0 := w) (Q := Q) (n := n) (ms0 := ms) hch
    (fun listed i0 inv hi0 hun0 t ht => by
      rcases Nat.lt_or_ge t n with h | h
      · exact h
      · exact absurd ht (rest_waits hsink hrest hlt inv _ i0 rfl hi0 hun0 t h))
    (K := fun a'' W => wpCalm P l.toArray W (fun a3 => ∀ k x, Q .normal a3 (W.plus k x)) (l.drop n) a'')
    (fun a W hK listed inv hall => wpAny_calm_rest (by simpa using hmix) hn inv hall hK)
    n ((withNo 0 (l.take n)).filter fun p => !ms.contains p.1) ((withNo 0 (l.take n)).filter fun p => ms.contains p.1) (Array.replicate l.toArray.size false) a (w.plus n0 x0) hlen (headInv_start n)
    (fun i hi => by
      simp only [getD_replicate_false, true_iff, List.mem_map, List.mem_filter]
      have hil : i < (l.take n).length := by simp; omega
      have hi2 : (i, (l.take n)[i]) ∈ withNo 0 (l.take n) := (withNo_mem 0 _ _).2 ⟨Nat.zero_le _, by rw [Nat.sub_zero]; exact List.getElem?_eq_getElem hil⟩
      cases hc : ms.contains i with
      | true => exact .inr ⟨_, ⟨hi2, hc⟩, rfl⟩
      | false => exact .inl ⟨_, ⟨hi2, by simpa using hc⟩, rfl⟩)
    (fun p hp => by
      obtain ⟨h1, h2⟩ := List.mem_filter.1 hp
      exact ⟨(hat p h1).1, (hat p h1).2, by simpa using h2⟩)
    (fun p hp => by
      obtain ⟨h1, h2⟩ := List.mem_filter.1 hp
      exact ⟨(hat p h1).1, (hat p h1).2, h2⟩)
    (hfilt _) (hfilt _)
    (fun p q l1 l2 he => by
      simp only [Region.chainsB, Bool.and_eq_true] at hch0
      have hz := hch0.1.2
      have := zip_next ms (fun i j => decide (i < j) && Region.waitsFor .any l.toArray j i) hz p.1 q.1 (l1.map (·.1)) (l2.map (·.1)) (by rw [← hms, he]; simp)
      simp only [Bool.and_eq_true] at this
      exact this.2)
    (World.grows_plus _ _ _)
    (wpCalm_mono (fun a' h => wpChain_grow (World.grows_plus _ _ _) h) _ _ h)
  rw [show n + (l.toArray.size - n) = l.toArray.size by omega] at key
  exact key

end Go

/-
  What is proved: the law of a region that draws its order, by properties: each operation of the head has a property of its value that stays when memory is made, and leans on those of the operations it waits for; behind the head reads in any order.
-/
namespace Go
open Go.RowKit
variable {P : Program} {ops : Array Oper}

/-- the values of operations, put one after another -/
def putL (dl : List (Option Tmp)) (val : Nat → Value) : List Nat → Act → Act
  | [], a => a
  | i :: l, a => putL dl val l (a.put (dl.getD i none) (val i))
theorem putL_append {dl : List (Option Tmp)} {val : Nat → Value} : ∀ (l1 l2 : List Nat) (a : Act), putL dl val (l1 ++ l2) a = putL dl val l2 (putL dl val l1 a)
  | [], _, _ => rfl
  | _ :: l1, l2, _ => putL_append l1 l2 _
theorem putL_congr {dl : List (Option Tmp)} {val val' : Nat → Value} : ∀ (l : List Nat) (a : Act), (∀ i ∈ l, val i = val' i) → putL dl val l a = putL dl val' l a
  | [], _, _ => rfl
  | i :: l, a, h => by
    unfold putL
    rw [h i (List.mem_cons_self ..)]
    exact putL_congr l _ fun j hj => h j (List.mem_cons_of_mem _ hj)
theorem putL_perm {dl : List (Option Tmp)} {val : Nat → Value} {l l' : List Nat} (hp : l.Perm l') : (∀ i ∈ l, ∀ j ∈ l, i ≠ j → ∀ d, dl.getD i none = some d → dl.getD j none ≠ some d) → ∀ a, putL dl val l a = putL dl val l' a := by
  induction hp with
  | nil => intro _ _; rfl
  | cons x _ ih => intro h a; exact ih (fun i hi j hj => h i (List.mem_cons_of_mem _ hi) j (List.mem_cons_of_mem _ hj)) _
  | swap x y l =>
    intro h a
    unfold putL
    unfold putL
    by_cases e : y = x
    · rw [e]
    · rw [Act.put_comm a (val y) (val x) (h y (by simp) x (by simp) e)]
  | trans h1 _ ih1 ih2 => intro h a; exact (ih1 h a).trans (ih2 (fun i hi j hj => h i (h1.mem_iff.2 hi) j (h1.mem_iff.2 hj)) a)
theorem execOp_putL {dl : List (Option Tmp)} {val : Nat → Value} {o : Oper} (hs : ∀ cs b, o.op ≠ .select cs b) : ∀ (l : List Nat) (a : Act), (∀ i ∈ l, ∀ d, dl.getD i none = some d → d ∉ o.looksAt ops) →
    execOp (putL dl val l a).eval o = execOp a.eval o
  | [], _, _ => rfl
  | i :: l, a, h => (execOp_putL hs l _ (fun j hj => h j (List.mem_cons_of_mem _ hj))).trans (execOp_put o hs a _ _ (h i (List.mem_cons_self ..)))

/-- for all values of these operations that have their properties -/
def depQ (dl : List (Option Tmp)) (R : List (Value → World → Prop)) (W : World) (K : Act → Prop) : List Nat → Act → Prop
  | [], a => K a
  | i :: l, a => ∀ v, R.getD i (fun _ _ => True) v W → depQ dl R W K l (a.put (dl.getD i none) v)
theorem depQ_of {dl : List (Option Tmp)} {R : List (Value → World → Prop)} {W : World} {K : Act → Prop} {val : Nat → Value} : ∀ (l : List Nat) (a : Act), depQ dl R W K l a → (∀ j ∈ l, R.getD j (fun _ _ => True) (val j) W) → K (putL dl val l a)
  | [], _, h, _ => h
  | i :: l, a, h, hv => depQ_of l _ (h (val i) (hv i (List.mem_cons_self ..))) fun j hj => hv j (List.mem_cons_of_mem _ hj)
/-- what is asked of the operations of the head, each with those it leans on -/
def oblQ (P : Program) (dl : List (Option Tmp)) (R : List (Value → World → Prop)) (w0 : World) (a : Act) : List (Oper × List Nat × (Value → World → Prop)) → Prop
  | [] => True
  | (o, D, r) :: l => (∀ K : Value → World → Prop, (∀ v W, r v W → K v W) → ∀ n x, depQ dl R (w0.plus n x) (fun a' => o.goes P a' (w0.plus n x) K) D a) ∧ oblQ P dl R w0 a l
theorem oblQ_at {dl : List (Option Tmp)} {R : List (Value → World → Prop)} {w0 : World} {a : Act} : ∀ (l : List (Oper × List Nat × (Value → World → Prop))), oblQ P dl R w0 a l → ∀ (i : Nat) (o : Oper) (D : List Nat) (r : Value → World → Prop), l[i]? = some (o, D, r) →
    ∀ W, w0.grows W → depQ dl R W (fun a' => Oper.goes P o a' W r) D a
  | [], _, i, o, D, r, h => by simp at h
  | _ :: l, hl, 0, o, D, r, h => by
    cases Option.some.inj h
    intro W hg
    obtain ⟨n, x, rfl⟩ := World.plus_of hg
    exact hl.1 r (fun _ _ h => h) n x
  | _ :: l, hl, i + 1, o, D, r, h => oblQ_at l hl.2 i o D r (by simpa using h)

def Region.invB (ops : Array Oper) (n : Nat) (ds : List (List Nat)) (dl : List (Option Tmp)) : Bool :=
  Region.mixB ops n [] && decide (n ≤ ops.size) &&
  (List.range n).all (fun i => match ops[i]? with
    | some o => o.guard.isNone && decide (dl.getD i none = o.dst) && (ds.getD i []).all (fun j => decide (j < n) && Region.waitsFor .any ops i j) && decide ((ds.getD i []).Nodup) &&
        (List.range n).all (fun j => decide (j = i) || (decide (dl.getD i none = none) || decide (dl.getD j none ≠ dl.getD i none)) && ((ds.getD i []).contains j || match dl.getD j none with | some d => !(o.looksAt ops).contains d | none => true))
    | none => false)

theorem wpAny_of_inv {w0 : World} {a : Act} {R : List (Value → World → Prop)} {Q : Exit → Act → World → Prop} {n : Nat} {ds : List (List Nat)} {dl : List (Option Tmp)} (hB : Region.invB ops n ds dl = true)
    (hheads0 : ∀ (listed : Array Bool) (i0 : Nat), HeadInv .any ops n listed → i0 < n → listed.getD i0 true = false → ∀ t ∈ Region.ready .any ops listed, t < n)
    (hR : ∀ i, Stays (R.getD i (fun _ _ => True)))
    (hop : ∀ i o, i < n → ops[i]? = some o → ∀ W, w0.grows W → depQ dl R W (fun a' => o.goes P a' W (R.getD i (fun _ _ => True))) (ds.getD i []) a)
    (hK : ∀ val W, w0.grows W → (∀ i, i < n → R.getD i (fun _ _ => True) (val i) W) → ∀ listed, HeadInv .any ops n listed → (∀ i, i < n → listed.getD i false = true) → wpAny P .any ops Q (ops.size - n) listed (putL dl val (List.range n) a) W) :
    ∀ (cnt : Nat) (L U : List Nat) (listed : Array Bool) (val : Nat → Value) (W : World), U.length = cnt → L.Nodup → U.Nodup → (∀ i, i ∈ L ↔ i < n ∧ listed.getD i false = true) → (∀ i, i ∈ U ↔ i < n ∧ listed.getD i false = false) →
      HeadInv .any ops n listed → w0.grows W → (∀ i ∈ L, R.getD i (fun _ _ => True) (val i) W) → wpAny P .any ops Q (cnt + (ops.size - n)) listed (putL dl val L a) W := by
  simp only [Region.invB, Bool.and_eq_true, decide_eq_true_eq] at hB
  obtain ⟨⟨hmix, hnle⟩, hall⟩ := hB
  simp only [Region.mixB, Bool.and_eq_true, decide_eq_true_eq] at hmix
  obtain ⟨⟨⟨hsel, _⟩, _⟩, hedge⟩ := hmix
  have hsp := Region.noSelect_spec hsel
  have spec : ∀ i o, i < n → ops[i]? = some o → o.guard = none ∧ dl.getD i none = o.dst ∧ (∀ j ∈ ds.getD i [], j < n ∧ Region.waitsFor .any ops i j = true) ∧ (ds.getD i []).Nodup ∧
      ∀ j, j < n → j ≠ i → (∀ d, dl.getD i none = some d → dl.getD j none ≠ some d) ∧ (j ∉ ds.getD i [] → ∀ d, dl.getD j none = some d → d ∉ o.looksAt ops) := by
    intro i o hi ho
    have h1 := List.all_eq_true.1 hall i (List.mem_range.2 hi)
    simp only [ho, Bool.and_eq_true, decide_eq_true_eq] at h1
    obtain ⟨⟨⟨⟨g1, g2⟩, g3⟩, g4⟩, g5⟩ := h1
    refine ⟨by simpa using g1, g2, fun j hj => ?_, g4, fun j hj hji => ?_⟩
    · have := List.all_eq_true.1 g3 j hj
      simpa using this
    · have h2 := List.all_eq_true.1 g5 j (List.mem_range.2 hj)
      simp only [Bool.or_eq_true, Bool.and_eq_true, decide_eq_true_eq] at h2
      rcases h2 with h2 | ⟨h2, h3⟩
      · exact absurd h2 hji
      · refine ⟨fun d hd hj' => ?_, fun hnd d hd => ?_⟩
        · rcases h2 with h2 | h2
          · rw [hd] at h2; cases h2
          · exact h2 (hj'.trans hd.symm)
        · rcases h3 with h3 | h3
          · exact absurd (by simpa using h3) hnd
          · rw [hd] at h3
            simpa using h3
  have edgeOf : ∀ i o, i < n → ops[i]? = some o → ∀ e ∈ o.after, Region.binds .any e = true → e.on < i := by
    intro i o hi ho e he hb
    have h1 := List.all_eq_true.1 hedge i (List.mem_range.2 hi)
    simp only [ho, Bool.and_eq_true] at h1
    have h2 := Array.all_eq_true_iff_forall_mem.1 h1.1 e he
    simpa only [hb, Bool.not_true, Bool.false_or, decide_eq_true_eq] using h2
  have unwait : ∀ (listed : Array Bool) (i j : Nat), i ∈ Region.ready .any ops listed → Region.waitsFor .any ops i j = true → listed.getD j false = true := by
    intro listed i j hi hw
    obtain ⟨oi, hoi, e, he, hb, hon⟩ := Region.waitsFor_spec hw
    obtain ⟨_, o', ho', hall⟩ := mem_ready.1 hi
    rw [hoi] at ho'; cases ho'
    have := hall e he hb
    rwa [hon] at this
  have at_lt : ∀ i, i < n → ∃ o, ops[i]? = some o := fun i hi => ⟨ops[i]'(by omega), Array.getElem?_eq_getElem (by omega)⟩
  have dst_ne : ∀ i, i < n → ∀ j, j < n → i ≠ j → ∀ d, dl.getD i none = some d → dl.getD j none ≠ some d := fun i hi j hj hij => by
    obtain ⟨o, ho⟩ := at_lt i hi
    exact ((spec i o hi ho).2.2.2.2 j hj (Ne.symm hij)).1
  intro cnt
  induction cnt with
  | zero =>
    intro L U listed val W hc hL hU hLm hUm inv hg hv
    have he : U = [] := List.eq_nil_of_length_eq_zero hc
    have hl : ∀ i, i < n → listed.getD i false = true := fun i hi => by
      cases h : listed.getD i false with
      | true => rfl
      | false =>
        have := (hUm i).2 ⟨hi, h⟩
        rw [he] at this
        cases this
    have hp : L.Perm (List.range n) := (List.perm_ext_iff_of_nodup hL List.nodup_range).2 fun i => by
      rw [hLm, List.mem_range]
      exact ⟨fun h => h.1, fun h => ⟨h, hl i h⟩⟩
    rw [Nat.zero_add, putL_perm hp (fun i hi j hj hij => dst_ne i ((hLm i).1 hi).1 j ((hLm j).1 hj).1 hij)]
    exact hK val W hg (fun i hi => hv i ((hLm i).2 ⟨hi, hl i hi⟩)) listed inv hl
  | succ cnt ih =>
    intro L U listed val W hc hL hU hLm hUm inv hg hv
    rw [show cnt + 1 + (ops.size - n) = (cnt + (ops.size - n)) + 1 by omega]
    obtain ⟨i0, hi0⟩ : ∃ i, i ∈ U := by
      cases U with
      | nil => simp at hc
      | cons x _ => exact ⟨x, List.mem_cons_self ..⟩
    have hi0' := (hUm i0).1 hi0
    have hheads := hheads0 listed i0 inv hi0'.1 (getD_in (by rw [inv.size]; omega) hi0'.2)
    have least : ∀ i, i < n → listed.getD i false = false → ∃ t, t ∈ Region.ready .any ops listed := by
      intro i
      induction i using Nat.strongRecOn with
      | _ i ih2 =>
        intro hi hl
        obtain ⟨o, ho⟩ := at_lt i hi
        by_cases h : ∃ e ∈ o.after, Region.binds .any e = true ∧ listed.getD e.on false = false
        · obtain ⟨e, he, hb, hel⟩ := h
          have := edgeOf i o hi ho e he hb
          exact ih2 e.on this (by omega) hel
        · refine ⟨i, mem_ready.2 ⟨getD_in (by rw [inv.size]; omega) hl, o, ho, fun e he hb => ?_⟩⟩
          cases hq : listed.getD e.on false with
          | true => rfl
          | false => exact absurd ⟨e, he, hb, hq⟩ h
    refine ⟨fun hnil => ?_, fun i hi => ?_⟩
    · exfalso
      obtain ⟨t, ht⟩ := least i0 hi0'.1 hi0'.2
      rw [hnil] at ht
      cases ht
    · have hin := hheads i hi
      have hl : listed.getD i false = false := getD_both (mem_ready.1 hi).1
      have inv' := inv.set hi hin
      obtain ⟨o, ho⟩ := at_lt i hin
      obtain ⟨sg, sd, sw, snd, sl⟩ := spec i o hin ho
      have set_ne : ∀ j, j ≠ i → (listed.setIfInBounds i true).getD j false = listed.getD j false := fun j hji => getD_set_ne false (Ne.symm hji)
      have set_self : (listed.setIfInBounds i true).getD i false = true := by
        have : i < listed.size := by rw [inv.size]; omega
        simp [this]
      have hiL : i ∉ L := fun h => by
        have := ((hLm i).1 h).2
        rw [hl] at this; cases this
      have hDL : ∀ j ∈ ds.getD i [], j ∈ L := fun j hj => (hLm j).2 ⟨(sw j hj).1, unwait listed i j hi (sw j hj).2⟩
      have hexec : execOp (putL dl val L a).eval o = execOp (putL dl val (ds.getD i []) a).eval o := by
        have hp : L.Perm (ds.getD i [] ++ L.filter fun j => !(ds.getD i []).contains j) := by
          refine (List.perm_ext_iff_of_nodup hL (List.nodup_append.2 ⟨snd, hL.filter _, fun x hx y hy e => ?_⟩)).2 fun j => ?_
          · subst e
            have h3 : (ds.getD i []).contains x = true := List.contains_iff_mem.2 hx
            have h4 := (List.mem_filter.1 hy).2
            simp only [h3] at h4
            cases h4
          · rw [List.mem_append, List.mem_filter]
            constructor
            · intro hj
              by_cases h : j ∈ ds.getD i []
              · exact .inl h
              · exact .inr ⟨hj, by simpa using h⟩
            · rintro (h | h)
              · exact hDL j h
              · exact h.1
        rw [putL_perm hp (fun i hi j hj hij => dst_ne i ((hLm i).1 hi).1 j ((hLm j).1 hj).1 hij), putL_append]
        refine execOp_putL (ops := ops) (fun cs b => hsp i o cs b ho) _ _ fun j hj d hd => ?_
        obtain ⟨h1, h2⟩ := List.mem_filter.1 hj
        refine (sl j ((hLm j).1 h1).1 (fun e => hiL (e ▸ h1))).2 (by simpa using h2) d hd
      have hgo := depQ_of (val := val) _ _ (hop i o hin ho W hg) (fun j hj => hv j (hDL j hj))
      have hrest : ∀ v W', W.grows W' → R.getD i (fun _ _ => True) v W' → wpAny P .any ops Q (cnt + (ops.size - n)) (listed.setIfInBounds i true) ((putL dl val L a).put o.dst v) W' := by
        intro v W' g hr
        have e : (putL dl val L a).put o.dst v = putL dl (fun k => if k = i then v else val k) (L ++ [i]) a := by
          rw [putL_append, putL_congr (val' := fun k => if k = i then v else val k) L a (fun j hj => (if_neg (fun h => hiL (by rw [← h]; exact hj))).symm)]
          simp only [putL, if_true, sd]
        rw [e]
        refine ih (L ++ [i]) (U.erase i) _ _ W' ?_ ?_ (hU.erase _) (fun j => ?_) (fun j => ?_) inv' (hg.trans g) (fun j hj => ?_)
        · have := List.length_erase_of_mem ((hUm i).2 ⟨hin, hl⟩)
          omega
        · rw [List.nodup_append]
          refine ⟨hL, List.nodup_cons.2 ⟨by simp, List.nodup_nil⟩, fun x hx y hy e => ?_⟩
          rw [List.mem_singleton] at hy
          exact hiL (by rw [← hy, ← e]; exact hx)
        · rw [List.mem_append, List.mem_singleton, hLm]
          by_cases hji : j = i
          · subst hji
            simp [set_self, hin]
          · rw [set_ne j hji]
            simp [hji]
        · rw [hU.mem_erase_iff, hUm]
          by_cases hji : j = i
          · subst hji
            simp [set_self]
          · rw [set_ne j hji]
            simp [hji]
        · rcases List.mem_append.1 hj with hj | hj
          · have : j ≠ i := fun h => hiL (by rw [← h]; exact hj)
            show R.getD j _ (if j = i then v else val j) W'
            rw [if_neg this]
            exact hR j _ _ _ (hv j hj) g
          · rw [List.mem_singleton] at hj
            subst hj
            show R.getD j _ (if j = j then v else val j) W'
            rw [if_pos rfl]
            exact hr
      unfold wpOp
      simp only [ho]
      rw [if_pos (by simp [Region.wanted, sg])]
      refine .inl ?_
      unfold Oper.wp
      unfold Oper.goes at hgo
      rw [hexec]
      generalize (execOp (putL dl val (ds.getD i []) a).eval o).run P W = r at *
      cases r with
      | halt z w' => simp only [goesUpon] at hgo
      | ok nx w' =>
        cases nx <;> simp only [goesUpon] at hgo <;> simp only [Oper.upon]
        case value u => exact hrest _ _ hgo.1 hgo.2
        case skip => exact hrest _ _ hgo.1 hgo.2
        case enter f args =>
          obtain ⟨rfl, hcall⟩ := hgo
          refine hcall.mono fun e w'' ⟨v, he, g, hp⟩ => ?_
          subst he
          exact hrest _ _ g hp

def Region.invRestB (ops : Array Oper) (n : Nat) (ds : List (List Nat)) (dl : List (Option Tmp)) : Bool :=
  Region.invB ops n ds dl && decide (n < ops.size) && Region.sinkB .any ops n && Region.restB ops n && Region.mixB ops ops.size []

def zipQ : List Oper → List (List Nat) → List (Value → World → Prop) → List (Oper × List Nat × (Value → World → Prop))
  | o :: l, D :: ds, r :: R => (o, D, r) :: zipQ l ds R
  | _, _, _ => []
theorem zipQ_at : ∀ (l : List Oper) (ds : List (List Nat)) (R : List (Value → World → Prop)), l.length ≤ ds.length → l.length ≤ R.length → ∀ i o, l[i]? = some o → (zipQ l ds R)[i]? = some (o, ds.getD i [], R.getD i (fun _ _ => True))
  | [], _, _, _, _, i, o, h => by simp at h
  | _ :: _, [], _, h1, _, _, _, _ => by simp at h1
  | _ :: _, _ :: _, [], _, h2, _, _, _ => by simp at h2
  | x :: l, D :: ds, r :: R, _, _, 0, o, h => by cases Option.some.inj h; rfl
  | x :: l, D :: ds, r :: R, h1, h2, i + 1, o, h => by
    have := zipQ_at l ds R (by simpa using h1) (by simpa using h2) i o (by simpa using h)
    simpa [zipQ] using this

/-- operations that make memory, each with a property that stays, and behind all of them (from n on) operations that only read, in any order -/
theorem wp_region_inv {id : Nat} {Q : Exit → Act → World → Prop} {a : Act} {w : World} {l : List Oper} (n : Nat) (ds : List (List Nat)) (dl : List (Option Tmp)) (R : List (Value → World → Prop)) (hm : P.follows .mixedOrders = true)
    (hB : (Region.invRestB l.toArray n ds dl && decide (n ≤ ds.length)) = true) (hn : n ≤ l.length) (hRn : n ≤ R.length) (hR : ∀ r ∈ R, Stays r)
    (hop : oblQ P dl R w a (zipQ (l.take n) ds R))
    (h : ∀ n' x, depQ dl R (w.plus n' x) (fun a'' => wpCalm P l.toArray (w.plus n' x) (fun a3 => ∀ k y, Q .normal a3 ((w.plus n' x).plus k y)) (l.drop n) a'') (List.range n) a) : (Code.region id l.toArray true).wp P Q a w := by
  simp only [Region.invRestB, Bool.and_eq_true, decide_eq_true_eq] at hB
  obtain ⟨⟨⟨⟨⟨hinv, hlt⟩, hsink⟩, hrest⟩, hmix⟩, hds⟩ := hB
  refine wp_region_any hm ?_
  obtain ⟨n0, x0, h0⟩ := World.more_drew w
  rw [h0]
  have key := wpAny_of_inv (P := P) (ops := l.toArray) (w0 := w) (a := a) (R := R) (Q := Q) (n := n) (ds := ds) (dl := dl) hinv
    (fun listed i0 inv hi0 hun0 t ht => by
      rcases Nat.lt_or_ge t n with h | h
      · exact h
      · exact absurd ht (rest_waits hsink hrest hlt inv _ i0 rfl hi0 hun0 t h))
    (fun i => by
      rw [List.getD_eq_getElem?_getD]
      cases hi : R[i]? with
      | none => exact fun _ _ _ _ _ => trivial
      | some r => exact hR r (List.mem_of_getElem? hi))
    (fun i o hi ho W hg => oblQ_at _ hop i o _ _ (zipQ_at (l.take n) ds R (by simp; omega) (by simp; omega) i o (by rw [List.getElem?_take, if_pos hi]; simpa using ho)) W hg)
    (fun val W hg hv listed inv hall => by
      obtain ⟨n', x, rfl⟩ := World.plus_of hg
      exact wpAny_calm_rest (by simpa using hmix) hn inv hall (depQ_of (val := val) _ _ (h n' x) fun j hj => hv j (List.mem_range.1 hj)))
    n [] (List.range n) (Array.replicate l.toArray.size false) (fun _ => undef) (w.plus n0 x0) (by simp) List.nodup_nil List.nodup_range
    (fun i => ⟨fun h => absurd h List.not_mem_nil, fun h => by rw [getD_replicate_false] at h; exact absurd h.2 (by decide)⟩)
    (fun i => by rw [List.mem_range, getD_replicate_false]; exact ⟨fun h => ⟨h, rfl⟩, fun h => h.1⟩)
    (headInv_start n) (World.grows_plus _ _ _) (fun i hi => by cases hi)
  rw [show n + (l.toArray.size - n) = l.toArray.size by omega] at key
  exact key
end Go

/-
  What is proved: rows of whole numbers of the call's own, that are written to by place.
-/
namespace Go
open Go.RowKit

def rowI (n : Nat) (f : Nat → Int) : Array Value := ((List.range n).map fun i => Value.int .i64 (f i)).toArray
def updI (f : Nat → Int) (i : Nat) (x : Int) : Nat → Int := fun k => if k = i then x else f k
theorem rowI_size (n : Nat) (f : Nat → Int) : (rowI n f).size = n := by simp [rowI]
theorem rowI_get (n : Nat) (f : Nat → Int) (i : Nat) (h : i < n) : (rowI n f)[i]? = some (.int .i64 (f i)) := by simp [rowI, h]
theorem rowI_set (n : Nat) (f : Nat → Int) (i : Nat) (x : Int) (h : i < n) : (rowI n f).setIfInBounds i (.int .i64 x) = rowI n (updI f i x) := by
  unfold rowI updI
  apply Array.ext_getElem?
  intro k
  rw [Array.getElem?_setIfInBounds]
  by_cases hk : i = k
  · subst hk; simp [h]
  · by_cases hkn : k < n
    · simp [hk, hkn, Ne.symm hk, show ¬ k = i from fun e => hk e.symm]
    · simp [hk, hkn]
theorem rowI_zero (n : Nat) : rowI n (fun _ => 0) = Array.replicate n (.int .i64 0) := by
  unfold rowI
  apply Array.ext_getElem?
  intro k
  by_cases hk : k < n <;> simp [hk, Array.getElem?_replicate]
theorem rowI_congr {n : Nat} {f g : Nat → Int} (h : ∀ i, i < n → f i = g i) : rowI n f = rowI n g := by
  unfold rowI
  congr 1
  apply List.map_congr_left
  intro i hi
  rw [h i (by simpa using hi)]
theorem rowI_cell {W : World} {b n : Nat} {f : Nat → Int} {t : TypeId} (h : W.heap[b]? = some (.cells (rowI n f) t)) {i : Nat} (hi : i < n) : W.cell? ⟨b, i, none⟩ = some (.int .i64 (f i)) := by
  unfold World.cell?
  simp only [h]
  exact rowI_get n f i hi
theorem rowI_frozen {W : World} {b n : Nat} {f : Nat → Int} {t : TypeId} (h : W.heap[b]? = some (.cells (rowI n f) t)) (i : Nat) : W.frozen? ⟨b, i, none⟩ = false := by
  unfold World.frozen?
  simp only [h]
  simp
theorem rowI_store {W : World} {b n : Nat} {f : Nat → Int} {t : TypeId} (h : W.heap[b]? = some (.cells (rowI n f) t)) {i : Nat} (hi : i < n) (x : Int) : (W.setCell ⟨b, i, none⟩ (.int .i64 x)).heap[b]? = some (.cells (rowI n (updI f i x)) t) := by
  unfold World.setCell
  simp only [Array.getElem?_modify, h, if_true, Option.map_some]
  have := rowI_set n f i x hi
  simp only [Option.isSome_none, Bool.false_eq_true, if_false, this]
theorem rowI_other {W : World} {b b' i : Nat} {v : Value} {o : Obj} (h : W.heap[b]? = some o) (hb : b' ≠ b) : (W.setCell ⟨b', i, none⟩ v).heap[b]? = some o := by
  unfold World.setCell
  simp only [Array.getElem?_modify, if_neg hb]
  exact h
theorem rowI_ints {W : World} {b n : Nat} {f : Nat → Int} {t : TypeId} (h : W.heap[b]? = some (.cells (rowI n f) t)) (hn : n ≤ maxLen) : IntsAt W (.slice (some ⟨b, 0, none⟩) n n) n f :=
  ⟨_, _, rfl, Nat.le_refl _, hn, fun i j hi hj => ⟨_, _, rfl, by
    have : j = 0 := by omega
    subst this
    simpa using rowI_cell h hi⟩⟩
theorem run_make_rowI {P : Program} (w : World) (t e : TypeId) (bytes : Nat) (ht : P.underlying t = some (.slice e)) (hi : P.knows e (.int .i64 0) 1 bytes) (n : Nat) (hb : bytes * n ≤ 281474976710656) (hn : n ≤ 9223372036854775807) :
    (Instr.makeSlice t (.int .i64 n) (.int .i64 n)).run P w = .ok (.slice (some ⟨w.heap.size, 0, none⟩) n n) (w.alloc (.cells (rowI n fun _ => 0) e)) := by
  rw [run_make_row w t e bytes ht hi n hb hn, rowI_zero, rowA_zero]

theorem two_made (w : World) (o o' : Obj) : ((w.alloc o).alloc o').drew.heap[w.heap.size]? = some o ∧ ((w.alloc o).alloc o').drew.heap[w.heap.size + 1]? = some o' := by
  constructor
  · show ((w.heap.push o).push o')[w.heap.size]? = some o
    rw [Array.getElem?_push, if_neg (by simp), Array.getElem?_push, if_pos rfl]
  · show ((w.heap.push o).push o')[w.heap.size + 1]? = some o'
    rw [Array.getElem?_push, if_pos (by simp)]
/-- a region that draws, cut at its end: all orders lead to one of the frames that f tells, in a world of which R holds -/
def cutE (N : Act → World → Prop) : Exit → Act → World → Prop := fun e a W => match e with | .normal => N a W | _ => False
theorem region_cutA {P : Program} {C : Code} {Q : Exit → Act → World → Prop} {a : Act} {w : World} {α : Type} (R : World → α → Prop) (f : Act → α → Act)
    (h2 : ∀ N : Act → World → Prop, (∀ W x, R W x → N (f a x) W) → C.wp P (cutE N) a w) (h1 : ∀ W x, R W x → Q .normal (f a x) W) : C.wp P Q a w :=
  Code.wp_mono (fun e a W h => by cases e <;> simp only [cutE] at h; exact h) (h2 (fun a W => Q .normal a W) h1)
end Go

/-
  What is proved: small things that the walks of layer 11 lean on.
-/
namespace Go.Proofs.Ytaanbdjmibjcbaa
open Go.RowKit

@[go_sem] theorem run_store_func (P : Program) (w : World) (a : Addr) (m : Mode) (f : Fn) (b c : Array Value) : (store a (.func f b c) m).run P w = stored P w a (.func f b c) m := run_store P w a _ m rfl
theorem cell_of_heap {w : World} {b i : Nat} {A : Array Value} {t : TypeId} {v : Value} (h : w.heap[b]? = some (.cells A t)) (hA : A[i]? = some v) : w.cell? ⟨b, i, none⟩ = some v := by
  unfold World.cell?
  simp only [h]
  exact hA
theorem frozen_of_heap {w : World} {b : Nat} {A : Array Value} {t : TypeId} (h : w.heap[b]? = some (.cells A t)) (i : Nat) : w.frozen? ⟨b, i, none⟩ = false := by
  unfold World.frozen?
  simp only [h]
  simp
theorem store_of_heap {w : World} {b : Nat} {A : Array Value} {t : TypeId} (h : w.heap[b]? = some (.cells A t)) (i : Nat) (v : Value) : (w.setCell ⟨b, i, none⟩ v).heap[b]? = some (.cells (A.setIfInBounds i v) t) := by
  unfold World.setCell
  simp only [Array.getElem?_modify, h, if_true, Option.map_some]
  simp
theorem any_false_of {q : Nat → Bool} {n : Nat} (h : ∀ i, i < n → q i = false) : (List.range n).any q = false := by
  simp only [List.any_eq_false, List.mem_range, Bool.not_eq_true]; exact h
theorem any_true_of {q : Nat → Bool} {n i : Nat} (hi : i < n) (h : q i = true) : (List.range n).any q = true :=
  List.any_eq_true.2 ⟨i, by simpa using hi, h⟩
theorem all_not_any {q : Nat → Bool} {n : Nat} : (List.range n).all q = !(List.range n).any fun i => !q i := by
  cases h : (List.range n).all q with
  | true =>
    rw [any_false_of fun i hi => by rw [List.all_eq_true.1 h i (List.mem_range.2 hi)]; rfl]
    rfl
  | false =>
    obtain ⟨i, hi, hq⟩ := List.all_eq_false.1 h
    rw [any_true_of (List.mem_range.1 hi) (by simpa using hq)]
    rfl
theorem upto_succ {p : Nat → Prop} {k : Nat} (h : ∀ j, j < k → p j) (hk : p k) : ∀ j, j < k + 1 → p j := fun j hj => by
  rcases Nat.lt_or_ge j k with h' | h'
  · exact h j h'
  · have : j = k := by omega
    subst this; exact hk
theorem wrapI {n m : Int} (h : n = m) (h2 : -9223372036854775808 ≤ n ∧ n ≤ 9223372036854775807) : IntKind.i64.wrap n = m := by
  rw [IntKind.wrap_i64]; omega
theorem one_slice (w : World) (v : Value) (t b : Nat) (hb : b = w.heap.size) : SliceAt (w.alloc (.cells #[v] t)) (.slice (some ⟨b, 0, none⟩) 1 1) 1 1 (fun _ _ => v) := by
  subst hb
  refine ⟨_, _, rfl, by omega, by unfold maxLen; omega, fun i j hi hj => ⟨_, _, rfl, ?_⟩⟩
  have hi0 : i = 0 := by omega
  have hj0 : j = 0 := by omega
  subst hi0; subst hj0
  simp [go_sem]
theorem two_ints (w : World) (x y : Int) (t b : Nat) (hb : b = w.heap.size) : IntsAt (w.alloc (.cells #[.int .i64 x, .int .i64 y] t)) (.slice (some ⟨b, 0, none⟩) 2 2) 2 (fun i => if i = 0 then x else y) := by
  subst hb
  refine ⟨_, _, rfl, by omega, by unfold maxLen; omega, fun i j hi hj => ⟨_, _, rfl, ?_⟩⟩
  have hi0 : i = 0 ∨ i = 1 := by omega
  have hj0 : j = 0 := by omega
  subst hj0
  rcases hi0 with rfl | rfl <;> simp [go_sem]
theorem el3 : Try.prog.knows 3 (.int .i64 0) 1 8 := Program.knows_of (by kernel_rfl)
theorem one_cell (x : Int) : ∀ u ∈ tableL 1 1 (fun _ _ => Value.int .i64 x), u.oneCell' = true := by
  intro u hu; rw [tableL_one] at hu; simp at hu; subst hu; rfl
theorem two_any (q : Int → Bool) (x y : Int) : ((List.range 2).any fun i => q (if i = 0 then x else y)) = (q x || q y) := by
  simp [List.range_succ]
/-- several blocks more -/
def allocs (w : World) : List Obj → World
  | [] => w
  | o :: l => allocs (w.alloc o) l
theorem allocs_grows : ∀ (l : List Obj) (w : World), w.grows (allocs w l)
  | [], w => World.grows.refl w
  | o :: l, w => ((World.grows.refl w).alloc o).trans (allocs_grows l _)
theorem allocs_size : ∀ (l : List Obj) (w : World), (allocs w l).heap.size = w.heap.size + l.length
  | [], w => rfl
  | o :: l, w => by
    show (allocs (w.alloc o) l).heap.size = _
    rw [allocs_size l, World.size_alloc, List.length_cons]; omega
theorem allocs_at : ∀ (l : List Obj) (w : World) {i : Nat} {o : Obj}, l[i]? = some o → (allocs w l).heap[w.heap.size + i]? = some o
  | [], _, _, _, h => by simp at h
  | o :: l, w, 0, o', h => by
    have : o = o' := by simpa using h
    subst this
    exact (allocs_grows l _).heap_of (World.heap_at _ _ _ rfl)
  | o :: l, w, i + 1, o', h => by
    have := allocs_at l (w.alloc o) (i := i) (o := o') (by simpa using h)
    rw [World.size_alloc] at this
    show (allocs (w.alloc o) l).heap[w.heap.size + (i + 1)]? = _
    rw [← this]; congr 1; omega
end Go.Proofs.Ytaanbdjmibjcbaa

/-
  What is proved: which towns are valid, in the program (49, 52, 55, 56, 19).
-/
namespace Go.Proofs.Ytaanbdjmibjcbaa
open Go.RowKit
attribute [local irreducible] Go.wpCalm

def outB (lo hi n : Int) : Bool := decide (n < lo) || decide (hi < n)
theorem outB_iff (lo hi n : Int) : outB lo hi n = true ↔ n < lo ∨ hi < n := by simp [outB]
set_option maxHeartbeats 1000000 in
theorem c85 (w : World) (b0 b1 : Nat) (lo hi n : Int) (h0 : w.cell? ⟨b0, 0, none⟩ = some (.int .i64 lo)) (h1 : w.cell? ⟨b1, 0, none⟩ = some (.int .i64 hi)) :
    Calls Try.prog 85 #[.int .i64 n, .pointer (some ⟨b0, 0, none⟩), .pointer (some ⟨b1, 0, none⟩)] w fun e w' => e = .returned (.bool (outB lo hi n)) ∧ w.grows w' := by
  unfold outB
  go_enter Try.func85, Try.ntmps85
  by_cases hl : n < lo
  · go_wp2
    go_ret
    exact ⟨by simp [hl], by (repeat (first | exact World.grows.refl _ | assumption | refine World.grows.alloc ?_ _ | refine World.grows.plus ?_ _ _ | refine World.grows.drew ?_))⟩
  · by_cases hh : hi < n
    · go_wp2
      go_ret
      exact ⟨by simp [hh], by (repeat (first | exact World.grows.refl _ | assumption | refine World.grows.alloc ?_ _ | refine World.grows.plus ?_ _ _ | refine World.grows.drew ?_))⟩
    · go_wp2
      go_ret
      exact ⟨by simp [hh, hl], by (repeat (first | exact World.grows.refl _ | assumption | refine World.grows.alloc ?_ _ | refine World.grows.plus ?_ _ _ | refine World.grows.drew ?_))⟩
set_option maxHeartbeats 1000000 in
theorem c49 (w : World) (lo hi : Int) (m : Nat) (f : Nat → Int) (sv : Value) (hs : IntsAt w sv m f) :
    Calls Try.prog 49 #[.int .i64 lo, .int .i64 hi, sv] w fun e w' => e = .returned (.bool (!(List.range m).any fun i => outB lo hi (f i))) ∧ w.grows w' := by
  have h85 : ∀ i, i < m → ∀ W : World, ((w.alloc (.cells #[.int .i64 lo] 2)).alloc (.cells #[.int .i64 hi] 2)).grows W → Calls Try.prog 85 (#[.int .i64 (f i)] ++ #[.pointer (some ⟨w.heap.size, 0, none⟩), .pointer (some ⟨w.heap.size + 1, 0, none⟩)]) W fun e w' => e = .returned (.bool (outB lo hi (f i))) ∧ W.grows w' := by
    intro i _ W hW
    have e0 : ((w.alloc (.cells #[.int .i64 lo] 2)).alloc (.cells #[.int .i64 hi] 2)).cell? ⟨w.heap.size, 0, none⟩ = some (.int .i64 lo) := by simp [go_sem]
    have e1 : ((w.alloc (.cells #[.int .i64 lo] 2)).alloc (.cells #[.int .i64 hi] 2)).cell? ⟨w.heap.size + 1, 0, none⟩ = some (.int .i64 hi) := by simp [go_sem]
    exact c85 W _ _ lo hi (f i) (by rw [hW.cell (by rw [e0]; rfl), e0]) (by rw [hW.cell (by rw [e1]; rfl), e1])
  have H85 := Lib.hid h85
  clear h85
  have Hs := Lib.hid hs
  go_enter Try.func49, Try.ntmps49
  go_wp2_with (refine (has84 _ _ m (fun i _ => .int .i64 (f i)) 85 _ (fun i => outB lo hi (f i)) (Hs.out.mono (by (repeat (first | exact World.grows.refl _ | assumption | refine World.grows.alloc ?_ _ | refine World.grows.plus ?_ _ _ | refine World.grows.drew ?_)))) (fun args w => (by simp [go_sem])) (fun i hi' W hW => H85.out i hi' W hW)).mono ?_; rintro e w' ⟨rfl, hg⟩; obtain ⟨n2, x2, rfl⟩ := World.plus_of hg)
  go_ret
  exact ⟨rfl, by (repeat (first | exact World.grows.refl _ | assumption | refine World.grows.alloc ?_ _ | refine World.grows.plus ?_ _ _ | refine World.grows.drew ?_))⟩
theorem c49two (w : World) (lo hi x y : Int) (sv : Value) (hs : IntsAt w sv 2 (fun i => if i = 0 then x else y)) :
    Calls Try.prog 49 #[.int .i64 lo, .int .i64 hi, sv] w fun e w' => e = .returned (.bool (!(outB lo hi x || outB lo hi y))) ∧ w.grows w' := by
  have h := c49 w lo hi 2 _ sv hs
  rw [two_any (outB lo hi)] at h
  exact h
theorem isPlace_iff (pl x : Int) (t : Town) (h : t.pl = pl) : t.isPlace x = (!decide (x < 0) && !decide (pl ≤ x)) := by
  unfold Town.isPlace
  rw [h]
  by_cases h1 : x < 0
  · have : ¬ 0 ≤ x := by omega
    simp [h1, this]
  · by_cases h2 : pl ≤ x
    · have : ¬ x < pl := by omega
      simp [h2, this]
    · have a : 0 ≤ x := by omega
      have b : x < pl := by omega
      simp [h1, h2, a, b]
set_option maxHeartbeats 1000000 in
theorem c54 (w : World) (t : Town) (b : Nat) (x : Int) (h0 : w.cell? ⟨b, 0, none⟩ = some (.int .i64 t.pl)) :
    Calls Try.prog 54 #[.int .i64 x, .pointer (some ⟨b, 0, none⟩)] w fun e w' => e = .returned (.bool (!t.isPlace x)) ∧ w.grows w' := by
  rw [isPlace_iff t.pl x t rfl]
  go_enter Try.func54, Try.ntmps54
  by_cases hl : x < 0
  · go_wp2
    go_ret
    exact ⟨by simp [hl], by (repeat (first | exact World.grows.refl _ | assumption | refine World.grows.alloc ?_ _ | refine World.grows.plus ?_ _ _ | refine World.grows.drew ?_))⟩
  · by_cases hh : t.pl ≤ x
    · go_wp2
      go_ret
      exact ⟨by simp [hh], by (repeat (first | exact World.grows.refl _ | assumption | refine World.grows.alloc ?_ _ | refine World.grows.plus ?_ _ _ | refine World.grows.drew ?_))⟩
    · go_wp2
      go_ret
      exact ⟨by simp [hh, hl], by (repeat (first | exact World.grows.refl _ | assumption | refine World.grows.alloc ?_ _ | refine World.grows.plus ?_ _ _ | refine World.grows.drew ?_))⟩
set_option maxHeartbeats 1000000 in
/-- the closure place -/
theorem c52 (w : World) (t : Town) (b : Nat) (h0 : w.cell? ⟨b, 0, none⟩ = some (.int .i64 t.pl)) (m : Nat) (f : Nat → Int) (sv : Value) (hs : IntsAt w sv m f) :
    Calls Try.prog 52 #[sv, .pointer (some ⟨b, 0, none⟩)] w fun e w' => e = .returned (.bool (!(List.range m).any fun i => !t.isPlace (f i))) ∧ w.grows w' := by
  have H54 : Hid (∀ W : World, w.grows W → ∀ i, i < m → ∀ W', W.grows W' → Calls Try.prog 54 (#[.int .i64 (f i)] ++ #[.pointer (some ⟨b, 0, none⟩)]) W' fun e w' => e = .returned (.bool (!t.isPlace (f i))) ∧ W'.grows w') := Lib.hid fun W hW i _ W' hW' => c54 W' t b (f i) (World.grows.cell_of (World.grows.trans hW hW') h0)
  have Hs := Lib.hid hs
  obtain ⟨sa, sc, rfl, -, -, -⟩ := hs
  clear h0
  go_enter Try.func52, Try.ntmps52
  go_wp2_with (refine (has53 _ _ m (fun i _ => .int .i64 (f i)) 54 _ (fun i => !t.isPlace (f i)) (Hs.out.mono (by (repeat (first | exact World.grows.refl _ | assumption | refine World.grows.alloc ?_ _ | refine World.grows.plus ?_ _ _ | refine World.grows.drew ?_)))) (fun args w => (by simp [go_sem])) (fun i hi' W hW => H54.out _ (by (repeat (first | exact World.grows.refl _ | assumption | refine World.grows.alloc ?_ _ | refine World.grows.plus ?_ _ _ | refine World.grows.drew ?_))) i hi' W hW)).mono ?_; rintro e w' ⟨rfl, hg⟩; obtain ⟨n2, x2, rfl⟩ := World.plus_of hg)
  go_ret
  exact ⟨rfl, by (repeat (first | exact World.grows.refl _ | assumption | refine World.grows.alloc ?_ _ | refine World.grows.plus ?_ _ _ | refine World.grows.drew ?_))⟩
/-- a closure that lies in a box -/
def FnBox (w : World) (b f p : Nat) : Prop := w.cell? ⟨b, 0, none⟩ = some (.func (.func f) #[] #[.pointer (some ⟨p, 0, none⟩)])
theorem goodS_iff (t : Town) (i : Nat) : t.goodS i = ((!(!t.isPlace (t.sa i) || !t.isPlace (t.sb i))) && !decide (t.sa i = t.sb i) && decide (t.slo i ≤ t.shi i) && !(outB 1 1000 (t.slo i) || outB 1 1000 (t.shi i))) := by
  unfold Town.goodS
  have e : ∀ {a b : Bool}, (a = true ↔ b = true) → a = b := fun {a b} h => by cases a <;> cases b <;> simp_all
  apply e
  simp only [Bool.and_eq_true, Bool.not_eq_true', Bool.or_eq_false_iff, Bool.not_eq_false', outB, decide_eq_true_eq, decide_eq_false_iff_not]
  constructor
  · rintro ⟨⟨⟨⟨⟨h1, h2⟩, h3⟩, h4⟩, h5⟩, h6⟩
    exact ⟨⟨⟨⟨h1, h2⟩, h3⟩, h5⟩, by omega⟩
  · rintro ⟨⟨⟨⟨h1, h2⟩, h3⟩, h5⟩, h6⟩
    exact ⟨⟨⟨⟨⟨h1, h2⟩, h3⟩, by omega⟩, h5⟩, by omega⟩
set_option maxHeartbeats 2000000 in
theorem c55 (w : World) (t : Town) (i : Nat) (fb tb : Nat) (h0 : w.cell? ⟨fb, 0, none⟩ = some (.func (.func 52) #[] #[.pointer (some ⟨tb, 0, none⟩)])) (h1 : w.cell? ⟨tb, 0, none⟩ = some (.int .i64 t.pl)) :
    Calls Try.prog 55 #[.agg #[.int .i64 (t.sa i), .int .i64 (t.sb i), .int .i64 (t.slo i), .int .i64 (t.shi i)], .pointer (some ⟨fb, 0, none⟩)] w fun e w' => e = .returned (.bool (t.goodS i)) ∧ w.grows w' := by
  have HG := Lib.hid (goodS_iff t i)
  have H52 : Hid (∀ W : World, w.grows W → ∀ sv, IntsAt W sv 2 (fun k => if k = 0 then t.sa i else t.sb i) → Calls Try.prog 52 #[sv, .pointer (some ⟨tb, 0, none⟩)] W fun e w' => e = .returned (.bool (!(!t.isPlace (t.sa i) || !t.isPlace (t.sb i)))) ∧ W.grows w') := Lib.hid fun W hW sv hs => by
    have h := c52 W t tb (World.grows.cell_of hW h1) 2 _ sv hs
    rw [two_any fun x => !t.isPlace x] at h
    exact h
  clear h1
  go_enter Try.func55, Try.ntmps55
  go_wp2_with (go_at_call 99; fail)
  refine (H52.out _ (by (repeat (first | exact World.grows.refl _ | assumption | refine World.grows.alloc ?_ _ | refine World.grows.plus ?_ _ _ | refine World.grows.drew ?_))) _ (two_ints _ _ _ _ _ (by simp))).mono ?_
  rintro e w' ⟨rfl, hg⟩
  obtain ⟨n2, x2, rfl⟩ := World.plus_of hg
  have G := HG.out
  generalize (!(!t.isPlace (t.sa i) || !t.isPlace (t.sb i))) = q at G ⊢
  have H49 : Hid (∀ (W : World) sv, IntsAt W sv 2 (fun k => if k = 0 then t.slo i else t.shi i) → Calls Try.prog 49 #[.int .i64 1, .int .i64 1000, sv] W fun e w' => e = .returned (.bool (!(outB 1 1000 (t.slo i) || outB 1 1000 (t.shi i)))) ∧ W.grows w') := Lib.hid fun W sv hs => c49two W 1 1000 _ _ sv hs
  generalize (!(outB 1 1000 (t.slo i) || outB 1 1000 (t.shi i))) = q4 at G H49
  have G2 := Lib.hid G
  clear G HG H52
  cases q with
  | false =>
    go_wp2
    (refine bodyPost_ret (v := .bool false) (by simp [results, Try.results55, go_sem]) rfl ?_)
    exact ⟨by rw [G2.out]; simp, by (repeat (first | exact World.grows.refl _ | assumption | refine World.grows.alloc ?_ _ | refine World.grows.plus ?_ _ _ | refine World.grows.drew ?_))⟩
  | true =>
    by_cases h3 : t.sa i = t.sb i
    · have h3' : (t.sa i != t.sb i) = false := by simp [h3]
      go_wp2
      (refine bodyPost_ret (v := .bool false) (by simp [results, Try.results55, go_sem]) rfl ?_)
      exact ⟨by rw [G2.out]; simp [h3], by (repeat (first | exact World.grows.refl _ | assumption | refine World.grows.alloc ?_ _ | refine World.grows.plus ?_ _ _ | refine World.grows.drew ?_))⟩
    · have h3' : (t.sa i != t.sb i) = true := by simp [h3]
      by_cases h4 : t.slo i ≤ t.shi i
      · go_wp2_with (go_at_call 99; fail)
        refine (H49.out _ _ (two_ints _ _ _ _ _ (by simp))).mono ?_
        rintro e w' ⟨rfl, hg⟩
        obtain ⟨n3, x3, rfl⟩ := World.plus_of hg
        go_wp2
        (refine bodyPost_ret (v := .bool q4) (by simp [results, Try.results55, go_sem]) rfl ?_)
        exact ⟨by rw [G2.out]; simp [h3, h4], by (repeat (first | exact World.grows.refl _ | assumption | refine World.grows.alloc ?_ _ | refine World.grows.plus ?_ _ _ | refine World.grows.drew ?_))⟩
      · go_wp2
        (refine bodyPost_ret (v := .bool false) (by simp [results, Try.results55, go_sem]) rfl ?_)
        exact ⟨by rw [G2.out]; simp; intros; omega, by (repeat (first | exact World.grows.refl _ | assumption | refine World.grows.alloc ?_ _ | refine World.grows.plus ?_ _ _ | refine World.grows.drew ?_))⟩
theorem goodV_iff (t : Town) (i : Nat) : t.goodV i = (t.isPlace (t.vp i) && decide (t.vf i < t.vb i) && !(outB 0 10000 (t.vf i) || outB 0 10000 (t.vb i))) := by
  unfold Town.goodV
  have e : ∀ {a b : Bool}, (a = true ↔ b = true) → a = b := fun {a b} h => by cases a <;> cases b <;> simp_all
  apply e
  simp only [Bool.and_eq_true, Bool.not_eq_true', Bool.or_eq_false_iff, outB, decide_eq_true_eq, decide_eq_false_iff_not]
  constructor
  · rintro ⟨⟨⟨h1, h2⟩, h3⟩, h4⟩
    exact ⟨⟨h1, h3⟩, by omega⟩
  · rintro ⟨⟨h1, h3⟩, h4⟩
    exact ⟨⟨⟨h1, by omega⟩, h3⟩, by omega⟩
set_option maxHeartbeats 2000000 in
theorem c56 (w : World) (t : Town) (i : Nat) (fb tb : Nat) (h0 : w.cell? ⟨fb, 0, none⟩ = some (.func (.func 52) #[] #[.pointer (some ⟨tb, 0, none⟩)])) (h1 : w.cell? ⟨tb, 0, none⟩ = some (.int .i64 t.pl)) :
    Calls Try.prog 56 #[.agg #[.int .i64 (t.vp i), .int .i64 (t.vf i), .int .i64 (t.vb i)], .pointer (some ⟨fb, 0, none⟩)] w fun e w' => e = .returned (.bool (t.goodV i)) ∧ w.grows w' := by
  have HG := Lib.hid (goodV_iff t i)
  have H52 : Hid (∀ W : World, w.grows W → ∀ sv, SliceAt W sv 1 1 (fun _ _ => .int .i64 (t.vp i)) → Calls Try.prog 52 #[sv, .pointer (some ⟨tb, 0, none⟩)] W fun e w' => e = .returned (.bool (t.isPlace (t.vp i))) ∧ W.grows w') := Lib.hid fun W hW sv hs => by
    have h := c52 W t tb (World.grows.cell_of hW h1) 1 (fun _ => t.vp i) sv hs
    have e : (!(List.range 1).any fun _ => !t.isPlace (t.vp i)) = t.isPlace (t.vp i) := by simp
    rw [e] at h
    exact h
  clear h1
  go_enter Try.func56, Try.ntmps56
  go_wp2_with (go_at_call 99; fail)
  refine (H52.out _ (by (repeat (first | exact World.grows.refl _ | assumption | refine World.grows.alloc ?_ _ | refine World.grows.plus ?_ _ _ | refine World.grows.drew ?_))) _ (one_slice _ _ _ _ (by simp))).mono ?_
  rintro e w' ⟨rfl, hg⟩
  obtain ⟨n2, x2, rfl⟩ := World.plus_of hg
  have G := HG.out
  generalize t.isPlace (t.vp i) = q at G ⊢
  have H49 : Hid (∀ (W : World) sv, IntsAt W sv 2 (fun k => if k = 0 then t.vf i else t.vb i) → Calls Try.prog 49 #[.int .i64 0, .int .i64 10000, sv] W fun e w' => e = .returned (.bool (!(outB 0 10000 (t.vf i) || outB 0 10000 (t.vb i)))) ∧ W.grows w') := Lib.hid fun W sv hs => c49two W 0 10000 _ _ sv hs
  generalize (!(outB 0 10000 (t.vf i) || outB 0 10000 (t.vb i))) = q4 at G H49
  have G2 := Lib.hid G
  clear G HG H52
  cases q with
  | false =>
    go_wp2
    (refine bodyPost_ret (v := .bool false) (by simp [results, Try.results56, go_sem]) rfl ?_)
    exact ⟨by rw [G2.out]; simp, by (repeat (first | exact World.grows.refl _ | assumption | refine World.grows.alloc ?_ _ | refine World.grows.plus ?_ _ _ | refine World.grows.drew ?_))⟩
  | true =>
    by_cases h4 : t.vf i < t.vb i
    · go_wp2_with (go_at_call 99; fail)
      refine (H49.out _ _ (two_ints _ _ _ _ _ (by simp))).mono ?_
      rintro e w' ⟨rfl, hg⟩
      obtain ⟨n3, x3, rfl⟩ := World.plus_of hg
      go_wp2
      (refine bodyPost_ret (v := .bool q4) (by simp [results, Try.results56, go_sem]) rfl ?_)
      exact ⟨by rw [G2.out]; simp [h4], by (repeat (first | exact World.grows.refl _ | assumption | refine World.grows.alloc ?_ _ | refine World.grows.plus ?_ _ _ | refine World.grows.drew ?_))⟩
    · go_wp2
      (refine bodyPost_ret (v := .bool false) (by simp [results, Try.results56, go_sem]) rfl ?_)
      exact ⟨by rw [G2.out]; simp; intros; omega, by (repeat (first | exact World.grows.refl _ | assumption | refine World.grows.alloc ?_ _ | refine World.grows.plus ?_ _ _ | refine World.grows.drew ?_))⟩
set_option maxHeartbeats 2000000 in
theorem c58 (w : World) (t : Town) (i : Nat) (gb fb tb : Nat) (hg0 : w.cell? ⟨gb, 0, none⟩ = some (.func (.func 55) #[] #[.pointer (some ⟨fb, 0, none⟩)])) (h0 : w.cell? ⟨fb, 0, none⟩ = some (.func (.func 52) #[] #[.pointer (some ⟨tb, 0, none⟩)])) (h1 : w.cell? ⟨tb, 0, none⟩ = some (.int .i64 t.pl)) :
    Calls Try.prog 58 #[.agg #[.int .i64 (t.sa i), .int .i64 (t.sb i), .int .i64 (t.slo i), .int .i64 (t.shi i)], .pointer (some ⟨gb, 0, none⟩)] w fun e w' => e = .returned (.bool (!t.goodS i)) ∧ w.grows w' := by
  have H55 : Hid (∀ W : World, w.grows W → Calls Try.prog 55 #[.agg #[.int .i64 (t.sa i), .int .i64 (t.sb i), .int .i64 (t.slo i), .int .i64 (t.shi i)], .pointer (some ⟨fb, 0, none⟩)] W fun e w' => e = .returned (.bool (t.goodS i)) ∧ W.grows w') := Lib.hid fun W hW => c55 W t i fb tb (World.grows.cell_of hW h0) (World.grows.cell_of hW h1)
  clear h0 h1
  go_enter Try.func58, Try.ntmps58
  go_wp2_with (go_at_call 99; fail)
  refine (H55.out _ (by (repeat (first | exact World.grows.refl _ | assumption | refine World.grows.alloc ?_ _ | refine World.grows.plus ?_ _ _ | refine World.grows.drew ?_)))).mono ?_
  rintro e w' ⟨rfl, hg⟩
  obtain ⟨n2, x2, rfl⟩ := World.plus_of hg
  go_wp2
  (refine bodyPost_ret (v := .bool (!t.goodS i)) (by simp [results, Try.results58, go_sem]) rfl ?_)
  exact ⟨rfl, by (repeat (first | exact World.grows.refl _ | assumption | refine World.grows.alloc ?_ _ | refine World.grows.plus ?_ _ _ | refine World.grows.drew ?_))⟩
set_option maxHeartbeats 2000000 in
theorem c60 (w : World) (t : Town) (i : Nat) (gb fb tb : Nat) (hg0 : w.cell? ⟨gb, 0, none⟩ = some (.func (.func 56) #[] #[.pointer (some ⟨fb, 0, none⟩)])) (h0 : w.cell? ⟨fb, 0, none⟩ = some (.func (.func 52) #[] #[.pointer (some ⟨tb, 0, none⟩)])) (h1 : w.cell? ⟨tb, 0, none⟩ = some (.int .i64 t.pl)) :
    Calls Try.prog 60 #[.agg #[.int .i64 (t.vp i), .int .i64 (t.vf i), .int .i64 (t.vb i)], .pointer (some ⟨gb, 0, none⟩)] w fun e w' => e = .returned (.bool (!t.goodV i)) ∧ w.grows w' := by
  have H56 : Hid (∀ W : World, w.grows W → Calls Try.prog 56 #[.agg #[.int .i64 (t.vp i), .int .i64 (t.vf i), .int .i64 (t.vb i)], .pointer (some ⟨fb, 0, none⟩)] W fun e w' => e = .returned (.bool (t.goodV i)) ∧ W.grows w') := Lib.hid fun W hW => c56 W t i fb tb (World.grows.cell_of hW h0) (World.grows.cell_of hW h1)
  clear h0 h1
  go_enter Try.func60, Try.ntmps60
  go_wp2_with (go_at_call 99; fail)
  refine (H56.out _ (by (repeat (first | exact World.grows.refl _ | assumption | refine World.grows.alloc ?_ _ | refine World.grows.plus ?_ _ _ | refine World.grows.drew ?_)))).mono ?_
  rintro e w' ⟨rfl, hg⟩
  obtain ⟨n2, x2, rfl⟩ := World.plus_of hg
  go_wp2
  (refine bodyPost_ret (v := .bool (!t.goodV i)) (by simp [results, Try.results60, go_sem]) rfl ?_)
  exact ⟨rfl, by (repeat (first | exact World.grows.refl _ | assumption | refine World.grows.alloc ?_ _ | refine World.grows.plus ?_ _ _ | refine World.grows.drew ?_))⟩
theorem any_streets (t : Town) : ((List.range t.ns).any fun i => !t.goodS i) = !(List.range t.ns).all t.goodS := by rw [all_not_any, Bool.not_not]
theorem any_visits (t : Town) : ((List.range t.nv).any fun i => !t.goodV i) = !(List.range t.nv).all t.goodV := by rw [all_not_any, Bool.not_not]
set_option maxHeartbeats 4000000 in
/-- CheckTown, the program's -/
theorem check_c (w : World) (tv : Value) (t : Town) (ht : TownAt w tv t) : Calls Try.prog 19 #[tv] w fun e w' => e = .returned (.int .i64 (t.check : Int)) ∧ w.grows w' := by
  obtain ⟨sv, vv, rfl, hs, hv⟩ := ht
  have Hs := Lib.hid hs
  have Hv := Lib.hid hv
  obtain ⟨sa, sc, rfl, s1, s2, -⟩ := hs
  obtain ⟨va, vc, rfl, v1, v2, -⟩ := hv
  unfold maxLen at s2 v2
  have HC : Hid (t.check = if t.many then 6 else if (List.range t.ns).all t.goodS then (if (List.range t.nv).all t.goodV then 0 else 3) else 2) := Lib.hid rfl
  by_cases hm : t.pl < 1 ∨ 8 < t.pl ∨ 20 < t.ns ∨ 16 < t.nv
  · have hm' : t.many = true := by simp only [Town.many, Bool.or_eq_true, decide_eq_true_eq]; omega
    have HR : Hid (t.check = 6) := Lib.hid (by rw [HC.out, if_pos hm'])
    clear HC hm'
    go_enter Try.func19, Try.ntmps19
    by_cases h1 : t.pl < 1
    · go_wp2; (refine bodyPost_ret (v := .int .i64 6) (by simp [results, Try.results19, go_sem]) rfl ?_); exact ⟨ret_int (by rw [HR.out]; rfl), by (repeat (first | exact World.grows.refl _ | assumption | refine World.grows.alloc ?_ _ | refine World.grows.plus ?_ _ _ | refine World.grows.drew ?_))⟩
    · by_cases h2 : 8 < t.pl
      · go_wp2; (refine bodyPost_ret (v := .int .i64 6) (by simp [results, Try.results19, go_sem]) rfl ?_); exact ⟨ret_int (by rw [HR.out]; rfl), by (repeat (first | exact World.grows.refl _ | assumption | refine World.grows.alloc ?_ _ | refine World.grows.plus ?_ _ _ | refine World.grows.drew ?_))⟩
      · by_cases h3 : 20 < t.ns
        · have h' : (20 : Int) < t.ns := by omega
          go_wp2; (refine bodyPost_ret (v := .int .i64 6) (by simp [results, Try.results19, go_sem]) rfl ?_); exact ⟨ret_int (by rw [HR.out]; rfl), by (repeat (first | exact World.grows.refl _ | assumption | refine World.grows.alloc ?_ _ | refine World.grows.plus ?_ _ _ | refine World.grows.drew ?_))⟩
        · have h3' : ¬ (20 : Int) < t.ns := by omega
          have h' : (16 : Int) < t.nv := by omega
          go_wp2; (refine bodyPost_ret (v := .int .i64 6) (by simp [results, Try.results19, go_sem]) rfl ?_); exact ⟨ret_int (by rw [HR.out]; rfl), by (repeat (first | exact World.grows.refl _ | assumption | refine World.grows.alloc ?_ _ | refine World.grows.plus ?_ _ _ | refine World.grows.drew ?_))⟩
  · have hm' : t.many = false := by
      cases e : t.many with
      | false => rfl
      | true => simp only [Town.many, Bool.or_eq_true, decide_eq_true_eq] at e; omega
    rw [hm'] at HC
    have h1 : ¬ t.pl < 1 := by omega
    have h2 : ¬ 8 < t.pl := by omega
    have h3 : ¬ (20 : Int) < t.ns := by omega
    have h4 : ¬ (16 : Int) < t.nv := by omega
    clear hm
    have H57 : Hid (∀ (W : World) (gb fb tb : Nat), w.grows W → W.cell? ⟨gb, 0, none⟩ = some (.func (.func 55) #[] #[.pointer (some ⟨fb, 0, none⟩)]) → W.cell? ⟨fb, 0, none⟩ = some (.func (.func 52) #[] #[.pointer (some ⟨tb, 0, none⟩)]) → W.cell? ⟨tb, 0, none⟩ = some (.int .i64 t.pl) →
        Calls Try.prog 57 #[.slice sa t.ns sc, .func (.func 58) #[] #[.pointer (some ⟨gb, 0, none⟩)]] W fun e w' => e = .returned (.bool (!(List.range t.ns).all t.goodS)) ∧ W.grows w') := Lib.hid fun W gb fb tb g a b c => by
      rw [← any_streets]
      exact has57 W _ t.ns (scell t) 58 #[.pointer (some ⟨gb, 0, none⟩)] (fun i => !t.goodS i) (Hs.out.mono g) (fun args w => by simp [go_sem]) (fun i hi W' hW => c58 W' t i gb fb tb (World.grows.cell_of hW a) (World.grows.cell_of hW b) (World.grows.cell_of hW c))
    have H59 : Hid (∀ (W : World) (gb fb tb : Nat), w.grows W → W.cell? ⟨gb, 0, none⟩ = some (.func (.func 56) #[] #[.pointer (some ⟨fb, 0, none⟩)]) → W.cell? ⟨fb, 0, none⟩ = some (.func (.func 52) #[] #[.pointer (some ⟨tb, 0, none⟩)]) → W.cell? ⟨tb, 0, none⟩ = some (.int .i64 t.pl) →
        Calls Try.prog 59 #[.slice va t.nv vc, .func (.func 60) #[] #[.pointer (some ⟨gb, 0, none⟩)]] W fun e w' => e = .returned (.bool (!(List.range t.nv).all t.goodV)) ∧ W.grows w') := Lib.hid fun W gb fb tb g a b c => by
      rw [← any_visits]
      exact has59 W _ t.nv (vcell t) 60 #[.pointer (some ⟨gb, 0, none⟩)] (fun i => !t.goodV i) (Hv.out.mono g) (fun args w => by simp [go_sem]) (fun i hi W' hW => c60 W' t i gb fb tb (World.grows.cell_of hW a) (World.grows.cell_of hW b) (World.grows.cell_of hW c))
    go_enter Try.func19, Try.ntmps19
    go_wp2_with (go_at_call 99; fail)
    refine (H57.out _ _ _ _ (by (repeat (first | exact World.grows.refl _ | assumption | refine World.grows.alloc ?_ _ | refine World.grows.plus ?_ _ _ | refine World.grows.drew ?_))) (by simp [go_sem]; rfl) (by simp [go_sem]; rfl) (by simp [go_sem])).mono ?_
    rintro e w' ⟨rfl, hg⟩
    obtain ⟨n2, x2, rfl⟩ := World.plus_of hg
    cases q3 : (List.range t.ns).all t.goodS with
    | false =>
      have HR : Hid (t.check = 2) := Lib.hid (by rw [HC.out, q3]; rfl)
      clear HC H57 H59
      go_wp2
      (refine bodyPost_ret (v := .int .i64 2) (by simp [results, Try.results19, go_sem]) rfl ?_)
      exact ⟨ret_int (by rw [HR.out]; rfl), by (repeat (first | exact World.grows.refl _ | assumption | refine World.grows.alloc ?_ _ | refine World.grows.plus ?_ _ _ | refine World.grows.drew ?_))⟩
    | true =>
      rw [q3] at HC
      clear q3 H57
      go_wp2_with (go_at_call 99; fail)
      refine (H59.out _ _ _ _ (by (repeat (first | exact World.grows.refl _ | assumption | refine World.grows.alloc ?_ _ | refine World.grows.plus ?_ _ _ | refine World.grows.drew ?_))) (by simp [go_sem]; rfl) (by simp [go_sem]; rfl) (by simp [go_sem])).mono ?_
      rintro e w' ⟨rfl, hg⟩
      obtain ⟨n3, x3, rfl⟩ := World.plus_of hg
      cases q4 : (List.range t.nv).all t.goodV with
      | false =>
        have HR : Hid (t.check = 3) := Lib.hid (by rw [HC.out, q4]; rfl)
        clear HC H59
        go_wp2
        (refine bodyPost_ret (v := .int .i64 3) (by simp [results, Try.results19, go_sem]) rfl ?_)
        exact ⟨ret_int (by rw [HR.out]; rfl), by (repeat (first | exact World.grows.refl _ | assumption | refine World.grows.alloc ?_ _ | refine World.grows.plus ?_ _ _ | refine World.grows.drew ?_))⟩
      | true =>
        have HR : Hid (t.check = 0) := Lib.hid (by rw [HC.out, q4]; rfl)
        clear HC H59
        go_wp2
        (refine bodyPost_ret (v := .int .i64 0) (by simp [results, Try.results19, go_sem]) rfl ?_)
        exact ⟨ret_int (by rw [HR.out]; rfl), by (repeat (first | exact World.grows.refl _ | assumption | refine World.grows.alloc ?_ _ | refine World.grows.plus ?_ _ _ | refine World.grows.drew ?_))⟩
end Go.Proofs.Ytaanbdjmibjcbaa

/-
  What is proved: which towns are valid, in the definition (50, 20).
-/
namespace Go.Proofs.Ytaanbdjmibjcbaa
open Go.RowKit
attribute [local irreducible] Go.wpCalm

set_option maxHeartbeats 1000000 in
theorem rplace_c (w : World) (tv : Value) (t : Town) (ht : TownAt w tv t) (x : Int) : Calls Try.prog 50 #[tv, .int .i64 x] w fun e w' => e = .returned (.bool (t.isPlace x)) ∧ w.grows w' := by
  obtain ⟨sv, vv, rfl, ⟨sa, sc, rfl, -⟩, ⟨va, vc, rfl, -⟩⟩ := ht
  have HP := Lib.hid (isPlace_iff t.pl x t rfl)
  go_enter Try.func50, Try.ntmps50
  by_cases hl : x < 0
  · go_wp2
    (refine bodyPost_ret (v := .bool false) (by simp [results, Try.results50, go_sem]) rfl ?_)
    exact ⟨by rw [HP.out]; simp [hl], by (repeat (first | exact World.grows.refl _ | assumption | refine World.grows.alloc ?_ _ | refine World.grows.plus ?_ _ _ | refine World.grows.drew ?_))⟩
  · by_cases hh : t.pl ≤ x
    · go_wp2
      (refine bodyPost_ret (v := .bool (decide (x < t.pl))) (by simp [results, Try.results50, go_sem]) rfl ?_)
      have h9 : ¬ x < t.pl := by omega
      exact ⟨by rw [HP.out, decide_eq_true hh]; simp [h9], by (repeat (first | exact World.grows.refl _ | assumption | refine World.grows.alloc ?_ _ | refine World.grows.plus ?_ _ _ | refine World.grows.drew ?_))⟩
    · go_wp2
      (refine bodyPost_ret (v := .bool true) (by simp [results, Try.results50, go_sem]) rfl ?_)
      exact ⟨by rw [HP.out]; simp; omega, by (repeat (first | exact World.grows.refl _ | assumption | refine World.grows.alloc ?_ _ | refine World.grows.plus ?_ _ _ | refine World.grows.drew ?_))⟩
theorem badS_of {t : Town} {i : Nat} (h : t.isPlace (t.sa i) = false ∨ t.isPlace (t.sb i) = false ∨ t.sa i = t.sb i ∨ t.slo i < 1 ∨ t.shi i < t.slo i ∨ 1000 < t.shi i) : t.goodS i = false := by
  unfold Town.goodS
  rcases h with h | h | h | h | h | h
  · simp [h]
  · simp [h]
  · simp [h]
  · have : ¬ 1 ≤ t.slo i := by omega
    simp [this]
  · have : ¬ t.slo i ≤ t.shi i := by omega
    simp [this]
  · have : ¬ t.shi i ≤ 1000 := by omega
    simp [this]
theorem badV_of {t : Town} {i : Nat} (h : t.isPlace (t.vp i) = false ∨ t.vf i < 0 ∨ t.vb i ≤ t.vf i ∨ 10000 < t.vb i) : t.goodV i = false := by
  unfold Town.goodV
  rcases h with h | h | h | h
  · simp [h]
  · have : ¬ 0 ≤ t.vf i := by omega
    simp [this]
  · have : ¬ t.vf i < t.vb i := by omega
    simp [this]
  · have : ¬ t.vb i ≤ 10000 := by omega
    simp [this]
theorem all_false_of {q : Nat → Bool} {n i : Nat} (hi : i < n) (h : q i = false) : (List.range n).all q = false :=
  List.all_eq_false.2 ⟨i, List.mem_range.2 hi, by simp [h]⟩
theorem all_true_of {q : Nat → Bool} {n : Nat} (h : ∀ i, i < n → q i = true) : (List.range n).all q = true :=
  List.all_eq_true.2 fun i hi => h i (List.mem_range.1 hi)
theorem Town.check_many {t : Town} (h : t.many = true) : t.check = 6 := by unfold Town.check; rw [if_pos h]
theorem Town.check_street {t : Town} (h : t.many = false) {i : Nat} (hi : i < t.ns) (hb : t.goodS i = false) : t.check = 2 := by
  unfold Town.check; rw [h, all_false_of hi hb]; rfl
theorem Town.check_visit {t : Town} (h : t.many = false) (hs : ∀ i, i < t.ns → t.goodS i = true) {i : Nat} (hi : i < t.nv) (hb : t.goodV i = false) : t.check = 3 := by
  unfold Town.check; rw [h, all_true_of hs, all_false_of hi hb]; rfl
theorem Town.check_fine {t : Town} (h : t.many = false) (hs : ∀ i, i < t.ns → t.goodS i = true) (hv : ∀ i, i < t.nv → t.goodV i = true) : t.check = 0 := by
  unfold Town.check; rw [h, all_true_of hs, all_true_of hv]; rfl
set_option maxRecDepth 100000 in
set_option maxHeartbeats 4000000 in
/-- CheckTown, the definition's -/
theorem rcheck_c (w : World) (tv : Value) (t : Town) (ht : TownAt w tv t) : Calls Try.prog 20 #[tv] w fun e w' => e = .returned (.int .i64 (t.check : Int)) ∧ w.grows w' := by
  have Ht := Lib.hid ht
  obtain ⟨sv, vv, rfl, hs, hv⟩ := ht
  obtain ⟨sa, sc, rfl, s1, s2, hs⟩ := hs
  obtain ⟨va, vc, rfl, v1, v2, hv⟩ := hv
  have Hs := Lib.hid hs
  have Hv := Lib.hid hv
  clear hs hv
  unfold maxLen at s2 v2
  by_cases hm : t.pl < 1 ∨ 8 < t.pl ∨ 20 < t.ns ∨ 16 < t.nv
  · have hm' : t.many = true := by simp only [Town.many, Bool.or_eq_true, decide_eq_true_eq]; omega
    have HR : Hid (t.check = 6) := Lib.hid (Town.check_many hm')
    clear hm'
    go_enter Try.func20, Try.ntmps20
    by_cases h1 : t.pl < 1
    · go_wp2; (refine bodyPost_ret (v := .int .i64 6) (by simp [results, Try.results20, go_sem]) rfl ?_); exact ⟨ret_int (by rw [HR.out]; rfl), by (repeat (first | exact World.grows.refl _ | assumption | refine World.grows.alloc ?_ _ | refine World.grows.plus ?_ _ _ | refine World.grows.drew ?_))⟩
    · by_cases h2 : 8 < t.pl
      · go_wp2; (refine bodyPost_ret (v := .int .i64 6) (by simp [results, Try.results20, go_sem]) rfl ?_); exact ⟨ret_int (by rw [HR.out]; rfl), by (repeat (first | exact World.grows.refl _ | assumption | refine World.grows.alloc ?_ _ | refine World.grows.plus ?_ _ _ | refine World.grows.drew ?_))⟩
      · by_cases h3 : 20 < t.ns
        · have h' : (20 : Int) < t.ns := by omega
          go_wp2; (refine bodyPost_ret (v := .int .i64 6) (by simp [results, Try.results20, go_sem]) rfl ?_); exact ⟨ret_int (by rw [HR.out]; rfl), by (repeat (first | exact World.grows.refl _ | assumption | refine World.grows.alloc ?_ _ | refine World.grows.plus ?_ _ _ | refine World.grows.drew ?_))⟩
        · have h3' : ¬ (20 : Int) < t.ns := by omega
          have h' : (16 : Int) < t.nv := by omega
          go_wp2; (refine bodyPost_ret (v := .int .i64 6) (by simp [results, Try.results20, go_sem]) rfl ?_); exact ⟨ret_int (by rw [HR.out]; rfl), by (repeat (first | exact World.grows.refl _ | assumption | refine World.grows.alloc ?_ _ | refine World.grows.plus ?_ _ _ | refine World.grows.drew ?_))⟩
  · have hm' : t.many = false := by
      cases e : t.many with
      | false => rfl
      | true => simp only [Town.many, Bool.or_eq_true, decide_eq_true_eq] at e; omega
    have HM := Lib.hid hm'
    have h1 : ¬ t.pl < 1 := by omega
    have h2 : ¬ 8 < t.pl := by omega
    have h3 : ¬ (20 : Int) < t.ns := by omega
    have h4 : ¬ (16 : Int) < t.nv := by omega
    clear hm hm'
    have H50 : Hid (∀ W : World, w.grows W → ∀ x, Calls Try.prog 50 #[.agg #[.int .i64 t.pl, .slice sa t.ns sc, .slice va t.nv vc], .int .i64 x] W fun e w' => e = .returned (.bool (t.isPlace x)) ∧ W.grows w') := Lib.hid fun W g x => rplace_c W _ t (Ht.out.mono g) x
    go_enter Try.func20, Try.ntmps20
    go_wp2
    obtain ⟨W0, hW0⟩ : ∃ W0, W0 = w.alloc (.cells #[.int .i64 t.pl, .slice sa t.ns sc, .slice va t.nv vc] 25) := ⟨_, rfl⟩
    have g0 : w.grows W0 := by rw [hW0]; (repeat (first | exact World.grows.refl _ | assumption | refine World.grows.alloc ?_ _ | refine World.grows.plus ?_ _ _ | refine World.grows.drew ?_))
    have b0 : W0.heap[w.heap.size]? = some (.cells #[.int .i64 t.pl, .slice sa t.ns sc, .slice va t.nv vc] 25) := by rw [hW0]; exact World.heap_at _ _ _ rfl
    rw [← hW0]
    clear hW0
    go_loopw [3] (fun i wr => ∃ k : Nat, k ≤ t.ns ∧ i = .int .i64 k ∧ Hid (∀ j, j < k → t.goodS j = true) ∧ Hid (W0.grows wr)) (fun i _ => t.ns - (intOf i).toNat)
    case atStart => exact ⟨0, by omega, rfl, Lib.hid fun j hj => by omega, Lib.hid (World.grows.refl _)⟩
    case round =>
      obtain ⟨k, hk, rfl, hq, hg⟩ := hrel
      have q1 : wr.cell? ⟨w.heap.size, 1, none⟩ = some (.slice sa t.ns sc) := cell_of_heap (hg.out.heap_of b0) rfl
      have q0 : wr.cell? ⟨w.heap.size, 0, none⟩ = some (.int .i64 t.pl) := cell_of_heap (hg.out.heap_of b0) rfl
      have q2 : wr.cell? ⟨w.heap.size, 2, none⟩ = some (.slice va t.nv vc) := cell_of_heap (hg.out.heap_of b0) rfl
      have Hg := Lib.hid (g0.trans hg.out)
      by_cases hlt : k < t.ns
      · obtain ⟨b, o, rfl, c0⟩ := Hs.out k 0 hlt (by omega)
        obtain ⟨_, _, e1, c1⟩ := Hs.out k 1 hlt (by omega); cases e1
        obtain ⟨_, _, e1, c2⟩ := Hs.out k 2 hlt (by omega); cases e1
        obtain ⟨_, _, e1, c3⟩ := Hs.out k 3 hlt (by omega); cases e1
        replace c0 : wr.cell? ⟨b, o + k * 4, none⟩ = some (.int .i64 (t.sa k)) := Hg.out.cell_of c0
        replace c1 : wr.cell? ⟨b, o + k * 4 + 1, none⟩ = some (.int .i64 (t.sb k)) := Hg.out.cell_of c1
        replace c2 : wr.cell? ⟨b, o + k * 4 + 2, none⟩ = some (.int .i64 (t.slo k)) := Hg.out.cell_of c2
        replace c3 : wr.cell? ⟨b, o + k * 4 + 3, none⟩ = some (.int .i64 (t.shi k)) := Hg.out.cell_of c3
        have hkI : (k : Int) < t.ns := by omega
        go_wp2_with (go_at_call 99; fail)
        refine (H50.out _ (Hg.out.trans (by (repeat (first | exact World.grows.refl _ | assumption | refine World.grows.alloc ?_ _ | refine World.grows.plus ?_ _ _ | refine World.grows.drew ?_)))) _).mono ?_
        rintro e w' ⟨rfl, g⟩
        obtain ⟨n2, x2, rfl⟩ := World.plus_of g
        cases p1 : t.isPlace (t.sa k) with
        | false =>
          have HR : Hid (t.check = 2) := Lib.hid (Town.check_street HM.out hlt (badS_of (.inl p1)))
          clear p1 H50 Hs Ht HM hq
          go_wp2; (refine bodyPost_ret (v := .int .i64 2) (by simp [results, Try.results20, go_sem]) rfl ?_); exact ⟨ret_int (by rw [HR.out]; rfl), Hg.out.trans (by (repeat (first | exact World.grows.refl _ | assumption | refine World.grows.alloc ?_ _ | refine World.grows.plus ?_ _ _ | refine World.grows.drew ?_)))⟩
        | true =>
          go_wp2_with (go_at_call 99; fail)
          refine (H50.out _ (Hg.out.trans (by (repeat (first | exact World.grows.refl _ | assumption | refine World.grows.alloc ?_ _ | refine World.grows.plus ?_ _ _ | refine World.grows.drew ?_)))) _).mono ?_
          rintro e w' ⟨rfl, g⟩
          obtain ⟨n3, x3, rfl⟩ := World.plus_of g
          cases p2 : t.isPlace (t.sb k) with
          | false =>
            have HR : Hid (t.check = 2) := Lib.hid (Town.check_street HM.out hlt (badS_of (.inr (.inl p2))))
            clear p1 p2 H50 Hs Ht HM hq
            go_wp2; (refine bodyPost_ret (v := .int .i64 2) (by simp [results, Try.results20, go_sem]) rfl ?_); exact ⟨ret_int (by rw [HR.out]; rfl), Hg.out.trans (by (repeat (first | exact World.grows.refl _ | assumption | refine World.grows.alloc ?_ _ | refine World.grows.plus ?_ _ _ | refine World.grows.drew ?_)))⟩
          | true =>
            have HP := Lib.hid (And.intro p1 p2)
            clear p1 p2
            by_cases h5 : t.sa k = t.sb k
            · have HR : Hid (t.check = 2) := Lib.hid (Town.check_street HM.out hlt (badS_of (.inr (.inr (.inl h5)))))
              have h5' : (t.sa k == t.sb k) = true := by simp [h5]
              clear h5 H50 Hs Ht HM hq
              go_wp2; (refine bodyPost_ret (v := .int .i64 2) (by simp [results, Try.results20, go_sem]) rfl ?_); exact ⟨ret_int (by rw [HR.out]; rfl), Hg.out.trans (by (repeat (first | exact World.grows.refl _ | assumption | refine World.grows.alloc ?_ _ | refine World.grows.plus ?_ _ _ | refine World.grows.drew ?_)))⟩
            · have h5' : (t.sa k == t.sb k) = false := by simp [h5]
              by_cases h6 : t.slo k < 1
              · have HR : Hid (t.check = 2) := Lib.hid (Town.check_street HM.out hlt (badS_of (.inr (.inr (.inr (.inl h6))))))
                clear H50 Hs Ht HM hq
                go_wp2; (refine bodyPost_ret (v := .int .i64 2) (by simp [results, Try.results20, go_sem]) rfl ?_); exact ⟨ret_int (by rw [HR.out]; rfl), Hg.out.trans (by (repeat (first | exact World.grows.refl _ | assumption | refine World.grows.alloc ?_ _ | refine World.grows.plus ?_ _ _ | refine World.grows.drew ?_)))⟩
              · by_cases h7 : t.shi k < t.slo k
                · have HR : Hid (t.check = 2) := Lib.hid (Town.check_street HM.out hlt (badS_of (.inr (.inr (.inr (.inr (.inl h7)))))))
                  clear H50 Hs Ht HM hq
                  go_wp2; (refine bodyPost_ret (v := .int .i64 2) (by simp [results, Try.results20, go_sem]) rfl ?_); exact ⟨ret_int (by rw [HR.out]; rfl), Hg.out.trans (by (repeat (first | exact World.grows.refl _ | assumption | refine World.grows.alloc ?_ _ | refine World.grows.plus ?_ _ _ | refine World.grows.drew ?_)))⟩
                · by_cases h8 : 1000 < t.shi k
                  · have HR : Hid (t.check = 2) := Lib.hid (Town.check_street HM.out hlt (badS_of (.inr (.inr (.inr (.inr (.inr h8)))))))
                    clear H50 Hs Ht HM hq
                    go_wp2; (refine bodyPost_ret (v := .int .i64 2) (by simp [results, Try.results20, go_sem]) rfl ?_); exact ⟨ret_int (by rw [HR.out]; rfl), Hg.out.trans (by (repeat (first | exact World.grows.refl _ | assumption | refine World.grows.alloc ?_ _ | refine World.grows.plus ?_ _ _ | refine World.grows.drew ?_)))⟩
                  · have HN : Hid (t.goodS k = true) := Lib.hid (by
                      unfold Town.goodS
                      have a1 : 1 ≤ t.slo k := by omega
                      have a2 : t.slo k ≤ t.shi k := by omega
                      have a3 : t.shi k ≤ 1000 := by omega
                      simp [HP.out.1, HP.out.2, h5, a1, a2, a3])
                    clear H50 Hs Ht HM
                    go_wp2
                    case roundEnd => exact ⟨⟨k + 1, by omega, by go_num, Lib.hid (upto_succ hq.out HN.out), Lib.hid (hg.out.trans (by (repeat (first | exact World.grows.refl _ | assumption | refine World.grows.alloc ?_ _ | refine World.grows.plus ?_ _ _ | refine World.grows.drew ?_))))⟩, by simp [intOf]; omega⟩
      · have hke : k = t.ns := by omega
        subst hke
        have HQ := hq
        obtain ⟨W1, rfl⟩ : ∃ W1, W1 = wr := ⟨_, rfl⟩
        go_wp2
        go_loopw [5] (fun i wr => ∃ k : Nat, k ≤ t.nv ∧ i = .int .i64 k ∧ Hid (∀ j, j < k → t.goodV j = true) ∧ Hid (W0.grows wr)) (fun i _ => t.nv - (intOf i).toNat)
        case atStart => exact ⟨0, by omega, rfl, Lib.hid fun j hj => by omega, hg⟩
        case round =>
          clear q1 q0 q2 Hg hg hq hk hlt
          obtain ⟨k, hk, rfl, hq, hg⟩ := hrel
          have q1 : wr.cell? ⟨w.heap.size, 1, none⟩ = some (.slice sa t.ns sc) := cell_of_heap (hg.out.heap_of b0) rfl
          have q0 : wr.cell? ⟨w.heap.size, 0, none⟩ = some (.int .i64 t.pl) := cell_of_heap (hg.out.heap_of b0) rfl
          have q2 : wr.cell? ⟨w.heap.size, 2, none⟩ = some (.slice va t.nv vc) := cell_of_heap (hg.out.heap_of b0) rfl
          have Hg := Lib.hid (g0.trans hg.out)
          by_cases hlt : k < t.nv
          · obtain ⟨b, o, rfl, c0⟩ := Hv.out k 0 hlt (by omega)
            obtain ⟨_, _, e1, c1⟩ := Hv.out k 1 hlt (by omega); cases e1
            obtain ⟨_, _, e1, c2⟩ := Hv.out k 2 hlt (by omega); cases e1
            replace c0 : wr.cell? ⟨b, o + k * 3, none⟩ = some (.int .i64 (t.vp k)) := Hg.out.cell_of c0
            replace c1 : wr.cell? ⟨b, o + k * 3 + 1, none⟩ = some (.int .i64 (t.vf k)) := Hg.out.cell_of c1
            replace c2 : wr.cell? ⟨b, o + k * 3 + 2, none⟩ = some (.int .i64 (t.vb k)) := Hg.out.cell_of c2
            have hkI : (k : Int) < t.nv := by omega
            go_wp2_with (go_at_call 99; fail)
            refine (H50.out _ (Hg.out.trans (by (repeat (first | exact World.grows.refl _ | assumption | refine World.grows.alloc ?_ _ | refine World.grows.plus ?_ _ _ | refine World.grows.drew ?_)))) _).mono ?_
            rintro e w' ⟨rfl, g⟩
            obtain ⟨n2, x2, rfl⟩ := World.plus_of g
            cases p1 : t.isPlace (t.vp k) with
            | false =>
              have HR : Hid (t.check = 3) := Lib.hid (Town.check_visit HM.out HQ.out hlt (badV_of (.inl p1)))
              clear p1 H50 Hs Ht HM hq HQ
              go_wp2; (refine bodyPost_ret (v := .int .i64 3) (by simp [results, Try.results20, go_sem]) rfl ?_); exact ⟨ret_int (by rw [HR.out]; rfl), Hg.out.trans (by (repeat (first | exact World.grows.refl _ | assumption | refine World.grows.alloc ?_ _ | refine World.grows.plus ?_ _ _ | refine World.grows.drew ?_)))⟩
            | true =>
              have HP := Lib.hid p1
              clear p1
              by_cases h6 : t.vf k < 0
              · have HR : Hid (t.check = 3) := Lib.hid (Town.check_visit HM.out HQ.out hlt (badV_of (.inr (.inl h6))))
                clear H50 Hs Ht HM hq HQ
                go_wp2; (refine bodyPost_ret (v := .int .i64 3) (by simp [results, Try.results20, go_sem]) rfl ?_); exact ⟨ret_int (by rw [HR.out]; rfl), Hg.out.trans (by (repeat (first | exact World.grows.refl _ | assumption | refine World.grows.alloc ?_ _ | refine World.grows.plus ?_ _ _ | refine World.grows.drew ?_)))⟩
              · by_cases h7 : t.vb k ≤ t.vf k
                · have HR : Hid (t.check = 3) := Lib.hid (Town.check_visit HM.out HQ.out hlt (badV_of (.inr (.inr (.inl h7)))))
                  clear H50 Hs Ht HM hq HQ
                  go_wp2; (refine bodyPost_ret (v := .int .i64 3) (by simp [results, Try.results20, go_sem]) rfl ?_); exact ⟨ret_int (by rw [HR.out]; rfl), Hg.out.trans (by (repeat (first | exact World.grows.refl _ | assumption | refine World.grows.alloc ?_ _ | refine World.grows.plus ?_ _ _ | refine World.grows.drew ?_)))⟩
                · by_cases h8 : 10000 < t.vb k
                  · have HR : Hid (t.check = 3) := Lib.hid (Town.check_visit HM.out HQ.out hlt (badV_of (.inr (.inr (.inr h8)))))
                    clear H50 Hs Ht HM hq HQ
                    go_wp2; (refine bodyPost_ret (v := .int .i64 3) (by simp [results, Try.results20, go_sem]) rfl ?_); exact ⟨ret_int (by rw [HR.out]; rfl), Hg.out.trans (by (repeat (first | exact World.grows.refl _ | assumption | refine World.grows.alloc ?_ _ | refine World.grows.plus ?_ _ _ | refine World.grows.drew ?_)))⟩
                  · have HN : Hid (t.goodV k = true) := Lib.hid (by
                      unfold Town.goodV
                      have a1 : 0 ≤ t.vf k := by omega
                      have a2 : t.vf k < t.vb k := by omega
                      have a3 : t.vb k ≤ 10000 := by omega
                      simp [HP.out, a1, a2, a3])
                    clear H50 Hs Ht HM HQ
                    go_wp2
                    case roundEnd => exact ⟨⟨k + 1, by omega, by go_num, Lib.hid (upto_succ hq.out HN.out), Lib.hid (hg.out.trans (by (repeat (first | exact World.grows.refl _ | assumption | refine World.grows.alloc ?_ _ | refine World.grows.plus ?_ _ _ | refine World.grows.drew ?_))))⟩, by simp [intOf]; omega⟩
          · have hke : k = t.nv := by omega
            subst hke
            have HR : Hid (t.check = 0) := Lib.hid (Town.check_fine HM.out HQ.out hq.out)
            clear H50 Hs Ht HM HQ hq
            go_wp2
            (refine bodyPost_ret (v := .int .i64 0) (by simp [results, Try.results20, go_sem]) rfl ?_)
            exact ⟨ret_int (by rw [HR.out]; rfl), Hg.out.trans (by (repeat (first | exact World.grows.refl _ | assumption | refine World.grows.alloc ?_ _ | refine World.grows.plus ?_ _ _ | refine World.grows.drew ?_)))⟩
end Go.Proofs.Ytaanbdjmibjcbaa

/-
  What is proved: the cells of a yard, of all its ways, of what can come after each visit; loads of whole rows, and whether they are equal.
-/
namespace Go.Proofs.Ytaanbdjmibjcbaa
open Go.RowKit

theorem z85 : (Try.prog.info? 85).bind (·.zero) = some (.agg (#[.int .i64 0, .slice none 0 0, .slice none 0 0] ++ Array.replicate 64 (.int .i64 0) ++ Array.replicate 16 (.int .i64 0))) := by kernel_rfl
theorem z81 : (Try.prog.info? 81).bind (·.zero) = some (.agg (Array.replicate 64 (.int .i64 0))) := by kernel_rfl
theorem z83 : (Try.prog.info? 83).bind (·.zero) = some (.agg (Array.replicate 16 (.int .i64 0))) := by kernel_rfl
theorem s85 : (Try.prog.info? 85).map (·.size) = some 83 := by kernel_rfl
theorem s81 : (Try.prog.info? 81).map (·.size) = some 64 := by kernel_rfl
theorem s83 : (Try.prog.info? 83).map (·.size) = some 16 := by kernel_rfl
theorem opt_get {o : Option TypeInfo} {z : Value} {n : Nat} (h1 : o.bind (·.zero) = some z) (h2 : o.map (·.size) = some n) : ∃ it, o = some it ∧ it.zero = some z ∧ it.size = n := by
  cases o with
  | none => cases h1
  | some it => exact ⟨it, rfl, by simpa using h1, by simpa using h2⟩
theorem zc_of {t : TypeId} {A B : Array Value} {it : TypeInfo} {w : World} (h : (zeroValue t).run Try.prog w = .ok (.agg A) w) (h1 : Try.prog.info? t = some it) (h2 : it.zero = some (.agg B)) : A = B := by
  have h' : (zeroValue t).run Try.prog w = .ok (.agg B) w := by simp [zeroValue, typeInfo, h1, h2]
  rw [h] at h'
  exact Value.agg.inj (Result.ok.inj h').1
/-- the cells of a yard -/
def yardN (a b : Nat) (x y z : Value) (P F : Nat → Int) : Array Value := #[x, y, z] ++ rowI a P ++ rowI b F
theorem yardN_get (a b : Nat) (x y z : Value) (P F : Nat → Int) (i : Nat) : (yardN a b x y z P F)[i]? = if i < 3 then #[x, y, z][i]? else if i < 3 + a then some (.int .i64 (P (i - 3))) else if i < 3 + a + b then some (.int .i64 (F (i - 3 - a))) else none := by
  unfold yardN
  rw [Array.getElem?_append, Array.getElem?_append]
  have hs : (#[x, y, z] ++ rowI a P).size = 3 + a := by simp [rowI_size] <;> omega
  rw [hs]
  by_cases h1 : i < 3
  · have h2 : i < 3 + a := by omega
    rw [if_pos h1, if_pos h2, if_pos (by simpa using h1)]
  · rw [if_neg h1]
    by_cases h2 : i < 3 + a
    · rw [if_pos h2, if_pos h2, if_neg (by simpa using h1)]
      simp only [List.size_toArray, List.length_cons, List.length_nil, Nat.zero_add, Nat.reduceAdd]
      exact rowI_get a P _ (by omega)
    · rw [if_neg h2, if_neg h2]
      by_cases h3 : i < 3 + a + b
      · rw [if_pos h3, show i - 3 - a = i - (3 + a) by omega]
        exact rowI_get b F _ (by omega)
      · rw [if_neg h3]
        exact Array.getElem?_eq_none (by rw [rowI_size]; omega)
theorem yardN_size (a b : Nat) (x y z : Value) (P F : Nat → Int) : (yardN a b x y z P F).size = 3 + a + b := by
  unfold yardN
  simp [rowI_size] <;> omega
theorem yardN_way (a b : Nat) (x y z : Value) (P F : Nat → Int) {s : Nat} (h : s < a) (v : Int) : (yardN a b x y z P F).setIfInBounds (3 + s) (.int .i64 v) = yardN a b x y z (updI P s v) F := by
  apply Array.ext_getElem?
  intro i
  rw [Array.getElem?_setIfInBounds, yardN_get, yardN_get, yardN_size]
  by_cases e : 3 + s = i
  · subst e
    rw [if_pos rfl, if_pos (by omega), if_neg (by omega), if_pos (by omega)]
    unfold updI
    rw [if_pos (by omega)]
  · rw [if_neg e]
    by_cases h1 : i < 3
    · rw [if_pos h1, if_pos h1]
    · rw [if_neg h1, if_neg h1]
      unfold updI
      by_cases h2 : i < 3 + a
      · rw [if_pos h2, if_pos h2, if_neg (show ¬ i - 3 = s by omega)]
      · rw [if_neg h2, if_neg h2]
theorem yardN_aft (a b : Nat) (x y z : Value) (P F : Nat → Int) {s : Nat} (h : s < b) (v : Int) : (yardN a b x y z P F).setIfInBounds (3 + a + s) (.int .i64 v) = yardN a b x y z P (updI F s v) := by
  apply Array.ext_getElem?
  intro i
  rw [Array.getElem?_setIfInBounds, yardN_get, yardN_get, yardN_size]
  by_cases e : 3 + a + s = i
  · subst e
    rw [if_pos rfl, if_pos (by omega), if_neg (by omega), if_neg (by omega), if_pos (by omega)]
    unfold updI
    rw [if_pos (by omega)]
  · rw [if_neg e]
    by_cases h1 : i < 3
    · rw [if_pos h1, if_pos h1]
    · rw [if_neg h1, if_neg h1]
      by_cases h2 : i < 3 + a
      · rw [if_pos h2, if_pos h2]
      · rw [if_neg h2, if_neg h2]
        unfold updI
        by_cases h3 : i < 3 + a + b
        · rw [if_pos h3, if_pos h3, if_neg (show ¬ i - 3 - a = s by omega)]
        · rw [if_neg h3, if_neg h3]
theorem yardN_congr {a b : Nat} {x y z : Value} {P F P' F' : Nat → Int} (h1 : ∀ i, i < a → P i = P' i) (h2 : ∀ i, i < b → F i = F' i) : yardN a b x y z P F = yardN a b x y z P' F' := by
  unfold yardN
  rw [rowI_congr h1, rowI_congr h2]
theorem sets_yard (R S : Array Value) (x y z x' y' z' : Value) : (((#[x, y, z] ++ R ++ S).setIfInBounds 0 x').setIfInBounds 1 y').setIfInBounds 2 z' = #[x', y', z'] ++ R ++ S := by
  apply Array.ext_getElem?
  intro i
  have hs : (#[x, y, z] ++ R ++ S).size = 3 + R.size + S.size := by simp; omega
  rw [Array.getElem?_setIfInBounds, Array.getElem?_setIfInBounds, Array.getElem?_setIfInBounds, Array.size_setIfInBounds, Array.size_setIfInBounds, hs]
  by_cases h2 : 2 = i
  · subst h2
    rw [if_pos rfl, if_pos (by omega)]
    simp [Array.getElem?_append]
  · rw [if_neg h2]
    by_cases h1 : 1 = i
    · subst h1
      rw [if_pos rfl, if_pos (by omega)]
      simp [Array.getElem?_append]
    · rw [if_neg h1]
      by_cases h0 : 0 = i
      · subst h0
        rw [if_pos rfl, if_pos (by omega)]
        simp [Array.getElem?_append]
      · rw [if_neg h0, Array.append_assoc, Array.append_assoc]
        generalize R ++ S = T
        rw [Array.getElem?_append_right (by simp; omega), Array.getElem?_append_right (by simp; omega)]
        rfl
theorem yard_made (w : World) (x y z : Value) : ((Try.zeroCells85.setIfInBounds 0 x).setIfInBounds 1 y).setIfInBounds 2 z = yardN 64 16 x y z (fun _ => 0) (fun _ => 0) := by
  obtain ⟨it, h1, h2, h3⟩ := opt_get z85 s85
  rw [zc_of (Try.zeroValue85 w) h1 h2]
  unfold yardN
  rw [rowI_zero, rowI_zero]
  exact sets_yard _ _ _ _ _ _ _ _
theorem rowI_list {n : Nat} {f : Nat → Int} {j : Nat} {v : Value} (h : (rowI n f).toList[j]? = some v) : j < n ∧ v = .int .i64 (f j) := by
  rw [Array.getElem?_toList] at h
  rcases Nat.lt_or_ge j n with hj | hj
  · rw [rowI_get n f j hj] at h
    exact ⟨hj, (Option.some.inj h).symm⟩
  · rw [Array.getElem?_eq_none (by rw [rowI_size]; exact hj)] at h
    cases h
theorem rowI_one (n : Nat) (f : Nat → Int) : (rowI n f).all (·.oneCell') = true := by
  rw [Array.all_eq_true_iff_forall_mem]
  intro v hv
  simp only [rowI, List.mem_toArray, List.mem_map] at hv
  obtain ⟨i, -, rfl⟩ := hv
  rfl
theorem info81 (f : Nat → Int) : (Try.prog.info? 81).map (·.size) = some (rowI 64 f).toList.length := by
  rw [s81, Array.length_toList, rowI_size]
/-- a yard -/
def YardAt (w : World) (yb : Nat) (pl : Int) (sv vv : Value) (P F : Nat → Int) : Prop := w.heap[yb]? = some (.cells (yardN 64 16 (.int .i64 pl) sv vv P F) 85)
section
variable {w : World} {yb : Nat} {pl : Int} {sv vv : Value} {P F : Nat → Int}
theorem YardAt.grow {w' : World} (h : YardAt w yb pl sv vv P F) (g : w.grows w') : YardAt w' yb pl sv vv P F := World.grows.heap_of g h
theorem YardAt.c0 (h : YardAt w yb pl sv vv P F) : w.cell? ⟨yb, 0, none⟩ = some (.int .i64 pl) := cell_of_heap h (by rw [yardN_get]; rfl)
theorem YardAt.c1 (h : YardAt w yb pl sv vv P F) : w.cell? ⟨yb, 1, none⟩ = some sv := cell_of_heap h (by rw [yardN_get]; rfl)
theorem YardAt.c2 (h : YardAt w yb pl sv vv P F) : w.cell? ⟨yb, 2, none⟩ = some vv := cell_of_heap h (by rw [yardN_get]; rfl)
theorem YardAt.way (h : YardAt w yb pl sv vv P F) {s : Nat} (hs : s < 64) : w.cell? ⟨yb, 3 + s, none⟩ = some (.int .i64 (P s)) := cell_of_heap h (by rw [yardN_get, if_neg (by omega), if_pos (by omega), show 3 + s - 3 = s by omega])
theorem YardAt.aft (h : YardAt w yb pl sv vv P F) {s : Nat} (hs : s < 16) : w.cell? ⟨yb, 67 + s, none⟩ = some (.int .i64 (F s)) := cell_of_heap h (by rw [yardN_get, if_neg (by omega), if_neg (by omega), if_pos (by omega), show 67 + s - 3 - 64 = s by omega])
theorem YardAt.fz (h : YardAt w yb pl sv vv P F) (i : Nat) : w.frozen? ⟨yb, i, none⟩ = false := frozen_of_heap h i
theorem YardAt.setWay (h : YardAt w yb pl sv vv P F) {s : Nat} (hs : s < 64) (x : Int) : YardAt (w.setCell ⟨yb, 3 + s, none⟩ (.int .i64 x)) yb pl sv vv (updI P s x) F := by
  unfold YardAt
  rw [store_of_heap h, yardN_way 64 16 _ _ _ _ _ hs]
theorem YardAt.setAft (h : YardAt w yb pl sv vv P F) {s : Nat} (hs : s < 16) (x : Int) : YardAt (w.setCell ⟨yb, 67 + s, none⟩ (.int .i64 x)) yb pl sv vv P (updI F s x) := by
  unfold YardAt
  rw [store_of_heap h, show 67 + s = 3 + 64 + s by omega, yardN_aft 64 16 _ _ _ _ _ hs]
theorem YardAt.way2 (h : YardAt w yb pl sv vv P F) {a b : Nat} (ha : a < 8) (hb : b < 8) : w.cell? ⟨yb, 3 + a * 8 + b, none⟩ = some (.int .i64 (P (a * 8 + b))) := by
  rw [Nat.add_assoc]
  exact h.way (by omega)
theorem YardAt.setWay2 (h : YardAt w yb pl sv vv P F) {a b : Nat} (ha : a < 8) (hb : b < 8) (x : Int) : YardAt (w.setCell ⟨yb, 3 + a * 8 + b, none⟩ (.int .i64 x)) yb pl sv vv (updI P (a * 8 + b) x) F := by
  rw [Nat.add_assoc]
  exact h.setWay (by omega) x
theorem YardAt.other (h : YardAt w yb pl sv vv P F) {b i : Nat} {v : Value} (hb : b ≠ yb) : YardAt (w.setCell ⟨b, i, none⟩ v) yb pl sv vv P F := rowI_other h hb
theorem YardAt.congr {P' F' : Nat → Int} (h : YardAt w yb pl sv vv P F) (h1 : ∀ i, i < 64 → P i = P' i) (h2 : ∀ i, i < 16 → F i = F' i) : YardAt w yb pl sv vv P' F' := by
  unfold YardAt at h ⊢
  rw [← yardN_congr h1 h2]
  exact h
theorem YardAt.load (h : YardAt w yb pl sv vv P F) : (Instr.loadAt 81 (.pointer (some ⟨yb, 3, none⟩))).run Try.prog w = .ok (.agg (rowI 64 P)) w := by
  have := run_loadAt_mid (P := Try.prog) w yb 3 81 (rowI 64 P).toList _ (fun j v hv => by obtain ⟨h1, rfl⟩ := rowI_list hv; exact h.way h1) Try.underlying81 rfl (info81 P)
  rwa [Array.toArray_toList] at this
end
theorem load81 {w : World} {b : Nat} {f : Nat → Int} (h : w.heap[b]? = some (.cells (rowI 64 f) 81)) : (Instr.loadAt 81 (.pointer (some ⟨b, 0, none⟩))).run Try.prog w = .ok (.agg (rowI 64 f)) w := by
  have := run_loadAt_mid (P := Try.prog) w b 0 81 (rowI 64 f).toList _ (fun j v hv => by obtain ⟨h1, rfl⟩ := rowI_list hv; rw [Nat.zero_add]; exact rowI_cell h h1) Try.underlying81 rfl (info81 f)
  rwa [Array.toArray_toList] at this
theorem wpList_store_new {ops : Array Oper} {rest : List Oper} {op : Oper} {a : Act} {w : World} {Q : Exit → Act → World → Prop} (hgd : op.guard = none) (ty : TypeId) (x y : Operand) (ho : op.op = .store ty x y) (b : Nat) (hb : b = w.heap.size) (c c' : Array Value)
    (hx : a.eval x = .pointer (some ⟨b, 0, none⟩)) (hy : a.eval y = .agg c') (hi : (Try.prog.info? ty).map (·.size) = some c'.size) (hs : c.size = c'.size) (h1 : c'.all (·.oneCell') = true)
    (h : wpList Try.prog ops Q rest (a.put op.dst undef) (w.alloc (.cells c' ty))) : wpList Try.prog ops Q (op :: rest) a (w.alloc (.cells c ty)) := by
  subst hb
  refine wpList_plain hgd fun K hK => ?_
  unfold Oper.wp execOp
  simp only [ho, hx, hy, Sem.run_bind, Sem.run_pure, run_storeAt_new (P := Try.prog) w ty c c' hi hs h1, Result.andThen_ok]
  exact hK _ _ h
end Go.Proofs.Ytaanbdjmibjcbaa

/-
  What is proved: whether all ways, and what can come after all visits, are equal.
-/
namespace Go.Proofs.Ytaanbdjmibjcbaa
open Go.RowKit

theorem eqI2 (d : Nat) (a b : Int) (w : World) : (Op.equalIn (d + 1) 2 (.int .i64 a) (.int .i64 b)).run Try.prog w = .ok (decide (a = b)) w := by
  simp [Op.equalIn, run_underlying Try.underlying2, Result.andThen]; rfl
theorem eqI3 (d : Nat) (a b : Int) (w : World) : (Op.equalIn (d + 1) 3 (.int .i64 a) (.int .i64 b)).run Try.prog w = .ok (decide (a = b)) w := by
  simp [Op.equalIn, run_underlying Try.underlying3, Result.andThen]; rfl
theorem part2 (n : Nat) (f : Nat → Int) {i : Nat} (h : i < n) (w : World) : (part 2 (rowI n f) (i * 1)).run Try.prog w = .ok (.int .i64 (f i)) w :=
  run_part_plain w (by kernel_rfl) (by rw [Nat.mul_one]; exact rowI_get n f i h)
theorem part3 (n : Nat) (f : Nat → Int) {i : Nat} (h : i < n) (w : World) : (part 3 (rowI n f) (i * 1)).run Try.prog w = .ok (.int .i64 (f i)) w :=
  run_part_plain w (by kernel_rfl) (by rw [Nat.mul_one]; exact rowI_get n f i h)
theorem eqRow2 (d : Nat) (n : Nat) (f g : Nat → Int) (w : World) : ∀ is : List Nat, (∀ i ∈ is, i < n) → (Op.eqItems (d + 1) 2 1 (rowI n f) (rowI n g) is).run Try.prog w = .ok (is.all fun i => decide (f i = g i)) w
  | [], _ => by simp [Op.eqItems]
  | i :: is, h => by
    have hi := h i (by simp)
    have ih := eqRow2 d n f g w is (fun j hj => h j (by simp [hj]))
    simp only [Op.eqItems, Sem.run_bind, part2 n f hi, part2 n g hi, eqI2, Result.andThen_ok, List.all_cons]
    by_cases he : f i = g i
    · simp [he, ih]
    · simp [he]
theorem eqRow3 (d : Nat) (n : Nat) (f g : Nat → Int) (w : World) : ∀ is : List Nat, (∀ i ∈ is, i < n) → (Op.eqItems (d + 1) 3 1 (rowI n f) (rowI n g) is).run Try.prog w = .ok (is.all fun i => decide (f i = g i)) w
  | [], _ => by simp [Op.eqItems]
  | i :: is, h => by
    have hi := h i (by simp)
    have ih := eqRow3 d n f g w is (fun j hj => h j (by simp [hj]))
    simp only [Op.eqItems, Sem.run_bind, part3 n f hi, part3 n g hi, eqI3, Result.andThen_ok, List.all_cons]
    by_cases he : f i = g i
    · simp [he, ih]
    · simp [he]
theorem cells2 : Try.prog.cellsOf 2 = 1 := by kernel_rfl
theorem cells3 : Try.prog.cellsOf 3 = 1 := by kernel_rfl
theorem cells80 : Try.prog.cellsOf 80 = 8 := by kernel_rfl
theorem info_of {t : TypeId} {n : Nat} (hn : n ≠ 0) (h : Try.prog.cellsOf t = n) : ∃ i, Try.prog.info? t = some i := by
  cases e : Try.prog.info? t with
  | some i => exact ⟨i, rfl⟩
  | none => simp [Program.cellsOf, e] at h; omega
theorem eq80 (d : Nat) (f g : Nat → Int) (w : World) : (Op.equalIn (d + 2 + 1) 80 (.agg (rowI 8 f)) (.agg (rowI 8 g))).run Try.prog w = .ok ((List.range 8).all fun i => decide (f i = g i)) w := by
  obtain ⟨i, hi⟩ := info_of (by decide) cells2
  have h := run_equalIn_array (P := Try.prog) w (d + 2) (rowI 8 f) (rowI 8 g) Try.underlying80 hi
  rw [cells2, eqRow2 (d + 1) 8 f g w (List.range 8) (fun i hi => List.mem_range.1 hi)] at h
  exact h
theorem rowI_extract (n : Nat) (f : Nat → Int) (o m : Nat) (h : o + m ≤ n) : (rowI n f).extract o (o + m) = rowI m (fun j => f (o + j)) := by
  apply Array.ext_getElem?
  intro i
  rw [Array.getElem?_extract]
  by_cases hi : i < m
  · rw [if_pos (by rw [rowI_size]; omega), rowI_get n f _ (by omega), rowI_get m _ _ hi]
  · rw [if_neg (by rw [rowI_size]; omega), Array.getElem?_eq_none (by rw [rowI_size]; omega)]
theorem part80 (f : Nat → Int) {i : Nat} (h : i < 8) (w : World) : (part 80 (rowI 64 f) (i * 8)).run Try.prog w = .ok (.agg (rowI 8 fun j => f (i * 8 + j))) w := by
  obtain ⟨it, hi⟩ := info_of (by decide) cells80
  have hs : it.size = 8 := by
    have := cells80
    simp [Program.cellsOf, hi] at this
    exact this
  simp [part, isAgg, run_underlying Try.underlying80, Result.andThen, sizeOf, typeInfo, hi, hs]
  rw [rowI_extract 64 f (i * 8) 8 (by omega)]
theorem eqRow80 (d : Nat) (f g : Nat → Int) (w : World) : ∀ is : List Nat, (∀ i ∈ is, i < 8) → (Op.eqItems (d + 3) 80 8 (rowI 64 f) (rowI 64 g) is).run Try.prog w = .ok (is.all fun i => (List.range 8).all fun j => decide (f (i * 8 + j) = g (i * 8 + j))) w
  | [], _ => by simp [Op.eqItems]
  | i :: is, h => by
    have hi := h i (by simp)
    have ih := eqRow80 d f g w is (fun j hj => h j (by simp [hj]))
    simp only [Op.eqItems, Sem.run_bind, part80 f hi, part80 g hi, Result.andThen_ok, List.all_cons, eq80 d]
    cases he : (List.range 8).all fun j => decide (f (i * 8 + j) = g (i * 8 + j)) with
    | true => simp [ih]
    | false => simp
/-- whether all ways are equal -/
def sameW (f g : Nat → Int) : Bool := (List.range 8).all fun i => (List.range 8).all fun j => decide (f (i * 8 + j) = g (i * 8 + j))
theorem sameW_iff {f g : Nat → Int} : sameW f g = true ↔ ∀ x, x < 64 → f x = g x := by
  unfold sameW
  simp only [List.all_eq_true, List.mem_range, decide_eq_true_eq]
  constructor
  · intro h x hx
    have := h (x / 8) (by omega) (x % 8) (by omega)
    rw [show x / 8 * 8 + x % 8 = x by omega] at this
    exact this
  · intro h i hi j hj
    exact h _ (by omega)
theorem eq81 (f g : Nat → Int) (w : World) : (Op.equalIn 10000 81 (.agg (rowI 64 f)) (.agg (rowI 64 g))).run Try.prog w = .ok (sameW f g) w := by
  obtain ⟨i, hi⟩ := info_of (by decide) cells80
  have h := run_equalIn_array (P := Try.prog) w 9999 (rowI 64 f) (rowI 64 g) Try.underlying81 hi
  rw [cells80, eqRow80 9996 f g w (List.range 8) (fun i hi => List.mem_range.1 hi)] at h
  exact h
/-- whether two rows of 16 are equal -/
theorem eq83 (f g : Nat → Int) (w : World) : (Op.equalIn 10000 83 (.agg (rowI 16 f)) (.agg (rowI 16 g))).run Try.prog w = .ok ((List.range 16).all fun i => decide (f i = g i)) w := by
  obtain ⟨i, hi⟩ := info_of (by decide) cells3
  have h := run_equalIn_array (P := Try.prog) w 9999 (rowI 16 f) (rowI 16 g) Try.underlying83 hi
  rw [cells3, eqRow3 9998 16 f g w (List.range 16) (fun i hi => List.mem_range.1 hi)] at h
  exact h
end Go.Proofs.Ytaanbdjmibjcbaa

