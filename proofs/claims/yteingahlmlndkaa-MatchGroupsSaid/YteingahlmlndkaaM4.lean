/-
  What is proved: the laws of regions that draw their order, for code that runs in a round of a range over a function.
-/
import Derived.Test.YteingahlmlndkaaM3
import Derived.OrdersIn
import Derived.OwnWalkIn
import Derived.RangeFuncCalls
import Derived.RangeFuncNested
import Derived.RangeFuncBound
import Derived.RangeFuncLeaves
import Derived.TacticsInMore
import Derived.LoopIn
set_option linter.all false
namespace Go
open Go.RowKit

@[go_sem] theorem Fence.wide_fn (f : Nat) : Fence.wide.fn f = True := rfl
@[go_sem] theorem Fence.wide_depth : Fence.wide.depth = none := rfl
@[go_sem] theorem Fence.round_fn (l f : Nat) : (Fence.wide.inRound l).fn f = True := rfl
@[go_sem] theorem Fence.round_depth (l : Nat) : (Fence.wide.inRound l).depth = none := rfl

/-- a fence that lets everything by -/
structure Fence.Free (F : Fence) (P : Program) : Prop where
  fn : ∀ f, F.fn f
  depth : F.depth = none
  calls : ∀ m f args w R, Calls P f args w R → CallsIn F m P f args w R
theorem Fence.free_wide (P : Program) : Fence.wide.Free P := ⟨fun _ => trivial, rfl, fun _ _ _ _ _ h => callsIn_wide.2 h⟩
theorem Fence.free_round (P : Program) (l : Nat) : (Fence.wide.inRound l).Free P := ⟨fun _ => trivial, rfl, fun _ _ _ _ _ h => CallsIn.inRound l (callsIn_wide.2 h)⟩

def Region.noDeferB (ops : Array Oper) : Bool := ops.all fun o => match o.op with | .defer _ => false | _ => true
theorem Region.noDefer_spec {ops : Array Oper} (h : Region.noDeferB ops = true) (j : Nat) (o : Oper) (ho : ops[j]? = some o) : ∀ c, o.op ≠ .defer c := by
  intro c heq
  have := Array.all_eq_true_iff_forall_mem.1 h o (Array.mem_of_getElem? ho)
  simp [heq] at this

section
variable {P : Program} {ops : Array Oper} {w0 : World} {F : Fence} (hF : F.Free P) {N : Nat}

theorem wpAnyIn_of_seq (hnd : Region.noDeferB ops = true) {Q' : Exit → Act → World → Prop} : ∀ (l : List Oper) (k : Nat) (listed : Array Bool) (a : Act) (w : World), (∀ j, l[j]? = ops[k + j]?) →
    Region.seqB .any ops l.length k listed = true → wpListIn F N P ops Q' l a w → wpAnyIn F N P .any ops Q' l.length listed a w
  | [], _, _, _, _, _, hB, h => ⟨by simpa [Region.seqB] using hB, h⟩
  | o :: l, k, listed, a, w, hl, hB, h => by
    have h0 : ops[k]? = some o := by simpa using (hl 0).symm
    simp only [List.length_cons, Region.seqB, Bool.and_eq_true, decide_eq_true_eq] at hB
    refine ⟨fun h1 => (by rw [hB.1] at h1; cases h1), fun i hi => ?_⟩
    rw [hB.1] at hi
    have hik : i = k := by simpa using hi
    subst hik
    have hw : wpOpIn F N P ops Q' i (wpListIn F N P ops Q' l) a w := by unfold wpOpIn; simp only [h0]; exact h
    exact wpOpIn_mono (fun a' w' h' => wpAnyIn_of_seq hnd l (i + 1) _ a' w' (fun j => by have := hl (j + 1); simpa [Nat.add_assoc, Nat.add_comm 1 j] using this) hB.2 h') hw

/-! ### every order -/

include hF in
theorem wpAnyIn_of_order {Q : Exit → Act → World → Prop} {n : Nat} {as0 : List Nat}
    (hB : Region.mixB ops n as0 = true) (hnd : Region.noDeferB ops = true)
    (hheads0 : ∀ (listed : Array Bool) (i0 : Nat), HeadInv .any ops n listed → i0 < n → listed.getD i0 true = false → ∀ t ∈ Region.ready .any ops listed, t < n)
    {K : (World → Prop) → Act → Prop} (hKm : ∀ Fc F' a, (∀ w, F' w → Fc w) → K Fc a → K F' a)
    (hK : ∀ Fc a, K Fc a → ∀ n' x, Fc (w0.plus n' x) → ∀ listed, HeadInv .any ops n listed → (∀ i, i < n → listed.getD i false = true) → wpAnyIn F N P .any ops Q (ops.size - n) listed a (w0.plus n' x)) :
    ∀ (cnt : Nat) (es : List (Nat × Oper)) (az : List (Nat × Oper × (Value → World → Prop))) (listed : Array Bool) (Fc : World → Prop) (a : Act),
      es.length + az.length = cnt → HeadInv .any ops n listed →
      (∀ i, i < n → (listed.getD i false = false ↔ i ∈ es.map (·.1) ∨ i ∈ az.map (·.1))) →
      (∀ p ∈ es, p.1 < n ∧ ops[p.1]? = some p.2 ∧ as0.contains p.1 = false) → (∀ p ∈ az, p.1 < n ∧ ops[p.1]? = some p.2.1 ∧ as0.contains p.1 = true) →
      (es.map (·.1)).Pairwise (· < ·) → (az.map (·.1)).Pairwise (· < ·) →
      (∀ w w', Fc w → w.grows w' → Fc w') →
      wpCalm P ops w0 (wpMake P w0 K (az.map (·.2)) Fc) (es.map (·.2)) a →
      ∀ n' x, Fc (w0.plus n' x) → wpAnyIn F N P .any ops Q (cnt + (ops.size - n)) listed a (w0.plus n' x) := by
  simp only [Region.mixB, Bool.and_eq_true, decide_eq_true_eq] at hB
  obtain ⟨⟨⟨hsel, hnle⟩, hpair⟩, hedge⟩ := hB
  have hsp := Region.noSelect_spec hsel
  have pairOf : ∀ i j oi oj, i < j → j < n → ops[i]? = some oi → ops[j]? = some oj → Region.waitsFor .any ops j i = true ∨ oi.apart ops oj = true := by
    intro i j oi oj hij hj hi hoj
    have h1 := List.all_eq_true.1 (List.all_eq_true.1 hpair i (List.mem_range.2 (by omega))) j (List.mem_range.2 hj)
    simp only [Bool.or_eq_true, decide_eq_true_eq, Region.pairB, hi, hoj] at h1
    rcases h1 with h1 | h1
    · omega
    · exact h1
  have apart_symm : ∀ x y : Oper, x.apart ops y = true → y.apart ops x = true := by
    intro x y h
    unfold Oper.apart at *
    cases hx : x.dst <;> cases hy : y.dst <;> simp [hx, hy] at h ⊢
    · exact h
    · exact h
    · exact ⟨⟨h.2, fun e => h.1.2 e.symm⟩, h.1.1⟩
  have edgeOf : ∀ i o, i < n → ops[i]? = some o → ∀ e ∈ o.after, Region.binds .any e = true → e.on < i ∧ (as0.contains i = false → as0.contains e.on = false) := by
    intro i o hi ho e he hb
    have h1 := List.all_eq_true.1 hedge i (List.mem_range.2 hi)
    simp only [ho, Bool.and_eq_true] at h1
    have h2 := Array.all_eq_true_iff_forall_mem.1 h1.1 e he
    simp only [hb, Bool.not_true, Bool.false_or, decide_eq_true_eq] at h2
    refine ⟨h2, fun h3 => ?_⟩
    have h4 := h1.2
    rw [h3, Bool.false_or] at h4
    have h5 := Array.all_eq_true_iff_forall_mem.1 h4 e he
    simpa [hb] using h5
  -- an unlisted operation i that may come up is apart from an unlisted one j of the head that does not wait for it
  have unwait : ∀ (listed : Array Bool) (i j : Nat), i ∈ Region.ready .any ops listed → listed.getD j false = false → Region.waitsFor .any ops i j = true → False := by
    intro listed i j hi hj hw
    obtain ⟨oi, hoi, e, he, hb, hon⟩ := Region.waitsFor_spec hw
    obtain ⟨_, o', ho', hall⟩ := mem_ready.1 hi
    rw [hoi] at ho'; cases ho'
    have := hall e he hb
    rw [hon, hj] at this; cases this
  intro cnt
  induction cnt with
  | zero =>
    intro es az listed Fc a hc inv hmem hes has _ _ hFc h n' x hf
    have he : es = [] := List.eq_nil_of_length_eq_zero (by omega)
    have ha : az = [] := List.eq_nil_of_length_eq_zero (by omega)
    subst he; subst ha
    rw [Nat.zero_add]
    refine hK Fc a h n' x hf listed inv fun i hi => ?_
    have := hmem i hi
    simp only [List.map_nil, List.not_mem_nil, or_self, iff_false, Bool.not_eq_false] at this
    exact this
  | succ cnt ih =>
    intro es az listed Fc a hc inv hmem hes has hse hsa hFc h n' x hf
    rw [show cnt + 1 + (ops.size - n) = (cnt + (ops.size - n)) + 1 by omega]
    -- somebody of the head is not listed
    have hun : ∃ i, i < n ∧ listed.getD i true = false := by
      cases es with
      | cons p es =>
        have h1 := hes p (List.mem_cons_self ..)
        refine ⟨p.1, h1.1, getD_in (by rw [inv.size]; omega) ((hmem p.1 h1.1).2 (.inl (by simp)))⟩
      | nil =>
        cases az with
        | nil => simp at hc
        | cons p az =>
          have h1 := has p (List.mem_cons_self ..)
          exact ⟨p.1, h1.1, getD_in (by rw [inv.size]; omega) ((hmem p.1 h1.1).2 (.inr (by simp)))⟩
    obtain ⟨i0, hi0, hun0⟩ := hun
    have hheads := hheads0 listed i0 inv hi0 hun0
    refine ⟨fun hnil => ?_, fun i hi => ?_⟩
    · -- the first of those that are left may come up
      exfalso
      have first : ∀ i o, i < n → ops[i]? = some o → listed.getD i false = false → (∀ j, j < i → listed.getD j false = true ∨ (as0.contains i = false ∧ as0.contains j = true)) → False := by
        intro i o hi ho hl hall
        have : i ∈ Region.ready .any ops listed := mem_ready.2 ⟨getD_in (by rw [inv.size]; omega) hl, o, ho, fun e he hb => by
          obtain ⟨h1, h2⟩ := edgeOf i o hi ho e he hb
          rcases hall e.on h1 with h3 | ⟨h3, h4⟩
          · exact h3
          · rw [h2 h3] at h4; cases h4⟩
        rw [hnil] at this; cases this
      cases es with
      | cons p es =>
        obtain ⟨h1, h2, h3⟩ := hes p (List.mem_cons_self ..)
        refine first p.1 p.2 h1 h2 ((hmem p.1 h1).2 (.inl (by simp))) fun j hj => ?_
        cases hl : listed.getD j false with
        | true => exact .inl rfl
        | false =>
          refine .inr ⟨h3, ?_⟩
          rcases (hmem j (by omega)).1 hl with h4 | h4
          · simp only [List.map_cons, List.mem_cons] at h4
            simp only [List.map_cons, List.pairwise_cons] at hse
            rcases h4 with h4 | h4
            · omega
            · have := hse.1 j h4; omega
          · obtain ⟨q, hq, rfl⟩ := List.mem_map.1 h4
            exact (has q hq).2.2
      | nil =>
        cases az with
        | nil => simp at hc
        | cons p az =>
          obtain ⟨h1, h2, h3⟩ := has p (List.mem_cons_self ..)
          refine first p.1 p.2.1 h1 h2 ((hmem p.1 h1).2 (.inr (by simp))) fun j hj => ?_
          cases hl : listed.getD j false with
          | true => exact .inl rfl
          | false =>
            rcases (hmem j (by omega)).1 hl with h4 | h4
            · simp at h4
            · simp only [List.map_cons, List.mem_cons] at h4
              simp only [List.map_cons, List.pairwise_cons] at hsa
              rcases h4 with h4 | h4
              · omega
              · have := hsa.1 j h4; omega
    · have hin := hheads i hi
      have hl : listed.getD i false = false := getD_both (mem_ready.1 hi).1
      have inv' := inv.set hi hin
      have set_mem : ∀ j, j < n → j ≠ i → ((listed.setIfInBounds i true).getD j false = false ↔ listed.getD j false = false) := fun j hj hji => by rw [getD_set_ne false (Ne.symm hji)]
      have set_self : (listed.setIfInBounds i true).getD i false = true := by
        have : i < listed.size := by rw [inv.size]; omega
        simp [this]
      rcases (hmem i hin).1 hl with hie | hia
      · -- an exact one
        obtain ⟨p, hp, rfl⟩ := List.mem_map.1 hie
        obtain ⟨l1, l2, rfl⟩ := List.append_of_mem hp
        obtain ⟨h1, h2, h3⟩ := hes p hp
        have hsort := hse
        simp only [List.map_append, List.map_cons, List.pairwise_append, List.pairwise_cons] at hsort
        have hap1 : ∀ y ∈ l1.map (·.2), p.2.apart ops y = true ∧ ∀ cs b, y.op ≠ .select cs b := by
          intro y hy
          obtain ⟨q, hq, rfl⟩ := List.mem_map.1 hy
          obtain ⟨g1, g2, g3⟩ := hes q (by simp [hq])
          refine ⟨?_, fun cs b => hsp q.1 q.2 cs b g2⟩
          have hlt : q.1 < p.1 := hsort.2.2 q.1 (List.mem_map.2 ⟨q, hq, rfl⟩) p.1 (by simp)
          rcases pairOf q.1 p.1 q.2 p.2 hlt h1 g2 h2 with hw | ha
          · exact (unwait listed p.1 q.1 hi ((hmem q.1 g1).2 (.inl (by simp; exact .inl ⟨_, hq⟩))) hw).elim
          · exact apart_symm _ _ ha
        rw [List.map_append, List.map_cons] at h
        obtain ⟨v, hy, h'⟩ := calm_front (fun cs b => hsp p.1 p.2 cs b h2) _ a hap1 h
        have hrest : ∀ n'' y, Fc (w0.plus n'' y) → wpAnyIn F N P .any ops Q (cnt + (ops.size - n)) (listed.setIfInBounds p.1 true) (a.put p.2.dst v) (w0.plus n'' y) := by
          refine ih (l1 ++ l2) az _ Fc _ (by simp at hc ⊢; omega) inv' (fun j hj => ?_) (fun q hq => hes q (by simp at hq ⊢; rcases hq with h | h <;> simp [h])) has ?_ hsa hFc (by rw [List.map_append]; exact h')
          · by_cases hji : j = p.1
            · subst hji
              rw [set_self]
              simp only [Bool.true_eq_false, false_iff]
              rintro (hh | hh)
              · obtain ⟨q, hq, he⟩ := List.mem_map.1 hh
                rcases List.mem_append.1 hq with hq | hq
                · have := hsort.2.2 q.1 (List.mem_map.2 ⟨q, hq, rfl⟩) p.1 (by simp); omega
                · have := hsort.2.1.1 q.1 (List.mem_map.2 ⟨q, hq, rfl⟩); omega
              · obtain ⟨q, hq, he⟩ := List.mem_map.1 hh
                have := (has q hq).2.2
                rw [he, h3] at this; cases this
            · rw [set_mem j hj hji, hmem j hj]
              simp only [List.map_append, List.map_cons, List.mem_append, List.mem_cons]
              constructor
              · rintro ((h | h | h) | h)
                · exact .inl (.inl h)
                · exact absurd h hji
                · exact .inl (.inr h)
                · exact .inr h
              · rintro ((h | h) | h)
                · exact .inl (.inl h)
                · exact .inl (.inr (.inr h))
                · exact .inr h
          · rw [List.map_append, List.pairwise_append]
            exact ⟨hsort.1, hsort.2.1.2, fun x hx y hy => hsort.2.2 x hx y (List.mem_cons_of_mem _ hy)⟩
        unfold wpOpIn
        simp only [h2]
        rcases hy with ⟨hw, hv⟩ | ⟨hw, rfl⟩
        · rw [if_pos hw]
          have hv' := hv n' x
          unfold Oper.calmAt at hv'
          unfold Oper.wpIn
          refine ⟨fun f _ => hF.fn f, ?_⟩
          rw [Oper.semAt_plain F a.eval p.2 (Region.noDefer_spec hnd p.1 p.2 h2)]
          generalize (execOp a.eval p.2).run P (w0.plus n' x) = r at *
          cases r with
          | halt z w' => simp only [Oper.calmUpon] at hv'
          | ok nx w' =>
            cases nx <;> simp only [Oper.calmUpon] at hv' <;> simp only [Oper.uponIn]
            case value u => obtain ⟨rfl, rfl⟩ := hv'; exact hrest n' x hf
            case skip => obtain ⟨rfl, rfl⟩ := hv'; exact hrest n' x hf
            case enter f args =>
              obtain ⟨rfl, hcall⟩ := hv'
              refine ⟨(fun h => by rw [hF.depth] at h; cases h), hF.calls _ _ _ _ _ (hcall.mono fun e w'' ⟨he, hg⟩ => ?_)⟩
              subst he
              obtain ⟨n'', y, hxy⟩ := World.plus_of ((World.grows_plus w0 n' x).trans hg)
              subst hxy
              exact hrest n'' y (hFc _ _ hf hg)
        · rw [if_neg (by rw [hw]; exact Bool.false_ne_true)]
          exact ⟨fun f _ => hF.fn f, hrest n' x hf⟩
      · -- one that makes memory
        obtain ⟨p, hp, rfl⟩ := List.mem_map.1 hia
        obtain ⟨m1, m2, rfl⟩ := List.append_of_mem hp
        obtain ⟨h1, h2, h3⟩ := has p hp
        have hsort := hsa
        simp only [List.map_append, List.map_cons, List.pairwise_append, List.pairwise_cons] at hsort
        have hapm : ∀ y ∈ m1.map (·.2), p.2.1.apart ops y.1 = true ∧ ∀ cs b, y.1.op ≠ .select cs b := by
          intro y hy
          obtain ⟨q, hq, rfl⟩ := List.mem_map.1 hy
          obtain ⟨g1, g2, g3⟩ := has q (by simp [hq])
          refine ⟨?_, fun cs b => hsp q.1 q.2.1 cs b g2⟩
          have hlt : q.1 < p.1 := hsort.2.2 q.1 (List.mem_map.2 ⟨q, hq, rfl⟩) p.1 (by simp)
          rcases pairOf q.1 p.1 q.2.1 p.2.1 hlt h1 g2 h2 with hw | ha
          · exact (unwait listed p.1 q.1 hi ((hmem q.1 g1).2 (.inr (by simp; exact .inl ⟨_, _, hq⟩))) hw).elim
          · exact apart_symm _ _ ha
        have hape : ∀ y ∈ es.map (·.2), p.2.1.apart ops y = true ∧ ∀ cs b, y.op ≠ .select cs b := by
          intro y hy
          obtain ⟨q, hq, rfl⟩ := List.mem_map.1 hy
          obtain ⟨g1, g2, g3⟩ := hes q hq
          refine ⟨?_, fun cs b => hsp q.1 q.2 cs b g2⟩
          have hql : listed.getD q.1 false = false := (hmem q.1 g1).2 (.inl (List.mem_map.2 ⟨q, hq, rfl⟩))
          rcases Nat.lt_trichotomy q.1 p.1 with hlt | heq | hgt
          · rcases pairOf q.1 p.1 q.2 p.2.1 hlt h1 g2 h2 with hw | ha
            · exact (unwait listed p.1 q.1 hi hql hw).elim
            · exact apart_symm _ _ ha
          · rw [heq, h3] at g3; cases g3
          · rcases pairOf p.1 q.1 p.2.1 q.2 hgt g1 h2 g2 with hw | ha
            · exfalso
              obtain ⟨oq, hoq, e, he, hb, hon⟩ := Region.waitsFor_spec hw
              have := (edgeOf q.1 oq g1 hoq e he hb).2 g3
              rw [hon, h3] at this; cases this
            · exact ha
        rw [List.map_append, List.map_cons] at h
        obtain ⟨hg, hst, hmk, h'⟩ := make_front (R := p.2.2) hKm (fun cs b => hsp p.1 p.2.1 cs b h2) hapm _ a hape h
        unfold wpOpIn
        simp only [h2]
        rw [if_pos (by simp [Region.wanted, hg])]
        obtain ⟨v, w', hrun, hgr, hR⟩ := hmk n' x
        unfold Oper.wpIn
        refine ⟨fun f _ => hF.fn f, ?_⟩
        rw [Oper.semAt_plain F a.eval p.2.1 (Region.noDefer_spec hnd p.1 p.2.1 h2), hrun]
        simp only [Oper.uponIn]
        obtain ⟨n'', y, hxy⟩ := World.plus_of ((World.grows_plus w0 n' x).trans hgr)
        subst hxy
        refine ih es (m1 ++ m2) _ (fun w => Fc w ∧ p.2.2 v w) _ (by simp at hc ⊢; omega) inv' (fun j hj => ?_) hes (fun q hq => has q (by simp at hq ⊢; rcases hq with h | h <;> simp [h])) hse ?_
          (fun w1 w2 hh g => ⟨hFc _ _ hh.1 g, hst _ _ _ hh.2 g⟩) (by rw [List.map_append]; exact h' v) n'' y ⟨hFc _ _ hf hgr, hR⟩
        · by_cases hji : j = p.1
          · subst hji
            rw [set_self]
            simp only [Bool.true_eq_false, false_iff]
            rintro (hh | hh)
            · obtain ⟨q, hq, he⟩ := List.mem_map.1 hh
              have := (hes q hq).2.2
              rw [he, h3] at this; cases this
            · obtain ⟨q, hq, he⟩ := List.mem_map.1 hh
              rcases List.mem_append.1 hq with hq | hq
              · have := hsort.2.2 q.1 (List.mem_map.2 ⟨q, hq, rfl⟩) p.1 (by simp); omega
              · have := hsort.2.1.1 q.1 (List.mem_map.2 ⟨q, hq, rfl⟩); omega
          · rw [set_mem j hj hji, hmem j hj]
            simp only [List.map_append, List.map_cons, List.mem_append, List.mem_cons]
            constructor
            · rintro (h | (h | h | h))
              · exact .inl h
              · exact .inr (.inl h)
              · exact absurd h hji
              · exact .inr (.inr h)
            · rintro (h | (h | h))
              · exact .inl h
              · exact .inr (.inl h)
              · exact .inr (.inr (.inr h))
        · rw [List.map_append, List.pairwise_append]
          exact ⟨hsort.1, hsort.2.1.2, fun x hx y hy => hsort.2.2 x hx y (List.mem_cons_of_mem _ hy)⟩


include hF in
theorem wpIn_region_plan {id : Nat} {Q : Exit → Act → World → Prop} {a : Act} {w : World} {l : List Oper} (n : Nat) (es az : List (Nat × Oper)) (Rs : List (Value → World → Prop)) (hm : P.follows .mixedOrders = true)
    (hB : Region.planB l.toArray n (az.map (·.1)) = true) (hnd : Region.noDeferB l.toArray = true) (hlen : Rs.length = az.length)
    (hes : ∀ p ∈ es, p.1 < n ∧ l[p.1]? = some p.2 ∧ (az.map (·.1)).contains p.1 = false) (has : ∀ p ∈ az, p.1 < n ∧ l[p.1]? = some p.2)
    (hall : ∀ i, i < n → i ∈ es.map (·.1) ∨ i ∈ az.map (·.1))
    (hes' : (es.map (·.1)).Pairwise (· < ·)) (has' : (az.map (·.1)).Pairwise (· < ·))
    (h : wpCalm P l.toArray w (wpMake P w (fun Fc a' => ∀ n' x, Fc (w.plus n' x) → wpListIn F N P l.toArray Q (l.drop n) a' (w.plus n' x)) ((az.map (·.2)).zip Rs) (fun _ => True)) (es.map (·.2)) a) :
    (Code.region id l.toArray true).wpIn F N P Q a w := by
  simp only [Region.planB, Bool.and_eq_true, Bool.or_eq_true, decide_eq_true_eq] at hB
  obtain ⟨⟨hmix, hplan⟩, hseq⟩ := hB
  have hnle : n ≤ l.toArray.size := by rcases hplan with h | h <;> omega
  refine wpIn_region_any hm ?_
  obtain ⟨n0, x0, h0⟩ := World.more_drew w
  rw [h0]
  have hz : (az.zip Rs).map (fun p => (p.1.2, p.2)) = (az.map (·.2)).zip Rs := by
    rw [List.zip_map_left]; rfl
  have key := wpAnyIn_of_order hF (N := N) (P := P) (ops := l.toArray) (w0 := w) (Q := Q) (n := n) (as0 := az.map (·.1)) hmix hnd
    (fun listed i0 inv hi0 hun0 => by
      rcases hplan with h | ⟨⟨h1, h2⟩, h3⟩
      · subst h; exact heads_of_all listed
      · exact heads_of_tail h1 h2 h3 listed i0 inv hi0 hun0)
    (K := fun Fc a' => ∀ n' x, Fc (w.plus n' x) → wpListIn F N P l.toArray Q (l.drop n) a' (w.plus n' x))
    (fun Fc F' a hFF hK n' x hf => hK n' x (hFF _ hf))
    (fun Fc a hK n' x hf listed inv hall => by
      have hl := seq_listed inv hnle hall
      subst hl
      have hd : (l.drop n).length = l.toArray.size - n := by simp
      have := wpAnyIn_of_seq hnd (Q' := Q) (l.drop n) n _ a (w.plus n' x) (fun j => by simp [List.getElem?_drop]) (by rw [hd]; exact hseq) (hK n' x hf)
      rwa [hd] at this)
    (es.length + az.length) es ((az.zip Rs).map fun p => (p.1.1, p.1.2, p.2)) (Array.replicate l.toArray.size false) (fun _ => True) a
    (by simp [hlen]) (headInv_start n)
    (fun i hi => by
      simp only [getD_replicate_false, true_iff, List.map_map]
      have : ((fun (x : Nat × Oper × (Value → World → Prop)) => x.1) ∘ fun (p : (Nat × Oper) × (Value → World → Prop)) => (p.1.1, p.1.2, p.2)) = (fun (p : Nat × Oper) => p.1) ∘ Prod.fst := rfl
      rw [this, ← List.map_map, List.map_fst_zip (by omega)]
      exact hall i hi)
    (fun p hp => by have := hes p hp; exact ⟨this.1, by simpa using this.2.1, this.2.2⟩)
    (fun p hp => by
      obtain ⟨q, hq, rfl⟩ := List.mem_map.1 hp
      have hq1 := (List.of_mem_zip hq).1
      have := has _ hq1
      exact ⟨this.1, by simpa using this.2, by simp only [List.contains_iff_mem]; exact List.mem_map.2 ⟨_, hq1, rfl⟩⟩)
    hes' (by
      rw [List.map_map]
      have : ((fun (x : Nat × Oper × (Value → World → Prop)) => x.1) ∘ fun (p : (Nat × Oper) × (Value → World → Prop)) => (p.1.1, p.1.2, p.2)) = (fun (p : Nat × Oper) => p.1) ∘ Prod.fst := rfl
      rw [this, ← List.map_map, List.map_fst_zip (by omega)]
      exact has')
    (fun _ _ _ _ => trivial)
    (by
      rw [List.map_map]
      have : ((fun (x : Nat × Oper × (Value → World → Prop)) => x.2) ∘ fun (p : (Nat × Oper) × (Value → World → Prop)) => (p.1.1, p.1.2, p.2)) = fun p => (p.1.2, p.2) := rfl
      rw [this, hz]
      exact h)
    n0 x0 trivial
  have hsz : es.length + az.length = n := by
    have h1 : (es.map (·.1)).Nodup := hes'.imp (fun h => Nat.ne_of_lt h)
    have h2 : (az.map (·.1)).Nodup := has'.imp (fun h => Nat.ne_of_lt h)
    have h3 : ((es.map (·.1)) ++ (az.map (·.1))).Nodup := List.nodup_append.2 ⟨h1, h2, fun x hx y hy e => by
      subst e
      obtain ⟨p, hp, rfl⟩ := List.mem_map.1 hx
      have := (hes p hp).2.2
      have h4 : (az.map (·.1)).contains p.1 = true := by simpa using hy
      rw [h4] at this; cases this⟩
    have h5 : ((es.map (·.1)) ++ (az.map (·.1))).Perm (List.range n) := by
      rw [List.perm_ext_iff_of_nodup h3 List.nodup_range]
      intro x
      rw [List.mem_append, List.mem_range]
      constructor
      · rintro (hx | hx)
        · obtain ⟨p, hp, rfl⟩ := List.mem_map.1 hx; exact (hes p hp).1
        · obtain ⟨p, hp, rfl⟩ := List.mem_map.1 hx; exact (has p hp).1
      · exact hall x
    have := h5.length_eq
    simpa using this
  rw [hsz, show n + (l.toArray.size - n) = l.toArray.size by omega] at key
  exact key


include hF in
/-- only reads and calls -/
theorem wpIn_region_calm {id : Nat} {Q : Exit → Act → World → Prop} {a : Act} {w : World} {l : List Oper} (hm : P.follows .mixedOrders = true) (hB : Region.planB l.toArray l.length [] = true) (hnd : Region.noDeferB l.toArray = true)
    (h : wpCalm P l.toArray w (fun a' => ∀ n x, Q .normal a' (w.plus n x)) l a) : (Code.region id l.toArray true).wpIn F N P Q a w := by
  refine wpIn_region_plan hF l.length (withNo 0 l) [] [] hm hB hnd rfl (fun p hp => ?_) (by simp) (fun i hi => .inl ?_) ?_ (by simp) ?_
  · have := (withNo_mem 0 l p).1 hp
    have h2 := this.2
    rw [Nat.sub_zero] at h2
    exact ⟨(List.getElem?_eq_some_iff.1 h2).1, h2, by simp⟩
  · rw [withNo_fst]; simp; exact hi
  · rw [withNo_fst]; exact List.pairwise_lt_range'
  · rw [withNo_snd]
    simpa [wpMake, wpListIn] using h

include hF in
/-- reads and calls ahead of a tail in order -/
theorem wpIn_region_tail {id : Nat} {Q : Exit → Act → World → Prop} {a : Act} {w : World} {l : List Oper} (n : Nat) (hm : P.follows .mixedOrders = true) (hB : Region.planB l.toArray n [] = true) (hnd : Region.noDeferB l.toArray = true) (hn : n ≤ l.length)
    (h : wpCalm P l.toArray w (fun a' => ∀ n' x, wpListIn F N P l.toArray Q (l.drop n) a' (w.plus n' x)) (l.take n) a) : (Code.region id l.toArray true).wpIn F N P Q a w := by
  refine wpIn_region_plan hF n (withNo 0 (l.take n)) [] [] hm hB hnd rfl (fun p hp => ?_) (by simp) (fun i hi => .inl ?_) ?_ (by simp) ?_
  · have := (withNo_mem 0 _ p).1 hp
    have h2 := this.2
    rw [Nat.sub_zero, List.getElem?_take] at h2
    split at h2
    · rename_i hlt; exact ⟨hlt, h2, by simp⟩
    · cases h2
  · rw [withNo_fst]; simp; omega
  · rw [withNo_fst]; exact List.pairwise_lt_range'
  · rw [withNo_snd]
    simpa [wpMake] using h

end
end Go

/-
  What is proved: a range over a function whose rounds are known one by one, with worlds as terms.
-/
namespace Go
open Go.RowKit

theorem World.putObj_grows {w W : World} (g : w.grows W) {b : Nat} (o : Obj) (hb : w.heap.size ≤ b) : w.grows (W.putObj b o) :=
  ⟨g.os, g.tape, g.output, by simpa using g.size, fun k hk => by rw [World.putObj_heap_other (by omega)]; exact g.block k hk⟩

noncomputable def World.putIn (w : World) (n : Nat) (x : World) (b : Nat) (o : Obj) : World := (w.plus n x).putObj b o
@[go_sem] theorem World.putObj_plus (w : World) (n : Nat) (x : World) (b : Nat) (o : Obj) (h : b < w.heap.size) : (w.plus n x).putObj b o = (w.putObj b o).plus n (w.putIn n x b o) := by
  unfold World.putIn
  have g := World.grows_plus w n x
  refine (World.plus_self (w := w.putObj b o) (x := (w.plus n x).putObj b o) ⟨g.os, g.tape, g.output, by simp, fun k hk => ?_⟩ (by simp)).symm
  have hk' : k < w.heap.size := by simpa using hk
  by_cases hkb : k = b
  · subst hkb
    rw [World.putObj_heap_same (by simp; omega), World.putObj_heap_same hk']
  · rw [World.putObj_heap_other hkb, World.putObj_heap_other hkb]
    exact g.block k hk'
@[go_sem] theorem World.putObj_alloc_at (w : World) (o o' : Obj) (b : Nat) (h : b = w.heap.size) : (w.alloc o).putObj b o' = w.alloc o' := by
  subst h
  unfold World.putObj World.alloc
  congr 1
  apply Array.ext_getElem?
  intro k
  simp only [Array.getElem?_setIfInBounds, Array.getElem?_push, Array.size_push]
  by_cases hk : w.heap.size = k
  · subst hk; simp
  · rw [if_neg hk, if_neg (fun e => hk e.symm), if_neg (fun e => hk e.symm)]
@[go_sem] theorem World.putObj_alloc_lt (w : World) (o o' : Obj) (b : Nat) (h : b < w.heap.size) : (w.alloc o).putObj b o' = (w.putObj b o').alloc o := by
  unfold World.putObj World.alloc
  congr 1
  apply Array.ext_getElem?
  intro k
  simp only [Array.getElem?_setIfInBounds, Array.getElem?_push, Array.size_setIfInBounds, Array.size_push]
  by_cases hk : b = k
  · subst hk; rw [if_pos rfl, if_pos (by omega), if_neg (by omega), if_pos rfl, if_pos h]
  · rw [if_neg hk, if_neg hk]

/-- the contract of an iterator that yields these, one after another; Ro: what it leans on -/
def SeqC (P : Program) (f : Nat) (lb : Array Value) (xs : List (Array Value)) (Ro : World → Prop) : Prop :=
  ∀ (l : Nat) (J : Nat → World → Prop) (X : World → Prop) (W : World),
    (∀ k W W', J k W → W.grows W' → J k W') → (∀ W W', X W → W.grows W' → X W') → (∀ k W, J k W → Ro W) →
    (∀ k x, xs[k]? = some x → ∀ W, J k W → YieldAt Fence.wide 0 P l x W (fun e W' => (e = .returned (.bool true) ∧ J (k + 1) W') ∨ (e = .returned (.bool false) ∧ X W'))) →
    J 0 W → CallsIn Fence.wide 0 P f (#[.func (.yield l) #[] #[]] ++ lb) W (fun e W' => (∃ v, e = .returned v) ∧ (J xs.length W' ∨ X W'))

/-- what is asked at a round's end -/
def roundEnd (B : Nat → World → Prop) (X : Code → World → Prop) (k : Nat) (lo : Obj) : Exit → Act → World → Prop
  | .normal, _, W => ∃ V, B (k + 1) V ∧ ((V.alloc (.deferred (some []))).alloc lo).grows W
  | .ret, _, W => ∃ V, X .ret V ∧ ((V.alloc (.deferred (some []))).alloc lo).grows W
  | .exit id, _, W => ∃ V, X (.exit id) V ∧ ((V.alloc (.deferred (some []))).alloc lo).grows W
  | .goto t, _, W => ∃ V, X (.goto t) V ∧ ((V.alloc (.deferred (some []))).alloc lo).grows W
  | _, _, _ => False

end Go

/-
  What is proved: a loop whose frames collect marks of deferred calls (a range over a function stands inside).
-/
namespace Go
open Go.RowKit

/-- the slots where the mask is true are u's -/
def fillL : List Bool → List Value → (Nat → Value) → Nat → List Value
  | [], l, _, _ => l
  | _ :: _, [], _, _ => []
  | true :: m, _ :: l, u, i => u i :: fillL m l u (i + 1)
  | false :: m, x :: l, u, i => x :: fillL m l u (i + 1)
def getL : List Value → Nat → Value
  | [], _ => undef
  | x :: _, 0 => x
  | _ :: l, i + 1 => getL l i

theorem wp_loop_d {P : Program} {Q : Exit → Act → World → Prop} {c : Code} {l0 : List Value} {ds0 : List Deferred} {w : World} (mask : List Bool)
    (R : (Nat → Value) → List Deferred → World → Prop) (μ : (Nat → Value) → World → Nat)
    (h0 : l0 = fillL mask l0 (getL l0) 0) (h1 : R (getL l0) ds0 w)
    (round : ∀ u ds w, R u ds w → c.wp P (Exit.then (fun a' w' => ∃ l', a'.tmps = l'.toArray ∧ l' = fillL mask l0 (getL l') 0 ∧ R (getL l') a'.defers w' ∧ μ (getL l') w' < μ u w) Q) ⟨(fillL mask l0 u 0).toArray, ds⟩ w) :
    (Code.loop c).wp P Q ⟨l0.toArray, ds0⟩ w := by
  refine wp_loop (fun a w => a.tmps.toList = fillL mask l0 (getL a.tmps.toList) 0 ∧ R (getL a.tmps.toList) a.defers w) (fun a w => μ (getL a.tmps.toList) w) ⟨h0, h1⟩ ?_
  rintro ⟨t, ds⟩ w ⟨ht, hr⟩
  have h := round (getL t.toList) ds w hr
  dsimp only at ht hr ⊢
  rw [← ht] at h
  refine wp_mono h ?_
  intro e a' w' hq
  cases e with
  | normal =>
    obtain ⟨l', e1, e2, e3, e4⟩ := hq
    have e1' : a'.tmps.toList = l' := by rw [e1]
    exact ⟨⟨by rw [e1']; exact e2, by rw [e1']; exact e3⟩, by rw [e1']; exact e4⟩
  | _ => exact hq
end Go

/-
  What is proved: the law of a region that draws its order, with ONE operation that changes a block that is there, of which the others' values do not depend.
-/
namespace Go
open Go.RowKit

section
variable {P : Program} {ops : Array Oper} {w0 w1 : World}

/-- a read or a call that has the same value before the change and behind it -/
def Oper.calm2 (P : Program) (o : Oper) (a : Act) (w0 w1 : World) (K : Act → Prop) : Prop := ∃ v, ((∀ n x, o.calmAt P a (w0.plus n x) v) ∧ (∀ n x, o.calmAt P a (w1.plus n x) v)) ∧ K (a.put o.dst v)
def wpCalm2 (P : Program) (ops : Array Oper) (w0 w1 : World) (K : Act → Prop) : List Oper → Act → Prop
  | [], a => K a
  | o :: r, a => if Region.wanted o (yielded ops a.tmps) then o.calm2 P a w0 w1 (wpCalm2 P ops w0 w1 K r) else wpCalm2 P ops w0 w1 K r (a.put o.dst undef)
attribute [go_sem] Oper.calm2

theorem wpCalm2_cons {K : Act → Prop} {a : Act} {o : Oper} {r : List Oper} : wpCalm2 P ops w0 w1 K (o :: r) a ↔ ∃ v, (YieldsC P ops w0 o v a ∧ YieldsC P ops w1 o v a) ∧ wpCalm2 P ops w0 w1 K r (a.put o.dst v) := by
  simp only [wpCalm2]
  by_cases hw : Region.wanted o (yielded ops a.tmps) = true
  · simp only [hw, if_true, Oper.calm2, YieldsC, true_and, Bool.true_eq_false, false_and, or_false]
  · have hw' : Region.wanted o (yielded ops a.tmps) = false := by simpa using hw
    simp only [hw', if_false, YieldsC, Bool.false_eq_true, false_and, true_and, false_or, and_self, exists_eq_left]

theorem wpCalm2.snd {K : Act → Prop} : ∀ (l : List Oper) (a : Act), wpCalm2 P ops w0 w1 K l a → wpCalm P ops w1 K l a
  | [], _, h => h
  | o :: l, a, h => by
    obtain ⟨v, hv, h'⟩ := wpCalm2_cons.1 h
    exact wpCalm_cons.2 ⟨v, hv.2, wpCalm2.snd l _ h'⟩

/-- the operation that makes the change -/
def Oper.stirs (P : Program) (o : Oper) (a : Act) (w0 w1 : World) (v : Value) : Prop := ∀ n x, ∃ W', (execOp a.eval o).run P (w0.plus n x) = .ok (.value v) W' ∧ w1.grows W'
variable {F : Fence} (hF : F.Free P) {N : Nat}

/-- the operations below m do not wait for k, those from m on do -/
def Region.stirB (ops : Array Oper) (m n k : Nat) : Bool :=
  (List.range m).all (fun i => match ops[i]? with | some o => i == k || o.after.all (fun e => !Region.binds .any e || e.on != k) | none => true) &&
  (List.range n).all (fun i => decide (i < m) || Region.waitsFor .any ops i k)

end
end Go
namespace Go
open Go.RowKit
end Go

