/-
  What is proved: the law of a region that draws its order: reads and calls in any order, beside a chain of operations that make memory, of which each waits for the one before.
-/
import Derived.Test.YtjpccfpmhmddjaaM4
import Derived.Test.YtjpccfpmhmddjaaM6
set_option linter.all false
namespace Go
open Go.RowKit

/-- what is asked once an operation has come to this -/
def goesUpon (P : Program) (W : World) (post : Value → World → Prop) : Result Next → Prop
  | .ok (.value u) W' => W.grows W' ∧ post u W'
  | .ok .skip W' => W.grows W' ∧ post undef W'
  | .ok (.enter f args) W' => W' = W ∧ Calls P f args W (fun e W'' => ∃ v, e = .returned v ∧ W.grows W'' ∧ post v W'')
  | _ => False
def Oper.goes (P : Program) (o : Oper) (a : Act) (W : World) (post : Value → World → Prop) : Prop := goesUpon P W post ((execOp a.eval o).run P W)
attribute [go_sem] goesUpon Oper.goes
theorem goesUpon_mono {P : Program} {W : World} {p q : Value → World → Prop} (h : ∀ v W', W.grows W' → p v W' → q v W') (r : Result Next) (h1 : goesUpon P W p r) : goesUpon P W q r := by
  cases r with
  | halt z w' => simp only [goesUpon] at h1
  | ok nx w' =>
    cases nx <;> simp only [goesUpon] at h1 ⊢
    case value u => exact ⟨h1.1, h _ _ h1.1 h1.2⟩
    case skip => exact ⟨h1.1, h _ _ h1.1 h1.2⟩
    case enter f args => exact ⟨h1.1, h1.2.mono fun e W'' ⟨v, he, hg, hp⟩ => ⟨v, he, hg, h _ _ hg hp⟩⟩
/-- the same, where the operation may write into what came behind w0 -/
def goesUponO (P : Program) (w0 W : World) (post : Value → World → Prop) : Result Next → Prop
  | .ok (.value u) W' => w0.grows W' ∧ post u W'
  | .ok .skip W' => w0.grows W' ∧ post undef W'
  | .ok (.enter f args) W' => W' = W ∧ Calls P f args W (fun e W'' => ∃ v, e = .returned v ∧ w0.grows W'' ∧ post v W'')
  | _ => False
def Oper.goesO (P : Program) (o : Oper) (a : Act) (w0 W : World) (post : Value → World → Prop) : Prop := goesUponO P w0 W post ((execOp a.eval o).run P W)
attribute [go_sem] goesUponO Oper.goesO
theorem goesUponO_mono {P : Program} {w0 W : World} {p q : Value → World → Prop} (h : ∀ v W', w0.grows W' → p v W' → q v W') (r : Result Next) (h1 : goesUponO P w0 W p r) : goesUponO P w0 W q r := by
  cases r with
  | halt z w' => simp only [goesUponO] at h1
  | ok nx w' =>
    cases nx <;> simp only [goesUponO] at h1 ⊢
    case value u => exact ⟨h1.1, h _ _ h1.1 h1.2⟩
    case skip => exact ⟨h1.1, h _ _ h1.1 h1.2⟩
    case enter f args => exact ⟨h1.1, h1.2.mono fun e W'' ⟨v, he, hg, hp⟩ => ⟨v, he, hg, h _ _ hg hp⟩⟩
theorem goesUponO_of {P : Program} {w0 W : World} {p : Value → World → Prop} (hg : w0.grows W) (r : Result Next) (h1 : goesUpon P W p r) : goesUponO P w0 W p r := by
  cases r with
  | halt z w' => simp only [goesUpon] at h1
  | ok nx w' =>
    cases nx <;> simp only [goesUpon] at h1 <;> simp only [goesUponO]
    case value u => exact ⟨hg.trans h1.1, h1.2⟩
    case skip => exact ⟨hg.trans h1.1, h1.2⟩
    case enter f args => exact ⟨h1.1, h1.2.mono fun e W'' ⟨v, he, hg', hp⟩ => ⟨v, he, hg.trans hg', hp⟩⟩
theorem filt_len {α : Type} (q : α → Bool) : ∀ l : List α, (l.filter fun x => !q x).length + (l.filter q).length = l.length
  | [] => rfl
  | x :: l => by
    have := filt_len q l
    by_cases h : q x = true
    · simp [h]; omega
    · simp [h]; omega

section
variable {P : Program} {ops : Array Oper}

/-- the chain, with room between its operations -/
def wpChain (P : Program) (ops : Array Oper) (w0 : World) (K : Act → World → Prop) : List Oper → Act → World → Prop
  | [], a, W => ∀ W', W.grows W' → K a W'
  | o :: r, a, W => ∀ W', W.grows W' → w0.grows W' → if Region.wanted o (yielded ops a.tmps) then o.goesO P a w0 W' (fun v W'' => wpChain P ops w0 K r (a.put o.dst v) W'') else wpChain P ops w0 K r (a.put o.dst undef) W'
theorem wpChain_nil {w0 : World} {K : Act → World → Prop} {a : Act} {W : World} (h : ∀ n x, K a (W.plus n x)) : wpChain P ops w0 K [] a W := fun W' hg => by obtain ⟨n, x, rfl⟩ := World.plus_of hg; exact h n x
theorem wpChain_step {w0 : World} {Q : Act → World → Prop} {a : Act} {o : Oper} {r : List Oper} {W : World}
    (h : ∀ K : Act → World → Prop, (∀ a W, wpChain P ops w0 Q r a W → K a W) → ∀ n x, if Region.wanted o (yielded ops a.tmps) then o.goes P a (W.plus n x) (fun v W'' => K (a.put o.dst v) W'') else K (a.put o.dst undef) (W.plus n x)) : wpChain P ops w0 Q (o :: r) a W :=
  fun W' hg hg0 => by
    obtain ⟨n, x, rfl⟩ := World.plus_of hg
    have h1 := h _ (fun _ _ h => h) n x
    split
    · rename_i hw
      rw [if_pos hw] at h1
      exact goesUponO_of hg0 _ h1
    · rename_i hw
      rw [if_neg hw] at h1
      exact h1
/-- a step that may write into what came behind w0 -/
theorem wpChain_stepO {w0 : World} {Q : Act → World → Prop} {a : Act} {o : Oper} {r : List Oper} {W : World}
    (h : ∀ K : Act → World → Prop, (∀ a W, wpChain P ops w0 Q r a W → K a W) → ∀ n x, w0.grows (W.plus n x) → if Region.wanted o (yielded ops a.tmps) then o.goesO P a w0 (W.plus n x) (fun v W'' => K (a.put o.dst v) W'') else K (a.put o.dst undef) (W.plus n x)) : wpChain P ops w0 Q (o :: r) a W :=
  fun W' hg hg0 => by obtain ⟨n, x, rfl⟩ := World.plus_of hg; exact h _ (fun _ _ h => h) n x hg0
theorem wpChain_grow {w0 : World} {K : Act → World → Prop} {a : Act} : ∀ {l : List Oper} {W W' : World}, W.grows W' → wpChain P ops w0 K l a W → wpChain P ops w0 K l a W'
  | [], _, _, g, h => fun W'' g' => h W'' (g.trans g')
  | _ :: _, _, _, g, h => fun W'' g' g0 => h W'' (g.trans g') g0

theorem chain_front {w0 : World} {Φ : Value → Act → World → Prop} {o : Oper} (hso : ∀ cs b, o.op ≠ .select cs b) {W : World} : ∀ (es : List Oper) (a : Act),
    (∀ y ∈ es, o.apart ops y = true ∧ ∀ cs b, y.op ≠ .select cs b) →
    wpCalm P ops w0 (fun a' => if Region.wanted o (yielded ops a'.tmps) then o.goesO P a' w0 W (fun v W'' => Φ v (a'.put o.dst v) W'') else Φ undef (a'.put o.dst undef) W) es a →
    if Region.wanted o (yielded ops a.tmps) then o.goesO P a w0 W (fun v W'' => wpCalm P ops w0 (fun a'' => Φ v a'' W'') es (a.put o.dst v)) else wpCalm P ops w0 (fun a'' => Φ undef a'' W) es (a.put o.dst undef)
  | [], a, _, h => h
  | y :: es, a, hap, h => by
    obtain ⟨u, hy, h'⟩ := wpCalm_cons.1 h
    have h'' := chain_front hso es _ (fun z hz => hap z (List.mem_cons_of_mem _ hz)) h'
    obtain ⟨ha, hsy⟩ := hap y (List.mem_cons_self ..)
    obtain ⟨h1, h2, h3⟩ := Oper.apart_spec ha
    rw [wanted_put o a y.dst u h3] at h''
    split
    · rename_i hw
      rw [if_pos hw] at h''
      unfold Oper.goesO at h'' ⊢
      rw [execOp_put o hso a y.dst u h3] at h''
      refine goesUponO_mono (fun v W' _ hp => wpCalm_cons.2 ⟨u, (YieldsC.put hsy h1).2 hy, ?_⟩) _ h''
      rw [Act.put_comm a v u h2]
      exact hp
    · rename_i hw
      rw [if_neg hw] at h''
      refine wpCalm_cons.2 ⟨u, (YieldsC.put hsy h1).2 hy, ?_⟩
      rw [Act.put_comm a undef u h2]
      exact h''

/-- what is asked of the text: the operations 'ms' are a chain, nothing else in the head waits for them; of two one waits or they are apart -/
def Region.chainsB (ops : Array Oper) (n : Nat) (ms : List Nat) : Bool :=
  Region.mixB ops n [] &&
  (List.range n).all (fun i => ms.contains i || match ops[i]? with | some o => o.after.all (fun e => !Region.binds .any e || !ms.contains e.on) | none => true) &&
  (ms.zip (ms.drop 1)).all (fun p => decide (p.1 < p.2) && Region.waitsFor .any ops p.2 p.1) && ms.all (fun i => decide (i < n))
def Region.chainPlanB (ops : Array Oper) (n : Nat) (ms : List Nat) : Bool :=
  Region.chainsB ops n ms && (decide (n = ops.size) || (decide (n < ops.size) && Region.sinkB .any ops n && Region.chainB .any ops n)) &&
  Region.seqB .any ops (ops.size - n) n ((List.range ops.size).map fun i => decide (i < n)).toArray
def without (l : List Oper) (n : Nat) (ms : List Nat) : List Oper := ((withNo 0 (l.take n)).filter fun p => !ms.contains p.1).map (·.2)
def only (l : List Oper) (n : Nat) (ms : List Nat) : List Oper := ((withNo 0 (l.take n)).filter fun p => ms.contains p.1).map (·.2)
end

section
variable {P : Program} {ops : Array Oper} {w0 : World} {F : Fence} (hF : F.Free P) {N : Nat}

include hF in
theorem wpAnyIn_of_chain {Q : Exit → Act → World → Prop} {n : Nat} {ms0 : List Nat}
    (hB : Region.chainsB ops n ms0 = true) (hnd : Region.noDeferB ops = true)
    (hheads0 : ∀ (listed : Array Bool) (i0 : Nat), HeadInv .any ops n listed → i0 < n → listed.getD i0 true = false → ∀ t ∈ Region.ready .any ops listed, t < n)
    {K : Act → World → Prop}
    (hK : ∀ a W, K a W → ∀ listed, HeadInv .any ops n listed → (∀ i, i < n → listed.getD i false = true) → wpAnyIn F N P .any ops Q (ops.size - n) listed a W) :
    ∀ (cnt : Nat) (es ms : List (Nat × Oper)) (listed : Array Bool) (a : Act) (W : World),
      es.length + ms.length = cnt → HeadInv .any ops n listed →
      (∀ i, i < n → (listed.getD i false = false ↔ i ∈ es.map (·.1) ∨ i ∈ ms.map (·.1))) →
      (∀ p ∈ es, p.1 < n ∧ ops[p.1]? = some p.2 ∧ ms0.contains p.1 = false) → (∀ p ∈ ms, p.1 < n ∧ ops[p.1]? = some p.2 ∧ ms0.contains p.1 = true) →
      (es.map (·.1)).Pairwise (· < ·) → (ms.map (·.1)).Pairwise (fun i j => i < j) → (∀ p q : Nat × Oper, ∀ l1 l2, ms = l1 ++ p :: q :: l2 → Region.waitsFor .any ops q.1 p.1 = true) →
      w0.grows W → wpCalm P ops w0 (fun a' => wpChain P ops w0 K (ms.map (·.2)) a' W) (es.map (·.2)) a →
      wpAnyIn F N P .any ops Q (cnt + (ops.size - n)) listed a W := by
  simp only [Region.chainsB, Bool.and_eq_true] at hB
  obtain ⟨⟨⟨hmix, hEM⟩, _⟩, _⟩ := hB
  simp only [Region.mixB, Bool.and_eq_true, decide_eq_true_eq] at hmix
  obtain ⟨⟨⟨hsel, hnle⟩, hpair⟩, hedge⟩ := hmix
  have hsp := Region.noSelect_spec hsel
  have pairOf : ∀ i j oi oj, i < j → j < n → ops[i]? = some oi → ops[j]? = some oj → Region.waitsFor .any ops j i = true ∨ oi.apart ops oj = true := by
    intro i j oi oj hij hj hi hoj
    have h1 := List.all_eq_true.1 (List.all_eq_true.1 hpair i (List.mem_range.2 (by omega))) j (List.mem_range.2 hj)
    simp only [Bool.or_eq_true, decide_eq_true_eq, Region.pairB, hi, hoj] at h1
    rcases h1 with h1 | h1
    · omega
    · exact h1
  have apart_symm : ∀ x y : Oper, x.apart ops y = true → y.apart ops x = true := by
    intro x y h
    unfold Oper.apart at *
    cases hx : x.dst <;> cases hy : y.dst <;> simp [hx, hy] at h ⊢
    · exact h
    · exact h
    · exact ⟨⟨h.2, fun e => h.1.2 e.symm⟩, h.1.1⟩
  have edgeOf : ∀ i o, i < n → ops[i]? = some o → ∀ e ∈ o.after, Region.binds .any e = true → e.on < i := by
    intro i o hi ho e he hb
    have h1 := List.all_eq_true.1 hedge i (List.mem_range.2 hi)
    simp only [ho, Bool.and_eq_true] at h1
    have h2 := Array.all_eq_true_iff_forall_mem.1 h1.1 e he
    simpa only [hb, Bool.not_true, Bool.false_or, decide_eq_true_eq] using h2
  have edgeEM : ∀ i o, i < n → ops[i]? = some o → ms0.contains i = false → ∀ e ∈ o.after, Region.binds .any e = true → ms0.contains e.on = false := by
    intro i o hi ho h3 e he hb
    have h1 := List.all_eq_true.1 hEM i (List.mem_range.2 hi)
    simp only [ho, h3, Bool.false_or] at h1
    have h2 := Array.all_eq_true_iff_forall_mem.1 h1 e he
    simpa [hb] using h2
  have unwait : ∀ (listed : Array Bool) (i j : Nat), i ∈ Region.ready .any ops listed → listed.getD j false = false → Region.waitsFor .any ops i j = true → False := by
    intro listed i j hi hj hw
    obtain ⟨oi, hoi, e, he, hb, hon⟩ := Region.waitsFor_spec hw
    obtain ⟨_, o', ho', hall⟩ := mem_ready.1 hi
    rw [hoi] at ho'; cases ho'
    have := hall e he hb
    rw [hon, hj] at this; cases this
  intro cnt
  induction cnt with
  | zero =>
    intro es ms listed a W hc inv hmem hes hms _ _ _ hgW h
    have he : es = [] := List.eq_nil_of_length_eq_zero (by omega)
    have ha : ms = [] := List.eq_nil_of_length_eq_zero (by omega)
    subst he; subst ha
    rw [Nat.zero_add]
    refine hK a W (h W (World.grows.refl _)) listed inv fun i hi => ?_
    have := hmem i hi
    simp only [List.map_nil, List.not_mem_nil, or_self, iff_false, Bool.not_eq_false] at this
    exact this
  | succ cnt ih =>
    intro es ms listed a W hc inv hmem hes hms hse hsm hsw hgW h
    rw [show cnt + 1 + (ops.size - n) = (cnt + (ops.size - n)) + 1 by omega]
    have hun : ∃ i, i < n ∧ listed.getD i true = false := by
      cases es with
      | cons p es =>
        have h1 := hes p (List.mem_cons_self ..)
        refine ⟨p.1, h1.1, getD_in (by rw [inv.size]; omega) ((hmem p.1 h1.1).2 (.inl (by simp)))⟩
      | nil =>
        cases ms with
        | nil => simp at hc
        | cons p ms =>
          have h1 := hms p (List.mem_cons_self ..)
          exact ⟨p.1, h1.1, getD_in (by rw [inv.size]; omega) ((hmem p.1 h1.1).2 (.inr (by simp)))⟩
    obtain ⟨i0, hi0, hun0⟩ := hun
    have hheads := hheads0 listed i0 inv hi0 hun0
    refine ⟨fun hnil => ?_, fun i hi => ?_⟩
    · exfalso
      have first : ∀ i o, i < n → ops[i]? = some o → listed.getD i false = false → (∀ j, j < i → listed.getD j false = true ∨ (ms0.contains i = false ∧ ms0.contains j = true)) → False := by
        intro i o hi ho hl hall
        have : i ∈ Region.ready .any ops listed := mem_ready.2 ⟨getD_in (by rw [inv.size]; omega) hl, o, ho, fun e he hb => by
          have h1 := edgeOf i o hi ho e he hb
          rcases hall e.on h1 with h3 | ⟨h3, h4⟩
          · exact h3
          · rw [edgeEM i o hi ho h3 e he hb] at h4; cases h4⟩
        rw [hnil] at this; cases this
      cases es with
      | cons p es =>
        obtain ⟨h1, h2, h3⟩ := hes p (List.mem_cons_self ..)
        refine first p.1 p.2 h1 h2 ((hmem p.1 h1).2 (.inl (by simp))) fun j hj => ?_
        cases hl : listed.getD j false with
        | true => exact .inl rfl
        | false =>
          refine .inr ⟨h3, ?_⟩
          rcases (hmem j (by omega)).1 hl with h4 | h4
          · simp only [List.map_cons, List.mem_cons] at h4
            simp only [List.map_cons, List.pairwise_cons] at hse
            rcases h4 with h4 | h4
            · omega
            · have := hse.1 j h4; omega
          · obtain ⟨q, hq, rfl⟩ := List.mem_map.1 h4
            exact (hms q hq).2.2
      | nil =>
        cases ms with
        | nil => simp at hc
        | cons p ms =>
          obtain ⟨h1, h2, h3⟩ := hms p (List.mem_cons_self ..)
          refine first p.1 p.2 h1 h2 ((hmem p.1 h1).2 (.inr (by simp))) fun j hj => ?_
          cases hl : listed.getD j false with
          | true => exact .inl rfl
          | false =>
            rcases (hmem j (by omega)).1 hl with h4 | h4
            · simp at h4
            · simp only [List.map_cons, List.mem_cons] at h4
              simp only [List.map_cons, List.pairwise_cons] at hsm
              rcases h4 with h4 | h4
              · omega
              · have := hsm.1 j h4; omega
    · have hin := hheads i hi
      have hl : listed.getD i false = false := getD_both (mem_ready.1 hi).1
      have inv' := inv.set hi hin
      have set_mem : ∀ j, j < n → j ≠ i → ((listed.setIfInBounds i true).getD j false = false ↔ listed.getD j false = false) := fun j hj hji => by rw [getD_set_ne false (Ne.symm hji)]
      have set_self : (listed.setIfInBounds i true).getD i false = true := by
        have : i < listed.size := by rw [inv.size]; omega
        simp [this]
      rcases (hmem i hin).1 hl with hie | him
      · obtain ⟨p, hp, rfl⟩ := List.mem_map.1 hie
        obtain ⟨l1, l2, rfl⟩ := List.append_of_mem hp
        obtain ⟨h1, h2, h3⟩ := hes p hp
        have hsort := hse
        simp only [List.map_append, List.map_cons, List.pairwise_append, List.pairwise_cons] at hsort
        have hap1 : ∀ y ∈ l1.map (·.2), p.2.apart ops y = true ∧ ∀ cs b, y.op ≠ .select cs b := by
          intro y hy
          obtain ⟨q, hq, rfl⟩ := List.mem_map.1 hy
          obtain ⟨g1, g2, g3⟩ := hes q (by simp [hq])
          refine ⟨?_, fun cs b => hsp q.1 q.2 cs b g2⟩
          have hlt : q.1 < p.1 := hsort.2.2 q.1 (List.mem_map.2 ⟨q, hq, rfl⟩) p.1 (by simp)
          rcases pairOf q.1 p.1 q.2 p.2 hlt h1 g2 h2 with hw | ha
          · exact (unwait listed p.1 q.1 hi ((hmem q.1 g1).2 (.inl (by simp; exact .inl ⟨_, hq⟩))) hw).elim
          · exact apart_symm _ _ ha
        rw [List.map_append, List.map_cons] at h
        obtain ⟨v, hy, h'⟩ := calm_front (fun cs b => hsp p.1 p.2 cs b h2) _ a hap1 h
        have hrest : ∀ W', W.grows W' → wpAnyIn F N P .any ops Q (cnt + (ops.size - n)) (listed.setIfInBounds p.1 true) (a.put p.2.dst v) W' := by
          intro W' hg
          refine ih (l1 ++ l2) ms _ _ W' (by simp at hc ⊢; omega) inv' (fun j hj => ?_) (fun q hq => hes q (by simp at hq ⊢; rcases hq with h | h <;> simp [h])) hms ?_ hsm hsw (hgW.trans hg) (by rw [List.map_append]; exact wpCalm_mono (fun a' h => wpChain_grow hg h) _ _ h')
          · by_cases hji : j = p.1
            · subst hji
              rw [set_self]
              simp only [Bool.true_eq_false, false_iff]
              rintro (hh | hh)
              · obtain ⟨q, hq, he⟩ := List.mem_map.1 hh
                rcases List.mem_append.1 hq with hq | hq
                · have := hsort.2.2 q.1 (List.mem_map.2 ⟨q, hq, rfl⟩) p.1 (by simp); omega
                · have := hsort.2.1.1 q.1 (List.mem_map.2 ⟨q, hq, rfl⟩); omega
              · obtain ⟨q, hq, he⟩ := List.mem_map.1 hh
                have := (hms q hq).2.2
                rw [he, h3] at this; cases this
            · rw [set_mem j hj hji, hmem j hj]
              simp only [List.map_append, List.map_cons, List.mem_append, List.mem_cons]
              constructor
              · rintro ((h | h | h) | h)
                · exact .inl (.inl h)
                · exact absurd h hji
                · exact .inl (.inr h)
                · exact .inr h
              · rintro ((h | h) | h)
                · exact .inl (.inl h)
                · exact .inl (.inr (.inr h))
                · exact .inr h
          · rw [List.map_append, List.pairwise_append]
            exact ⟨hsort.1, hsort.2.1.2, fun x hx y hy => hsort.2.2 x hx y (List.mem_cons_of_mem _ hy)⟩
        unfold wpOpIn
        simp only [h2]
        rcases hy with ⟨hw, hv⟩ | ⟨hw, rfl⟩
        · rw [if_pos hw]
          obtain ⟨n', x, rfl⟩ := World.plus_of hgW
          have hv' := hv n' x
          unfold Oper.calmAt at hv'
          unfold Oper.wpIn
          refine ⟨fun f _ => hF.fn f, ?_⟩
          rw [Oper.semAt_plain F a.eval p.2 (Region.noDefer_spec hnd p.1 p.2 h2)]
          generalize (execOp a.eval p.2).run P (w0.plus n' x) = r at *
          cases r with
          | halt z w' => simp only [Oper.calmUpon] at hv'
          | ok nx w' =>
            cases nx <;> simp only [Oper.calmUpon] at hv' <;> simp only [Oper.uponIn]
            case value u => obtain ⟨rfl, rfl⟩ := hv'; exact hrest _ (World.grows.refl _)
            case skip => obtain ⟨rfl, rfl⟩ := hv'; exact hrest _ (World.grows.refl _)
            case enter f args =>
              obtain ⟨rfl, hcall⟩ := hv'
              refine ⟨(fun h => by rw [hF.depth] at h; cases h), hF.calls _ _ _ _ _ (hcall.mono fun e w'' ⟨he, hg⟩ => ?_)⟩
              subst he
              exact hrest _ hg
        · rw [if_neg (by rw [hw]; exact Bool.false_ne_true)]
          exact ⟨fun f _ => hF.fn f, hrest _ (World.grows.refl _)⟩
      · -- the next of the chain
        cases ms with
        | nil => simp at him
        | cons m ms =>
        have hhead : i = m.1 := by
          rcases List.mem_cons.1 (by simpa using him : i ∈ m.1 :: ms.map (·.1)) with h1 | h1
          · exact h1
          · exfalso
            obtain ⟨q, hq, rfl⟩ := List.mem_map.1 h1
            obtain ⟨l1, l2, rfl⟩ := List.append_of_mem hq
            rcases List.eq_nil_or_concat l1 with rfl | ⟨l0, z, rfl⟩
            · exact unwait listed q.1 m.1 hi ((hmem m.1 (hms m (List.mem_cons_self ..)).1).2 (.inr (by simp))) (hsw m q [] l2 (by simp))
            · exact unwait listed q.1 z.1 hi ((hmem z.1 (hms z (by simp)).1).2 (.inr (by simp))) (hsw z q (m :: l0) l2 (by simp))
        subst hhead
        obtain ⟨h1, h2, h3⟩ := hms m (List.mem_cons_self ..)
        have hape : ∀ y ∈ es.map (·.2), m.2.apart ops y = true ∧ ∀ cs b, y.op ≠ .select cs b := by
          intro y hy
          obtain ⟨q, hq, rfl⟩ := List.mem_map.1 hy
          obtain ⟨g1, g2, g3⟩ := hes q hq
          refine ⟨?_, fun cs b => hsp q.1 q.2 cs b g2⟩
          have hql : listed.getD q.1 false = false := (hmem q.1 g1).2 (.inl (List.mem_map.2 ⟨q, hq, rfl⟩))
          rcases Nat.lt_trichotomy q.1 m.1 with hlt | heq | hgt
          · rcases pairOf q.1 m.1 q.2 m.2 hlt h1 g2 h2 with hw | ha
            · exact (unwait listed m.1 q.1 hi hql hw).elim
            · exact apart_symm _ _ ha
          · rw [heq, h3] at g3; cases g3
          · rcases pairOf m.1 q.1 m.2 q.2 hgt g1 h2 g2 with hw | ha
            · exfalso
              obtain ⟨oq, hoq, e, he, hb, hon⟩ := Region.waitsFor_spec hw
              have := edgeEM q.1 oq g1 hoq g3 e he hb
              rw [hon, h3] at this; cases this
            · exact ha
        have h' := chain_front (Φ := fun _ a'' W'' => wpChain P ops w0 K (ms.map (·.2)) a'' W'') (fun cs b => hsp m.1 m.2 cs b h2) _ a hape (wpCalm_mono (fun a' h => h W (World.grows.refl _) hgW) _ _ h)
        have hrest : ∀ v W', w0.grows W' → wpCalm P ops w0 (fun a'' => wpChain P ops w0 K (ms.map (·.2)) a'' W') (es.map (·.2)) (a.put m.2.dst v) → wpAnyIn F N P .any ops Q (cnt + (ops.size - n)) (listed.setIfInBounds m.1 true) (a.put m.2.dst v) W' := by
          intro v W' hg hh
          have hsm' : m.1 ∉ ms.map (·.1) := by
            simp only [List.map_cons, List.pairwise_cons] at hsm
            intro hx
            have := hsm.1 m.1 hx
            omega
          refine ih es ms _ _ W' (by simp at hc ⊢; omega) inv' (fun j hj => ?_) hes (fun q hq => hms q (List.mem_cons_of_mem _ hq)) hse ?_ (fun p q l1 l2 he => hsw p q (m :: l1) l2 (by rw [he]; rfl)) hg hh
          · by_cases hji : j = m.1
            · subst hji
              rw [set_self]
              simp only [Bool.true_eq_false, false_iff]
              rintro (hh | hh)
              · obtain ⟨q, hq, he⟩ := List.mem_map.1 hh
                have := (hes q hq).2.2
                rw [he, h3] at this; cases this
              · exact hsm' hh
            · rw [set_mem j hj hji, hmem j hj]
              simp only [List.map_cons, List.mem_cons]
              constructor
              · rintro (h | h | h)
                · exact .inl h
                · exact absurd h hji
                · exact .inr h
              · rintro (h | h)
                · exact .inl h
                · exact .inr (.inr h)
          · simp only [List.map_cons, List.pairwise_cons] at hsm
            exact hsm.2
        unfold wpOpIn
        simp only [h2]
        by_cases hw : Region.wanted m.2 (yielded ops a.tmps) = true
        · rw [if_pos hw] at h' ⊢
          unfold Oper.goesO at h'
          unfold Oper.wpIn
          refine ⟨fun f _ => hF.fn f, ?_⟩
          rw [Oper.semAt_plain F a.eval m.2 (Region.noDefer_spec hnd m.1 m.2 h2)]
          generalize (execOp a.eval m.2).run P W = r at *
          cases r with
          | halt z w' => simp only [goesUponO] at h'
          | ok nx w' =>
            cases nx <;> simp only [goesUponO] at h' <;> simp only [Oper.uponIn]
            case value u => exact hrest _ _ h'.1 h'.2
            case skip => exact hrest _ _ h'.1 h'.2
            case enter f args =>
              obtain ⟨rfl, hcall⟩ := h'
              refine ⟨(fun h => by rw [hF.depth] at h; cases h), hF.calls _ _ _ _ _ (hcall.mono fun e w'' ⟨v, he, hg, hp⟩ => ?_)⟩
              subst he
              exact hrest _ _ hg hp
        · rw [if_neg hw] at h' ⊢
          exact ⟨fun f _ => hF.fn f, hrest _ _ hgW h'⟩

theorem zip_nextIn : ∀ (l : List Nat) (f : Nat → Nat → Bool), (l.zip (l.drop 1)).all (fun p => f p.1 p.2) = true → ∀ (i j : Nat) (l1 l2 : List Nat), l = l1 ++ i :: j :: l2 → f i j = true
  | l, f, h, i, j, l1, l2, he => by
    subst he
    refine List.all_eq_true.1 h (i, j) ?_
    rw [List.mem_iff_getElem?]
    refine ⟨l1.length, ?_⟩
    rw [List.getElem?_zip_eq_some]
    simp [List.getElem?_append_right, List.getElem?_drop]

include hF in
/-- reads and calls in any order, beside a chain (numbers ms), a tail in order from n on -/
theorem wpIn_region_chain {id : Nat} {Q : Exit → Act → World → Prop} {a : Act} {w : World} {l : List Oper} (n : Nat) (ms : List Nat) (hm : P.follows .mixedOrders = true)
    (hB : (Region.chainPlanB l.toArray n ms && decide (((withNo 0 (l.take n)).filter fun p => ms.contains p.1).map (·.1) = ms)) = true) (hnd : Region.noDeferB l.toArray = true) (hn : n ≤ l.length)
    (h : wpCalm P l.toArray w (fun a' => wpChain P l.toArray w (fun a'' W => wpListIn F N P l.toArray Q (l.drop n) a'' W) (only l n ms) a' w) (without l n ms) a) : (Code.region id l.toArray true).wpIn F N P Q a w := by
  simp only [Region.chainPlanB, Bool.and_eq_true, Bool.or_eq_true, decide_eq_true_eq] at hB
  obtain ⟨⟨⟨hch, hplan⟩, hseq⟩, hms⟩ := hB
  have hch0 := hch
  have hnle : n ≤ l.toArray.size := by simpa using hn
  refine wpIn_region_any hm ?_
  obtain ⟨n0, x0, h0⟩ := World.more_drew w
  rw [h0]
  have hat : ∀ p ∈ withNo 0 (l.take n), p.1 < n ∧ l.toArray[p.1]? = some p.2 := fun p hp => by
    have h2 := ((withNo_mem 0 _ p).1 hp).2
    rw [Nat.sub_zero, List.getElem?_take] at h2
    split at h2
    · rename_i hlt; exact ⟨by omega, by simpa using h2⟩
    · cases h2
  have hsorted : ((withNo 0 (l.take n)).map (·.1)).Pairwise (· < ·) := by rw [withNo_fst]; exact List.pairwise_lt_range'
  have hfilt : ∀ (q : Nat × Oper → Bool), (((withNo 0 (l.take n)).filter q).map (·.1)).Pairwise (· < ·) := fun q => by
    have : ((withNo 0 (l.take n)).filter q).Sublist (withNo 0 (l.take n)) := List.filter_sublist
    exact hsorted.sublist (this.map _)
  have hlen : ((withNo 0 (l.take n)).filter fun p => !ms.contains p.1).length + ((withNo 0 (l.take n)).filter fun p => ms.contains p.1).length = n := by
    have e1 : (withNo 0 (l.take n)).length = n := by
      have := congrArg List.length (withNo_snd 0 (l.take n))
      simp at this
      omega
    have := filt_len (fun p : Nat × Oper => ms.contains p.1) (withNo 0 (l.take n))
    omega
  have key := wpAnyIn_of_chain hF (N := N) (P := P) (ops := l.toArray) (w0 := w) (Q := Q) (n := n) (ms0 := ms) hch hnd
    (fun listed i0 inv hi0 hun0 => by
      rcases hplan with h | ⟨⟨h1, h2⟩, h3⟩
      · subst h; exact heads_of_all listed
      · exact heads_of_tail h1 h2 h3 listed i0 inv hi0 hun0)
    (K := fun a'' W => wpListIn F N P l.toArray Q (l.drop n) a'' W)
    (fun a W hK listed inv hall => by
      have hl := seq_listed inv hnle hall
      subst hl
      have hd : (l.drop n).length = l.toArray.size - n := by simp
      have := wpAnyIn_of_seq hnd (Q' := Q) (l.drop n) n _ a W (fun j => by simp [List.getElem?_drop]) (by rw [hd]; exact hseq) hK
      rwa [hd] at this)
    n ((withNo 0 (l.take n)).filter fun p => !ms.contains p.1) ((withNo 0 (l.take n)).filter fun p => ms.contains p.1) (Array.replicate l.toArray.size false) a (w.plus n0 x0) hlen (headInv_start n)
    (fun i hi => by
      simp only [getD_replicate_false, true_iff, List.mem_map, List.mem_filter]
      have hil : i < (l.take n).length := by simp; omega
      have hi2 : (i, (l.take n)[i]) ∈ withNo 0 (l.take n) := (withNo_mem 0 _ _).2 ⟨Nat.zero_le _, by rw [Nat.sub_zero]; exact List.getElem?_eq_getElem hil⟩
      cases hc : ms.contains i with
      | true => exact .inr ⟨_, ⟨hi2, hc⟩, rfl⟩
      | false => exact .inl ⟨_, ⟨hi2, by simpa using hc⟩, rfl⟩)
    (fun p hp => by
      obtain ⟨h1, h2⟩ := List.mem_filter.1 hp
      exact ⟨(hat p h1).1, (hat p h1).2, by simpa using h2⟩)
    (fun p hp => by
      obtain ⟨h1, h2⟩ := List.mem_filter.1 hp
      exact ⟨(hat p h1).1, (hat p h1).2, h2⟩)
    (hfilt _) (hfilt _)
    (fun p q l1 l2 he => by
      simp only [Region.chainsB, Bool.and_eq_true] at hch0
      have hz := hch0.1.2
      have := zip_nextIn ms (fun i j => decide (i < j) && Region.waitsFor .any l.toArray j i) hz p.1 q.1 (l1.map (·.1)) (l2.map (·.1)) (by rw [← hms, he]; simp)
      simp only [Bool.and_eq_true] at this
      exact this.2)
    (World.grows_plus _ _ _)
    (wpCalm_mono (fun a' h => wpChain_grow (World.grows_plus _ _ _) h) _ _ h)
  rw [show n + (l.toArray.size - n) = l.toArray.size by omega] at key
  exact key
end

section
variable {P : Program} {ops : Array Oper} {w0 : World}

theorem wpAny_of_chain {Q : Exit → Act → World → Prop} {n : Nat} {ms0 : List Nat}
    (hB : Region.chainsB ops n ms0 = true)
    (hheads0 : ∀ (listed : Array Bool) (i0 : Nat), HeadInv .any ops n listed → i0 < n → listed.getD i0 true = false → ∀ t ∈ Region.ready .any ops listed, t < n)
    {K : Act → World → Prop}
    (hK : ∀ a W, K a W → ∀ listed, HeadInv .any ops n listed → (∀ i, i < n → listed.getD i false = true) → wpAny P .any ops Q (ops.size - n) listed a W) :
    ∀ (cnt : Nat) (es ms : List (Nat × Oper)) (listed : Array Bool) (a : Act) (W : World),
      es.length + ms.length = cnt → HeadInv .any ops n listed →
      (∀ i, i < n → (listed.getD i false = false ↔ i ∈ es.map (·.1) ∨ i ∈ ms.map (·.1))) →
      (∀ p ∈ es, p.1 < n ∧ ops[p.1]? = some p.2 ∧ ms0.contains p.1 = false) → (∀ p ∈ ms, p.1 < n ∧ ops[p.1]? = some p.2 ∧ ms0.contains p.1 = true) →
      (es.map (·.1)).Pairwise (· < ·) → (ms.map (·.1)).Pairwise (fun i j => i < j) → (∀ p q : Nat × Oper, ∀ l1 l2, ms = l1 ++ p :: q :: l2 → Region.waitsFor .any ops q.1 p.1 = true) →
      w0.grows W → wpCalm P ops w0 (fun a' => wpChain P ops w0 K (ms.map (·.2)) a' W) (es.map (·.2)) a →
      wpAny P .any ops Q (cnt + (ops.size - n)) listed a W := by
  simp only [Region.chainsB, Bool.and_eq_true] at hB
  obtain ⟨⟨⟨hmix, hEM⟩, _⟩, _⟩ := hB
  simp only [Region.mixB, Bool.and_eq_true, decide_eq_true_eq] at hmix
  obtain ⟨⟨⟨hsel, hnle⟩, hpair⟩, hedge⟩ := hmix
  have hsp := Region.noSelect_spec hsel
  have pairOf : ∀ i j oi oj, i < j → j < n → ops[i]? = some oi → ops[j]? = some oj → Region.waitsFor .any ops j i = true ∨ oi.apart ops oj = true := by
    intro i j oi oj hij hj hi hoj
    have h1 := List.all_eq_true.1 (List.all_eq_true.1 hpair i (List.mem_range.2 (by omega))) j (List.mem_range.2 hj)
    simp only [Bool.or_eq_true, decide_eq_true_eq, Region.pairB, hi, hoj] at h1
    rcases h1 with h1 | h1
    · omega
    · exact h1
  have apart_symm : ∀ x y : Oper, x.apart ops y = true → y.apart ops x = true := by
    intro x y h
    unfold Oper.apart at *
    cases hx : x.dst <;> cases hy : y.dst <;> simp [hx, hy] at h ⊢
    · exact h
    · exact h
    · exact ⟨⟨h.2, fun e => h.1.2 e.symm⟩, h.1.1⟩
  have edgeOf : ∀ i o, i < n → ops[i]? = some o → ∀ e ∈ o.after, Region.binds .any e = true → e.on < i := by
    intro i o hi ho e he hb
    have h1 := List.all_eq_true.1 hedge i (List.mem_range.2 hi)
    simp only [ho, Bool.and_eq_true] at h1
    have h2 := Array.all_eq_true_iff_forall_mem.1 h1.1 e he
    simpa only [hb, Bool.not_true, Bool.false_or, decide_eq_true_eq] using h2
  have edgeEM : ∀ i o, i < n → ops[i]? = some o → ms0.contains i = false → ∀ e ∈ o.after, Region.binds .any e = true → ms0.contains e.on = false := by
    intro i o hi ho h3 e he hb
    have h1 := List.all_eq_true.1 hEM i (List.mem_range.2 hi)
    simp only [ho, h3, Bool.false_or] at h1
    have h2 := Array.all_eq_true_iff_forall_mem.1 h1 e he
    simpa [hb] using h2
  have unwait : ∀ (listed : Array Bool) (i j : Nat), i ∈ Region.ready .any ops listed → listed.getD j false = false → Region.waitsFor .any ops i j = true → False := by
    intro listed i j hi hj hw
    obtain ⟨oi, hoi, e, he, hb, hon⟩ := Region.waitsFor_spec hw
    obtain ⟨_, o', ho', hall⟩ := mem_ready.1 hi
    rw [hoi] at ho'; cases ho'
    have := hall e he hb
    rw [hon, hj] at this; cases this
  intro cnt
  induction cnt with
  | zero =>
    intro es ms listed a W hc inv hmem hes hms _ _ _ hgW h
    have he : es = [] := List.eq_nil_of_length_eq_zero (by omega)
    have ha : ms = [] := List.eq_nil_of_length_eq_zero (by omega)
    subst he; subst ha
    rw [Nat.zero_add]
    refine hK a W (h W (World.grows.refl _)) listed inv fun i hi => ?_
    have := hmem i hi
    simp only [List.map_nil, List.not_mem_nil, or_self, iff_false, Bool.not_eq_false] at this
    exact this
  | succ cnt ih =>
    intro es ms listed a W hc inv hmem hes hms hse hsm hsw hgW h
    rw [show cnt + 1 + (ops.size - n) = (cnt + (ops.size - n)) + 1 by omega]
    have hun : ∃ i, i < n ∧ listed.getD i true = false := by
      cases es with
      | cons p es =>
        have h1 := hes p (List.mem_cons_self ..)
        refine ⟨p.1, h1.1, getD_in (by rw [inv.size]; omega) ((hmem p.1 h1.1).2 (.inl (by simp)))⟩
      | nil =>
        cases ms with
        | nil => simp at hc
        | cons p ms =>
          have h1 := hms p (List.mem_cons_self ..)
          exact ⟨p.1, h1.1, getD_in (by rw [inv.size]; omega) ((hmem p.1 h1.1).2 (.inr (by simp)))⟩
    obtain ⟨i0, hi0, hun0⟩ := hun
    have hheads := hheads0 listed i0 inv hi0 hun0
    refine ⟨fun hnil => ?_, fun i hi => ?_⟩
    · exfalso
      have first : ∀ i o, i < n → ops[i]? = some o → listed.getD i false = false → (∀ j, j < i → listed.getD j false = true ∨ (ms0.contains i = false ∧ ms0.contains j = true)) → False := by
        intro i o hi ho hl hall
        have : i ∈ Region.ready .any ops listed := mem_ready.2 ⟨getD_in (by rw [inv.size]; omega) hl, o, ho, fun e he hb => by
          have h1 := edgeOf i o hi ho e he hb
          rcases hall e.on h1 with h3 | ⟨h3, h4⟩
          · exact h3
          · rw [edgeEM i o hi ho h3 e he hb] at h4; cases h4⟩
        rw [hnil] at this; cases this
      cases es with
      | cons p es =>
        obtain ⟨h1, h2, h3⟩ := hes p (List.mem_cons_self ..)
        refine first p.1 p.2 h1 h2 ((hmem p.1 h1).2 (.inl (by simp))) fun j hj => ?_
        cases hl : listed.getD j false with
        | true => exact .inl rfl
        | false =>
          refine .inr ⟨h3, ?_⟩
          rcases (hmem j (by omega)).1 hl with h4 | h4
          · simp only [List.map_cons, List.mem_cons] at h4
            simp only [List.map_cons, List.pairwise_cons] at hse
            rcases h4 with h4 | h4
            · omega
            · have := hse.1 j h4; omega
          · obtain ⟨q, hq, rfl⟩ := List.mem_map.1 h4
            exact (hms q hq).2.2
      | nil =>
        cases ms with
        | nil => simp at hc
        | cons p ms =>
          obtain ⟨h1, h2, h3⟩ := hms p (List.mem_cons_self ..)
          refine first p.1 p.2 h1 h2 ((hmem p.1 h1).2 (.inr (by simp))) fun j hj => ?_
          cases hl : listed.getD j false with
          | true => exact .inl rfl
          | false =>
            rcases (hmem j (by omega)).1 hl with h4 | h4
            · simp at h4
            · simp only [List.map_cons, List.mem_cons] at h4
              simp only [List.map_cons, List.pairwise_cons] at hsm
              rcases h4 with h4 | h4
              · omega
              · have := hsm.1 j h4; omega
    · have hin := hheads i hi
      have hl : listed.getD i false = false := getD_both (mem_ready.1 hi).1
      have inv' := inv.set hi hin
      have set_mem : ∀ j, j < n → j ≠ i → ((listed.setIfInBounds i true).getD j false = false ↔ listed.getD j false = false) := fun j hj hji => by rw [getD_set_ne false (Ne.symm hji)]
      have set_self : (listed.setIfInBounds i true).getD i false = true := by
        have : i < listed.size := by rw [inv.size]; omega
        simp [this]
      rcases (hmem i hin).1 hl with hie | him
      · obtain ⟨p, hp, rfl⟩ := List.mem_map.1 hie
        obtain ⟨l1, l2, rfl⟩ := List.append_of_mem hp
        obtain ⟨h1, h2, h3⟩ := hes p hp
        have hsort := hse
        simp only [List.map_append, List.map_cons, List.pairwise_append, List.pairwise_cons] at hsort
        have hap1 : ∀ y ∈ l1.map (·.2), p.2.apart ops y = true ∧ ∀ cs b, y.op ≠ .select cs b := by
          intro y hy
          obtain ⟨q, hq, rfl⟩ := List.mem_map.1 hy
          obtain ⟨g1, g2, g3⟩ := hes q (by simp [hq])
          refine ⟨?_, fun cs b => hsp q.1 q.2 cs b g2⟩
          have hlt : q.1 < p.1 := hsort.2.2 q.1 (List.mem_map.2 ⟨q, hq, rfl⟩) p.1 (by simp)
          rcases pairOf q.1 p.1 q.2 p.2 hlt h1 g2 h2 with hw | ha
          · exact (unwait listed p.1 q.1 hi ((hmem q.1 g1).2 (.inl (by simp; exact .inl ⟨_, hq⟩))) hw).elim
          · exact apart_symm _ _ ha
        rw [List.map_append, List.map_cons] at h
        obtain ⟨v, hy, h'⟩ := calm_front (fun cs b => hsp p.1 p.2 cs b h2) _ a hap1 h
        have hrest : ∀ W', W.grows W' → wpAny P .any ops Q (cnt + (ops.size - n)) (listed.setIfInBounds p.1 true) (a.put p.2.dst v) W' := by
          intro W' hg
          refine ih (l1 ++ l2) ms _ _ W' (by simp at hc ⊢; omega) inv' (fun j hj => ?_) (fun q hq => hes q (by simp at hq ⊢; rcases hq with h | h <;> simp [h])) hms ?_ hsm hsw (hgW.trans hg) (by rw [List.map_append]; exact wpCalm_mono (fun a' h => wpChain_grow hg h) _ _ h')
          · by_cases hji : j = p.1
            · subst hji
              rw [set_self]
              simp only [Bool.true_eq_false, false_iff]
              rintro (hh | hh)
              · obtain ⟨q, hq, he⟩ := List.mem_map.1 hh
                rcases List.mem_append.1 hq with hq | hq
                · have := hsort.2.2 q.1 (List.mem_map.2 ⟨q, hq, rfl⟩) p.1 (by simp); omega
                · have := hsort.2.1.1 q.1 (List.mem_map.2 ⟨q, hq, rfl⟩); omega
              · obtain ⟨q, hq, he⟩ := List.mem_map.1 hh
                have := (hms q hq).2.2
                rw [he, h3] at this; cases this
            · rw [set_mem j hj hji, hmem j hj]
              simp only [List.map_append, List.map_cons, List.mem_append, List.mem_cons]
              constructor
              · rintro ((h | h | h) | h)
                · exact .inl (.inl h)
                · exact absurd h hji
                · exact .inl (.inr h)
                · exact .inr h
              · rintro ((h | h) | h)
                · exact .inl (.inl h)
                · exact .inl (.inr (.inr h))
                · exact .inr h
          · rw [List.map_append, List.pairwise_append]
            exact ⟨hsort.1, hsort.2.1.2, fun x hx y hy => hsort.2.2 x hx y (List.mem_cons_of_mem _ hy)⟩
        unfold wpOp
        simp only [h2]
        rcases hy with ⟨hw, hv⟩ | ⟨hw, rfl⟩
        · rw [if_pos hw]
          obtain ⟨n', x, rfl⟩ := World.plus_of hgW
          have hv' := hv n' x
          unfold Oper.calmAt at hv'
          refine .inl ?_
          unfold Oper.wp
          generalize (execOp a.eval p.2).run P (w0.plus n' x) = r at *
          cases r with
          | halt z w' => simp only [Oper.calmUpon] at hv'
          | ok nx w' =>
            cases nx <;> simp only [Oper.calmUpon] at hv' <;> simp only [Oper.upon]
            case value u => obtain ⟨rfl, rfl⟩ := hv'; exact hrest _ (World.grows.refl _)
            case skip => obtain ⟨rfl, rfl⟩ := hv'; exact hrest _ (World.grows.refl _)
            case enter f args =>
              obtain ⟨rfl, hcall⟩ := hv'
              refine hcall.mono fun e w'' ⟨he, hg⟩ => ?_
              subst he
              exact hrest _ hg
        · rw [if_neg (by rw [hw]; exact Bool.false_ne_true)]
          exact hrest _ (World.grows.refl _)
      · -- the next of the chain
        cases ms with
        | nil => simp at him
        | cons m ms =>
        have hhead : i = m.1 := by
          rcases List.mem_cons.1 (by simpa using him : i ∈ m.1 :: ms.map (·.1)) with h1 | h1
          · exact h1
          · exfalso
            obtain ⟨q, hq, rfl⟩ := List.mem_map.1 h1
            obtain ⟨l1, l2, rfl⟩ := List.append_of_mem hq
            rcases List.eq_nil_or_concat l1 with rfl | ⟨l0, z, rfl⟩
            · exact unwait listed q.1 m.1 hi ((hmem m.1 (hms m (List.mem_cons_self ..)).1).2 (.inr (by simp))) (hsw m q [] l2 (by simp))
            · exact unwait listed q.1 z.1 hi ((hmem z.1 (hms z (by simp)).1).2 (.inr (by simp))) (hsw z q (m :: l0) l2 (by simp))
        subst hhead
        obtain ⟨h1, h2, h3⟩ := hms m (List.mem_cons_self ..)
        have hape : ∀ y ∈ es.map (·.2), m.2.apart ops y = true ∧ ∀ cs b, y.op ≠ .select cs b := by
          intro y hy
          obtain ⟨q, hq, rfl⟩ := List.mem_map.1 hy
          obtain ⟨g1, g2, g3⟩ := hes q hq
          refine ⟨?_, fun cs b => hsp q.1 q.2 cs b g2⟩
          have hql : listed.getD q.1 false = false := (hmem q.1 g1).2 (.inl (List.mem_map.2 ⟨q, hq, rfl⟩))
          rcases Nat.lt_trichotomy q.1 m.1 with hlt | heq | hgt
          · rcases pairOf q.1 m.1 q.2 m.2 hlt h1 g2 h2 with hw | ha
            · exact (unwait listed m.1 q.1 hi hql hw).elim
            · exact apart_symm _ _ ha
          · rw [heq, h3] at g3; cases g3
          · rcases pairOf m.1 q.1 m.2 q.2 hgt g1 h2 g2 with hw | ha
            · exfalso
              obtain ⟨oq, hoq, e, he, hb, hon⟩ := Region.waitsFor_spec hw
              have := edgeEM q.1 oq g1 hoq g3 e he hb
              rw [hon, h3] at this; cases this
            · exact ha
        have h' := chain_front (Φ := fun _ a'' W'' => wpChain P ops w0 K (ms.map (·.2)) a'' W'') (fun cs b => hsp m.1 m.2 cs b h2) _ a hape (wpCalm_mono (fun a' h => h W (World.grows.refl _) hgW) _ _ h)
        have hrest : ∀ v W', w0.grows W' → wpCalm P ops w0 (fun a'' => wpChain P ops w0 K (ms.map (·.2)) a'' W') (es.map (·.2)) (a.put m.2.dst v) → wpAny P .any ops Q (cnt + (ops.size - n)) (listed.setIfInBounds m.1 true) (a.put m.2.dst v) W' := by
          intro v W' hg hh
          have hsm' : m.1 ∉ ms.map (·.1) := by
            simp only [List.map_cons, List.pairwise_cons] at hsm
            intro hx
            have := hsm.1 m.1 hx
            omega
          refine ih es ms _ _ W' (by simp at hc ⊢; omega) inv' (fun j hj => ?_) hes (fun q hq => hms q (List.mem_cons_of_mem _ hq)) hse ?_ (fun p q l1 l2 he => hsw p q (m :: l1) l2 (by rw [he]; rfl)) hg hh
          · by_cases hji : j = m.1
            · subst hji
              rw [set_self]
              simp only [Bool.true_eq_false, false_iff]
              rintro (hh | hh)
              · obtain ⟨q, hq, he⟩ := List.mem_map.1 hh
                have := (hes q hq).2.2
                rw [he, h3] at this; cases this
              · exact hsm' hh
            · rw [set_mem j hj hji, hmem j hj]
              simp only [List.map_cons, List.mem_cons]
              constructor
              · rintro (h | h | h)
                · exact .inl h
                · exact absurd h hji
                · exact .inr h
              · rintro (h | h)
                · exact .inl h
                · exact .inr (.inr h)
          · simp only [List.map_cons, List.pairwise_cons] at hsm
            exact hsm.2
        unfold wpOp
        simp only [h2]
        by_cases hw : Region.wanted m.2 (yielded ops a.tmps) = true
        · rw [if_pos hw] at h' ⊢
          unfold Oper.goesO at h'
          refine .inl ?_
          unfold Oper.wp
          generalize (execOp a.eval m.2).run P W = r at *
          cases r with
          | halt z w' => simp only [goesUponO] at h'
          | ok nx w' =>
            cases nx <;> simp only [goesUponO] at h' <;> simp only [Oper.upon]
            case value u => exact hrest _ _ h'.1 h'.2
            case skip => exact hrest _ _ h'.1 h'.2
            case enter f args =>
              obtain ⟨rfl, hcall⟩ := h'
              refine hcall.mono fun e w'' ⟨v, he, hg, hp⟩ => ?_
              subst he
              exact hrest _ _ hg hp
        · rw [if_neg hw] at h' ⊢
          exact hrest _ _ hgW h'

theorem zip_next : ∀ (l : List Nat) (f : Nat → Nat → Bool), (l.zip (l.drop 1)).all (fun p => f p.1 p.2) = true → ∀ (i j : Nat) (l1 l2 : List Nat), l = l1 ++ i :: j :: l2 → f i j = true
  | l, f, h, i, j, l1, l2, he => by
    subst he
    refine List.all_eq_true.1 h (i, j) ?_
    rw [List.mem_iff_getElem?]
    refine ⟨l1.length, ?_⟩
    rw [List.getElem?_zip_eq_some]
    simp [List.getElem?_append_right, List.getElem?_drop]

/-- reads and calls in any order, beside a chain (numbers ms), a tail in order from n on -/
theorem wp_region_chain {id : Nat} {Q : Exit → Act → World → Prop} {a : Act} {w : World} {l : List Oper} (n : Nat) (ms : List Nat) (hm : P.follows .mixedOrders = true)
    (hB : (Region.chainPlanB l.toArray n ms && decide (((withNo 0 (l.take n)).filter fun p => ms.contains p.1).map (·.1) = ms)) = true) (hn : n ≤ l.length)
    (h : wpCalm P l.toArray w (fun a' => wpChain P l.toArray w (fun a'' W => wpList P l.toArray Q (l.drop n) a'' W) (only l n ms) a' w) (without l n ms) a) : (Code.region id l.toArray true).wp P Q a w := by
  simp only [Region.chainPlanB, Bool.and_eq_true, Bool.or_eq_true, decide_eq_true_eq] at hB
  obtain ⟨⟨⟨hch, hplan⟩, hseq⟩, hms⟩ := hB
  have hch0 := hch
  have hnle : n ≤ l.toArray.size := by simpa using hn
  refine wp_region_any hm ?_
  obtain ⟨n0, x0, h0⟩ := World.more_drew w
  rw [h0]
  have hat : ∀ p ∈ withNo 0 (l.take n), p.1 < n ∧ l.toArray[p.1]? = some p.2 := fun p hp => by
    have h2 := ((withNo_mem 0 _ p).1 hp).2
    rw [Nat.sub_zero, List.getElem?_take] at h2
    split at h2
    · rename_i hlt; exact ⟨by omega, by simpa using h2⟩
    · cases h2
  have hsorted : ((withNo 0 (l.take n)).map (·.1)).Pairwise (· < ·) := by rw [withNo_fst]; exact List.pairwise_lt_range'
  have hfilt : ∀ (q : Nat × Oper → Bool), (((withNo 0 (l.take n)).filter q).map (·.1)).Pairwise (· < ·) := fun q => by
    have : ((withNo 0 (l.take n)).filter q).Sublist (withNo 0 (l.take n)) := List.filter_sublist
    exact hsorted.sublist (this.map _)
  have hlen : ((withNo 0 (l.take n)).filter fun p => !ms.contains p.1).length + ((withNo 0 (l.take n)).filter fun p => ms.contains p.1).length = n := by
    have e1 : (withNo 0 (l.take n)).length = n := by
      have := congrArg List.length (withNo_snd 0 (l.take n))
      simp at this
      omega
    have := filt_len (fun p : Nat × Oper => ms.contains p.1) (withNo 0 (l.take n))
    omega
  have key := wpAny_of_chain (P := P) (ops := l.toArray) (w0 := w) (Q := Q) (n := n) (ms0 := ms) hch 
    (fun listed i0 inv hi0 hun0 => by
      rcases hplan with h | ⟨⟨h1, h2⟩, h3⟩
      · subst h; exact heads_of_all listed
      · exact heads_of_tail h1 h2 h3 listed i0 inv hi0 hun0)
    (K := fun a'' W => wpList P l.toArray Q (l.drop n) a'' W)
    (fun a W hK listed inv hall => by
      have hl := seq_listed inv hnle hall
      subst hl
      have hd : (l.drop n).length = l.toArray.size - n := by simp
      have := wpAny_of_seq (md := .any) (Q' := Q) (l.drop n) n _ a W (fun j => by simp [List.getElem?_drop]) (by rw [hd]; exact hseq) hK
      rwa [hd] at this)
    n ((withNo 0 (l.take n)).filter fun p => !ms.contains p.1) ((withNo 0 (l.take n)).filter fun p => ms.contains p.1) (Array.replicate l.toArray.size false) a (w.plus n0 x0) hlen (headInv_start n)
    (fun i hi => by
      simp only [getD_replicate_false, true_iff, List.mem_map, List.mem_filter]
      have hil : i < (l.take n).length := by simp; omega
      have hi2 : (i, (l.take n)[i]) ∈ withNo 0 (l.take n) := (withNo_mem 0 _ _).2 ⟨Nat.zero_le _, by rw [Nat.sub_zero]; exact List.getElem?_eq_getElem hil⟩
      cases hc : ms.contains i with
      | true => exact .inr ⟨_, ⟨hi2, hc⟩, rfl⟩
      | false => exact .inl ⟨_, ⟨hi2, by simpa using hc⟩, rfl⟩)
    (fun p hp => by
      obtain ⟨h1, h2⟩ := List.mem_filter.1 hp
      exact ⟨(hat p h1).1, (hat p h1).2, by simpa using h2⟩)
    (fun p hp => by
      obtain ⟨h1, h2⟩ := List.mem_filter.1 hp
      exact ⟨(hat p h1).1, (hat p h1).2, h2⟩)
    (hfilt _) (hfilt _)
    (fun p q l1 l2 he => by
      simp only [Region.chainsB, Bool.and_eq_true] at hch0
      have hz := hch0.1.2
      have := zip_next ms (fun i j => decide (i < j) && Region.waitsFor .any l.toArray j i) hz p.1 q.1 (l1.map (·.1)) (l2.map (·.1)) (by rw [← hms, he]; simp)
      simp only [Bool.and_eq_true] at this
      exact this.2)
    (World.grows_plus _ _ _)
    (wpCalm_mono (fun a' h => wpChain_grow (World.grows_plus _ _ _) h) _ _ h)
  rw [show n + (l.toArray.size - n) = l.toArray.size by omega] at key
  exact key
end

end Go

/-
  What is proved: Count.
-/
namespace Go.Proofs.Ytjpccfpmhmddjaa
open Go.RowKit
attribute [local irreducible] Go.wpCalm Go.wpChain

def Job.countAns (J : Job) (l : Int) : Int := if J.check = 0 then J.waysN l J.last else 0
theorem Job.in_last (J : Job) : J.In J.last := ⟨fun i hi => by simp [Job.last, hi], fun i hi => by simp [Job.last]; omega⟩

set_option maxHeartbeats 1000000 in
theorem count_c (w : World) (v : Value) (J : Job) (hv : RawAt w v J) (l : Int) :
    Calls Try.prog 26 #[v, .int .i64 l] w fun e w' => e = .returned (.tuple #[.int .i64 (J.countAns l), .int .i64 J.check]) ∧ w.grows w' := by
  have Hv := Lib.hid hv
  obtain ⟨rv, row, rfl, -, -⟩ := hv
  go_enter Try.func26, Try.ntmps26
  by_cases hc : J.check = 0
  · have hJ := Lib.hid ((Job.Ok_iff J).2 hc)
    have Hc := Lib.hid hc
    clear hc
    go_wp2_with (go_at_call 44; refine (open_c _ _ J ((Hv.out.mono (by (repeat (first | exact World.grows.refl _ | assumption | refine World.grows.alloc ?_ _ | refine World.grows.plus ?_ _ _ | refine World.grows.drew ?_)))).job hJ.out) hJ.out).mono ?_; rintro e w1 ⟨p, rfl, hg1, hP, hp⟩; have hgw : w.grows w1 := World.grows.trans (by (repeat (first | exact World.grows.refl _ | assumption | refine World.grows.alloc ?_ _ | refine World.grows.plus ?_ _ _ | refine World.grows.drew ?_))) hg1; have Hgw := Lib.hid hgw; clear hgw hg1 Hv)
    have HP := Lib.hid hP
    have q0 : w1.cell? ⟨p, 2, none⟩ = some (.int .i64 (J.last 0)) := hP.last 0 (by omega)
    have q1 : w1.cell? ⟨p, 3, none⟩ = some (.int .i64 (J.last 1)) := hP.last 1 (by omega)
    have q2 : w1.cell? ⟨p, 4, none⟩ = some (.int .i64 (J.last 2)) := hP.last 2 (by omega)
    have q3 : w1.cell? ⟨p, 5, none⟩ = some (.int .i64 (J.last 3)) := hP.last 3 (by omega)
    clear hP
    (refine wp_region_chain 12 [3, 4, 9, 10, 11] (by kernel_rfl) (by kernel_rfl) (by decide) ?_; simp only [without, only, withNo, List.take_succ_cons, List.take_zero, List.drop_succ_cons, List.drop_zero, List.take_nil, List.drop_nil, Nat.reduceAdd, Nat.reduceSub, List.filter, List.contains_cons, List.contains_nil, Nat.reduceBEq, Bool.or_false, Bool.false_or, Bool.true_or, Bool.or_true, Bool.or_self, Bool.not_true, Bool.not_false, List.map_cons, List.map_nil]; (repeat (refine wpCalm_step (fun K hK => ?_); go_simp; first | (refine hK _ ?_; clear hK K) | (apply Exists.intro; refine ⟨fun n' x' => ?_, hK _ ?_⟩; (fail); clear hK K))); refine wpCalm_nil ?_)
    (refine wpChain_step (fun K hK nc xc => ?_); go_simp)
    refine (c63 _ _ l).mono ?_
    rintro e W1 ⟨rfl, hW1⟩
    have hg1 : w1.grows W1 := by subst hW1; (repeat (first | exact World.grows.refl _ | assumption | refine World.grows.alloc ?_ _ | refine World.grows.plus ?_ _ _ | refine World.grows.drew ?_))
    have hb1 : W1.cell? ⟨w1.heap.size + nc, 0, none⟩ = some (.int .i64 l) := by subst hW1; simp [go_sem]
    refine ⟨_, rfl, by subst hW1; (repeat (first | exact World.grows.refl _ | assumption | refine World.grows.alloc ?_ _ | refine World.grows.plus ?_ _ _ | refine World.grows.drew ?_)), hK _ _ ?_⟩
    clear hK K hW1
    simp only [World.size_plus]
    (refine wpChain_step (fun K hK nc xc => ?_); go_simp)
    refine (ways_c _ p _ J (HP.out.mono (by (repeat (first | exact World.grows.refl _ | assumption | refine World.grows.alloc ?_ _ | refine World.grows.plus ?_ _ _ | refine World.grows.drew ?_)))) hJ.out l (by simp [go_sem, hb1])).mono ?_
    rintro e W2 ⟨b, m, rfl, hg2, hb2, hm, hmq⟩
    refine ⟨_, rfl, hg2, hK _ _ ?_⟩
    have hg3 : w1.grows W2 := World.grows.trans (by (repeat (first | exact World.grows.refl _ | assumption | refine World.grows.alloc ?_ _ | refine World.grows.plus ?_ _ _ | refine World.grows.drew ?_))) hg2
    clear hK K hb1 hg2
    have hl := fun W h => lk99 m b W h J.last
    have hmq2 := hmq _ J.in_last
    simp only [hmq2] at hl
    clear hmq2 hmq
    (refine wpChain_step (fun K hK nc xc => ?_); go_simp)
    refine ⟨by (repeat (first | exact World.grows.refl _ | assumption | refine World.grows.alloc ?_ _ | refine World.grows.plus ?_ _ _ | refine World.grows.drew ?_)), hK _ _ ?_⟩
    clear hK K
    (refine wpChain_step (fun K hK nc xc => ?_); go_simp)
    refine ⟨by (repeat (first | exact World.grows.refl _ | assumption | refine World.grows.alloc ?_ _ | refine World.grows.plus ?_ _ _ | refine World.grows.drew ?_)), hK _ _ ?_⟩
    clear hK K
    (refine wpChain_step (fun K hK nc xc => ?_); go_simp)
    refine ⟨by (repeat (first | exact World.grows.refl _ | assumption | refine World.grows.alloc ?_ _ | refine World.grows.plus ?_ _ _ | refine World.grows.drew ?_)), hK _ _ ?_⟩
    clear hK K
    (refine wpChain_nil (fun nc xc => ?_))
    go_wp2
    (refine bodyPost_ret (v := .tuple #[.int .i64 (J.waysN l J.last), .int .i64 0]) (by simp [results, Try.results26, go_sem]) rfl ?_)
    exact ⟨by unfold Job.countAns; rw [if_pos Hc.out, Hc.out], Hgw.out.trans (hg3.trans (by (repeat (first | exact World.grows.refl _ | assumption | refine World.grows.alloc ?_ _ | refine World.grows.plus ?_ _ _ | refine World.grows.drew ?_))))⟩
  · go_wp2_with (go_at_call 44; refine (open_bad _ _ J (Hv.out.mono (by (repeat (first | exact World.grows.refl _ | assumption | refine World.grows.alloc ?_ _ | refine World.grows.plus ?_ _ _ | refine World.grows.drew ?_)))) hc).mono ?_; rintro e w' ⟨rfl, hg⟩; obtain ⟨n2, x2, rfl⟩ := World.plus_of hg)
    (refine bodyPost_ret (v := .tuple #[.int .i64 0, .int .i64 J.check]) (by simp [results, Try.results26, go_sem]) rfl ?_)
    exact ⟨by unfold Job.countAns; rw [if_neg hc], by (repeat (first | exact World.grows.refl _ | assumption | refine World.grows.alloc ?_ _ | refine World.grows.plus ?_ _ _ | refine World.grows.drew ?_))⟩
end Go.Proofs.Ytjpccfpmhmddjaa

/-
  What is proved: which of two steps is colder (91), and the coldest step of those that wait (83).
-/
namespace Go.Proofs.Ytjpccfpmhmddjaa
open Go.RowKit
attribute [local irreducible] Go.wpCalm Go.wpChain

set_option maxHeartbeats 1000000 in
theorem before_c (w : World) (r r' : Nat) (p p' : Nat → Nat) (h h' : Int) :
    Calls Try.prog 91 #[stp r p h, stp r' p' h'] w fun e w' => ∃ b : Bool, e = .returned (.bool b) ∧ (b = true → h ≤ h') ∧ (b = false → h' ≤ h) ∧ w.grows w' := by
  go_enter Try.func91, Try.ntmps91
  by_cases hh : h = h'
  · subst hh
    go_wp2
    go_loopw [16] (fun i wr => ∃ k : Nat, k ≤ 4 ∧ i = .int .i64 k ∧ ∃ n x, wr = ((w.alloc (.cells #[.int .i64 r, .int .i64 (p 0), .int .i64 (p 1), .int .i64 (p 2), .int .i64 (p 3), .int .i64 h] 111)).alloc (.cells #[.int .i64 r', .int .i64 (p' 0), .int .i64 (p' 1), .int .i64 (p' 2), .int .i64 (p' 3), .int .i64 h] 111)).plus n x) (fun i _ => 4 - (intOf i).toNat)
    case atStart => exact ⟨0, by omega, rfl, World.plus_of (World.grows.refl _)⟩
    case round =>
      obtain ⟨k, hk, rfl, n, x, rfl⟩ := hrel
      by_cases hlt : k < 4
      · have hki : (k : Int) < 4 := by omega
        by_cases he : p k = p' k
        · have hne : ¬ (p k : Int) ≠ (p' k : Int) := by omega
          have hei : (p k : Int) = (p' k : Int) := by omega
          go_wp2
          (refine wp_region_calm (by kernel_rfl) (by kernel_rfl) ?_; (repeat (refine wpCalm_step (fun K hK => ?_); go_simp; first | (refine hK _ ?_; clear hK K) | (apply Exists.intro; refine ⟨fun n' x' => ?_, hK _ ?_⟩; (fail); clear hK K))); refine wpCalm_nil ?_; intro nq xq)
          go_wp2
          go_roundw
          case rel => exact ⟨k + 1, by omega, by go_num, World.plus_of (by (repeat (first | exact World.grows.refl _ | assumption | refine World.grows.alloc ?_ _ | refine World.grows.plus ?_ _ _ | refine World.grows.drew ?_)))⟩
          case measure => simp [intOf]; omega
        · have hne : ¬ (p k : Int) = (p' k : Int) := by omega
          go_wp2
          (refine wp_region_calm (by kernel_rfl) (by kernel_rfl) ?_; (repeat (refine wpCalm_step (fun K hK => ?_); go_simp; first | (refine hK _ ?_; clear hK K) | (apply Exists.intro; refine ⟨fun n' x' => ?_, hK _ ?_⟩; (fail); clear hK K))); refine wpCalm_nil ?_; intro nq xq)
          go_wp2
          (refine wp_region_calm (by kernel_rfl) (by kernel_rfl) ?_; (repeat (refine wpCalm_step (fun K hK => ?_); go_simp; first | (refine hK _ ?_; clear hK K) | (apply Exists.intro; refine ⟨fun n' x' => ?_, hK _ ?_⟩; (fail); clear hK K))); refine wpCalm_nil ?_; intro nq xq)
          go_wp2
          (refine bodyPost_ret (v := .bool (decide (p k < p' k))) (by simp [results, Try.results91, go_sem]) rfl ?_)
          exact ⟨_, rfl, fun _ => Int.le_refl _, fun _ => Int.le_refl _, by (repeat (first | exact World.grows.refl _ | assumption | refine World.grows.alloc ?_ _ | refine World.grows.plus ?_ _ _ | refine World.grows.drew ?_))⟩
      · have hke : k = 4 := by omega
        subst hke
        go_wp2
        (refine bodyPost_ret (v := .bool (decide (r < r'))) (by simp [results, Try.results91, go_sem]) rfl ?_)
        exact ⟨_, rfl, fun _ => Int.le_refl _, fun _ => Int.le_refl _, by (repeat (first | exact World.grows.refl _ | assumption | refine World.grows.alloc ?_ _ | refine World.grows.plus ?_ _ _ | refine World.grows.drew ?_))⟩
  · go_wp2
    (refine bodyPost_ret (v := .bool (decide (h < h'))) (by simp [results, Try.results91, go_sem]) rfl ?_)
    exact ⟨_, rfl, fun hb => by simp at hb; omega, fun hb => by simp at hb; omega, by (repeat (first | exact World.grows.refl _ | assumption | refine World.grows.alloc ?_ _ | refine World.grows.plus ?_ _ _ | refine World.grows.drew ?_))⟩

/-- the block that holds a step -/
@[reducible] def stO (s : St) : Obj := .cells #[.int .i64 s.1, .int .i64 s.2.1.1, .int .i64 s.2.1.2.1, .int .i64 s.2.1.2.2.1, .int .i64 s.2.1.2.2.2, .int .i64 s.2.2] 111
@[reducible] def zO : Obj := .cells #[.int .i64 0, .int .i64 0, .int .i64 0, .int .i64 0, .int .i64 0, .int .i64 0] 111
def St.zero : St := (0, (0, 0, 0, 0), 0)
theorem left_push (m : PM St) (seen : Array Nat) (x : St × Int × Nat) (hx : x ∈ m.left seen) : (m.left (seen.push x.2.2)).length < (m.left seen).length := by
  unfold PM.left at hx ⊢
  obtain ⟨hm, hc⟩ := List.mem_filter.1 hx
  have e : m.l.filter (fun y => !(seen.push x.2.2).contains y.2.2) = (m.l.filter fun y => !seen.contains y.2.2).filter fun y => y.2.2 != x.2.2 := by
    rw [List.filter_filter]
    refine List.filter_congr fun y hy => ?_
    simp only [Array.contains_push]
    cases h1 : seen.contains y.2.2 <;> cases h2 : (y.2.2 == x.2.2) <;> simp_all
  rw [e]
  refine List.length_filter_lt_length_iff_exists.2 ⟨x, List.mem_filter.2 ⟨hm, hc⟩, by simp⟩
theorem not_left {m : PM St} {seen : Array Nat} (h : m.left seen = []) {x : St × Int × Nat} (hx : x ∈ m.l) : seen.contains x.2.2 = true := by
  cases hc : seen.contains x.2.2 with
  | true => rfl
  | false =>
    have : x ∈ m.left seen := List.mem_filter.2 ⟨hx, by rw [hc]; rfl⟩
    rw [h] at this; cases this
/-- s is the coldest of those that have come, if one has -/
def coldIs (m : PM St) (seen : Array Nat) (s : St) : Prop :=
  (seen = #[] ∧ s = St.zero) ∨ ((∃ v, (s, v) ∈ m.l) ∧ ∀ x ∈ m.l, seen.contains x.2.2 = true → s.2.2 ≤ x.1.2.2)
def itLeft (m : PM St) (o : Option Obj) : Nat := match o with | some (.mapIter _ _ seen _) => (m.left seen).length | _ => 0

theorem stamp_inj {m : PM St} (hm : m.Ok) {x y : St × Int × Nat} (hx : x ∈ m.l) (hy : y ∈ m.l) (h : x.2.2 = y.2.2) : x = y := by
  have hp := hm.born
  rw [List.pairwise_map] at hp
  obtain ⟨i, hi, rfl⟩ := List.mem_iff_getElem.1 hx
  obtain ⟨j, hj, rfl⟩ := List.mem_iff_getElem.1 hy
  rw [List.pairwise_iff_getElem] at hp
  rcases Nat.lt_trichotomy i j with h1 | h1 | h1
  · have := hp i j hi hj h1; omega
  · subst h1; rfl
  · have := hp j i hj hi h1; omega
theorem coldIs.new {m : PM St} (hm : m.Ok) (hz : ∀ x ∈ m.l, x.1 ≠ St.zero) {seen : Array Nat} {s : St} (h : coldIs m seen s) {x : St × Int × Nat} (hx : x ∈ m.l) (hs : s = St.zero ∨ x.1.2.2 ≤ s.2.2) : coldIs m (seen.push x.2.2) x.1 := by
  refine .inr ⟨⟨x.2, hx⟩, fun y hy hc => ?_⟩
  simp only [Array.contains_push, Bool.or_eq_true, beq_iff_eq] at hc
  rcases hc with hc | hc
  · rcases h with ⟨rfl, -⟩ | ⟨⟨v, hv⟩, h2⟩
    · simp at hc
    · have h3 := h2 y hy hc
      rcases hs with rfl | hs
      · exact absurd rfl (hz _ hv)
      · omega
  · have := stamp_inj hm hy hx hc
    subst this; exact Int.le_refl _
theorem coldIs.old {m : PM St} (hm : m.Ok) {seen : Array Nat} {s : St} (h : coldIs m seen s) (hne : s ≠ St.zero) {x : St × Int × Nat} (hx : x ∈ m.l) (hs : s.2.2 ≤ x.1.2.2) : coldIs m (seen.push x.2.2) s := by
  rcases h with ⟨-, h⟩ | ⟨h1, h2⟩
  · exact absurd h hne
  · refine .inr ⟨h1, fun y hy hc => ?_⟩
    simp only [Array.contains_push, Bool.or_eq_true, beq_iff_eq] at hc
    rcases hc with hc | hc
    · exact h2 y hy hc
    · have := stamp_inj hm hy hx hc
      subst this; exact hs

@[local go_sem ↓] theorem eq111z (a0 a1 a2 a3 a4 : Nat) (a5 : Int) (w : World) : (Op.equalIn 10000 111 (.agg #[.int .i64 a0, .int .i64 a1, .int .i64 a2, .int .i64 a3, .int .i64 a4, .int .i64 a5]) (.agg #[.int .i64 0, .int .i64 0, .int .i64 0, .int .i64 0, .int .i64 0, .int .i64 0])).run Try.prog w =
    .ok (decide ((a0, (a1, a2, a3, a4), a5) = St.zero)) w := eq111 9997 w (a0, (a1, a2, a3, a4), a5) St.zero

set_option maxHeartbeats 4000000 in
theorem coldest_c (w : World) (b : Nat) (m : PM St) (hb : w.heap[b]? = some (m.obj eSt)) (hm : m.Ok) (hne : m.l ≠ []) (hz : ∀ x ∈ m.l, x.1 ≠ St.zero) :
    Calls Try.prog 83 #[.map (some b)] w fun e w' => ∃ s : St, e = .returned (eSt s) ∧ (∃ v, (s, v) ∈ m.l) ∧ (∀ x ∈ m.l, s.2.2 ≤ x.1.2.2) ∧ w.grows w' := by
  go_enter Try.func83, Try.ntmps83
  have hr0 : ∀ W : World, W.heap[b]? = some (m.obj eSt) → (Instr.range 127 (.map (some b))).run Try.prog W = .ok (.pointer (some ⟨W.heap.size, 0, none⟩)) (W.alloc (.mapIter (some b) m.clock #[] m.clock)) := fun W h => run_range_pm Try.underlying127 m b W h
  go_wp2
  have Hm := Lib.hid hm
  have Hz := Lib.hid hz
  have Hne := Lib.hid hne
  clear hm hz hne hr0
  go_loopw [5] (fun _ wr => ∃ (s : St) (seen : Array Nat) (n : Nat) (x : World), wr = ((((w.alloc zO).alloc (stO s)).alloc zO).alloc (.mapIter (some b) m.clock seen m.clock)).plus n x ∧ Hid (coldIs m seen s)) (fun _ wr => itLeft m (wr.heap[w.heap.size + 1 + 1 + 1]?))
  case atStart => exact ⟨St.zero, #[], 0, _, (World.plus_self (World.grows.refl _) rfl).symm, Lib.hid (.inl ⟨rfl, rfl⟩)⟩
  case round =>
    obtain ⟨s, seen, n, x, rfl, hcold⟩ := hrel
    have hW : (((((w.alloc zO).alloc (stO s)).alloc zO).alloc (.mapIter (some b) m.clock seen m.clock)).plus n x).heap[b]? = some (m.obj eSt) := by simp [go_sem, hb]
    have hWr : (((((w.alloc zO).alloc (stO s)).alloc zO).alloc (.mapIter (some b) m.clock seen m.clock)).plus n x).heap[w.heap.size + 1 + 1 + 1]? = some (.mapIter (some b) m.clock seen m.clock) := by rw [World.heap_plus _ _ _ _ (by rw [World.heap_at _ _ _ (by simp)]; rfl), World.heap_at _ _ _ (by simp)]
    have hl0 : itLeft m ((((((w.alloc zO).alloc (stO s)).alloc zO).alloc (.mapIter (some b) m.clock seen m.clock)).plus n x).heap[w.heap.size + 1 + 1 + 1]?) = (m.left seen).length := by rw [hWr]; rfl
    rw [hl0]
    rcases run_next_pm m Hm.out b (w.heap.size + 1 + 1 + 1) seen 0 _ hW hWr with ⟨hnil, hn⟩ | ⟨e, he, W1, hW1, hn⟩
    · have hn' : ∀ ty, (Instr.next (.pointer (some ⟨w.heap.size + 1 + 1 + 1, 0, none⟩)) false ty).run Try.prog (((((w.alloc zO).alloc (stO s)).alloc zO).alloc (.mapIter (some b) m.clock seen m.clock)).plus n x) = .ok (.tuple #[.bool false]) (((((w.alloc zO).alloc (stO s)).alloc zO).alloc (.mapIter (some b) m.clock seen m.clock)).plus n x) := fun ty => hn
      clear hn
      go_wp2
      refine bodyPost_ret (v := eSt s) (by simp [results, Try.results83, go_sem, eSt]) rfl ?_
      rcases hcold.out with ⟨h1, -⟩ | ⟨h1, h2⟩
      · exfalso
        subst h1
        refine Hne.out (List.eq_nil_iff_forall_not_mem.2 fun x hx => ?_)
        have := not_left hnil hx
        simp at this
      · exact ⟨s, rfl, h1, fun x hx => h2 x hx (not_left hnil hx), by (repeat (first | exact World.grows.refl _ | assumption | refine World.grows.alloc ?_ _ | refine World.grows.plus ?_ _ _ | refine World.grows.drew ?_))⟩
    · have hem : e ∈ m.l := (List.mem_filter.1 he).1
      have hlt := Lib.hid (left_push m seen e he)
      have hW2 : ∃ x2, W1.putObj (w.heap.size + 1 + 1 + 1) (.mapIter (some b) m.clock (seen.push e.2.2) m.clock) = ((((w.alloc zO).alloc (stO s)).alloc zO).alloc (.mapIter (some b) m.clock (seen.push e.2.2) m.clock)).plus n x2 := by
        rcases hW1 with rfl | rfl
        · exact ⟨_, by rw [World.putObj_plus _ _ _ _ _ (by simp), World.putObj_alloc_at _ _ _ _ (by simp)]⟩
        · exact ⟨_, by rw [World.plus_drew, World.putObj_plus _ _ _ _ _ (by simp), World.putObj_alloc_at _ _ _ _ (by simp)]⟩
      obtain ⟨x2, hx2⟩ := hW2
      rw [hx2] at hn
      have hn' : ∀ ty, (Instr.next (.pointer (some ⟨w.heap.size + 1 + 1 + 1, 0, none⟩)) false ty).run Try.prog (((((w.alloc zO).alloc (stO s)).alloc zO).alloc (.mapIter (some b) m.clock seen m.clock)).plus n x) = .ok (.tuple #[.bool true, eSt e.1, .int .i64 e.2.1]) (((((w.alloc zO).alloc (stO s)).alloc zO).alloc (.mapIter (some b) m.clock (seen.push e.2.2) m.clock)).plus n x2) := fun ty => hn
      have hen := run_entry_pm (P := Try.prog) (eK := eSt) m Hm.out b (w.heap.size + 1 + 1 + 1) m.clock seen (((((w.alloc zO).alloc (stO s)).alloc zO).alloc (.mapIter (some b) m.clock (seen.push e.2.2) m.clock)).plus n x2) (by simp [go_sem, hb]) e hem (by rw [World.heap_plus _ _ _ _ (by rw [World.heap_at _ _ _ (by simp)]; rfl), World.heap_at _ _ _ (by simp)])
      clear hn hW1 hx2 hW hWr hl0
      obtain ⟨⟨er, ⟨ep0, ep1, ep2, ep3⟩, eh⟩, ev, eb⟩ := e
      obtain ⟨sr, ⟨sp0, sp1, sp2, sp3⟩, sh⟩ := s
      simp only [eSt] at hn' hen
      by_cases hsz : (sr, (sp0, sp1, sp2, sp3), sh) = St.zero
      · have hd : decide ((sr, (sp0, sp1, sp2, sp3), sh) = St.zero) = true := by simpa using hsz
        have hnew := Lib.hid (hcold.out.new Hm.out Hz.out hem (.inl hsz))
        clear hsz
        go_wp2
        go_roundw
        case rel => exact ⟨(er, (ep0, ep1, ep2, ep3), eh), seen.push eb, World.plus_ex (by (repeat (first | exact World.grows.refl _ | assumption | refine World.grows.alloc ?_ _ | refine World.grows.plus ?_ _ _ | refine World.grows.drew ?_))) hnew⟩
        case measure =>
          rw [World.grows.heap_of (w := (((w.alloc zO).alloc (stO (er, (ep0, ep1, ep2, ep3), eh))).alloc zO).alloc (.mapIter (some b) m.clock (seen.push eb) m.clock)) (by (repeat (first | exact World.grows.refl _ | assumption | refine World.grows.alloc ?_ _ | refine World.grows.plus ?_ _ _ | refine World.grows.drew ?_))) (World.heap_at _ _ _ (by simp))]
          exact hlt.out
      · have hd : decide ((sr, (sp0, sp1, sp2, sp3), sh) = St.zero) = false := by simpa using hsz
        go_wp2_with (go_at_call 91; refine (before_c _ er sr (fun i => if i = 0 then ep0 else if i = 1 then ep1 else if i = 2 then ep2 else ep3) (fun i => if i = 0 then sp0 else if i = 1 then sp1 else if i = 2 then sp2 else sp3) eh sh).mono ?_; rintro e' W3 ⟨bb, rfl, hb1, hb2, hg3⟩; obtain ⟨n3, x3, rfl⟩ := World.plus_of hg3)
        · rename_i hbb
          have hnew := Lib.hid (hcold.out.new Hm.out Hz.out hem (.inr (hb1 (by simpa using hbb))))
          go_roundw
          case rel => exact ⟨(er, (ep0, ep1, ep2, ep3), eh), seen.push eb, World.plus_ex (by (repeat (first | exact World.grows.refl _ | assumption | refine World.grows.alloc ?_ _ | refine World.grows.plus ?_ _ _ | refine World.grows.drew ?_))) hnew⟩
          case measure =>
            rw [World.grows.heap_of (w := (((w.alloc zO).alloc (stO (er, (ep0, ep1, ep2, ep3), eh))).alloc zO).alloc (.mapIter (some b) m.clock (seen.push eb) m.clock)) (by (repeat (first | exact World.grows.refl _ | assumption | refine World.grows.alloc ?_ _ | refine World.grows.plus ?_ _ _ | refine World.grows.drew ?_))) (World.heap_at _ _ _ (by simp))]
            exact hlt.out
        · rename_i hbb
          have hnew := Lib.hid (hcold.out.old Hm.out hsz hem (hb2 (by simpa using hbb)))
          go_roundw
          case rel => exact ⟨(sr, (sp0, sp1, sp2, sp3), sh), seen.push eb, World.plus_ex (by (repeat (first | exact World.grows.refl _ | assumption | refine World.grows.alloc ?_ _ | refine World.grows.plus ?_ _ _ | refine World.grows.drew ?_))) hnew⟩
          case measure =>
            rw [World.grows.heap_of (w := (((w.alloc zO).alloc (stO (sr, (sp0, sp1, sp2, sp3), sh))).alloc zO).alloc (.mapIter (some b) m.clock (seen.push eb) m.clock)) (by (repeat (first | exact World.grows.refl _ | assumption | refine World.grows.alloc ?_ _ | refine World.grows.plus ?_ _ _ | refine World.grows.drew ?_))) (World.heap_at _ _ _ (by simp))]
            exact hlt.out

end Go.Proofs.Ytjpccfpmhmddjaa

/-
  What is proved: the steps from a place are put to those that wait (82).
-/
namespace Go.Proofs.Ytjpccfpmhmddjaa
open Go.RowKit
attribute [local irreducible] Go.wpCalm Go.wpCalm2
attribute [local go_sem] Oper.semAt_some

theorem PM.isSome_iff {K : Type} [DecidableEq K] (m : PM K) (k : K) : (m.get k).isSome = true ↔ ∃ v, (k, v) ∈ m.l := by
  have h := PM.fnd_none_iff m.l k 0
  unfold PM.get
  cases hf : PM.fnd m.l k 0 with
  | none =>
    simp only [Option.map_none, Option.isSome_none, Bool.false_eq_true, false_iff]
    rintro ⟨v, hv⟩
    exact (h.1 hf) (List.mem_map.2 ⟨_, hv, rfl⟩)
  | some p =>
    simp only [Option.map_some, Option.isSome_some, true_iff]
    have : k ∈ m.l.map (·.1) := Classical.byContradiction fun hn => by rw [h.2 hn] at hf; cases hf
    obtain ⟨x, hx, rfl⟩ := List.mem_map.1 this
    exact ⟨x.2, hx⟩

/-- the key of the step of edge r from a place -/
def Job.key (J : Job) (p : Nat → Nat) (r : Nat) : St := (r, tup (Job.to p r), J.hot p r)
/-- what waits when the steps of the edges below k have been put -/
def putIs (J : Job) (p : Nat → Nat) (bym : PM Pl) (wt0 : PM St) (k : Nat) (wt : PM St) : Prop :=
  wt.Ok ∧ ∀ s, (wt.get s).isSome = true ↔ ((wt0.get s).isSome = true ∨ ∃ r, r < k ∧ p r < J.len r ∧ (bym.get (tup (Job.to p r))).isSome = false ∧ s = J.key p r)
theorem putIs.skip {J : Job} {p : Nat → Nat} {bym : PM Pl} {wt0 wt : PM St} {k : Nat} (h : putIs J p bym wt0 k wt) (hc : p k < J.len k → (bym.get (tup (Job.to p k))).isSome = true) : putIs J p bym wt0 (k + 1) wt :=
  ⟨h.1, fun s => by
    rw [h.2 s]
    constructor
    · rintro (h | ⟨r, h1, h2⟩)
      · exact .inl h
      · exact .inr ⟨r, by omega, h2⟩
    · rintro (h | ⟨r, h1, h2, h3, h4⟩)
      · exact .inl h
      · rcases Nat.lt_or_ge r k with h | h
        · exact .inr ⟨r, h, h2, h3, h4⟩
        · have : r = k := by omega
          subst this
          rw [hc h2] at h3; cases h3⟩
theorem putIs.jump {J : Job} {p : Nat → Nat} {bym : PM Pl} {wt0 wt : PM St} {k : Nat} (h : putIs J p bym wt0 k wt) : ∀ d, (∀ i, k ≤ i → i < k + d → ¬ p i < J.len i) → putIs J p bym wt0 (k + d) wt
  | 0, _ => h
  | d + 1, hc => (putIs.jump h d fun i h1 h2 => hc i h1 (by omega)).skip fun h1 => absurd h1 (hc (k + d) (by omega) (by omega))
theorem putIs.step {J : Job} {p : Nat → Nat} {bym : PM Pl} {wt0 wt : PM St} {k : Nat} (h : putIs J p bym wt0 k wt) (hk : p k < J.len k) (hb : (bym.get (tup (Job.to p k))).isSome = false) : putIs J p bym wt0 (k + 1) (wt.set (J.key p k) 1) :=
  ⟨h.1.set _ _, fun s => by
    rw [PM.get_set]
    by_cases hs : s = J.key p k
    · rw [if_pos hs]
      simp only [Option.isSome_some, true_iff]
      exact .inr ⟨k, by omega, hk, hb, hs⟩
    · rw [if_neg hs, h.2 s]
      constructor
      · rintro (h | ⟨r, h1, h2⟩)
        · exact .inl h
        · exact .inr ⟨r, by omega, h2⟩
      · rintro (h | ⟨r, h1, h2, h3, h4⟩)
        · exact .inl h
        · rcases Nat.lt_or_ge r k with h | h
          · exact .inr ⟨r, h, h2, h3, h4⟩
          · have : r = k := by omega
            subst this; exact absurd h4 hs⟩

set_option maxHeartbeats 4000000 in
theorem put_c (W : World) (P0 b0 b1 b2 bb wb : Nat) (J : Job) (p : Nat → Nat) (hP : PlateAt W P0 J) (hJ : J.Ok) (hp : J.In p) (bym : PM Pl) (wt0 : PM St) (hwt : wt0.Ok)
    (c0 : W.cell? ⟨b0, 0, none⟩ = some (.pointer (some ⟨P0, 0, none⟩))) (c1 : W.cell? ⟨b1, 0, none⟩ = some (.map (some bb))) (c2 : W.cell? ⟨b2, 0, none⟩ = some (.map (some wb)))
    (hbb : W.heap[bb]? = some (bym.obj ePl)) (hwb : W.heap[wb]? = some (wt0.obj eSt)) (hne : bb ≠ wb) :
    Calls Try.prog 82 #[plc p, .pointer (some ⟨b0, 0, none⟩), .pointer (some ⟨b1, 0, none⟩), .pointer (some ⟨b2, 0, none⟩)] W fun e w' => ∃ (v : Value) (wt : PM St), e = .returned v ∧ putIs J p bym wt0 J.n wt ∧ (W.putObj wb (wt.obj eSt)).grows w' := by
  have hc : ∀ (m : PM St) a, (W.putObj wb (m.obj eSt)).cell? a = W.cell? a := fun m a => World.putObj_map_cell hwb a
  have hh : ∀ m : PM St, (W.putObj wb (m.obj eSt)).heap[wb]? = some (m.obj eSt) := fun m => World.putObj_heap_same (World.lt_of_block hwb)
  have ho : ∀ m : PM St, (W.putObj wb (m.obj eSt)).heap[bb]? = some (bym.obj ePl) := fun m => by rw [World.putObj_heap_other hne]; exact hbb
  have hpp : ∀ (m : PM St) o, (W.putObj wb (m.obj eSt)).putObj wb o = W.putObj wb o := fun m o => World.putObj_putObj _ _ _ _
  have hlw := World.lt_of_block hwb
  have HP := Lib.hid hP
  have HJ := Lib.hid hJ
  clear hP hJ
  (refine (callsIn_wide (n := 0)).1 (callsIn_of_wp_marks Try.func82 rfl trivial ((wpIn_wide (n := 0)).2 ?_) rfl); simp only [Try.ntmps82, List.size_toArray, List.length_cons, List.length_nil, Nat.reduceAdd, Nat.reduceSub, Array.replicate_succ, Array.replicate_zero, List.push_toArray, List.append_toArray, List.nil_append, List.cons_append])
  go_wp2_with (go_at_call 66; refine (steps_c _ P0 p).mono ?_; rintro e W9 ⟨rfl, rfl⟩)
  generalize hWe : ((((W.alloc (plcO p)).alloc (Obj.cells #[Value.pointer (some { block := P0, off := 0 })] 72)).alloc (plcO p))) = We
  refine wp_rangeFunc_walk (f := 85) (by rfl) (fun _ _ => rfl) (steps_seq _ _ P0 J p HJ.out hp.le) (fun x hx => by obtain ⟨r, _, rfl⟩ := List.mem_map.1 hx; rfl)
    (fun j V => ∃ (mk : PM St) (r : Nat), r ≤ J.n ∧ (J.steps p r).length = j ∧ putIs J p bym wt0 r mk ∧ V = ((((W.putObj wb (mk.obj eSt)).alloc (plcO p)).alloc (Obj.cells #[Value.pointer (some { block := P0, off := 0 })] 72)).alloc (plcO p)))
    (fun _ _ => False) ?_ (fun _ _ h => h.elim) ?_ ?_ ?_ ?_ (fun _ _ _ _ h => h.elim)
  · rintro j V ⟨mk, r, -, -, -, rfl⟩
    subst hWe
    simp
  · rintro j V ⟨mk, r, -, -, -, rfl⟩ W9 hgW
    exact ⟨hgW.cell_of (by simp [go_sem]), fun i hi => hgW.cell_of (by simp [go_sem, hi]), ((HP.out.sub fun a v h => by rw [hc]; exact h).mono (w' := ((((W.putObj wb (mk.obj eSt)).alloc (plcO p)).alloc (Obj.cells #[Value.pointer (some { block := P0, off := 0 })] 72)).alloc (plcO p))) (by (repeat (first | exact World.grows.refl _ | assumption | refine World.grows.alloc ?_ _ | refine World.grows.plus ?_ _ _ | refine World.grows.drew ?_)))).mono hgW⟩
  · exact ⟨wt0, 0, by omega, rfl, ⟨hwt, fun s => by simp⟩, by rw [World.putObj_self hwb]; exact hWe.symm⟩
  · rintro j x V lo n y hx ⟨mk, r, hr, hj, hmk, hV⟩ K0 hK0
    obtain ⟨r', hr1, hr2, hr3, rfl, hr4, hr5⟩ := J.next_open p (J.n - r) r (by omega) hj hx
    have hmr : putIs J p bym wt0 r' mk := by
      have := hmk.jump (r' - r) (fun i h1 h2 => hr5 i h1 (by omega))
      rwa [show r + (r' - r) = r' by omega] at this
    clear hmk hr hj hr1 hr5 hx
    have hWes : We.heap.size = W.heap.size + 3 := by subst hWe; simp
    have hVs : V.heap.size = W.heap.size + 3 := by subst hV; simp
    have hVb : V.heap[bb]? = some (bym.obj ePl) := by subst hV; simp [go_sem, ho]
    have hVw : V.heap[wb]? = some (mk.obj eSt) := by subst hV; simp [go_sem, hh]
    have v1 : V.cell? ⟨b1, 0, none⟩ = some (.map (some bb)) := by subst hV; simp [go_sem, hc, c1]
    have v2 : V.cell? ⟨b2, 0, none⟩ = some (.map (some wb)) := by subst hV; simp [go_sem, hc, c2]
    have hVc : ∀ m' : PM St, V.putObj wb (m'.obj eSt) = ((((W.putObj wb (m'.obj eSt)).alloc (plcO p)).alloc (Obj.cells #[Value.pointer (some { block := P0, off := 0 })] 72)).alloc (plcO p)) := fun m' => by
      subst hV
      rw [World.putObj_alloc_lt _ _ _ _ (by simp; omega), World.putObj_alloc_lt _ _ _ _ (by simp; omega), World.putObj_alloc_lt _ _ _ _ (by simp; omega), hpp]
    have HVc := Lib.hid hVc
    have HVw := Lib.hid hVw
    clear hV hWe hVc c0 c1 c2
    simp only [hWes] at hK0 ⊢
    dsimp only [Job.stepv]
    rw [zip_one]
    simp only [List.setIfInBounds_toArray, List.set_cons_zero, List.set_cons_succ]
    gi_wp2
    refine hK0.out _ _ (by (repeat (first | exact World.grows.refl _ | assumption | refine World.grows.alloc ?_ _ | refine World.grows.plus ?_ _ _ | refine World.grows.drew ?_))) fun lo' K1 hK1 => ?_
    rw [World.putObj_alloc_lt _ _ _ _ (by simp; omega), World.putObj_plus _ _ _ _ _ (by simp; omega), World.putObj_alloc_at _ _ _ _ (by simp; omega)]
    generalize World.putIn ((V.alloc (Obj.deferred (some []))).alloc lo) n y (W.heap.size + 3 + 1) lo' = y'
    have hl1 := fun W h => lko93 bym bb W h (Job.to p r')
    by_cases hin : (bym.get (tup (Job.to p r'))).isSome = true
    · simp only [hin] at hl1
      gi_wp2
      have hx3 := HVc.out mk
      rw [World.putObj_self HVw.out] at hx3
      refine hK1.out _ _ _ ⟨V, ⟨mk, r' + 1, by omega, by rw [Job.steps_succ, if_pos hr3]; simp [hr4], hmr.skip fun _ => hin, hx3⟩, by (repeat (first | exact World.grows.refl _ | assumption | refine World.grows.alloc ?_ _ | refine World.grows.plus ?_ _ _ | refine World.grows.drew ?_))⟩
    · have hin' : (bym.get (tup (Job.to p r'))).isSome = false := by simpa using hin
      simp only [hin'] at hl1
      have hu := fun W h => up127 mk wb W h r' (Job.to p r') (J.hot p r') 1
      gi_wp2
      have hx3 := HVc.out (mk.set (J.key p r') 1)
      refine hK1.out _ _ _ ⟨_, ⟨_, r' + 1, by omega, by rw [Job.steps_succ, if_pos hr3]; simp [hr4], hmr.step hr3 hin', hx3⟩, by (repeat (first | exact World.grows.refl _ | assumption | refine World.grows.alloc ?_ _ | refine World.grows.plus ?_ _ _ | refine World.grows.drew ?_))⟩
  · rintro V n y ⟨mk, r, hr, hj, hmk, hV⟩
    have hWes : We.heap.size = V.heap.size := by subst hWe; subst hV; simp
    have hVs : V.heap.size = W.heap.size + 3 := by subst hV; simp
    have hmn : putIs J p bym wt0 J.n mk := by
      have := hmk.jump (J.n - r) (fun i h1 h2 => J.done_open p (J.n - r) r (by omega) hj i h1 (by omega))
      rwa [show r + (J.n - r) = J.n by omega] at this
    have hgV : (W.putObj wb (mk.obj eSt)).grows V := by subst hV; (repeat (first | exact World.grows.refl _ | assumption | refine World.grows.alloc ?_ _ | refine World.grows.plus ?_ _ _ | refine World.grows.drew ?_))
    clear hmk hj hr hWe hV
    go_wp2
    rw [hWes]
    refine Marks.leaves (B := V.heap.size) (fun W' => (W.putObj wb (mk.obj eSt)).grows W') (fun W' D h hD hd => World.putObj_grows h _ (by simp; omega)) (fun W' h => ⟨_, by simp [results, Try.results82, go_sem] <;> rfl, _, mk, rfl, hmn, h⟩) _ _
      (Marks.push (ds := []) (w := V) (B := V.heap.size) trivial (World.grows_plus _ _ _) (Nat.le_refl _)) ?_
    exact hgV.trans (by (repeat (first | exact World.grows.refl _ | assumption | refine World.grows.alloc ?_ _ | refine World.grows.plus ?_ _ _ | refine World.grows.drew ?_)))

end Go.Proofs.Ytjpccfpmhmddjaa

/-
  What is proved: plain words on what coolest finds.
-/
namespace Go.Proofs.Ytjpccfpmhmddjaa
open Go.RowKit

theorem length_le_of_subset {α : Type} [DecidableEq α] : ∀ (l1 l2 : List α), l1.Nodup → (∀ x ∈ l1, x ∈ l2) → l1.length ≤ l2.length
  | [], _, _, _ => Nat.zero_le _
  | x :: l1, l2, h, hs => by
    rw [List.nodup_cons] at h
    have hx := hs x (List.mem_cons_self ..)
    have := length_le_of_subset l1 (l2.erase x) h.2 fun y hy => (List.mem_erase_of_ne (fun e => h.1 (by rw [← e]; exact hy))).2 (hs y (List.mem_cons_of_mem _ hy))
    rw [List.length_erase_of_mem hx] at this
    have : 0 < l2.length := List.length_pos_of_mem hx
    simp only [List.length_cons]
    omega

theorem Job.last_deg {J : Job} (h : J.Ok) : J.deg J.last ≠ 0 := by
  intro h0
  have h1 := sumN_eq_zero J.n h0 0 (by have := h.n1; omega)
  simp only [Job.last] at h1
  rw [if_pos (by have := h.n1; omega)] at h1
  have := h.l1 0 (by have := h.n1; omega)
  omega
theorem Job.hot_bd {J : Job} (h : J.Ok) {p : Nat → Nat} (hp : J.In p) {r : Nat} (hr : r < J.n) (hl : p r < J.len r) : -25000 ≤ J.hot p r ∧ J.hot p r ≤ 26000 := by
  have h1 := h.heat_bd hp.le
  have h2 := h.pk r (p r) hr hl
  unfold Job.hot
  omega
theorem Job.dn_lt {J : Job} {q : Nat → Nat} (hq : J.In q) {r : Nat} (hr : r < J.n) (h0 : 0 < q r) : dn q r r < J.len r := by
  have := hq.le r hr
  simp only [dn, upd, if_true]
  omega
/-- where all steps may be done, one comes everywhere -/
theorem Job.ways_pos {J : Job} (h : J.Ok) : ∀ (d : Nat) (q : Nat → Nat), J.In q → J.deg q = d → 0 < J.waysN 26000 q
  | 0, q, _, hd => by rw [J.waysN_zero _ hd]; omega
  | d + 1, q, hq, hd => by
    rw [J.waysN_eq _ (by omega)]
    have : ∃ r, r < J.n ∧ 0 < q r := Classical.byContradiction fun hn => by
      have : J.deg q = 0 := sumN_zero J.n fun i hi => Classical.byContradiction fun h0 => hn ⟨i, hi, by omega⟩
      omega
    obtain ⟨r, hr, h0⟩ := this
    have ih := Job.ways_pos h d (dn q r) (Job.in_dn r hq) (by have := J.deg_dn hr h0; omega)
    refine Nat.pos_of_ne_zero fun hz => ?_
    have := sumN_eq_zero J.n hz r hr
    rw [if_pos ⟨h0, (Job.hot_bd h (Job.in_dn r hq) hr (Job.dn_lt hq hr h0)).2⟩] at this
    omega
/-- no way leads out of a set whose outward steps are all too hot -/
theorem Job.cut {J : Job} {l : Int} {S : (Nat → Nat) → Prop} (h0 : S fun _ => 0) (hb : ∀ p r, J.In p → S p → r < J.n → p r < J.len r → ¬ S (Job.to p r) → l < J.hot p r) :
    ∀ (d : Nat) (q : Nat → Nat), J.In q → J.deg q = d → ¬ S q → J.waysN l q = 0
  | d, q, hq, hd, hn => by
    have hd0 : J.deg q ≠ 0 := fun h => hn (by rw [Job.deg_zero hq h]; exact h0)
    rw [J.waysN_eq _ hd0]
    refine sumN_zero J.n fun r hr => ?_
    by_cases hc : 0 < q r ∧ J.hot (dn q r) r ≤ l
    · rw [if_pos hc]
      have hdn := J.deg_dn hr hc.1
      by_cases hs : S (dn q r)
      · exfalso
        have := hb (dn q r) r (Job.in_dn r hq) hs hr (Job.dn_lt hq hr hc.1) (by unfold Job.to; rw [to_dn hc.1]; exact hn)
        omega
      · exact Job.cut h0 hb (d - 1) (dn q r) (Job.in_dn r hq) (by omega) hs
    · rw [if_neg hc]
termination_by d => d
decreasing_by all_goals omega

/-- the places that have been looked at -/
def seenP (bym : PM Pl) (p : Nat → Nat) : Prop := (bym.get (tup p)).isSome = true
/-- by these edges one comes to all places that have been looked at, by steps not above 'hot' -/
structure ByIs (J : Job) (bym : PM Pl) (hot : Int) : Prop where
  ok : bym.Ok
  zero : seenP bym fun _ => 0
  keys : ∀ t, (bym.get t).isSome = true → ∃ p, J.In p ∧ t = tup p
  way : ∀ p, J.In p → seenP bym p → J.deg p ≠ 0 → ∃ r, r < J.n ∧ bym.getD (tup p) = r ∧ 0 < p r ∧ J.hot (dn p r) r ≤ hot ∧ seenP bym (dn p r)
structure CoolIs (J : Job) (bym : PM Pl) (wt : PM St) (hot : Int) : Prop where
  by_ : ByIs J bym hot
  wok : wt.Ok
  from_ : ∀ s, (wt.get s).isSome = true → ∃ p r, J.In p ∧ seenP bym p ∧ r < J.n ∧ p r < J.len r ∧ s = J.key p r
  edge : ∀ p r, J.In p → seenP bym p → r < J.n → p r < J.len r → ¬ seenP bym (Job.to p r) → (wt.get (J.key p r)).isSome = true
  low : ∀ l, l < hot → J.waysN l J.last = 0
  bd : -1099511627776 ≤ hot ∧ hot ≤ 26000

theorem Job.tup_to_ne {J : Job} (h : J.Ok) {p : Nat → Nat} {r : Nat} (hr : r < J.n) : tup (Job.to p r) ≠ (0, 0, 0, 0) := by
  intro e
  have h4 := h.n4
  simp only [tup, Prod.mk.injEq, Job.to, upd] at e
  obtain ⟨e0, e1, e2, e3⟩ := e
  match r, (show r < 4 by omega) with
  | 0, _ => simp at e0
  | 1, _ => simp at e1
  | 2, _ => simp at e2
  | 3, _ => simp at e3
theorem CoolIs.nonzero {J : Job} (h : J.Ok) {bym : PM Pl} {wt : PM St} {hot : Int} (hc : CoolIs J bym wt hot) {s : St} (hs : (wt.get s).isSome = true) : s ≠ St.zero := by
  obtain ⟨p, r, _, _, hr, _, rfl⟩ := hc.from_ s hs
  intro e
  simp only [Job.key, St.zero, Prod.mk.injEq] at e
  exact Job.tup_to_ne h hr e.2.1
/-- somebody waits -/
theorem CoolIs.some {J : Job} (h : J.Ok) {bym : PM Pl} {wt : PM St} {hot : Int} (hc : CoolIs J bym wt hot) (hl : ¬ seenP bym J.last) : wt.l ≠ [] := by
  intro he
  have hno : ∀ s, (wt.get s).isSome = false := fun s => by
    cases hg : (wt.get s).isSome with
    | false => rfl
    | true =>
      obtain ⟨v, hv⟩ := (PM.isSome_iff wt s).1 hg
      rw [he] at hv; cases hv
  have := Job.cut (J := J) (l := 26000) (S := seenP bym) hc.by_.zero (fun p r hp hs hr hlt hn => by
    have := hc.edge p r hp hs hr hlt hn
    rw [hno] at this; cases this) _ J.last J.in_last rfl hl
  have h2 := Job.ways_pos h _ J.last J.in_last rfl
  omega
theorem PM.get_del {K : Type} [DecidableEq K] (m : PM K) (hm : m.Ok) (k j : K) : (m.del k).get j = if j = k then none else m.get j := by
  have hk := hm.keys
  unfold PM.del PM.get
  simp only
  generalize m.l = l at hk
  have : ∀ (l : List (K × Int × Nat)) (i : Nat), (l.map (·.1)).Nodup → (PM.fnd (PM.cut l k) j i).map (·.2) = if j = k then none else (PM.fnd l j i).map (·.2) := by
    intro l
    induction l with
    | nil => intro i _; simp [PM.cut, PM.fnd]
    | cons x r ih =>
      intro i hn
      simp only [List.map_cons, List.nodup_cons] at hn
      simp only [PM.cut]
      by_cases hx : k = x.1
      · rw [if_pos hx]
        by_cases hj : j = k
        · rw [if_pos hj]
          have : PM.fnd r j i = none := (PM.fnd_none_iff r j i).2 (by rw [hj, hx]; exact hn.1)
          rw [this]; rfl
        · rw [if_neg hj, PM.fnd, if_neg (by rw [← hx]; exact hj)]
          exact PM.fnd_shift r j _ _
      · rw [if_neg hx, PM.fnd, PM.fnd]
        by_cases hj : j = x.1
        · rw [if_pos hj, if_pos hj, if_neg (by rw [hj]; exact fun e => hx e.symm)]
        · rw [if_neg hj, if_neg hj]
          exact ih (i + 1) hn.2
  exact this l 0 hk
theorem _root_.Go.PM.Ok.del {K : Type} [DecidableEq K] {m : PM K} (h : m.Ok) (k : K) : (m.del k).Ok := by
  have hsub : ∀ l : List (K × Int × Nat), (PM.cut l k).Sublist l := by
    intro l
    induction l with
    | nil => exact List.Sublist.refl _
    | cons x r ih =>
      simp only [PM.cut]
      split
      · exact List.sublist_cons_self _ _
      · exact ih.cons_cons _
  exact ⟨h.keys.sublist ((hsub m.l).map _), h.born.sublist ((hsub m.l).map _), fun x hx => h.clock x ((hsub m.l).subset hx)⟩
theorem PM.del_len {K : Type} [DecidableEq K] {m : PM K} (k : K) (h : (m.get k).isSome = true) : (m.del k).l.length + 1 = m.l.length := by
  have : ∀ (l : List (K × Int × Nat)), k ∈ l.map (·.1) → (PM.cut l k).length + 1 = l.length := by
    intro l
    induction l with
    | nil => intro h; simp at h
    | cons x r ih =>
      intro h
      simp only [PM.cut]
      split
      · rfl
      · rename_i hx
        simp only [List.map_cons, List.mem_cons] at h
        have := ih (h.resolve_left hx)
        simp only [List.length_cons]
        omega
  obtain ⟨v, hv⟩ := (PM.isSome_iff m k).1 h
  exact this m.l (List.mem_map.2 ⟨_, hv, rfl⟩)

/-- a step is taken from those that wait, and leads to a place that has been looked at -/
theorem CoolIs.again {J : Job} {bym : PM Pl} {wt : PM St} {hot : Int} (hc : CoolIs J bym wt hot) {s : St} (hin : (bym.get s.2.1).isSome = true) : CoolIs J bym (wt.del s) hot where
  by_ := hc.by_
  wok := hc.wok.del s
  from_ := fun x hx => by
    rw [PM.get_del _ hc.wok] at hx
    by_cases h : x = s
    · rw [if_pos h] at hx; cases hx
    · rw [if_neg h] at hx; exact hc.from_ x hx
  edge := fun p r hp hs hr hl hn => by
    rw [PM.get_del _ hc.wok, if_neg fun e => hn (by rw [← e] at hin; exact hin)]
    exact hc.edge p r hp hs hr hl hn
  low := hc.low
  bd := hc.bd
/-- a coldest step leads to a new place -/
theorem CoolIs.next {J : Job} (hJ : J.Ok) {bym : PM Pl} {wt wt2 : PM St} {hot : Int} (hc : CoolIs J bym wt hot) (hlast : ¬ seenP bym J.last) {p : Nat → Nat} {r : Nat} (hp : J.In p) (hsp : seenP bym p) (hr : r < J.n) (hl : p r < J.len r)
    (hmin : ∀ s, (wt.get s).isSome = true → J.hot p r ≤ s.2.2) (hnew : ¬ seenP bym (Job.to p r)) (hput : putIs J (Job.to p r) (bym.set (tup (Job.to p r)) r) (wt.del (J.key p r)) J.n wt2) :
    CoolIs J (bym.set (tup (Job.to p r)) r) wt2 (max hot (J.hot p r)) := by
  have hto := Job.in_to hp hr hl
  have hs' : ∀ q, seenP (bym.set (tup (Job.to p r)) r) q ↔ (tup q = tup (Job.to p r) ∨ seenP bym q) := fun q => by
    unfold seenP
    rw [PM.get_set]
    by_cases h : tup q = tup (Job.to p r)
    · rw [if_pos h]; simp [h]
    · rw [if_neg h]; simp [h]
  have hhb := Job.hot_bd hJ hp hr hl
  have hbd := hc.bd
  refine ⟨⟨hc.by_.ok.set _ _, (hs' _).2 (.inr hc.by_.zero), fun t ht => ?_, fun q hq hsq hd => ?_⟩, hput.1, fun s hs => ?_, fun q x hq hsq hx hlx hn => ?_, fun l hlt => ?_, ?_⟩
  · rw [PM.get_set] at ht
    by_cases h : t = tup (Job.to p r)
    · exact ⟨_, hto, h⟩
    · rw [if_neg h] at ht; exact hc.by_.keys t ht
  · rw [PM.getD_set]
    by_cases h : tup q = tup (Job.to p r)
    · have := Job.tup_inj hJ hq hto h
      subst this
      rw [if_pos rfl]
      have hdn : dn (Job.to p r) r = p := dn_to p r
      exact ⟨r, hr, rfl, by simp [Job.to, upd], by rw [hdn]; exact Int.le_max_right _ _, (hs' _).2 (.inr (by rw [hdn]; exact hsp))⟩
    · rw [if_neg h]
      obtain ⟨x, h1, h2, h3, h4, h5⟩ := hc.by_.way q hq (((hs' q).1 hsq).resolve_left h) hd
      exact ⟨x, h1, h2, h3, Int.le_trans h4 (Int.le_max_left _ _), (hs' _).2 (.inr h5)⟩
  · rcases (hput.2 s).1 hs with h | ⟨x, h1, h2, _, h4⟩
    · rw [PM.get_del _ hc.wok] at h
      by_cases he : s = J.key p r
      · rw [if_pos he] at h; cases h
      · rw [if_neg he] at h
        obtain ⟨q, x, g1, g2, g3⟩ := hc.from_ s h
        exact ⟨q, x, g1, (hs' _).2 (.inr g2), g3⟩
    · exact ⟨Job.to p r, x, hto, (hs' _).2 (.inl rfl), h1, h2, h4⟩
  · rw [hput.2]
    have hn2 : tup (Job.to q x) ≠ tup (Job.to p r) ∧ ¬ seenP bym (Job.to q x) := ⟨fun e => hn ((hs' _).2 (.inl e)), fun e => hn ((hs' _).2 (.inr e))⟩
    rcases (hs' q).1 hsq with h | h
    · have := Job.tup_inj hJ hq hto h
      subst this
      refine .inr ⟨x, hx, hlx, ?_, rfl⟩
      have := hn
      unfold seenP at this
      simpa using this
    · refine .inl ?_
      rw [PM.get_del _ hc.wok, if_neg fun e => hn2.1 (congrArg (·.2.1) e)]
      exact hc.edge q x hq h hx hlx hn2.2
  · by_cases h : l < hot
    · exact hc.low l h
    · have : l < J.hot p r := by omega
      refine Job.cut (S := seenP bym) hc.by_.zero (fun q x hq hs hx hlx hn => ?_) _ J.last J.in_last rfl hlast
      have := hmin _ (hc.edge q x hq hs hx hlx hn)
      simp only [Job.key] at this
      omega
  · omega

/-- how many more can be looked at -/
theorem ByIs.len {J : Job} (hJ : J.Ok) {bym : PM Pl} {hot : Int} (h : ByIs J bym hot) : bym.l.length ≤ J.size := by
  have h1 := length_le_of_subset (bym.l.map (·.1)) ((List.range J.size).map fun t => tup (J.dig t)) h.ok.keys fun t ht => by
    obtain ⟨x, hx, rfl⟩ := List.mem_map.1 ht
    obtain ⟨p, hp, e⟩ := h.keys x.1 ((PM.isSome_iff bym x.1).2 ⟨x.2, hx⟩)
    refine List.mem_map.2 ⟨J.num p, List.mem_range.2 (J.num_lt hp), ?_⟩
    rw [J.dig_num hp, e]
  simpa using h1
theorem PM.set_len {K : Type} [DecidableEq K] (m : PM K) (k : K) (v : Int) (h : (m.get k).isSome = false) : (m.set k v).l.length = m.l.length + 1 := by
  unfold PM.set
  rw [h]
  simp
theorem putIs.len {J : Job} (hJ : J.Ok) {p : Nat → Nat} {bym : PM Pl} {wt0 wt : PM St} (h : putIs J p bym wt0 J.n wt) : wt.l.length ≤ wt0.l.length + 4 := by
  have h1 := length_le_of_subset (wt.l.map (·.1)) (wt0.l.map (·.1) ++ (List.range J.n).map fun r => J.key p r) h.1.keys fun s hs => by
    obtain ⟨x, hx, rfl⟩ := List.mem_map.1 hs
    rcases (h.2 x.1).1 ((PM.isSome_iff wt x.1).2 ⟨x.2, hx⟩) with h2 | ⟨r, h2, _, _, h3⟩
    · obtain ⟨v, hv⟩ := (PM.isSome_iff wt0 x.1).1 h2
      exact List.mem_append.2 (.inl (List.mem_map.2 ⟨_, hv, rfl⟩))
    · exact List.mem_append.2 (.inr (List.mem_map.2 ⟨r, List.mem_range.2 h2, h3.symm⟩))
  have := hJ.n4
  simp at h1
  omega

def byFirst : PM Pl := (PM.empty Pl).set (0, 0, 0, 0) (-1)
theorem CoolIs.start {J : Job} (hJ : J.Ok) {wt : PM St} (h : putIs J (fun _ => 0) byFirst (PM.empty St) J.n wt) : CoolIs J byFirst wt (-1099511627776) := by
  have hz : J.In fun _ => 0 := ⟨fun _ _ => Nat.zero_le _, fun _ _ => rfl⟩
  have hs : ∀ q, J.In q → seenP byFirst q → q = fun _ => 0 := fun q hq h => by
    unfold seenP byFirst at h
    rw [PM.get_set] at h
    by_cases he : tup q = (0, 0, 0, 0)
    · exact Job.tup_inj hJ hq hz he
    · rw [if_neg he, PM.get_empty] at h; cases h
  refine ⟨⟨PM.Ok.empty.set _ _, by unfold seenP byFirst; rw [PM.get_set, if_pos (show tup (fun _ => 0) = (0, 0, 0, 0) from rfl)]; rfl, fun t ht => ?_, fun q hq hsq hd => ?_⟩, h.1, fun s hsw => ?_, fun q x hq hsq hx hlx hn => ?_, fun l hl => ?_, by omega⟩
  · unfold byFirst at ht
    rw [PM.get_set] at ht
    by_cases he : t = (0, 0, 0, 0)
    · exact ⟨_, hz, he⟩
    · rw [if_neg he, PM.get_empty] at ht; cases ht
  · have := hs q hq hsq
    subst this
    exact absurd (sumN_zero J.n fun i hi => rfl) hd
  · rcases (h.2 s).1 hsw with h1 | ⟨r, h1, h2, _, h4⟩
    · rw [PM.get_empty] at h1; cases h1
    · exact ⟨_, r, hz, by unfold seenP byFirst; rw [PM.get_set, if_pos (show tup (fun _ => 0) = (0, 0, 0, 0) from rfl)]; rfl, h1, h2, h4⟩
  · have := hs q hq hsq
    subst this
    exact (h.2 _).2 (.inr ⟨x, hx, hlx, by unfold seenP at hn; simpa using hn, rfl⟩)
  · rw [J.waysN_eq _ (Job.last_deg hJ)]
    refine sumN_zero J.n fun r hr => ?_
    rw [if_neg]
    rintro ⟨h0, h1⟩
    have := Job.hot_bd hJ (Job.in_dn r J.in_last) hr (Job.dn_lt J.in_last hr h0)
    omega

/-- what coolest finds: the least limit within which one comes to the last place -/
def Job.Best (J : Job) (hot : Int) : Prop := 0 < J.waysN hot J.last ∧ ∀ l, l < hot → J.waysN l J.last = 0
theorem Job.waysN_mono {J : Job} {l l' : Int} (h : l ≤ l') : ∀ (d : Nat) (q : Nat → Nat), J.deg q = d → J.waysN l q ≤ J.waysN l' q
  | 0, q, hd => by rw [J.waysN_zero _ hd, J.waysN_zero _ hd]; exact Nat.le_refl _
  | d + 1, q, hd => by
    rw [J.waysN_eq _ (by omega), J.waysN_eq _ (by omega)]
    refine sumN_mono J.n fun r hr => ?_
    by_cases hc : 0 < q r ∧ J.hot (dn q r) r ≤ l
    · rw [if_pos hc, if_pos ⟨hc.1, by omega⟩]
      exact Job.waysN_mono h d _ (by have := J.deg_dn hr hc.1; omega)
    · rw [if_neg hc]; exact Nat.zero_le _
theorem ByIs.reach {J : Job} {bym : PM Pl} {hot : Int} (h : ByIs J bym hot) : ∀ (d : Nat) (q : Nat → Nat), J.In q → J.deg q = d → seenP bym q → 0 < J.waysN hot q
  | 0, q, _, hd, _ => by rw [J.waysN_zero _ hd]; omega
  | d + 1, q, hq, hd, hs => by
    obtain ⟨r, hr, _, h0, hh, hsd⟩ := h.way q hq hs (by omega)
    have ih := h.reach d (dn q r) (Job.in_dn r hq) (by have := J.deg_dn hr h0; omega) hsd
    rw [J.waysN_eq _ (by omega)]
    refine Nat.pos_of_ne_zero fun hz => ?_
    have := sumN_eq_zero J.n hz r hr
    rw [if_pos ⟨h0, hh⟩] at this
    omega
theorem CoolIs.best {J : Job} {bym : PM Pl} {wt : PM St} {hot : Int} (h : CoolIs J bym wt hot) (hl : seenP bym J.last) : J.Best hot :=
  ⟨h.by_.reach _ _ J.in_last rfl hl, h.low⟩
theorem Job.Best.unique {J : Job} {a b : Int} (ha : J.Best a) (hb : J.Best b) : a = b := by
  rcases Int.lt_trichotomy a b with h | h | h
  · have := hb.2 a h; have := ha.1; omega
  · exact h
  · have := ha.2 b h; have := hb.1; omega
theorem Job.Best.iff {J : Job} {a : Int} (ha : J.Best a) (l : Int) : 0 < J.waysN l J.last ↔ a ≤ l := by
  constructor
  · intro h
    rcases Int.lt_or_le l a with h1 | h1
    · have := ha.2 l h1; omega
    · exact h1
  · intro h
    have := Job.waysN_mono (J := J) h _ J.last rfl
    have := ha.1
    omega
theorem Job.Best.bd {J : Job} (hJ : J.Ok) {a : Int} (ha : J.Best a) : -25000 ≤ a ∧ a ≤ 26000 := by
  constructor
  · rcases Int.lt_or_le a (-25000) with h | h
    · exfalso
      have h1 := ha.1
      rw [J.waysN_eq _ (Job.last_deg hJ)] at h1
      have : sumN (fun r => if 0 < J.last r ∧ J.hot (dn J.last r) r ≤ a then J.waysN a (dn J.last r) else 0) J.n = 0 := sumN_zero J.n fun r hr => by
        rw [if_neg]
        rintro ⟨h0, h1⟩
        have := Job.hot_bd hJ (Job.in_dn r J.in_last) hr (Job.dn_lt J.in_last hr h0)
        omega
      omega
    · exact h
  · have h := Job.ways_pos hJ _ J.last J.in_last rfl
    exact (ha.iff _).1 h

end Go.Proofs.Ytjpccfpmhmddjaa

/-
  What is proved: how hot a best order becomes, and by which edges, in the program (60).
-/
namespace Go.Proofs.Ytjpccfpmhmddjaa
open Go.RowKit
attribute [local irreducible] Go.wpCalm

@[local go_sem ↓] theorem mk93 (w : World) : (Instr.makeMap 93 none).run Try.prog w = .ok (.map (some w.heap.size)) (w.alloc (.map #[] 0)) := rfl
@[local go_sem ↓] theorem mk127 (w : World) : (Instr.makeMap 127 none).run Try.prog w = .ok (.map (some w.heap.size)) (w.alloc ((PM.empty St).obj eSt)) := rfl
@[local go_sem ↓] theorem up93z (w : World) (b : Nat) (hb : b = w.heap.size) : (Instr.mapUpdate 93 (.map (some b)) (.agg #[.int .i64 0, .int .i64 0, .int .i64 0, .int .i64 0]) (.int .i64 (-1))).run Try.prog (w.alloc (.map #[] 0)) = .ok () (w.alloc (byFirst.obj ePl)) := by
  have h := up93 (PM.empty Pl) b (w.alloc (.map #[] 0)) (by subst hb; exact heap_alloc_new w _) (fun _ => 0) (-1)
  refine h.trans ?_
  rw [World.putObj_alloc_at _ _ _ _ hb]
  rfl
def mapLen (o : Option Obj) : Nat := match o with | some (.map es _) => es.size | _ => 0
theorem mapLen_obj {K : Type} (e : K → Value) (m : PM K) : mapLen (some (m.obj e)) = m.l.length := by simp [mapLen, PM.obj, PM.ents]

/-- how memory lies in the loop -/
structure CoolAt (w W : World) (P0 : Nat) (J : Job) (bym : PM Pl) (wt : PM St) : Prop where
  g : w.grows W
  c0 : W.cell? ⟨w.heap.size, 0, none⟩ = some (.pointer (some ⟨P0, 0, none⟩))
  c2 : W.cell? ⟨w.heap.size + 1 + 1, 0, none⟩ = some (.map (some (w.heap.size + 1)))
  c4 : W.cell? ⟨w.heap.size + 1 + 1 + 1 + 1, 0, none⟩ = some (.map (some (w.heap.size + 1 + 1 + 1)))
  h1 : W.heap[w.heap.size + 1]? = some (bym.obj ePl)
  h3 : W.heap[w.heap.size + 1 + 1 + 1]? = some (wt.obj eSt)
  plate : PlateAt W P0 J
theorem CoolAt.mono {w W W' : World} {P0 : Nat} {J : Job} {bym : PM Pl} {wt : PM St} (h : CoolAt w W P0 J bym wt) (g : W.grows W') : CoolAt w W' P0 J bym wt :=
  ⟨h.g.trans g, g.cell_of h.c0, g.cell_of h.c2, g.cell_of h.c4, g.heap_of h.h1, g.heap_of h.h3, h.plate.mono g⟩
theorem CoolAt.setW {w W : World} {P0 : Nat} {J : Job} {bym : PM Pl} {wt : PM St} (h : CoolAt w W P0 J bym wt) (wt' : PM St) : CoolAt w (W.putObj (w.heap.size + 1 + 1 + 1) (wt'.obj eSt)) P0 J bym wt' := by
  have hc : ∀ a, (W.putObj (w.heap.size + 1 + 1 + 1) (wt'.obj eSt)).cell? a = W.cell? a := fun a => World.putObj_map_cell h.h3 a
  exact ⟨World.putObj_grows h.g _ (by omega), by rw [hc]; exact h.c0, by rw [hc]; exact h.c2, by rw [hc]; exact h.c4, by rw [World.putObj_heap_other (by omega)]; exact h.h1, World.putObj_heap_same (World.lt_of_block h.h3),
    h.plate.sub fun a v ha => by rw [hc]; exact ha⟩
theorem CoolAt.setB {w W : World} {P0 : Nat} {J : Job} {bym : PM Pl} {wt : PM St} (h : CoolAt w W P0 J bym wt) (bym' : PM Pl) : CoolAt w (W.putObj (w.heap.size + 1) (bym'.obj ePl)) P0 J bym' wt := by
  have hc : ∀ a, (W.putObj (w.heap.size + 1) (bym'.obj ePl)).cell? a = W.cell? a := fun a => World.putObj_map_cell h.h1 a
  exact ⟨World.putObj_grows h.g _ (by omega), by rw [hc]; exact h.c0, by rw [hc]; exact h.c2, by rw [hc]; exact h.c4, World.putObj_heap_same (World.lt_of_block h.h1), by rw [World.putObj_heap_other (by omega)]; exact h.h3,
    h.plate.sub fun a v ha => by rw [hc]; exact ha⟩
theorem CoolAt.put {w W : World} {P0 : Nat} {J : Job} {bym : PM Pl} {wt : PM St} (h : CoolAt w W P0 J bym wt) (hJ : J.Ok) (hwt : wt.Ok) {p : Nat → Nat} (hp : J.In p) :
    Calls Try.prog 82 #[plc p, .pointer (some ⟨w.heap.size, 0, none⟩), .pointer (some ⟨w.heap.size + 1 + 1, 0, none⟩), .pointer (some ⟨w.heap.size + 1 + 1 + 1 + 1, 0, none⟩)] W fun e w' => ∃ (v : Value) (wt' : PM St), e = .returned v ∧ putIs J p bym wt J.n wt' ∧ CoolAt w w' P0 J bym wt' :=
  (put_c W P0 _ _ _ _ _ J p h.plate hJ hp bym wt hwt h.c0 h.c2 h.c4 h.h1 h.h3 (by omega)).mono fun e w' ⟨v, wt', he, hput, hg⟩ => ⟨v, wt', he, hput, (h.setW wt').mono hg⟩

set_option maxHeartbeats 4000000 in
theorem cool_c (w : World) (P0 : Nat) (J : Job) (hP : PlateAt w P0 J) (hJ : J.Ok) :
    Calls Try.prog 60 #[.pointer (some ⟨P0, 0, none⟩)] w fun e w' => ∃ (b : Nat) (m : PM Pl) (hot : Int), e = .returned (.tuple #[.int .i64 hot, .map (some b)]) ∧ w.grows w' ∧ w'.heap[b]? = some (m.obj ePl) ∧ ByIs J m hot ∧ seenP m J.last ∧ J.Best hot := by
  have hz : J.In fun _ => 0 := ⟨fun _ _ => Nat.zero_le _, fun _ _ => rfl⟩
  go_enter Try.func60, Try.ntmps60
  go_wp2_with (go_at_call 82; refine (CoolAt.put (w := w) (P0 := P0) (J := J) (bym := byFirst) (wt := PM.empty St) ⟨by (repeat (first | exact World.grows.refl _ | assumption | refine World.grows.alloc ?_ _ | refine World.grows.plus ?_ _ _ | refine World.grows.drew ?_)), by simp [go_sem], by simp [go_sem], by simp [go_sem], World.grows.heap_of (w := (w.alloc (Obj.cells #[Value.pointer (some { block := P0, off := 0 })] 72)).alloc (PM.obj ePl byFirst)) (by (repeat (first | exact World.grows.refl _ | assumption | refine World.grows.alloc ?_ _ | refine World.grows.plus ?_ _ _ | refine World.grows.drew ?_))) (World.heap_at _ _ _ (by simp)), World.grows.heap_of (w := (((w.alloc (Obj.cells #[Value.pointer (some { block := P0, off := 0 })] 72)).alloc (PM.obj ePl byFirst)).alloc (Obj.cells #[Value.map (some (w.heap.size + 1))] 93)).alloc (PM.obj eSt (PM.empty St))) (by (repeat (first | exact World.grows.refl _ | assumption | refine World.grows.alloc ?_ _ | refine World.grows.plus ?_ _ _ | refine World.grows.drew ?_))) (World.heap_at _ _ _ (by simp)), hP.mono (by (repeat (first | exact World.grows.refl _ | assumption | refine World.grows.alloc ?_ _ | refine World.grows.plus ?_ _ _ | refine World.grows.drew ?_)))⟩ hJ PM.Ok.empty hz).mono ?_; rintro e W1 ⟨v0, wt0, rfl, hput0, hA0⟩; have HA0 := Lib.hid hA0; clear hA0)
  have Hc0 := Lib.hid (CoolIs.start hJ hput0)
  have HJ := Lib.hid hJ
  clear hput0 hP hJ
  go_loopw [7] (fun h wr => ∃ (bym : PM Pl) (wt : PM St) (hot : Int), h = .int .i64 hot ∧ Hid (CoolIs J bym wt hot) ∧ Hid (CoolAt w wr P0 J bym wt)) (fun _ wr => (J.size - mapLen (wr.heap[w.heap.size + 1]?)) * 10 + mapLen (wr.heap[w.heap.size + 1 + 1 + 1]?))
  case atStart => exact ⟨byFirst, wt0, _, rfl, Hc0, HA0⟩
  case round =>
    obtain ⟨bym, wt, hot, rfl, hcool, hA⟩ := hrel
    have hmu : (J.size - mapLen (wr.heap[w.heap.size + 1]?)) * 10 + mapLen (wr.heap[w.heap.size + 1 + 1 + 1]?) = (J.size - bym.l.length) * 10 + wt.l.length := by rw [hA.out.h1, hA.out.h3, mapLen_obj, mapLen_obj]
    rw [hmu]
    clear hmu Hc0 HA0
    have hlen := Lib.hid (hcool.out.by_.len HJ.out)
    have c0 := hA.out.c0
    have c2 := hA.out.c2
    have h1 := hA.out.h1
    have q0 : wr.cell? ⟨P0, 2, none⟩ = some (.int .i64 (J.last 0)) := hA.out.plate.last 0 (by omega)
    have q1 : wr.cell? ⟨P0, 3, none⟩ = some (.int .i64 (J.last 1)) := hA.out.plate.last 1 (by omega)
    have q2 : wr.cell? ⟨P0, 4, none⟩ = some (.int .i64 (J.last 2)) := hA.out.plate.last 2 (by omega)
    have q3 : wr.cell? ⟨P0, 5, none⟩ = some (.int .i64 (J.last 3)) := hA.out.plate.last 3 (by omega)
    have hl1 := fun W h => lko93 bym (w.heap.size + 1) W h J.last
    by_cases hlast : (bym.get (tup J.last)).isSome = true
    · simp only [hlast] at hl1
      have Hlast := Lib.hid hlast
      clear hlast
      go_wp2
      (refine wp_region_calm (by kernel_rfl) (by kernel_rfl) ?_; (repeat (refine wpCalm_step (fun K hK => ?_); go_simp; first | (refine hK _ ?_; clear hK K) | (apply Exists.intro; refine ⟨fun n' x' => ?_, hK _ ?_⟩; (fail); clear hK K))); refine wpCalm_nil ?_; intro nq xq)
      go_wp2
      (refine wp_region_calm (by kernel_rfl) (by kernel_rfl) ?_; (repeat (refine wpCalm_step (fun K hK => ?_); go_simp; first | (refine hK _ ?_; clear hK K) | (apply Exists.intro; refine ⟨fun n' x' => ?_, hK _ ?_⟩; (fail); clear hK K))); refine wpCalm_nil ?_; intro nq xq)
      go_wp2
      (refine bodyPost_ret (v := .tuple #[.int .i64 hot, .map (some (w.heap.size + 1))]) (by simp [results, Try.results60, go_sem]) rfl ?_)
      exact ⟨_, bym, hot, rfl, hA.out.g.trans (by (repeat (first | exact World.grows.refl _ | assumption | refine World.grows.alloc ?_ _ | refine World.grows.plus ?_ _ _ | refine World.grows.drew ?_))), (hA.out.mono (by (repeat (first | exact World.grows.refl _ | assumption | refine World.grows.alloc ?_ _ | refine World.grows.plus ?_ _ _ | refine World.grows.drew ?_)))).h1, hcool.out.by_, Hlast.out, hcool.out.best Hlast.out⟩
    · have hlast' : (bym.get (tup J.last)).isSome = false := by simpa using hlast
      simp only [hlast'] at hl1
      have Hlast := Lib.hid hlast
      have c4 := hA.out.c4
      clear hlast hlast'
      go_wp2
      (refine wp_region_calm (by kernel_rfl) (by kernel_rfl) ?_; (repeat (refine wpCalm_step (fun K hK => ?_); go_simp; first | (refine hK _ ?_; clear hK K) | (apply Exists.intro; refine ⟨fun n' x' => ?_, hK _ ?_⟩; (fail); clear hK K))); refine wpCalm_nil ?_; intro nq xq)
      go_wp2_with (go_at_call 83; go_loud (refine (coldest_c _ _ wt ((hA.out.mono (by (repeat (first | exact World.grows.refl _ | assumption | refine World.grows.alloc ?_ _ | refine World.grows.plus ?_ _ _ | refine World.grows.drew ?_)))).h3) hcool.out.wok (hcool.out.some HJ.out Hlast.out) (fun x hx => hcool.out.nonzero HJ.out ((PM.isSome_iff wt x.1).2 ⟨x.2, hx⟩))).mono ?_; rintro e W2 ⟨s, rfl, ⟨sv, hs1⟩, hs2, hg2⟩; have hsome := (PM.isSome_iff wt s).2 ⟨sv, hs1⟩; obtain ⟨p, r, hp, hsp, hr, hlt, rfl⟩ := hcool.out.from_ s hsome; have HA2 := Lib.hid (hA.out.mono (World.grows.trans (by (repeat (first | exact World.grows.refl _ | assumption | refine World.grows.alloc ?_ _ | refine World.grows.plus ?_ _ _ | refine World.grows.drew ?_))) hg2)); have Hmin := Lib.hid (show ∀ s, (wt.get s).isSome = true → (J.key p r).2.2 ≤ s.2.2 from fun s hs => by obtain ⟨v, hv⟩ := (PM.isSome_iff wt s).1 hs; exact hs2 _ hv); have Hsome := Lib.hid hsome; have Hsp := Lib.hid hsp; have Hp := Lib.hid hp; clear hs1 hs2 hg2 hsome hsp hp q0 q1 q2 q3 c0 c2 c4 h1; have d2 := HA2.out.c2; have d4 := HA2.out.c4; have d3 := HA2.out.h3; have d1 := (HA2.out.setW (wt.del (J.key p r))).h1; have hdel := del127 wt (w.heap.size + 1 + 1 + 1) W2 d3; have hc3 : ∀ a, (W2.putObj (w.heap.size + 1 + 1 + 1) ((wt.del (J.key p r)).obj eSt)).cell? a = W2.cell? a := fun a => World.putObj_map_cell d3 a; have hdel' : ∀ W, W.heap[w.heap.size + 1 + 1 + 1]? = some (wt.obj eSt) → ∀ ty, (Builtin.delete_ #[127, 111] ty #[.map (some (w.heap.size + 1 + 1 + 1)), stp r (Job.to p r) (J.hot p r)]).run Try.prog W = .ok (.tuple #[]) (W.putObj (w.heap.size + 1 + 1 + 1) ((wt.del (J.key p r)).obj eSt)) := fun W h ty => del127 wt _ W h ty r (Job.to p r) (J.hot p r); clear hdel hl1; have hl2 := fun W h => lko93 bym (w.heap.size + 1) W h (Job.to p r); have hup := fun W h => up93 bym (w.heap.size + 1) W h (Job.to p r) (r : Nat); have hc1 : ∀ a, ((W2.putObj (w.heap.size + 1 + 1 + 1) ((wt.del (J.key p r)).obj eSt)).putObj (w.heap.size + 1) ((bym.set (tup (Job.to p r)) r).obj ePl)).cell? a = W2.cell? a := fun a => (World.putObj_map_cell d1 a).trans (hc3 a); dsimp only [eSt, Job.key, tup]))
      case roundEnd =>
        rename_i hin
        have hA3 := (HA2.out.setW (wt.del (J.key p r))).mono (World.grows.alloc (World.grows.refl _) (stO (J.key p r)))
        have hdl := PM.del_len (m := wt) (J.key p r) Hsome.out
        have hg1 := hA3.h1
        have hg3 := hA3.h3
        have HA3 := Lib.hid hA3
        have Hag := Lib.hid (hcool.out.again (s := J.key p r) hin)
        clear hA3
        go_roundw
        case rel => exact ⟨bym, _, hot, rfl, Hag, HA3⟩
        case measure =>
          have e1 := congrArg mapLen hg1
          have e3 := congrArg mapLen hg3
          rw [mapLen_obj] at e1 e3
          refine Nat.lt_of_le_of_lt (Nat.le_of_eq (congr (congrArg HAdd.hAdd (congrArg (fun x => (J.size - x) * 10) e1)) e3)) ?_
          omega
      case inl =>
        rename_i hin K3 hK3
        have hnew : ¬ seenP bym (Job.to p r) := by unfold seenP; rw [hin]; simp
        have hAn := ((HA2.out.setW (wt.del (J.key p r))).setB (bym.set (tup (Job.to p r)) r)).mono (World.grows.alloc (World.grows.refl _) (stO (J.key p r)))
        have hto := Job.in_to Hp.out hr hlt
        have hwd := hcool.out.wok.del (J.key p r)
        refine (hAn.put HJ.out hwd hto).mono ?_
        rintro e W3 ⟨v3, wt3, rfl, hput, hA3⟩
        have Hnext := Lib.hid (hcool.out.next HJ.out Hlast.out Hp.out Hsp.out hr hlt Hmin.out hnew hput)
        have Hlen3 := Lib.hid (hput.len HJ.out)
        have Hlb := Lib.hid (Hnext.out.by_.len HJ.out)
        have HA3 := Lib.hid hA3
        have hsl := PM.set_len bym (tup (Job.to p r)) (r : Nat) hin
        have hdl := PM.del_len (m := wt) (J.key p r) Hsome.out
        have hmax : max hot (J.hot p r) = J.hot p r := by omega
        rw [hmax] at Hnext
        have hg1 := hA3.h1
        have hg3 := hA3.h3
        clear hput hA3 hAn
        go_wp2
        go_roundw
        case rel => exact ⟨_, _, _, rfl, Hnext, HA3⟩
        case measure =>
          rw [hg1, hg3, mapLen_obj, mapLen_obj]
          have := Hlen3.out
          have := Hlb.out
          omega
      case inr =>
        rename_i hin K3 hK3
        have hnew : ¬ seenP bym (Job.to p r) := by unfold seenP; rw [hin]; simp
        have hAn := ((HA2.out.setW (wt.del (J.key p r))).setB (bym.set (tup (Job.to p r)) r)).mono (World.grows.alloc (World.grows.refl _) (stO (J.key p r)))
        have hto := Job.in_to Hp.out hr hlt
        have hwd := hcool.out.wok.del (J.key p r)
        refine (hAn.put HJ.out hwd hto).mono ?_
        rintro e W3 ⟨v3, wt3, rfl, hput, hA3⟩
        have Hnext := Lib.hid (hcool.out.next HJ.out Hlast.out Hp.out Hsp.out hr hlt Hmin.out hnew hput)
        have Hlen3 := Lib.hid (hput.len HJ.out)
        have Hlb := Lib.hid (Hnext.out.by_.len HJ.out)
        have HA3 := Lib.hid hA3
        have hsl := PM.set_len bym (tup (Job.to p r)) (r : Nat) hin
        have hdl := PM.del_len (m := wt) (J.key p r) Hsome.out
        have hmax : max hot (J.hot p r) = hot := by omega
        rw [hmax] at Hnext
        have hg1 := hA3.h1
        have hg3 := hA3.h3
        clear hput hA3 hAn
        go_wp2
        go_roundw
        case rel => exact ⟨_, _, _, rfl, Hnext, HA3⟩
        case measure =>
          rw [hg1, hg3, mapLen_obj, mapLen_obj]
          have := Hlen3.out
          have := Hlb.out
          omega

end Go.Proofs.Ytjpccfpmhmddjaa

/-
  What is proved: slices.Reverse of a slice of the caller's own (61); slices.Clone (69).
-/
namespace Go.Proofs.Ytjpccfpmhmddjaa
open Go.RowKit
attribute [local irreducible] Go.wpCalm

theorem tableL_map (n : Nat) (c : Nat → Nat → Value) : tableL n 1 c = (List.range n).map fun i => c i 0 := by
  unfold tableL
  simp [Nat.mod_one]
/-- the place of an element when k at each end have been turned round -/
def revAt (n k x : Nat) : Nat := if x < k ∨ n - 1 - k < x then n - 1 - x else x
theorem rev_swap (n k j : Nat) (f : Nat → Int) (hk : k < j) (hj : k + j + 1 = n) :
    ((tableL n 1 (fun x _ => Value.int .i64 (f (revAt n k x)))).set k (.int .i64 (f j))).set j (.int .i64 (f k)) = tableL n 1 (fun x _ => Value.int .i64 (f (revAt n (k + 1) x))) := by
  rw [tableL_map, tableL_map]
  apply List.ext_getElem?
  intro i
  simp only [List.getElem?_set, List.length_set, List.length_map, List.length_range, List.getElem?_map]
  rcases Nat.lt_or_ge i n with hi | hi
  · rw [List.getElem?_range hi]
    by_cases h1 : j = i
    · subst h1
      rw [if_pos rfl, if_pos hi]
      simp only [Option.map_some, revAt]
      rw [if_pos (by omega), show n - 1 - j = k by omega]
    · rw [if_neg h1]
      by_cases h2 : k = i
      · subst h2
        rw [if_pos rfl, if_pos hi]
        simp only [Option.map_some, revAt]
        rw [if_pos (by omega), show n - 1 - k = j by omega]
      · rw [if_neg h2]
        simp only [Option.map_some, revAt]
        by_cases h3 : i < k ∨ n - 1 - k < i
        · rw [if_pos h3, if_pos (by omega)]
        · rw [if_neg h3, if_neg (by omega)]
  · rw [if_neg (by omega), if_neg (by omega)]
    simp [hi]

set_option maxHeartbeats 1000000 in
theorem reverse_c (w : World) (base n : Nat) (v : Value) (f : Nat → Int) (hown : w.ownsRow base 3 1 v n (tableL n 1 (fun i _ => .int .i64 (f i)))) (hn : n ≤ 1000000) :
    Calls Try.prog 61 #[v] w fun e w' => ∃ u, e = .returned u ∧ w'.ownsRow base 3 1 v n (tableL n 1 (fun i _ => .int .i64 (f (n - 1 - i)))) ∧ ∀ W0 : World, W0.grows w → W0.heap.size ≤ base → W0.grows w' := by
  go_enter Try.func61, Try.ntmps61
  obtain ⟨vo, vc, hv⟩ : ∃ vo vc, v = .slice vo n vc := by
    rcases hown.2 with ⟨rfl, rfl⟩ | ⟨g, cap, cur, rfl, _⟩
    · exact ⟨_, _, rfl⟩
    · exact ⟨_, _, rfl⟩
  have hform := Lib.hid (fun h => hown.form (n := n) h)
  have Hown := Lib.hid hown
  subst hv
  clear hown
  go_wp2
  go_loopw [2, 3] (fun i j wr => ∃ k : Nat, 2 * k ≤ n ∧ i = .int .i64 k ∧ j = .int .i64 ((n : Int) - 1 - k) ∧ Hid (wr.ownsRow base 3 1 (.slice vo n vc) n (tableL n 1 (fun x _ => .int .i64 (f (revAt n k x))))) ∧ Hid (∀ W0 : World, W0.grows w → W0.heap.size ≤ base → W0.grows wr)) (fun i _ _ => n - (intOf i).toNat)
  case atStart => exact ⟨0, by omega, rfl, by simp, Lib.hid (by
    have : (fun x (_ : Nat) => Value.int .i64 (f (revAt n 0 x))) = fun x _ => .int .i64 (f (if n - 1 < x then n - 1 - x else x)) := by funext x _; simp [revAt]
    refine cast (congrArg _ ?_) Hown.out
    unfold tableL
    apply List.map_congr_left
    intro x hx
    have hx' : x < n := by simpa using hx
    simp only [Nat.div_one, revAt]
    rw [if_neg (by omega)]), Lib.hid fun W0 h _ => h⟩
  case round =>
    obtain ⟨k, hk, rfl, rfl, ho, hg⟩ := hrel
    by_cases hlt : 2 * k + 1 < n
    · obtain ⟨j, hj⟩ : ∃ j, k + j + 1 = n := ⟨n - 1 - k, by omega⟩
      have hji : (n : Int) - 1 - k = j := by omega
      obtain ⟨g, cap, hv, hgb⟩ := hform.out (by omega)
      cases hv
      have a1 : wr.cell? ⟨g, k, none⟩ = some (.int .i64 (f k)) := by
        rw [ho.out.cellAt k (by omega), tableL_map]
        simp [revAt, show k < n by omega]
        rw [if_neg (by omega)]
      have a2 : wr.cell? ⟨g, j, none⟩ = some (.int .i64 (f j)) := by
        rw [ho.out.cellAt j (by omega), tableL_map]
        simp [revAt, show j < n by omega]
        rw [if_neg (by omega)]
      have f1 : wr.frozen? ⟨g, k, none⟩ = false := ho.out.frozenAt k
      have f2 : wr.frozen? ⟨g, j, none⟩ = false := ho.out.frozenAt j
      have h1 := ((ho.out.stored k (.int .i64 (f j))).1.stored j (.int .i64 (f k))).1
      rw [rev_swap n k j f (by omega) hj] at h1
      have H1 := Lib.hid h1
      clear h1
      rw [hji]
      have hkj : (k : Int) < j := by omega
      have hkn : (k : Int) < n := by omega
      have hjn : (j : Int) < n := by omega
      have hkn' : k < n := by omega
      have hjn' : j < n := by omega
      go_wp2
      go_region
      go_wp2
      go_roundw
      case rel =>
        refine ⟨k + 1, by omega, by go_num, by simp; omega, Lib.hid (H1.out.grow (by (repeat (first | exact World.grows.refl _ | assumption | refine World.grows.alloc ?_ _ | refine World.grows.plus ?_ _ _ | refine World.grows.drew ?_)))), Lib.hid fun W0 h hb => ?_⟩
        have h5 := hg.out W0 h hb
        have h6 := hgb.1
        exact ((h5.setCell (p := ⟨g, k, none⟩) (by simp; omega) _).setCell (p := ⟨g, j, none⟩) (by simp; omega) _).trans (by (repeat (first | exact World.grows.refl _ | assumption | refine World.grows.alloc ?_ _ | refine World.grows.plus ?_ _ _ | refine World.grows.drew ?_)))
      case measure => simp [intOf]; omega
    · have hji : ¬ (k : Int) < (n : Int) - 1 - k := by omega
      go_wp2
      go_end0
      refine ⟨⟨_, rfl⟩, ?_, fun W0 h hb => hg.out W0 h hb⟩
      refine (cast (congrArg _ ?_) ho.out : wr.ownsRow base 3 1 (.slice vo n vc) n (tableL n 1 (fun i _ => .int .i64 (f (n - 1 - i)))))
      unfold tableL
      apply List.map_congr_left
      intro x hx
      have hx' : x < n := by simpa using hx
      simp only [Nat.div_one, revAt]
      by_cases h : x < k ∨ n - 1 - k < x
      · rw [if_pos h]
      · rw [if_neg h]
        have : x = n - 1 - x := by omega
        rw [← this]

end Go.Proofs.Ytjpccfpmhmddjaa

