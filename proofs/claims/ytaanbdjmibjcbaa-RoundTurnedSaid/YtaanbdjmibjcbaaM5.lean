/-
  What is proved: as Chain: reads in any order beside a chain, where what the reads lean on is any property of worlds that stays when memory is made, and that the chain keeps: so the chain may change what is there.
-/
import Derived.Test.YtaanbdjmibjcbaaM4
import Derived.Test.YtaanbdjmibjcbaaM1
set_option linter.all false
namespace Go
open Go.RowKit

section
variable {P : Program} {ops : Array Oper} {I : World → Prop}

def Oper.calmJ (P : Program) (o : Oper) (a : Act) (I : World → Prop) (K : Act → Prop) : Prop := ∃ v, (∀ W, I W → o.calmAt P a W v) ∧ K (a.put o.dst v)
def wpCalmJ (P : Program) (ops : Array Oper) (I : World → Prop) (K : Act → Prop) : List Oper → Act → Prop
  | [], a => K a
  | o :: r, a => if Region.wanted o (yielded ops a.tmps) then o.calmJ P a I (wpCalmJ P ops I K r) else wpCalmJ P ops I K r (a.put o.dst undef)

attribute [go_sem] Oper.calmJ
theorem wpCalm_nilJ {K : Act → Prop} {a : Act} (h : K a) : wpCalmJ P ops I K [] a := h
theorem wpCalm_stepJ {Q : Act → Prop} {a : Act} {o : Oper} {r : List Oper}
    (h : ∀ K : Act → Prop, (∀ a, wpCalmJ P ops I Q r a → K a) → if Region.wanted o (yielded ops a.tmps) then o.calmJ P a I K else K (a.put o.dst undef)) : wpCalmJ P ops I Q (o :: r) a :=
  h _ (fun _ h => h)

/-- the value of an operation at this frame, in every world that has grown out of I -/
def YieldsCJ (P : Program) (ops : Array Oper) (I : World → Prop) (o : Oper) (v : Value) (a : Act) : Prop :=
  (Region.wanted o (yielded ops a.tmps) = true ∧ ∀ W, I W → o.calmAt P a W v) ∨
  (Region.wanted o (yielded ops a.tmps) = false ∧ v = undef)

theorem wpCalm_consJ {K : Act → Prop} {a : Act} {o : Oper} {r : List Oper} : wpCalmJ P ops I K (o :: r) a ↔ ∃ v, YieldsCJ P ops I o v a ∧ wpCalmJ P ops I K r (a.put o.dst v) := by
  simp only [wpCalmJ]
  by_cases hw : Region.wanted o (yielded ops a.tmps) = true
  · simp only [hw, if_true, Oper.calmJ, YieldsCJ, true_and, Bool.true_eq_false, false_and, or_false]
  · have hw' : Region.wanted o (yielded ops a.tmps) = false := by simpa using hw
    simp only [hw', if_false, YieldsCJ, Bool.false_eq_true, false_and, true_and, false_or, exists_eq_left]

theorem wpCalm_monoJ {K K' : Act → Prop} (hK : ∀ a, K a → K' a) : ∀ (l : List Oper) (a : Act), wpCalmJ P ops I K l a → wpCalmJ P ops I K' l a
  | [], a, h => hK a h
  | o :: l, a, h => by
    obtain ⟨v, hv, h'⟩ := wpCalm_consJ.1 h
    exact wpCalm_consJ.2 ⟨v, hv, wpCalm_monoJ hK l _ h'⟩

theorem YieldsCJ.of_same {o : Oper} {v : Value} {a a' : Act} (hy : YieldsCJ P ops I o v a) (he : execOp a'.eval o = execOp a.eval o)
    (hw : Region.wanted o (yielded ops a'.tmps) = Region.wanted o (yielded ops a.tmps)) : YieldsCJ P ops I o v a' := by
  unfold YieldsCJ Oper.calmAt at *
  rw [he, hw]
  exact hy

theorem YieldsCJ.put {x y : Oper} {v u : Value} {a : Act} (hs : ∀ cs b, x.op ≠ .select cs b) (hd : ∀ d, y.dst = some d → d ∉ x.looksAt ops) :
    YieldsCJ P ops I x v (a.put y.dst u) ↔ YieldsCJ P ops I x v a :=
  ⟨fun h => h.of_same (execOp_put x hs a y.dst u hd).symm (wanted_put x a y.dst u hd).symm, fun h => h.of_same (execOp_put x hs a y.dst u hd) (wanted_put x a y.dst u hd)⟩

theorem calm_frontJ {K : Act → Prop} {o : Oper} {l2 : List Oper} (hso : ∀ cs b, o.op ≠ .select cs b) : ∀ (l1 : List Oper) (a : Act),
    (∀ y ∈ l1, o.apart ops y = true ∧ ∀ cs b, y.op ≠ .select cs b) → wpCalmJ P ops I K (l1 ++ o :: l2) a →
    ∃ v, YieldsCJ P ops I o v a ∧ wpCalmJ P ops I K (l1 ++ l2) (a.put o.dst v)
  | [], a, _, h => wpCalm_consJ.1 h
  | y :: l1, a, hap, h => by
    obtain ⟨u, hy, h'⟩ := wpCalm_consJ.1 h
    obtain ⟨v, hv, h''⟩ := calm_frontJ hso l1 _ (fun z hz => hap z (List.mem_cons_of_mem _ hz)) h'
    obtain ⟨ha, hsy⟩ := hap y (List.mem_cons_self ..)
    obtain ⟨h1, h2, h3⟩ := Oper.apart_spec ha
    refine ⟨v, (YieldsCJ.put hso h3).1 hv, ?_⟩
    rw [List.cons_append]
    refine wpCalm_consJ.2 ⟨u, (YieldsCJ.put hsy h1).2 hy, ?_⟩
    rw [Act.put_comm a v u h2]
    exact h''

theorem wpCalmJ_go {Qc : Act → Prop} {r : List Oper} {o : Oper} {a : Act} (hgd : o.guard = none) (v : Value) (h1 : ∀ W, I W → o.calmAt P a W v) (h : wpCalmJ P ops I Qc r (a.put o.dst v)) : wpCalmJ P ops I Qc (o :: r) a :=
  wpCalm_stepJ fun K hK => by
    rw [if_pos (by simp [Region.wanted, hgd])]
    exact ⟨v, h1, hK _ h⟩
end
def goesUponOJ (P : Program) (I : World → Prop) (W : World) (post : Value → World → Prop) : Result Next → Prop
  | .ok (.value u) W' => I W' ∧ post u W'
  | .ok .skip W' => I W' ∧ post undef W'
  | .ok (.enter f args) W' => W' = W ∧ Calls P f args W (fun e W'' => ∃ v, e = .returned v ∧ I W'' ∧ post v W'')
  | _ => False
def Oper.goesOJ (P : Program) (o : Oper) (a : Act) (I : World → Prop) (W : World) (post : Value → World → Prop) : Prop := goesUponOJ P I W post ((execOp a.eval o).run P W)
attribute [go_sem] goesUponOJ Oper.goesOJ
theorem goesUponO_monoJ {P : Program} {I : World → Prop} {W : World} {p q : Value → World → Prop} (h : ∀ v W', I W' → p v W' → q v W') (r : Result Next) (h1 : goesUponOJ P I W p r) : goesUponOJ P I W q r := by
  cases r with
  | halt z w' => simp only [goesUponOJ] at h1
  | ok nx w' =>
    cases nx <;> simp only [goesUponOJ] at h1 ⊢
    case value u => exact ⟨h1.1, h _ _ h1.1 h1.2⟩
    case skip => exact ⟨h1.1, h _ _ h1.1 h1.2⟩
    case enter f args => exact ⟨h1.1, h1.2.mono fun e W'' ⟨v, he, hg, hp⟩ => ⟨v, he, hg, h _ _ hg hp⟩⟩

section
variable {P : Program} {ops : Array Oper}

/-- the chain, with room between its operations -/
def wpChainJ (P : Program) (ops : Array Oper) (I : World → Prop) (K : Act → World → Prop) : List Oper → Act → World → Prop
  | [], a, W => ∀ W', W.grows W' → K a W'
  | o :: r, a, W => ∀ W', W.grows W' → I W' → if Region.wanted o (yielded ops a.tmps) then o.goesOJ P a I W' (fun v W'' => wpChainJ P ops I K r (a.put o.dst v) W'') else wpChainJ P ops I K r (a.put o.dst undef) W'
theorem wpChain_nilJ {I : World → Prop} {K : Act → World → Prop} {a : Act} {W : World} (h : ∀ n x, K a (W.plus n x)) : wpChainJ P ops I K [] a W := fun W' hg => by obtain ⟨n, x, rfl⟩ := World.plus_of hg; exact h n x

/-- a step that may write into what came behind I -/
theorem wpChain_stepOJ {I : World → Prop} {Q : Act → World → Prop} {a : Act} {o : Oper} {r : List Oper} {W : World}
    (h : ∀ K : Act → World → Prop, (∀ a W, wpChainJ P ops I Q r a W → K a W) → ∀ n x, I (W.plus n x) → if Region.wanted o (yielded ops a.tmps) then o.goesOJ P a I (W.plus n x) (fun v W'' => K (a.put o.dst v) W'') else K (a.put o.dst undef) (W.plus n x)) : wpChainJ P ops I Q (o :: r) a W :=
  fun W' hg hg0 => by obtain ⟨n, x, rfl⟩ := World.plus_of hg; exact h _ (fun _ _ h => h) n x hg0
theorem wpChain_growJ {I : World → Prop} {K : Act → World → Prop} {a : Act} : ∀ {l : List Oper} {W W' : World}, W.grows W' → wpChainJ P ops I K l a W → wpChainJ P ops I K l a W'
  | [], _, _, g, h => fun W'' g' => h W'' (g.trans g')
  | _ :: _, _, _, g, h => fun W'' g' g0 => h W'' (g.trans g') g0

theorem chain_frontJ {I : World → Prop} {Φ : Value → Act → World → Prop} {o : Oper} (hso : ∀ cs b, o.op ≠ .select cs b) {W : World} : ∀ (es : List Oper) (a : Act),
    (∀ y ∈ es, o.apart ops y = true ∧ ∀ cs b, y.op ≠ .select cs b) →
    wpCalmJ P ops I (fun a' => if Region.wanted o (yielded ops a'.tmps) then o.goesOJ P a' I W (fun v W'' => Φ v (a'.put o.dst v) W'') else Φ undef (a'.put o.dst undef) W) es a →
    if Region.wanted o (yielded ops a.tmps) then o.goesOJ P a I W (fun v W'' => wpCalmJ P ops I (fun a'' => Φ v a'' W'') es (a.put o.dst v)) else wpCalmJ P ops I (fun a'' => Φ undef a'' W) es (a.put o.dst undef)
  | [], a, _, h => h
  | y :: es, a, hap, h => by
    obtain ⟨u, hy, h'⟩ := wpCalm_consJ.1 h
    have h'' := chain_frontJ hso es _ (fun z hz => hap z (List.mem_cons_of_mem _ hz)) h'
    obtain ⟨ha, hsy⟩ := hap y (List.mem_cons_self ..)
    obtain ⟨h1, h2, h3⟩ := Oper.apart_spec ha
    rw [wanted_put o a y.dst u h3] at h''
    split
    · rename_i hw
      rw [if_pos hw] at h''
      unfold Oper.goesOJ at h'' ⊢
      rw [execOp_put o hso a y.dst u h3] at h''
      refine goesUponO_monoJ (fun v W' _ hp => wpCalm_consJ.2 ⟨u, (YieldsCJ.put hsy h1).2 hy, ?_⟩) _ h''
      rw [Act.put_comm a v u h2]
      exact hp
    · rename_i hw
      rw [if_neg hw] at h''
      refine wpCalm_consJ.2 ⟨u, (YieldsCJ.put hsy h1).2 hy, ?_⟩
      rw [Act.put_comm a undef u h2]
      exact h''

end
section
variable {P : Program} {ops : Array Oper} {I : World → Prop}

theorem wpAny_of_chainJ {Q : Exit → Act → World → Prop} {n : Nat} {ms0 : List Nat}
    (hB : Region.chainsB ops n ms0 = true)
    (hI : ∀ W W', I W → W.grows W' → I W') (hheads0 : ∀ (listed : Array Bool) (i0 : Nat), HeadInv .any ops n listed → i0 < n → listed.getD i0 true = false → ∀ t ∈ Region.ready .any ops listed, t < n)
    {K : Act → World → Prop}
    (hK : ∀ a W, K a W → ∀ listed, HeadInv .any ops n listed → (∀ i, i < n → listed.getD i false = true) → wpAny P .any ops Q (ops.size - n) listed a W) :
    ∀ (cnt : Nat) (es ms : List (Nat × Oper)) (listed : Array Bool) (a : Act) (W : World),
      es.length + ms.length = cnt → HeadInv .any ops n listed →
      (∀ i, i < n → (listed.getD i false = false ↔ i ∈ es.map (·.1) ∨ i ∈ ms.map (·.1))) →
      (∀ p ∈ es, p.1 < n ∧ ops[p.1]? = some p.2 ∧ ms0.contains p.1 = false) → (∀ p ∈ ms, p.1 < n ∧ ops[p.1]? = some p.2 ∧ ms0.contains p.1 = true) →
      (es.map (·.1)).Pairwise (· < ·) → (ms.map (·.1)).Pairwise (fun i j => i < j) → (∀ p q : Nat × Oper, ∀ l1 l2, ms = l1 ++ p :: q :: l2 → Region.waitsFor .any ops q.1 p.1 = true) →
      I W → wpCalmJ P ops I (fun a' => wpChainJ P ops I K (ms.map (·.2)) a' W) (es.map (·.2)) a →
      wpAny P .any ops Q (cnt + (ops.size - n)) listed a W := by
  simp only [Region.chainsB, Bool.and_eq_true] at hB
  obtain ⟨⟨⟨hmix, hEM⟩, _⟩, _⟩ := hB
  simp only [Region.mixB, Bool.and_eq_true, decide_eq_true_eq] at hmix
  obtain ⟨⟨⟨hsel, hnle⟩, hpair⟩, hedge⟩ := hmix
  have hsp := Region.noSelect_spec hsel
  have pairOf : ∀ i j oi oj, i < j → j < n → ops[i]? = some oi → ops[j]? = some oj → Region.waitsFor .any ops j i = true ∨ oi.apart ops oj = true := by
    intro i j oi oj hij hj hi hoj
    have h1 := List.all_eq_true.1 (List.all_eq_true.1 hpair i (List.mem_range.2 (by omega))) j (List.mem_range.2 hj)
    simp only [Bool.or_eq_true, decide_eq_true_eq, Region.pairB, hi, hoj] at h1
    rcases h1 with h1 | h1
    · omega
    · exact h1
  have apart_symm : ∀ x y : Oper, x.apart ops y = true → y.apart ops x = true := by
    intro x y h
    unfold Oper.apart at *
    cases hx : x.dst <;> cases hy : y.dst <;> simp [hx, hy] at h ⊢
    · exact h
    · exact h
    · exact ⟨⟨h.2, fun e => h.1.2 e.symm⟩, h.1.1⟩
  have edgeOf : ∀ i o, i < n → ops[i]? = some o → ∀ e ∈ o.after, Region.binds .any e = true → e.on < i := by
    intro i o hi ho e he hb
    have h1 := List.all_eq_true.1 hedge i (List.mem_range.2 hi)
    simp only [ho, Bool.and_eq_true] at h1
    have h2 := Array.all_eq_true_iff_forall_mem.1 h1.1 e he
    simpa only [hb, Bool.not_true, Bool.false_or, decide_eq_true_eq] using h2
  have edgeEM : ∀ i o, i < n → ops[i]? = some o → ms0.contains i = false → ∀ e ∈ o.after, Region.binds .any e = true → ms0.contains e.on = false := by
    intro i o hi ho h3 e he hb
    have h1 := List.all_eq_true.1 hEM i (List.mem_range.2 hi)
    simp only [ho, h3, Bool.false_or] at h1
    have h2 := Array.all_eq_true_iff_forall_mem.1 h1 e he
    simpa [hb] using h2
  have unwait : ∀ (listed : Array Bool) (i j : Nat), i ∈ Region.ready .any ops listed → listed.getD j false = false → Region.waitsFor .any ops i j = true → False := by
    intro listed i j hi hj hw
    obtain ⟨oi, hoi, e, he, hb, hon⟩ := Region.waitsFor_spec hw
    obtain ⟨_, o', ho', hall⟩ := mem_ready.1 hi
    rw [hoi] at ho'; cases ho'
    have := hall e he hb
    rw [hon, hj] at this; cases this
  intro cnt
  induction cnt with
  | zero =>
    intro es ms listed a W hc inv hmem hes hms _ _ _ hgW h
    have he : es = [] := List.eq_nil_of_length_eq_zero (by omega)
    have ha : ms = [] := List.eq_nil_of_length_eq_zero (by omega)
    subst he; subst ha
    rw [Nat.zero_add]
    refine hK a W (h W (World.grows.refl _)) listed inv fun i hi => ?_
    have := hmem i hi
    simp only [List.map_nil, List.not_mem_nil, or_self, iff_false, Bool.not_eq_false] at this
    exact this
  | succ cnt ih =>
    intro es ms listed a W hc inv hmem hes hms hse hsm hsw hgW h
    rw [show cnt + 1 + (ops.size - n) = (cnt + (ops.size - n)) + 1 by omega]
    have hun : ∃ i, i < n ∧ listed.getD i true = false := by
      cases es with
      | cons p es =>
        have h1 := hes p (List.mem_cons_self ..)
        refine ⟨p.1, h1.1, getD_in (by rw [inv.size]; omega) ((hmem p.1 h1.1).2 (.inl (by simp)))⟩
      | nil =>
        cases ms with
        | nil => simp at hc
        | cons p ms =>
          have h1 := hms p (List.mem_cons_self ..)
          exact ⟨p.1, h1.1, getD_in (by rw [inv.size]; omega) ((hmem p.1 h1.1).2 (.inr (by simp)))⟩
    obtain ⟨i0, hi0, hun0⟩ := hun
    have hheads := hheads0 listed i0 inv hi0 hun0
    refine ⟨fun hnil => ?_, fun i hi => ?_⟩
    · exfalso
      have first : ∀ i o, i < n → ops[i]? = some o → listed.getD i false = false → (∀ j, j < i → listed.getD j false = true ∨ (ms0.contains i = false ∧ ms0.contains j = true)) → False := by
        intro i o hi ho hl hall
        have : i ∈ Region.ready .any ops listed := mem_ready.2 ⟨getD_in (by rw [inv.size]; omega) hl, o, ho, fun e he hb => by
          have h1 := edgeOf i o hi ho e he hb
          rcases hall e.on h1 with h3 | ⟨h3, h4⟩
          · exact h3
          · rw [edgeEM i o hi ho h3 e he hb] at h4; cases h4⟩
        rw [hnil] at this; cases this
      cases es with
      | cons p es =>
        obtain ⟨h1, h2, h3⟩ := hes p (List.mem_cons_self ..)
        refine first p.1 p.2 h1 h2 ((hmem p.1 h1).2 (.inl (by simp))) fun j hj => ?_
        cases hl : listed.getD j false with
        | true => exact .inl rfl
        | false =>
          refine .inr ⟨h3, ?_⟩
          rcases (hmem j (by omega)).1 hl with h4 | h4
          · simp only [List.map_cons, List.mem_cons] at h4
            simp only [List.map_cons, List.pairwise_cons] at hse
            rcases h4 with h4 | h4
            · omega
            · have := hse.1 j h4; omega
          · obtain ⟨q, hq, rfl⟩ := List.mem_map.1 h4
            exact (hms q hq).2.2
      | nil =>
        cases ms with
        | nil => simp at hc
        | cons p ms =>
          obtain ⟨h1, h2, h3⟩ := hms p (List.mem_cons_self ..)
          refine first p.1 p.2 h1 h2 ((hmem p.1 h1).2 (.inr (by simp))) fun j hj => ?_
          cases hl : listed.getD j false with
          | true => exact .inl rfl
          | false =>
            rcases (hmem j (by omega)).1 hl with h4 | h4
            · simp at h4
            · simp only [List.map_cons, List.mem_cons] at h4
              simp only [List.map_cons, List.pairwise_cons] at hsm
              rcases h4 with h4 | h4
              · omega
              · have := hsm.1 j h4; omega
    · have hin := hheads i hi
      have hl : listed.getD i false = false := getD_both (mem_ready.1 hi).1
      have inv' := inv.set hi hin
      have set_mem : ∀ j, j < n → j ≠ i → ((listed.setIfInBounds i true).getD j false = false ↔ listed.getD j false = false) := fun j hj hji => by rw [getD_set_ne false (Ne.symm hji)]
      have set_self : (listed.setIfInBounds i true).getD i false = true := by
        have : i < listed.size := by rw [inv.size]; omega
        simp [this]
      rcases (hmem i hin).1 hl with hie | him
      · obtain ⟨p, hp, rfl⟩ := List.mem_map.1 hie
        obtain ⟨l1, l2, rfl⟩ := List.append_of_mem hp
        obtain ⟨h1, h2, h3⟩ := hes p hp
        have hsort := hse
        simp only [List.map_append, List.map_cons, List.pairwise_append, List.pairwise_cons] at hsort
        have hap1 : ∀ y ∈ l1.map (·.2), p.2.apart ops y = true ∧ ∀ cs b, y.op ≠ .select cs b := by
          intro y hy
          obtain ⟨q, hq, rfl⟩ := List.mem_map.1 hy
          obtain ⟨g1, g2, g3⟩ := hes q (by simp [hq])
          refine ⟨?_, fun cs b => hsp q.1 q.2 cs b g2⟩
          have hlt : q.1 < p.1 := hsort.2.2 q.1 (List.mem_map.2 ⟨q, hq, rfl⟩) p.1 (by simp)
          rcases pairOf q.1 p.1 q.2 p.2 hlt h1 g2 h2 with hw | ha
          · exact (unwait listed p.1 q.1 hi ((hmem q.1 g1).2 (.inl (by simp; exact .inl ⟨_, hq⟩))) hw).elim
          · exact apart_symm _ _ ha
        rw [List.map_append, List.map_cons] at h
        obtain ⟨v, hy, h'⟩ := calm_frontJ (fun cs b => hsp p.1 p.2 cs b h2) _ a hap1 h
        have hrest : ∀ W', W.grows W' → wpAny P .any ops Q (cnt + (ops.size - n)) (listed.setIfInBounds p.1 true) (a.put p.2.dst v) W' := by
          intro W' hg
          refine ih (l1 ++ l2) ms _ _ W' (by simp at hc ⊢; omega) inv' (fun j hj => ?_) (fun q hq => hes q (by simp at hq ⊢; rcases hq with h | h <;> simp [h])) hms ?_ hsm hsw (hI _ _ hgW hg) (by rw [List.map_append]; exact wpCalm_monoJ (fun a' h => wpChain_growJ hg h) _ _ h')
          · by_cases hji : j = p.1
            · subst hji
              rw [set_self]
              simp only [Bool.true_eq_false, false_iff]
              rintro (hh | hh)
              · obtain ⟨q, hq, he⟩ := List.mem_map.1 hh
                rcases List.mem_append.1 hq with hq | hq
                · have := hsort.2.2 q.1 (List.mem_map.2 ⟨q, hq, rfl⟩) p.1 (by simp); omega
                · have := hsort.2.1.1 q.1 (List.mem_map.2 ⟨q, hq, rfl⟩); omega
              · obtain ⟨q, hq, he⟩ := List.mem_map.1 hh
                have := (hms q hq).2.2
                rw [he, h3] at this; cases this
            · rw [set_mem j hj hji, hmem j hj]
              simp only [List.map_append, List.map_cons, List.mem_append, List.mem_cons]
              constructor
              · rintro ((h | h | h) | h)
                · exact .inl (.inl h)
                · exact absurd h hji
                · exact .inl (.inr h)
                · exact .inr h
              · rintro ((h | h) | h)
                · exact .inl (.inl h)
                · exact .inl (.inr (.inr h))
                · exact .inr h
          · rw [List.map_append, List.pairwise_append]
            exact ⟨hsort.1, hsort.2.1.2, fun x hx y hy => hsort.2.2 x hx y (List.mem_cons_of_mem _ hy)⟩
        unfold wpOp
        simp only [h2]
        rcases hy with ⟨hw, hv⟩ | ⟨hw, rfl⟩
        · rw [if_pos hw]
          have hv' := hv _ hgW
          unfold Oper.calmAt at hv'
          refine .inl ?_
          unfold Oper.wp
          generalize (execOp a.eval p.2).run P W = r at *
          cases r with
          | halt z w' => simp only [Oper.calmUpon] at hv'
          | ok nx w' =>
            cases nx <;> simp only [Oper.calmUpon] at hv' <;> simp only [Oper.upon]
            case value u => obtain ⟨rfl, rfl⟩ := hv'; exact hrest _ (World.grows.refl _)
            case skip => obtain ⟨rfl, rfl⟩ := hv'; exact hrest _ (World.grows.refl _)
            case enter f args =>
              obtain ⟨rfl, hcall⟩ := hv'
              refine hcall.mono fun e w'' ⟨he, hg⟩ => ?_
              subst he
              exact hrest _ hg
        · rw [if_neg (by rw [hw]; exact Bool.false_ne_true)]
          exact hrest _ (World.grows.refl _)
      · -- the next of the chain
        cases ms with
        | nil => simp at him
        | cons m ms =>
        have hhead : i = m.1 := by
          rcases List.mem_cons.1 (by simpa using him : i ∈ m.1 :: ms.map (·.1)) with h1 | h1
          · exact h1
          · exfalso
            obtain ⟨q, hq, rfl⟩ := List.mem_map.1 h1
            obtain ⟨l1, l2, rfl⟩ := List.append_of_mem hq
            rcases List.eq_nil_or_concat l1 with rfl | ⟨l0, z, rfl⟩
            · exact unwait listed q.1 m.1 hi ((hmem m.1 (hms m (List.mem_cons_self ..)).1).2 (.inr (by simp))) (hsw m q [] l2 (by simp))
            · exact unwait listed q.1 z.1 hi ((hmem z.1 (hms z (by simp)).1).2 (.inr (by simp))) (hsw z q (m :: l0) l2 (by simp))
        subst hhead
        obtain ⟨h1, h2, h3⟩ := hms m (List.mem_cons_self ..)
        have hape : ∀ y ∈ es.map (·.2), m.2.apart ops y = true ∧ ∀ cs b, y.op ≠ .select cs b := by
          intro y hy
          obtain ⟨q, hq, rfl⟩ := List.mem_map.1 hy
          obtain ⟨g1, g2, g3⟩ := hes q hq
          refine ⟨?_, fun cs b => hsp q.1 q.2 cs b g2⟩
          have hql : listed.getD q.1 false = false := (hmem q.1 g1).2 (.inl (List.mem_map.2 ⟨q, hq, rfl⟩))
          rcases Nat.lt_trichotomy q.1 m.1 with hlt | heq | hgt
          · rcases pairOf q.1 m.1 q.2 m.2 hlt h1 g2 h2 with hw | ha
            · exact (unwait listed m.1 q.1 hi hql hw).elim
            · exact apart_symm _ _ ha
          · rw [heq, h3] at g3; cases g3
          · rcases pairOf m.1 q.1 m.2 q.2 hgt g1 h2 g2 with hw | ha
            · exfalso
              obtain ⟨oq, hoq, e, he, hb, hon⟩ := Region.waitsFor_spec hw
              have := edgeEM q.1 oq g1 hoq g3 e he hb
              rw [hon, h3] at this; cases this
            · exact ha
        have h' := chain_frontJ (Φ := fun _ a'' W'' => wpChainJ P ops I K (ms.map (·.2)) a'' W'') (fun cs b => hsp m.1 m.2 cs b h2) _ a hape (wpCalm_monoJ (fun a' h => h W (World.grows.refl _) hgW) _ _ h)
        have hrest : ∀ v W', I W' → wpCalmJ P ops I (fun a'' => wpChainJ P ops I K (ms.map (·.2)) a'' W') (es.map (·.2)) (a.put m.2.dst v) → wpAny P .any ops Q (cnt + (ops.size - n)) (listed.setIfInBounds m.1 true) (a.put m.2.dst v) W' := by
          intro v W' hg hh
          have hsm' : m.1 ∉ ms.map (·.1) := by
            simp only [List.map_cons, List.pairwise_cons] at hsm
            intro hx
            have := hsm.1 m.1 hx
            omega
          refine ih es ms _ _ W' (by simp at hc ⊢; omega) inv' (fun j hj => ?_) hes (fun q hq => hms q (List.mem_cons_of_mem _ hq)) hse ?_ (fun p q l1 l2 he => hsw p q (m :: l1) l2 (by rw [he]; rfl)) hg hh
          · by_cases hji : j = m.1
            · subst hji
              rw [set_self]
              simp only [Bool.true_eq_false, false_iff]
              rintro (hh | hh)
              · obtain ⟨q, hq, he⟩ := List.mem_map.1 hh
                have := (hes q hq).2.2
                rw [he, h3] at this; cases this
              · exact hsm' hh
            · rw [set_mem j hj hji, hmem j hj]
              simp only [List.map_cons, List.mem_cons]
              constructor
              · rintro (h | h | h)
                · exact .inl h
                · exact absurd h hji
                · exact .inr h
              · rintro (h | h)
                · exact .inl h
                · exact .inr (.inr h)
          · simp only [List.map_cons, List.pairwise_cons] at hsm
            exact hsm.2
        unfold wpOp
        simp only [h2]
        by_cases hw : Region.wanted m.2 (yielded ops a.tmps) = true
        · rw [if_pos hw] at h' ⊢
          unfold Oper.goesOJ at h'
          refine .inl ?_
          unfold Oper.wp
          generalize (execOp a.eval m.2).run P W = r at *
          cases r with
          | halt z w' => simp only [goesUponOJ] at h'
          | ok nx w' =>
            cases nx <;> simp only [goesUponOJ] at h' <;> simp only [Oper.upon]
            case value u => exact hrest _ _ h'.1 h'.2
            case skip => exact hrest _ _ h'.1 h'.2
            case enter f args =>
              obtain ⟨rfl, hcall⟩ := h'
              refine hcall.mono fun e w'' ⟨v, he, hg, hp⟩ => ?_
              subst he
              exact hrest _ _ hg hp
        · rw [if_neg hw] at h' ⊢
          exact hrest _ _ hgW h'

theorem wp_region_chainJ {id : Nat} {Q : Exit → Act → World → Prop} {a : Act} {w : World} {l : List Oper} (n : Nat) (ms : List Nat) (I : World → Prop) (hI : ∀ W W', I W → W.grows W' → I W') (hIw : I w) (hm : P.follows .mixedOrders = true)
    (hB : (Region.chainPlanB l.toArray n ms && decide (((withNo 0 (l.take n)).filter fun p => ms.contains p.1).map (·.1) = ms)) = true) (hn : n ≤ l.length)
    (h : wpCalmJ P l.toArray I (fun a' => wpChainJ P l.toArray I (fun a'' W => wpList P l.toArray Q (l.drop n) a'' W) (only l n ms) a' w) (without l n ms) a) : (Code.region id l.toArray true).wp P Q a w := by
  simp only [Region.chainPlanB, Bool.and_eq_true, Bool.or_eq_true, decide_eq_true_eq] at hB
  obtain ⟨⟨⟨hch, hplan⟩, hseq⟩, hms⟩ := hB
  have hch0 := hch
  have hnle : n ≤ l.toArray.size := by simpa using hn
  refine wp_region_any hm ?_
  obtain ⟨n0, x0, h0⟩ := World.more_drew w
  rw [h0]
  have hat : ∀ p ∈ withNo 0 (l.take n), p.1 < n ∧ l.toArray[p.1]? = some p.2 := fun p hp => by
    have h2 := ((withNo_mem 0 _ p).1 hp).2
    rw [Nat.sub_zero, List.getElem?_take] at h2
    split at h2
    · rename_i hlt; exact ⟨by omega, by simpa using h2⟩
    · cases h2
  have hsorted : ((withNo 0 (l.take n)).map (·.1)).Pairwise (· < ·) := by rw [withNo_fst]; exact List.pairwise_lt_range'
  have hfilt : ∀ (q : Nat × Oper → Bool), (((withNo 0 (l.take n)).filter q).map (·.1)).Pairwise (· < ·) := fun q => by
    have : ((withNo 0 (l.take n)).filter q).Sublist (withNo 0 (l.take n)) := List.filter_sublist
    exact hsorted.sublist (this.map _)
  have hlen : ((withNo 0 (l.take n)).filter fun p => !ms.contains p.1).length + ((withNo 0 (l.take n)).filter fun p => ms.contains p.1).length = n := by
    have e1 : (withNo 0 (l.take n)).length = n := by
      have := congrArg List.length (withNo_snd 0 (l.take n))
      simp at this
      omega
    have := filt_len (fun p : Nat × Oper => ms.contains p.1) (withNo 0 (l.take n))
    omega
  have key := wpAny_of_chainJ (P := P) (ops := l.toArray) (I := I) (Q := Q) (n := n) (ms0 := ms) hch hI 
    (fun listed i0 inv hi0 hun0 => by
      rcases hplan with h | ⟨⟨h1, h2⟩, h3⟩
      · subst h; exact heads_of_all listed
      · exact heads_of_tail h1 h2 h3 listed i0 inv hi0 hun0)
    (K := fun a'' W => wpList P l.toArray Q (l.drop n) a'' W)
    (fun a W hK listed inv hall => by
      have hl := seq_listed inv hnle hall
      subst hl
      have hd : (l.drop n).length = l.toArray.size - n := by simp
      have := wpAny_of_seq (md := .any) (Q' := Q) (l.drop n) n _ a W (fun j => by simp [List.getElem?_drop]) (by rw [hd]; exact hseq) hK
      rwa [hd] at this)
    n ((withNo 0 (l.take n)).filter fun p => !ms.contains p.1) ((withNo 0 (l.take n)).filter fun p => ms.contains p.1) (Array.replicate l.toArray.size false) a (w.plus n0 x0) hlen (headInv_start n)
    (fun i hi => by
      simp only [getD_replicate_false, true_iff, List.mem_map, List.mem_filter]
      have hil : i < (l.take n).length := by simp; omega
      have hi2 : (i, (l.take n)[i]) ∈ withNo 0 (l.take n) := (withNo_mem 0 _ _).2 ⟨Nat.zero_le _, by rw [Nat.sub_zero]; exact List.getElem?_eq_getElem hil⟩
      cases hc : ms.contains i with
      | true => exact .inr ⟨_, ⟨hi2, hc⟩, rfl⟩
      | false => exact .inl ⟨_, ⟨hi2, by simpa using hc⟩, rfl⟩)
    (fun p hp => by
      obtain ⟨h1, h2⟩ := List.mem_filter.1 hp
      exact ⟨(hat p h1).1, (hat p h1).2, by simpa using h2⟩)
    (fun p hp => by
      obtain ⟨h1, h2⟩ := List.mem_filter.1 hp
      exact ⟨(hat p h1).1, (hat p h1).2, h2⟩)
    (hfilt _) (hfilt _)
    (fun p q l1 l2 he => by
      simp only [Region.chainsB, Bool.and_eq_true] at hch0
      have hz := hch0.1.2
      have := zip_next ms (fun i j => decide (i < j) && Region.waitsFor .any l.toArray j i) hz p.1 q.1 (l1.map (·.1)) (l2.map (·.1)) (by rw [← hms, he]; simp)
      simp only [Bool.and_eq_true] at this
      exact this.2)
    (hI _ _ hIw (World.grows_plus _ _ _))
    (wpCalm_monoJ (fun a' h => wpChain_growJ (World.grows_plus _ _ _) h) _ _ h)
  rw [show n + (l.toArray.size - n) = l.toArray.size by omega] at key
  exact key
end
section
variable {P : Program} {ops : Array Oper} {I : World → Prop}
theorem wpChainJ_append {rest : List Oper} {o : Oper} {a : Act} {Q : Act → World → Prop} {W : World} (hgd : o.guard = none) (s x : Operand) (t : TypeId)
    (ho : o.op = .call { callee := .builtin .append, args := #[s, x], argTypes := #[t, t] })
    (base : Nat) (e : TypeId) (z : Value) (size bytes : Nat) (ht : P.underlying t = some (.slice e)) (hi : P.knows e z size bytes) (hzs : z.cells.size = size) (hsz : 0 < size)
    (v : Value) (n : Nat) (xs : List Value) (hs : a.eval s = v) (hown : W.ownsRow base e size v n xs)
    (xv : Value) (hx : a.eval x = xv) (m : Nat) (news : List Value) (hsrc : ∀ W0, W.grows W0 → SrcAt W0 xv m size news) (h1 : ∀ u ∈ news, u.oneCell' = true)
    (h63 : n + m ≤ maxLen) (hbytes : (n + m) * bytes ≤ 140737488355328) (hbase : base ≤ W.heap.size)
    (h : ∀ W0 v' w', W.grows W0 → I W0 → w'.ownsRow base e size v' (n + m) (xs ++ news) → W0.grownBy w' v.ownBlock → I w' ∧ wpChainJ P ops I Q rest (a.put o.dst v') w') :
    wpChainJ P ops I Q (o :: rest) a W := by
  intro W0 hg hI0
  obtain ⟨i, hi, hz, hsize, hby⟩ := hi
  rw [if_pos (by simp [Region.wanted, hgd])]
  obtain ⟨v', w', hr, h2, h3⟩ := run_append_g (P := P) W0 base t o.type e i z size bytes ht hi hz hsize hby hzs hsz v n xs (hown.grow hg) xv m news (hsrc W0 hg) h1 h63 hbytes (Nat.le_trans hbase hg.size)
  unfold Oper.goesOJ execOp
  simp only [ho, resolve, invoke, builtin, Sem.run_bind, Sem.run_pure, Result.andThen_ok, List.map_toArray, List.map_cons, List.map_nil, hs, hx, hr]
  exact h W0 v' w' hg hI0 h2 h3
end
end Go

