/-
  What is proved: as Chain: reads in any order beside a chain, where what the reads lean on is any property of worlds that stays when memory is made, and that the chain keeps: so the chain may change what is there.
-/
import Derived.Test.YtdminglglapnlaaM6
import Derived.Test.YtdminglglapnlaaM1
import Derived.Test.YtdminglglapnlaaM11
import Derived.Test.YtdminglglapnlaaM3
import Derived.Test.YtdminglglapnlaaM8
set_option linter.all false
namespace Go
open Go.RowKit

section
variable {P : Program} {ops : Array Oper} {I : World → Prop}

def Oper.calmJ (P : Program) (o : Oper) (a : Act) (I : World → Prop) (K : Act → Prop) : Prop := ∃ v, (∀ W, I W → o.calmAt P a W v) ∧ K (a.put o.dst v)
def wpCalmJ (P : Program) (ops : Array Oper) (I : World → Prop) (K : Act → Prop) : List Oper → Act → Prop
  | [], a => K a
  | o :: r, a => if Region.wanted o (yielded ops a.tmps) then o.calmJ P a I (wpCalmJ P ops I K r) else wpCalmJ P ops I K r (a.put o.dst undef)

attribute [go_sem] Oper.calmJ
theorem wpCalm_nilJ {K : Act → Prop} {a : Act} (h : K a) : wpCalmJ P ops I K [] a := h
theorem wpCalm_stepJ {Q : Act → Prop} {a : Act} {o : Oper} {r : List Oper}
    (h : ∀ K : Act → Prop, (∀ a, wpCalmJ P ops I Q r a → K a) → if Region.wanted o (yielded ops a.tmps) then o.calmJ P a I K else K (a.put o.dst undef)) : wpCalmJ P ops I Q (o :: r) a :=
  h _ (fun _ h => h)

/-- the value of an operation at this frame, in every world that has grown out of I -/
def YieldsCJ (P : Program) (ops : Array Oper) (I : World → Prop) (o : Oper) (v : Value) (a : Act) : Prop :=
  (Region.wanted o (yielded ops a.tmps) = true ∧ ∀ W, I W → o.calmAt P a W v) ∨
  (Region.wanted o (yielded ops a.tmps) = false ∧ v = undef)

theorem wpCalm_consJ {K : Act → Prop} {a : Act} {o : Oper} {r : List Oper} : wpCalmJ P ops I K (o :: r) a ↔ ∃ v, YieldsCJ P ops I o v a ∧ wpCalmJ P ops I K r (a.put o.dst v) := by
  simp only [wpCalmJ]
  by_cases hw : Region.wanted o (yielded ops a.tmps) = true
  · simp only [hw, if_true, Oper.calmJ, YieldsCJ, true_and, Bool.true_eq_false, false_and, or_false]
  · have hw' : Region.wanted o (yielded ops a.tmps) = false := by simpa using hw
    simp only [hw', if_false, YieldsCJ, Bool.false_eq_true, false_and, true_and, false_or, exists_eq_left]

theorem wpCalm_monoJ {K K' : Act → Prop} (hK : ∀ a, K a → K' a) : ∀ (l : List Oper) (a : Act), wpCalmJ P ops I K l a → wpCalmJ P ops I K' l a
  | [], a, h => hK a h
  | o :: l, a, h => by
    obtain ⟨v, hv, h'⟩ := wpCalm_consJ.1 h
    exact wpCalm_consJ.2 ⟨v, hv, wpCalm_monoJ hK l _ h'⟩

theorem YieldsCJ.of_same {o : Oper} {v : Value} {a a' : Act} (hy : YieldsCJ P ops I o v a) (he : execOp a'.eval o = execOp a.eval o)
    (hw : Region.wanted o (yielded ops a'.tmps) = Region.wanted o (yielded ops a.tmps)) : YieldsCJ P ops I o v a' := by
  unfold YieldsCJ Oper.calmAt at *
  rw [he, hw]
  exact hy

theorem YieldsCJ.put {x y : Oper} {v u : Value} {a : Act} (hs : ∀ cs b, x.op ≠ .select cs b) (hd : ∀ d, y.dst = some d → d ∉ x.looksAt ops) :
    YieldsCJ P ops I x v (a.put y.dst u) ↔ YieldsCJ P ops I x v a :=
  ⟨fun h => h.of_same (execOp_put x hs a y.dst u hd).symm (wanted_put x a y.dst u hd).symm, fun h => h.of_same (execOp_put x hs a y.dst u hd) (wanted_put x a y.dst u hd)⟩

theorem calm_frontJ {K : Act → Prop} {o : Oper} {l2 : List Oper} (hso : ∀ cs b, o.op ≠ .select cs b) : ∀ (l1 : List Oper) (a : Act),
    (∀ y ∈ l1, o.apart ops y = true ∧ ∀ cs b, y.op ≠ .select cs b) → wpCalmJ P ops I K (l1 ++ o :: l2) a →
    ∃ v, YieldsCJ P ops I o v a ∧ wpCalmJ P ops I K (l1 ++ l2) (a.put o.dst v)
  | [], a, _, h => wpCalm_consJ.1 h
  | y :: l1, a, hap, h => by
    obtain ⟨u, hy, h'⟩ := wpCalm_consJ.1 h
    obtain ⟨v, hv, h''⟩ := calm_frontJ hso l1 _ (fun z hz => hap z (List.mem_cons_of_mem _ hz)) h'
    obtain ⟨ha, hsy⟩ := hap y (List.mem_cons_self ..)
    obtain ⟨h1, h2, h3⟩ := Oper.apart_spec ha
    refine ⟨v, (YieldsCJ.put hso h3).1 hv, ?_⟩
    rw [List.cons_append]
    refine wpCalm_consJ.2 ⟨u, (YieldsCJ.put hsy h1).2 hy, ?_⟩
    rw [Act.put_comm a v u h2]
    exact h''

theorem wpCalmJ_go {Qc : Act → Prop} {r : List Oper} {o : Oper} {a : Act} (hgd : o.guard = none) (v : Value) (h1 : ∀ W, I W → o.calmAt P a W v) (h : wpCalmJ P ops I Qc r (a.put o.dst v)) : wpCalmJ P ops I Qc (o :: r) a :=
  wpCalm_stepJ fun K hK => by
    rw [if_pos (by simp [Region.wanted, hgd])]
    exact ⟨v, h1, hK _ h⟩
end
def goesUponOJ (P : Program) (I : World → Prop) (W : World) (post : Value → World → Prop) : Result Next → Prop
  | .ok (.value u) W' => I W' ∧ post u W'
  | .ok .skip W' => I W' ∧ post undef W'
  | .ok (.enter f args) W' => W' = W ∧ Calls P f args W (fun e W'' => ∃ v, e = .returned v ∧ I W'' ∧ post v W'')
  | _ => False
def Oper.goesOJ (P : Program) (o : Oper) (a : Act) (I : World → Prop) (W : World) (post : Value → World → Prop) : Prop := goesUponOJ P I W post ((execOp a.eval o).run P W)
attribute [go_sem] goesUponOJ Oper.goesOJ
theorem goesUponO_monoJ {P : Program} {I : World → Prop} {W : World} {p q : Value → World → Prop} (h : ∀ v W', I W' → p v W' → q v W') (r : Result Next) (h1 : goesUponOJ P I W p r) : goesUponOJ P I W q r := by
  cases r with
  | halt z w' => simp only [goesUponOJ] at h1
  | ok nx w' =>
    cases nx <;> simp only [goesUponOJ] at h1 ⊢
    case value u => exact ⟨h1.1, h _ _ h1.1 h1.2⟩
    case skip => exact ⟨h1.1, h _ _ h1.1 h1.2⟩
    case enter f args => exact ⟨h1.1, h1.2.mono fun e W'' ⟨v, he, hg, hp⟩ => ⟨v, he, hg, h _ _ hg hp⟩⟩

section
variable {P : Program} {ops : Array Oper}

/-- the chain, with room between its operations -/
def wpChainJ (P : Program) (ops : Array Oper) (I : World → Prop) (K : Act → World → Prop) : List Oper → Act → World → Prop
  | [], a, W => ∀ W', W.grows W' → K a W'
  | o :: r, a, W => ∀ W', W.grows W' → I W' → if Region.wanted o (yielded ops a.tmps) then o.goesOJ P a I W' (fun v W'' => wpChainJ P ops I K r (a.put o.dst v) W'') else wpChainJ P ops I K r (a.put o.dst undef) W'
theorem wpChain_nilJ {I : World → Prop} {K : Act → World → Prop} {a : Act} {W : World} (h : ∀ n x, K a (W.plus n x)) : wpChainJ P ops I K [] a W := fun W' hg => by obtain ⟨n, x, rfl⟩ := World.plus_of hg; exact h n x

/-- a step that may write into what came behind I -/
theorem wpChain_stepOJ {I : World → Prop} {Q : Act → World → Prop} {a : Act} {o : Oper} {r : List Oper} {W : World}
    (h : ∀ K : Act → World → Prop, (∀ a W, wpChainJ P ops I Q r a W → K a W) → ∀ n x, I (W.plus n x) → if Region.wanted o (yielded ops a.tmps) then o.goesOJ P a I (W.plus n x) (fun v W'' => K (a.put o.dst v) W'') else K (a.put o.dst undef) (W.plus n x)) : wpChainJ P ops I Q (o :: r) a W :=
  fun W' hg hg0 => by obtain ⟨n, x, rfl⟩ := World.plus_of hg; exact h _ (fun _ _ h => h) n x hg0
theorem wpChain_growJ {I : World → Prop} {K : Act → World → Prop} {a : Act} : ∀ {l : List Oper} {W W' : World}, W.grows W' → wpChainJ P ops I K l a W → wpChainJ P ops I K l a W'
  | [], _, _, g, h => fun W'' g' => h W'' (g.trans g')
  | _ :: _, _, _, g, h => fun W'' g' g0 => h W'' (g.trans g') g0

theorem chain_frontJ {I : World → Prop} {Φ : Value → Act → World → Prop} {o : Oper} (hso : ∀ cs b, o.op ≠ .select cs b) {W : World} : ∀ (es : List Oper) (a : Act),
    (∀ y ∈ es, o.apart ops y = true ∧ ∀ cs b, y.op ≠ .select cs b) →
    wpCalmJ P ops I (fun a' => if Region.wanted o (yielded ops a'.tmps) then o.goesOJ P a' I W (fun v W'' => Φ v (a'.put o.dst v) W'') else Φ undef (a'.put o.dst undef) W) es a →
    if Region.wanted o (yielded ops a.tmps) then o.goesOJ P a I W (fun v W'' => wpCalmJ P ops I (fun a'' => Φ v a'' W'') es (a.put o.dst v)) else wpCalmJ P ops I (fun a'' => Φ undef a'' W) es (a.put o.dst undef)
  | [], a, _, h => h
  | y :: es, a, hap, h => by
    obtain ⟨u, hy, h'⟩ := wpCalm_consJ.1 h
    have h'' := chain_frontJ hso es _ (fun z hz => hap z (List.mem_cons_of_mem _ hz)) h'
    obtain ⟨ha, hsy⟩ := hap y (List.mem_cons_self ..)
    obtain ⟨h1, h2, h3⟩ := Oper.apart_spec ha
    rw [wanted_put o a y.dst u h3] at h''
    split
    · rename_i hw
      rw [if_pos hw] at h''
      unfold Oper.goesOJ at h'' ⊢
      rw [execOp_put o hso a y.dst u h3] at h''
      refine goesUponO_monoJ (fun v W' _ hp => wpCalm_consJ.2 ⟨u, (YieldsCJ.put hsy h1).2 hy, ?_⟩) _ h''
      rw [Act.put_comm a v u h2]
      exact hp
    · rename_i hw
      rw [if_neg hw] at h''
      refine wpCalm_consJ.2 ⟨u, (YieldsCJ.put hsy h1).2 hy, ?_⟩
      rw [Act.put_comm a undef u h2]
      exact h''

end
section
variable {P : Program} {ops : Array Oper} {I : World → Prop}

theorem wpAny_of_chainJ {Q : Exit → Act → World → Prop} {n : Nat} {ms0 : List Nat}
    (hB : Region.chainsB ops n ms0 = true)
    (hI : ∀ W W', I W → W.grows W' → I W') (hheads0 : ∀ (listed : Array Bool) (i0 : Nat), HeadInv .any ops n listed → i0 < n → listed.getD i0 true = false → ∀ t ∈ Region.ready .any ops listed, t < n)
    {K : Act → World → Prop}
    (hK : ∀ a W, K a W → ∀ listed, HeadInv .any ops n listed → (∀ i, i < n → listed.getD i false = true) → wpAny P .any ops Q (ops.size - n) listed a W) :
    ∀ (cnt : Nat) (es ms : List (Nat × Oper)) (listed : Array Bool) (a : Act) (W : World),
      es.length + ms.length = cnt → HeadInv .any ops n listed →
      (∀ i, i < n → (listed.getD i false = false ↔ i ∈ es.map (·.1) ∨ i ∈ ms.map (·.1))) →
      (∀ p ∈ es, p.1 < n ∧ ops[p.1]? = some p.2 ∧ ms0.contains p.1 = false) → (∀ p ∈ ms, p.1 < n ∧ ops[p.1]? = some p.2 ∧ ms0.contains p.1 = true) →
      (es.map (·.1)).Pairwise (· < ·) → (ms.map (·.1)).Pairwise (fun i j => i < j) → (∀ p q : Nat × Oper, ∀ l1 l2, ms = l1 ++ p :: q :: l2 → Region.waitsFor .any ops q.1 p.1 = true) →
      I W → wpCalmJ P ops I (fun a' => wpChainJ P ops I K (ms.map (·.2)) a' W) (es.map (·.2)) a →
      wpAny P .any ops Q (cnt + (ops.size - n)) listed a W := by
  simp only [Region.chainsB, Bool.and_eq_true] at hB
  obtain ⟨⟨⟨hmix, hEM⟩, _⟩, _⟩ := hB
  simp only [Region.mixB, Bool.and_eq_true, decide_eq_true_eq] at hmix
  obtain ⟨⟨⟨hsel, hnle⟩, hpair⟩, hedge⟩ := hmix
  have hsp := Region.noSelect_spec hsel
  have pairOf : ∀ i j oi oj, i < j → j < n → ops[i]? = some oi → ops[j]? = some oj → Region.waitsFor .any ops j i = true ∨ oi.apart ops oj = true := by
    intro i j oi oj hij hj hi hoj
    have h1 := List.all_eq_true.1 (List.all_eq_true.1 hpair i (List.mem_range.2 (by omega))) j (List.mem_range.2 hj)
    simp only [Bool.or_eq_true, decide_eq_true_eq, Region.pairB, hi, hoj] at h1
    rcases h1 with h1 | h1
    · omega
    · exact h1
  have apart_symm : ∀ x y : Oper, x.apart ops y = true → y.apart ops x = true := by
    intro x y h
    unfold Oper.apart at *
    cases hx : x.dst <;> cases hy : y.dst <;> simp [hx, hy] at h ⊢
    · exact h
    · exact h
    · exact ⟨⟨h.2, fun e => h.1.2 e.symm⟩, h.1.1⟩
  have edgeOf : ∀ i o, i < n → ops[i]? = some o → ∀ e ∈ o.after, Region.binds .any e = true → e.on < i := by
    intro i o hi ho e he hb
    have h1 := List.all_eq_true.1 hedge i (List.mem_range.2 hi)
    simp only [ho, Bool.and_eq_true] at h1
    have h2 := Array.all_eq_true_iff_forall_mem.1 h1.1 e he
    simpa only [hb, Bool.not_true, Bool.false_or, decide_eq_true_eq] using h2
  have edgeEM : ∀ i o, i < n → ops[i]? = some o → ms0.contains i = false → ∀ e ∈ o.after, Region.binds .any e = true → ms0.contains e.on = false := by
    intro i o hi ho h3 e he hb
    have h1 := List.all_eq_true.1 hEM i (List.mem_range.2 hi)
    simp only [ho, h3, Bool.false_or] at h1
    have h2 := Array.all_eq_true_iff_forall_mem.1 h1 e he
    simpa [hb] using h2
  have unwait : ∀ (listed : Array Bool) (i j : Nat), i ∈ Region.ready .any ops listed → listed.getD j false = false → Region.waitsFor .any ops i j = true → False := by
    intro listed i j hi hj hw
    obtain ⟨oi, hoi, e, he, hb, hon⟩ := Region.waitsFor_spec hw
    obtain ⟨_, o', ho', hall⟩ := mem_ready.1 hi
    rw [hoi] at ho'; cases ho'
    have := hall e he hb
    rw [hon, hj] at this; cases this
  intro cnt
  induction cnt with
  | zero =>
    intro es ms listed a W hc inv hmem hes hms _ _ _ hgW h
    have he : es = [] := List.eq_nil_of_length_eq_zero (by omega)
    have ha : ms = [] := List.eq_nil_of_length_eq_zero (by omega)
    subst he; subst ha
    rw [Nat.zero_add]
    refine hK a W (h W (World.grows.refl _)) listed inv fun i hi => ?_
    have := hmem i hi
    simp only [List.map_nil, List.not_mem_nil, or_self, iff_false, Bool.not_eq_false] at this
    exact this
  | succ cnt ih =>
    intro es ms listed a W hc inv hmem hes hms hse hsm hsw hgW h
    rw [show cnt + 1 + (ops.size - n) = (cnt + (ops.size - n)) + 1 by omega]
    have hun : ∃ i, i < n ∧ listed.getD i true = false := by
      cases es with
      | cons p es =>
        have h1 := hes p (List.mem_cons_self ..)
        refine ⟨p.1, h1.1, getD_in (by rw [inv.size]; omega) ((hmem p.1 h1.1).2 (.inl (by simp)))⟩
      | nil =>
        cases ms with
        | nil => simp at hc
        | cons p ms =>
          have h1 := hms p (List.mem_cons_self ..)
          exact ⟨p.1, h1.1, getD_in (by rw [inv.size]; omega) ((hmem p.1 h1.1).2 (.inr (by simp)))⟩
    obtain ⟨i0, hi0, hun0⟩ := hun
    have hheads := hheads0 listed i0 inv hi0 hun0
    refine ⟨fun hnil => ?_, fun i hi => ?_⟩
    · exfalso
      have first : ∀ i o, i < n → ops[i]? = some o → listed.getD i false = false → (∀ j, j < i → listed.getD j false = true ∨ (ms0.contains i = false ∧ ms0.contains j = true)) → False := by
        intro i o hi ho hl hall
        have : i ∈ Region.ready .any ops listed := mem_ready.2 ⟨getD_in (by rw [inv.size]; omega) hl, o, ho, fun e he hb => by
          have h1 := edgeOf i o hi ho e he hb
          rcases hall e.on h1 with h3 | ⟨h3, h4⟩
          · exact h3
          · rw [edgeEM i o hi ho h3 e he hb] at h4; cases h4⟩
        rw [hnil] at this; cases this
      cases es with
      | cons p es =>
        obtain ⟨h1, h2, h3⟩ := hes p (List.mem_cons_self ..)
        refine first p.1 p.2 h1 h2 ((hmem p.1 h1).2 (.inl (by simp))) fun j hj => ?_
        cases hl : listed.getD j false with
        | true => exact .inl rfl
        | false =>
          refine .inr ⟨h3, ?_⟩
          rcases (hmem j (by omega)).1 hl with h4 | h4
          · simp only [List.map_cons, List.mem_cons] at h4
            simp only [List.map_cons, List.pairwise_cons] at hse
            rcases h4 with h4 | h4
            · omega
            · have := hse.1 j h4; omega
          · obtain ⟨q, hq, rfl⟩ := List.mem_map.1 h4
            exact (hms q hq).2.2
      | nil =>
        cases ms with
        | nil => simp at hc
        | cons p ms =>
          obtain ⟨h1, h2, h3⟩ := hms p (List.mem_cons_self ..)
          refine first p.1 p.2 h1 h2 ((hmem p.1 h1).2 (.inr (by simp))) fun j hj => ?_
          cases hl : listed.getD j false with
          | true => exact .inl rfl
          | false =>
            rcases (hmem j (by omega)).1 hl with h4 | h4
            · simp at h4
            · simp only [List.map_cons, List.mem_cons] at h4
              simp only [List.map_cons, List.pairwise_cons] at hsm
              rcases h4 with h4 | h4
              · omega
              · have := hsm.1 j h4; omega
    · have hin := hheads i hi
      have hl : listed.getD i false = false := getD_both (mem_ready.1 hi).1
      have inv' := inv.set hi hin
      have set_mem : ∀ j, j < n → j ≠ i → ((listed.setIfInBounds i true).getD j false = false ↔ listed.getD j false = false) := fun j hj hji => by rw [getD_set_ne false (Ne.symm hji)]
      have set_self : (listed.setIfInBounds i true).getD i false = true := by
        have : i < listed.size := by rw [inv.size]; omega
        simp [this]
      rcases (hmem i hin).1 hl with hie | him
      · obtain ⟨p, hp, rfl⟩ := List.mem_map.1 hie
        obtain ⟨l1, l2, rfl⟩ := List.append_of_mem hp
        obtain ⟨h1, h2, h3⟩ := hes p hp
        have hsort := hse
        simp only [List.map_append, List.map_cons, List.pairwise_append, List.pairwise_cons] at hsort
        have hap1 : ∀ y ∈ l1.map (·.2), p.2.apart ops y = true ∧ ∀ cs b, y.op ≠ .select cs b := by
          intro y hy
          obtain ⟨q, hq, rfl⟩ := List.mem_map.1 hy
          obtain ⟨g1, g2, g3⟩ := hes q (by simp [hq])
          refine ⟨?_, fun cs b => hsp q.1 q.2 cs b g2⟩
          have hlt : q.1 < p.1 := hsort.2.2 q.1 (List.mem_map.2 ⟨q, hq, rfl⟩) p.1 (by simp)
          rcases pairOf q.1 p.1 q.2 p.2 hlt h1 g2 h2 with hw | ha
          · exact (unwait listed p.1 q.1 hi ((hmem q.1 g1).2 (.inl (by simp; exact .inl ⟨_, hq⟩))) hw).elim
          · exact apart_symm _ _ ha
        rw [List.map_append, List.map_cons] at h
        obtain ⟨v, hy, h'⟩ := calm_frontJ (fun cs b => hsp p.1 p.2 cs b h2) _ a hap1 h
        have hrest : ∀ W', W.grows W' → wpAny P .any ops Q (cnt + (ops.size - n)) (listed.setIfInBounds p.1 true) (a.put p.2.dst v) W' := by
          intro W' hg
          refine ih (l1 ++ l2) ms _ _ W' (by simp at hc ⊢; omega) inv' (fun j hj => ?_) (fun q hq => hes q (by simp at hq ⊢; rcases hq with h | h <;> simp [h])) hms ?_ hsm hsw (hI _ _ hgW hg) (by rw [List.map_append]; exact wpCalm_monoJ (fun a' h => wpChain_growJ hg h) _ _ h')
          · by_cases hji : j = p.1
            · subst hji
              rw [set_self]
              simp only [Bool.true_eq_false, false_iff]
              rintro (hh | hh)
              · obtain ⟨q, hq, he⟩ := List.mem_map.1 hh
                rcases List.mem_append.1 hq with hq | hq
                · have := hsort.2.2 q.1 (List.mem_map.2 ⟨q, hq, rfl⟩) p.1 (by simp); omega
                · have := hsort.2.1.1 q.1 (List.mem_map.2 ⟨q, hq, rfl⟩); omega
              · obtain ⟨q, hq, he⟩ := List.mem_map.1 hh
                have := (hms q hq).2.2
                rw [he, h3] at this; cases this
            · rw [set_mem j hj hji, hmem j hj]
              simp only [List.map_append, List.map_cons, List.mem_append, List.mem_cons]
              constructor
              · rintro ((h | h | h) | h)
                · exact .inl (.inl h)
                · exact absurd h hji
                · exact .inl (.inr h)
                · exact .inr h
              · rintro ((h | h) | h)
                · exact .inl (.inl h)
                · exact .inl (.inr (.inr h))
                · exact .inr h
          · rw [List.map_append, List.pairwise_append]
            exact ⟨hsort.1, hsort.2.1.2, fun x hx y hy => hsort.2.2 x hx y (List.mem_cons_of_mem _ hy)⟩
        unfold wpOp
        simp only [h2]
        rcases hy with ⟨hw, hv⟩ | ⟨hw, rfl⟩
        · rw [if_pos hw]
          have hv' := hv _ hgW
          unfold Oper.calmAt at hv'
          refine .inl ?_
          unfold Oper.wp
          generalize (execOp a.eval p.2).run P W = r at *
          cases r with
          | halt z w' => simp only [Oper.calmUpon] at hv'
          | ok nx w' =>
            cases nx <;> simp only [Oper.calmUpon] at hv' <;> simp only [Oper.upon]
            case value u => obtain ⟨rfl, rfl⟩ := hv'; exact hrest _ (World.grows.refl _)
            case skip => obtain ⟨rfl, rfl⟩ := hv'; exact hrest _ (World.grows.refl _)
            case enter f args =>
              obtain ⟨rfl, hcall⟩ := hv'
              refine hcall.mono fun e w'' ⟨he, hg⟩ => ?_
              subst he
              exact hrest _ hg
        · rw [if_neg (by rw [hw]; exact Bool.false_ne_true)]
          exact hrest _ (World.grows.refl _)
      · -- the next of the chain
        cases ms with
        | nil => simp at him
        | cons m ms =>
        have hhead : i = m.1 := by
          rcases List.mem_cons.1 (by simpa using him : i ∈ m.1 :: ms.map (·.1)) with h1 | h1
          · exact h1
          · exfalso
            obtain ⟨q, hq, rfl⟩ := List.mem_map.1 h1
            obtain ⟨l1, l2, rfl⟩ := List.append_of_mem hq
            rcases List.eq_nil_or_concat l1 with rfl | ⟨l0, z, rfl⟩
            · exact unwait listed q.1 m.1 hi ((hmem m.1 (hms m (List.mem_cons_self ..)).1).2 (.inr (by simp))) (hsw m q [] l2 (by simp))
            · exact unwait listed q.1 z.1 hi ((hmem z.1 (hms z (by simp)).1).2 (.inr (by simp))) (hsw z q (m :: l0) l2 (by simp))
        subst hhead
        obtain ⟨h1, h2, h3⟩ := hms m (List.mem_cons_self ..)
        have hape : ∀ y ∈ es.map (·.2), m.2.apart ops y = true ∧ ∀ cs b, y.op ≠ .select cs b := by
          intro y hy
          obtain ⟨q, hq, rfl⟩ := List.mem_map.1 hy
          obtain ⟨g1, g2, g3⟩ := hes q hq
          refine ⟨?_, fun cs b => hsp q.1 q.2 cs b g2⟩
          have hql : listed.getD q.1 false = false := (hmem q.1 g1).2 (.inl (List.mem_map.2 ⟨q, hq, rfl⟩))
          rcases Nat.lt_trichotomy q.1 m.1 with hlt | heq | hgt
          · rcases pairOf q.1 m.1 q.2 m.2 hlt h1 g2 h2 with hw | ha
            · exact (unwait listed m.1 q.1 hi hql hw).elim
            · exact apart_symm _ _ ha
          · rw [heq, h3] at g3; cases g3
          · rcases pairOf m.1 q.1 m.2 q.2 hgt g1 h2 g2 with hw | ha
            · exfalso
              obtain ⟨oq, hoq, e, he, hb, hon⟩ := Region.waitsFor_spec hw
              have := edgeEM q.1 oq g1 hoq g3 e he hb
              rw [hon, h3] at this; cases this
            · exact ha
        have h' := chain_frontJ (Φ := fun _ a'' W'' => wpChainJ P ops I K (ms.map (·.2)) a'' W'') (fun cs b => hsp m.1 m.2 cs b h2) _ a hape (wpCalm_monoJ (fun a' h => h W (World.grows.refl _) hgW) _ _ h)
        have hrest : ∀ v W', I W' → wpCalmJ P ops I (fun a'' => wpChainJ P ops I K (ms.map (·.2)) a'' W') (es.map (·.2)) (a.put m.2.dst v) → wpAny P .any ops Q (cnt + (ops.size - n)) (listed.setIfInBounds m.1 true) (a.put m.2.dst v) W' := by
          intro v W' hg hh
          have hsm' : m.1 ∉ ms.map (·.1) := by
            simp only [List.map_cons, List.pairwise_cons] at hsm
            intro hx
            have := hsm.1 m.1 hx
            omega
          refine ih es ms _ _ W' (by simp at hc ⊢; omega) inv' (fun j hj => ?_) hes (fun q hq => hms q (List.mem_cons_of_mem _ hq)) hse ?_ (fun p q l1 l2 he => hsw p q (m :: l1) l2 (by rw [he]; rfl)) hg hh
          · by_cases hji : j = m.1
            · subst hji
              rw [set_self]
              simp only [Bool.true_eq_false, false_iff]
              rintro (hh | hh)
              · obtain ⟨q, hq, he⟩ := List.mem_map.1 hh
                have := (hes q hq).2.2
                rw [he, h3] at this; cases this
              · exact hsm' hh
            · rw [set_mem j hj hji, hmem j hj]
              simp only [List.map_cons, List.mem_cons]
              constructor
              · rintro (h | h | h)
                · exact .inl h
                · exact absurd h hji
                · exact .inr h
              · rintro (h | h)
                · exact .inl h
                · exact .inr (.inr h)
          · simp only [List.map_cons, List.pairwise_cons] at hsm
            exact hsm.2
        unfold wpOp
        simp only [h2]
        by_cases hw : Region.wanted m.2 (yielded ops a.tmps) = true
        · rw [if_pos hw] at h' ⊢
          unfold Oper.goesOJ at h'
          refine .inl ?_
          unfold Oper.wp
          generalize (execOp a.eval m.2).run P W = r at *
          cases r with
          | halt z w' => simp only [goesUponOJ] at h'
          | ok nx w' =>
            cases nx <;> simp only [goesUponOJ] at h' <;> simp only [Oper.upon]
            case value u => exact hrest _ _ h'.1 h'.2
            case skip => exact hrest _ _ h'.1 h'.2
            case enter f args =>
              obtain ⟨rfl, hcall⟩ := h'
              refine hcall.mono fun e w'' ⟨v, he, hg, hp⟩ => ?_
              subst he
              exact hrest _ _ hg hp
        · rw [if_neg hw] at h' ⊢
          exact hrest _ _ hgW h'

theorem wp_region_chainJ {id : Nat} {Q : Exit → Act → World → Prop} {a : Act} {w : World} {l : List Oper} (n : Nat) (ms : List Nat) (I : World → Prop) (hI : ∀ W W', I W → W.grows W' → I W') (hIw : I w) (hm : P.follows .mixedOrders = true)
    (hB : (Region.chainPlanB l.toArray n ms && decide (((withNo 0 (l.take n)).filter fun p => ms.contains p.1).map (·.1) = ms)) = true) (hn : n ≤ l.length)
    (h : wpCalmJ P l.toArray I (fun a' => wpChainJ P l.toArray I (fun a'' W => wpList P l.toArray Q (l.drop n) a'' W) (only l n ms) a' w) (without l n ms) a) : (Code.region id l.toArray true).wp P Q a w := by
  simp only [Region.chainPlanB, Bool.and_eq_true, Bool.or_eq_true, decide_eq_true_eq] at hB
  obtain ⟨⟨⟨hch, hplan⟩, hseq⟩, hms⟩ := hB
  have hch0 := hch
  have hnle : n ≤ l.toArray.size := by simpa using hn
  refine wp_region_any hm ?_
  obtain ⟨n0, x0, h0⟩ := World.more_drew w
  rw [h0]
  have hat : ∀ p ∈ withNo 0 (l.take n), p.1 < n ∧ l.toArray[p.1]? = some p.2 := fun p hp => by
    have h2 := ((withNo_mem 0 _ p).1 hp).2
    rw [Nat.sub_zero, List.getElem?_take] at h2
    split at h2
    · rename_i hlt; exact ⟨by omega, by simpa using h2⟩
    · cases h2
  have hsorted : ((withNo 0 (l.take n)).map (·.1)).Pairwise (· < ·) := by rw [withNo_fst]; exact List.pairwise_lt_range'
  have hfilt : ∀ (q : Nat × Oper → Bool), (((withNo 0 (l.take n)).filter q).map (·.1)).Pairwise (· < ·) := fun q => by
    have : ((withNo 0 (l.take n)).filter q).Sublist (withNo 0 (l.take n)) := List.filter_sublist
    exact hsorted.sublist (this.map _)
  have hlen : ((withNo 0 (l.take n)).filter fun p => !ms.contains p.1).length + ((withNo 0 (l.take n)).filter fun p => ms.contains p.1).length = n := by
    have e1 : (withNo 0 (l.take n)).length = n := by
      have := congrArg List.length (withNo_snd 0 (l.take n))
      simp at this
      omega
    have := filt_len (fun p : Nat × Oper => ms.contains p.1) (withNo 0 (l.take n))
    omega
  have key := wpAny_of_chainJ (P := P) (ops := l.toArray) (I := I) (Q := Q) (n := n) (ms0 := ms) hch hI 
    (fun listed i0 inv hi0 hun0 => by
      rcases hplan with h | ⟨⟨h1, h2⟩, h3⟩
      · subst h; exact heads_of_all listed
      · exact heads_of_tail h1 h2 h3 listed i0 inv hi0 hun0)
    (K := fun a'' W => wpList P l.toArray Q (l.drop n) a'' W)
    (fun a W hK listed inv hall => by
      have hl := seq_listed inv hnle hall
      subst hl
      have hd : (l.drop n).length = l.toArray.size - n := by simp
      have := wpAny_of_seq (md := .any) (Q' := Q) (l.drop n) n _ a W (fun j => by simp [List.getElem?_drop]) (by rw [hd]; exact hseq) hK
      rwa [hd] at this)
    n ((withNo 0 (l.take n)).filter fun p => !ms.contains p.1) ((withNo 0 (l.take n)).filter fun p => ms.contains p.1) (Array.replicate l.toArray.size false) a (w.plus n0 x0) hlen (headInv_start n)
    (fun i hi => by
      simp only [getD_replicate_false, true_iff, List.mem_map, List.mem_filter]
      have hil : i < (l.take n).length := by simp; omega
      have hi2 : (i, (l.take n)[i]) ∈ withNo 0 (l.take n) := (withNo_mem 0 _ _).2 ⟨Nat.zero_le _, by rw [Nat.sub_zero]; exact List.getElem?_eq_getElem hil⟩
      cases hc : ms.contains i with
      | true => exact .inr ⟨_, ⟨hi2, hc⟩, rfl⟩
      | false => exact .inl ⟨_, ⟨hi2, by simpa using hc⟩, rfl⟩)
    (fun p hp => by
      obtain ⟨h1, h2⟩ := List.mem_filter.1 hp
      exact ⟨(hat p h1).1, (hat p h1).2, by simpa using h2⟩)
    (fun p hp => by
      obtain ⟨h1, h2⟩ := List.mem_filter.1 hp
      exact ⟨(hat p h1).1, (hat p h1).2, h2⟩)
    (hfilt _) (hfilt _)
    (fun p q l1 l2 he => by
      simp only [Region.chainsB, Bool.and_eq_true] at hch0
      have hz := hch0.1.2
      have := zip_next ms (fun i j => decide (i < j) && Region.waitsFor .any l.toArray j i) hz p.1 q.1 (l1.map (·.1)) (l2.map (·.1)) (by rw [← hms, he]; simp)
      simp only [Bool.and_eq_true] at this
      exact this.2)
    (hI _ _ hIw (World.grows_plus _ _ _))
    (wpCalm_monoJ (fun a' h => wpChain_growJ (World.grows_plus _ _ _) h) _ _ h)
  rw [show n + (l.toArray.size - n) = l.toArray.size by omega] at key
  exact key
end
section
variable {P : Program} {ops : Array Oper} {I : World → Prop}
theorem wpChainJ_append {rest : List Oper} {o : Oper} {a : Act} {Q : Act → World → Prop} {W : World} (hgd : o.guard = none) (s x : Operand) (t : TypeId)
    (ho : o.op = .call { callee := .builtin .append, args := #[s, x], argTypes := #[t, t] })
    (base : Nat) (e : TypeId) (z : Value) (size bytes : Nat) (ht : P.underlying t = some (.slice e)) (hi : P.knows e z size bytes) (hzs : z.cells.size = size) (hsz : 0 < size)
    (v : Value) (n : Nat) (xs : List Value) (hs : a.eval s = v) (hown : W.ownsRow base e size v n xs)
    (xv : Value) (hx : a.eval x = xv) (m : Nat) (news : List Value) (hsrc : ∀ W0, W.grows W0 → SrcAt W0 xv m size news) (h1 : ∀ u ∈ news, u.oneCell' = true)
    (h63 : n + m ≤ maxLen) (hbytes : (n + m) * bytes ≤ 140737488355328) (hbase : base ≤ W.heap.size)
    (h : ∀ W0 v' w', W.grows W0 → I W0 → w'.ownsRow base e size v' (n + m) (xs ++ news) → W0.grownBy w' v.ownBlock → I w' ∧ wpChainJ P ops I Q rest (a.put o.dst v') w') :
    wpChainJ P ops I Q (o :: rest) a W := by
  intro W0 hg hI0
  obtain ⟨i, hi, hz, hsize, hby⟩ := hi
  rw [if_pos (by simp [Region.wanted, hgd])]
  obtain ⟨v', w', hr, h2, h3⟩ := run_append_g (P := P) W0 base t o.type e i z size bytes ht hi hz hsize hby hzs hsz v n xs (hown.grow hg) xv m news (hsrc W0 hg) h1 h63 hbytes (Nat.le_trans hbase hg.size)
  unfold Oper.goesOJ execOp
  simp only [ho, resolve, invoke, builtin, Sem.run_bind, Sem.run_pure, Result.andThen_ok, List.map_toArray, List.map_cons, List.map_nil, hs, hx, hr]
  exact h W0 v' w' hg hI0 h2 h3
end
end Go

/-
  What is proved: a tree grows by the looks at marks of different makers (96), in the program.
-/
namespace Go.Proofs.Ytdminglglapnlaa
open Go.RowKit
attribute [local irreducible] Go.wpCalm Go.wpCalm2 deskA rowI rowA
attribute [local go_sem] Oper.semAt_some

set_option maxRecDepth 100000 in
set_option maxHeartbeats 4000000 in
theorem grow_node (B : World) (db mb : Nat) (r : Reg) (c : Nat → Int) (m : VM) (hD : DeskR B db mb r c m) (hr : r.Ok) (ht : r.NoTwins) (hB : BestM r (2 ^ r.nm) m) (s : Nat) (hs : s < 2 ^ r.nm) (h0 : s ≠ 0) (hm : r.mixed s = true)
    (ih : ∀ p, p < s → p ≠ 0 → p < 2 ^ r.nm → Grows B db r p) : Grows B db r s := by
  intro W tb z L us hG hcnt
  obtain ⟨f, hf, hp, hlook, hcs⟩ := Reg.look_some hr ht hs hm
  have hlk : ∀ W : World, W.heap[mb]? = some m.obj → (Instr.lookup 103 (.map (some mb)) (.int .i64 (s : Nat)) true).run Try.prog W = .ok (.tuple #[.agg #[.int .i64 (f : Int), .int .i64 (r.cst s)], .bool true]) W := fun W h => by
    rw [lko103 m mb s W h, hB.2 s, if_pos ⟨hs, hm⟩, hlook]; rfl
  have HP := Lib.hid fun W (g : B.grows W) => parts_c W db mb r c m (hD.mono g) hr s f hs hf
  obtain ⟨kb, ko, mc, cb, co, cc, rb, ro, rc, hA, h2, h3, h4, h5, hR⟩ := hD
  have Hw : Hid (∀ v : Nat, v < 10 → r.cost f + r.cst (r.part s f (v : Nat)) ≤ r.cst s) := Lib.hid fun v hv => by
    have := r.le_mostR r.cst s f hv
    omega
  have Hpt : Hid (∀ v : Nat, v < 10 → r.part s f (v : Nat) < s) := Lib.hid fun v hv => r.part_less hs hp hv
  have Hct : Hid (∀ v : Nat, v < 10 → r.cnt (r.part s f (v : Nat)) < r.cnt s) := Lib.hid fun v hv => r.cnt_part hs ((r.parted_iff s f).1 hp v hv)
  have Htwo : Hid (∀ (b : Nat) l nx, r.Some' s f b 10 l nx → 2 ≤ nx.length) := Lib.hid fun b l nx h => h.two hr hf hs h0 hp
  have Hih := Lib.hid ih
  have Hr := Lib.hid hr
  have hBW : B.grows W := by obtain ⟨nv, h1, -⟩ := hG; exact h1
  have kbest := hBW.cell_of hA.best
  have kmap := hBW.heap_of hA.map
  have hct0 : 1 ≤ r.cnt s := r.cnt_pos hs h0
  obtain ⟨O, hO⟩ : ∃ O, m.obj = O := ⟨_, rfl⟩
  obtain ⟨C, hC⟩ : ∃ C, r.cst s = C := ⟨_, rfl⟩
  rw [hO] at hlk kmap
  rw [hC] at hlk
  obtain ⟨nv, k1, k2, k3, k4, k5⟩ := hG
  obtain ⟨na, ncap, rfl, kc1, kc2⟩ := row_form k4
  have K4 := Lib.hid k4
  have K5 := Lib.hid k5
  have Hus : Hid (∀ i, i < L.length → ∀ k, (us i).ownBlock = some k → k < W.heap.size) := Lib.hid fun i hi k hk => ((k5 i hi).lt k hk).2
  have K3 := Lib.hid k3
  have knv : W.cell? ⟨tb, 1, none⟩ = some (.slice na L.length ncap) := cell_of_heap k3 rfl
  have kfz : W.frozen? ⟨tb, 1, none⟩ = false := frozen_of_heap k3 1
  have htbW := World.lt_of_block k3
  have hBsz := hBW.size
  have HBW := Lib.hid hBW
  clear hA hR hB hr ht hm ih hlook hcs hO hC h0 k3 k4 k5 hBW hp k1
  unfold maxLen at kc2
  (refine (callsIn_wide (n := 0)).1 (callsIn_of_wp_marks Try.func96 rfl trivial ((wpIn_wide (n := 0)).2 ?_) rfl); simp only [Try.ntmps96, List.size_toArray, List.length_cons, List.length_nil, Nat.reduceAdd, Nat.reduceSub, Array.replicate_succ, Array.replicate_zero, List.push_toArray, List.append_toArray, List.nil_append, List.cons_append])
  go_wp2
  obtain ⟨W1, hW1⟩ : ∃ W1, W1 = (((W.alloc (Obj.cells #[Value.pointer (some { block := db, off := 0 })] 98)).alloc (Obj.cells #[Value.pointer (some { block := tb, off := 0 })] 140)).alloc (Obj.cells #[Value.int IntKind.i64 ↑f, Value.int IntKind.i64 C] 115)) := ⟨_, rfl⟩
  have g1 : W.grows W1 := by rw [hW1]; (repeat (first | exact World.grows.refl _ | assumption | refine World.grows.alloc ?_ _ | refine World.grows.plus ?_ _ _ | refine World.grows.drew ?_))
  have z1 : W1.heap.size = W.heap.size + 3 := by rw [hW1]; simp
  have e0 : W1.heap[W.heap.size]? = some (.cells #[.pointer (some ⟨db, 0, none⟩)] 98) := by
    rw [hW1, World.heap_a _ _ _ (by rw [World.heap_a _ _ _ (by rw [World.heap_at _ _ _ rfl]; rfl), World.heap_at _ _ _ rfl]; rfl), World.heap_a _ _ _ (by rw [World.heap_at _ _ _ rfl]; rfl), World.heap_at _ _ _ rfl]
  have e1 : W1.heap[W.heap.size + 1]? = some (.cells #[.pointer (some ⟨tb, 0, none⟩)] 140) := by
    rw [hW1, World.heap_a _ _ _ (by rw [World.heap_at _ _ _ (by simp)]; rfl), World.heap_at _ _ _ (by simp)]
  have e2 : W1.heap[W.heap.size + 1 + 1]? = some (.cells #[.int .i64 (f : Int), .int .i64 C] 115) := by
    rw [hW1, World.heap_at _ _ _ (by simp)]
  rw [← hW1]
  clear hW1
  have hn1 : some (W.heap.size + 1) ≠ (Value.slice na L.length ncap).ownBlock := own_far K4.out (by omega)
  have hn2 : some (W.heap.size + 1 + 1) ≠ (Value.slice na L.length ncap).ownBlock := own_far K4.out (by omega)
  have hnt : some tb ≠ (Value.slice na L.length ncap).ownBlock := fun e => row_block K4.out K3.out (by decide) tb e.symm rfl
  have d1 := cell_box e1
  have d2 : W1.cell? ⟨W.heap.size + 1 + 1, 0, none⟩ = some (.int .i64 (f : Int)) := cell_of_heap e2 rfl
  have d3 := g1.cell_of knv
  have d4 : W1.frozen? ⟨tb, 1, none⟩ = false := frozen_of_heap (g1.heap_of K3.out) 1
  have d5 := g1.heap_of K3.out
  have hg1s := g1.size
  have K4' := Lib.hid (K4.out.grow g1)
  obtain ⟨I, hIe⟩ : ∃ I : World → Prop, I = fun w' => w'.cell? ⟨W.heap.size + 1, 0, none⟩ = some (.pointer (some ⟨tb, 0, none⟩)) ∧ w'.cell? ⟨W.heap.size + 1 + 1, 0, none⟩ = some (.int .i64 (f : Int)) ∧ w'.cell? ⟨tb, 1, none⟩ = some (.slice na L.length ncap) ∧ Keeps tb W1 w' ∧ w'.heap[tb]? = some (.cells #[z, .slice na L.length ncap] 28) ∧ B.grows w' := ⟨_, rfl⟩
  have hI : ∀ W W', I W → W.grows W' → I W' := by
    rw [hIe]
    rintro W W' ⟨a1, a2, a3, a4, a5, a6⟩ g
    exact ⟨g.cell_of a1, g.cell_of a2, g.cell_of a3, a4.trans (Keeps.of g), g.heap_of a5, a6.trans g⟩
  have hIw : I W1 := by rw [hIe]; exact ⟨d1, d2, d3, Keeps.refl, d5, HBW.out.trans g1⟩
  have HI : Hid (∀ U, I U → U.cell? ⟨W.heap.size + 1, 0, none⟩ = some (.pointer (some ⟨tb, 0, none⟩)) ∧ U.cell? ⟨W.heap.size + 1 + 1, 0, none⟩ = some (.int .i64 (f : Int)) ∧ U.cell? ⟨tb, 1, none⟩ = some (.slice na L.length ncap) ∧ Keeps tb W1 U ∧ U.heap[tb]? = some (.cells #[z, .slice na L.length ncap] 28) ∧ B.grows U) := Lib.hid fun U h => by rw [hIe] at h; exact h
  have HIm : Hid (∀ U, (U.cell? ⟨W.heap.size + 1, 0, none⟩ = some (.pointer (some ⟨tb, 0, none⟩)) ∧ U.cell? ⟨W.heap.size + 1 + 1, 0, none⟩ = some (.int .i64 (f : Int)) ∧ U.cell? ⟨tb, 1, none⟩ = some (.slice na L.length ncap) ∧ Keeps tb W1 U ∧ U.heap[tb]? = some (.cells #[z, .slice na L.length ncap] 28) ∧ B.grows U) → I U) := Lib.hid fun U h => by rw [hIe]; exact h
  clear hIe
  (refine wp_region_chainJ 10 [8, 9] (I) (hI) (hIw) (by kernel_rfl) (by kernel_rfl) (by decide) ?_; simp only [without, only, withNo, List.take_succ_cons, List.take_zero, List.drop_succ_cons, List.drop_zero, List.take_nil, List.drop_nil, Nat.reduceAdd, Nat.reduceSub, List.filter, List.contains_cons, List.contains_nil, Nat.reduceBEq, Bool.or_false, Bool.false_or, Bool.true_or, Bool.or_true, Bool.or_self, Bool.not_true, Bool.not_false, List.map_cons, List.map_nil])
  refine wpCalmJ_go rfl (.pointer (some ⟨tb, 0, none⟩)) (fun U hU => by have e1 := (HI.out U hU).1; go_simp) ?_
  refine wpCalmJ_go rfl (.pointer (some ⟨tb, 0, none⟩)) (fun U hU => by have e1 := (HI.out U hU).1; go_simp) ?_
  refine wpCalmJ_go rfl (.pointer (some ⟨tb, 0, none⟩)) (fun U hU => by go_simp) ?_
  refine wpCalmJ_go rfl (.pointer (some ⟨tb, 1, none⟩)) (fun U hU => by go_simp) ?_
  refine wpCalmJ_go rfl (.slice na L.length ncap) (fun U hU => by have e1 := (HI.out U hU).2.2.1; go_simp) ?_
  refine wpCalmJ_go rfl (.pointer (some ⟨W.heap.size + 1 + 1, 0, none⟩)) (fun U hU => by go_simp) ?_
  refine wpCalmJ_go rfl (.int .i64 (f : Int)) (fun U hU => by have e1 := (HI.out U hU).2.1; go_simp) ?_
  refine wpCalmJ_go rfl (.agg #[.int .i64 (f : Int), .slice none 0 0]) (fun U hU => by go_simp) ?_
  refine wpCalm_nilJ ?_
  have HZ1 := Lib.hid z1
  clear z1
  simp only [Act.put, List.setIfInBounds_toArray, List.set_cons_zero, List.set_cons_succ]
  refine wpChain_stepOJ (fun K hK nc xc hgc => ?_)
  go_simp
  refine ⟨hI _ _ hgc (by (repeat (first | exact World.grows.refl _ | assumption | refine World.grows.alloc ?_ _ | refine World.grows.plus ?_ _ _ | refine World.grows.drew ?_))), hK _ _ ?_⟩
  clear hK K
  refine wpChainJ_append rfl (.tmp 47) (.tmp 51) 26 (by rfl) B.heap.size 83 (.agg #[.int .i64 0, .slice none 0 0]) 2 32 Try.underlying26 el83 (by rfl) (by omega) (.slice na L.length ncap) L.length _ (by rfl) (K4'.out.grow (by (repeat (first | exact World.grows.refl _ | assumption | refine World.grows.alloc ?_ _ | refine World.grows.plus ?_ _ _ | refine World.grows.drew ?_)))) _ (by rfl) 1 _ (fun W0 g => (SliceAt.src (by omega) ((node_slice (W1.plus nc xc) (f : Int) (.slice none 0 0) 83 _ (by simp)).mono g))) (node_cells _ _ rfl) (by unfold maxLen; omega) (by omega) (by have := HZ1.out; simp; omega) ?_
  rintro W0 v' w' hgW hI0 hown hgb
  obtain ⟨a1, a2, a3, a4, a5, a6⟩ := HI.out W0 hI0
  have hW0s := hgW.size
  have b5 : w'.heap[tb]? = some (.cells #[z, .slice na L.length ncap] 28) := (hgb.block tb (World.lt_of_block a5) hnt).trans a5
  have hKe := a4.own ((K4'.out.grow (World.grows_plus W1 nc xc)).grow (World.grows.trans (by (repeat (first | exact World.grows.refl _ | assumption | refine World.grows.alloc ?_ _ | refine World.grows.plus ?_ _ _ | refine World.grows.drew ?_))) hgW)) hgb
  have hBg : B.grows w' := hgb.grows ((K4'.out.grow (World.grows_plus W1 nc xc)).grow (World.grows.trans (by (repeat (first | exact World.grows.refl _ | assumption | refine World.grows.alloc ?_ _ | refine World.grows.plus ?_ _ _ | refine World.grows.drew ?_))) hgW)) a6 (Nat.le_refl _)
  have bo : ∀ b o, W1.heap[b]? = some o → b ≠ tb → (∀ c fr, o ≠ .cells c 83 fr) → w'.heap[b]? = some o := hKe.block
  obtain ⟨va, vc, rfl, hv1, hv2⟩ := row_form hown
  refine ⟨HIm.out _ ⟨hgb.cell a1 hn1, hgb.cell a2 hn2, hgb.cell a3 hnt, hKe, b5, hBg⟩, ?_⟩
  have h5' : ∀ i, i < L.length → w'.ownsRow B.heap.size 129 2 (us i) (ndB L i).length (pcells (ndB L i)) := fun i hi => hKe.row (by decide) ((K5.out i hi).grow g1) (fun b hb => row_block (K5.out i hi) K3.out (by decide) b hb)
  refine wpChain_nilJ (fun nc2 xc2 => ?_)
  have hGN := GS.node (f := (f : Int)) (hBg.trans (World.grows_plus w' nc2 xc2)) k2 (World.grows.heap_of (World.grows_plus w' nc2 xc2) b5) (hown.grow (World.grows_plus w' nc2 xc2)) (fun i hi => (h5' i hi).grow (World.grows_plus w' nc2 xc2))
  have hKN := (hKe.trans (Keeps.of (World.grows_plus w' nc2 xc2))).set (a := ⟨tb, 1, none⟩) (.inl rfl) (.slice va (L.length + 1) vc)
  have x5 := World.grows.heap_of (World.grows_plus w' nc2 xc2) b5
  have x1 : (w'.plus nc2 xc2).cell? ⟨tb, 1, none⟩ = some (.slice na L.length ncap) := cell_of_heap x5 rfl
  have x2 : (w'.plus nc2 xc2).frozen? ⟨tb, 1, none⟩ = false := frozen_of_heap x5 1
  obtain ⟨X, hX⟩ : ∃ X, X = w'.plus nc2 xc2 := ⟨_, rfl⟩
  rw [← hX] at hGN hKN x1 x2 ⊢
  have HGN := Lib.hid hGN
  have HKN := Lib.hid hKN
  clear hX x5 b5 bo a1 a2 a3 a4 a5 a6 hKe hBg hown hgb h5' hGN hKN hI0 hgW hW0s hIw hI HI HIm hgc d3 d4 d5 knv kfz hlk
  go_upto_region 6 with fail
  obtain ⟨Y, hY⟩ : ∃ Y, Y = X.setCell { block := tb, off := 1 } (Value.slice va (L.length + 1) vc) := ⟨_, rfl⟩
  rw [← hY] at HGN HKN ⊢
  have htA : tb < W.heap.size := htbW
  have y0 := HKN.out.block _ _ e0 (by omega) (fun c fr h => by cases h)
  have y1 := HKN.out.block _ _ e1 (by omega) (fun c fr h => by cases h)
  have y2 := HKN.out.block _ _ e2 (by omega) (fun c fr h => by cases h)
  have hYs : W.heap.size + 3 ≤ Y.heap.size := by rw [← HZ1.out]; exact HKN.out.size
  have c0 := cell_box y0
  have c2 : Y.cell? ⟨W.heap.size + 1 + 1, 0, none⟩ = some (.int .i64 (f : Int)) := cell_of_heap y2 rfl
  have hBY : B.grows Y := by obtain ⟨nv, h1, -⟩ := HGN.out; exact h1
  have HBY := Lib.hid hBY
  clear hY x1 x2 d1 d2 e0 e1 e2 hn1 hn2 hnt hBY K4' K5 K4 K3
  go_wp2_with (go_at_call 99; refine (HP.out _ (World.grows.trans HBY.out (by (repeat (first | exact World.grows.refl _ | assumption | refine World.grows.alloc ?_ _ | refine World.grows.plus ?_ _ _ | refine World.grows.drew ?_))))).mono ?_; rintro e W5 ⟨rfl, hrb, hg5⟩)
  obtain ⟨P, hP⟩ : ∃ P : Nat → Nat, P = fun v => r.part s f (v : Nat) := ⟨_, rfl⟩
  rw [← hP] at hrb
  have HPv : Hid (∀ v, P v = r.part s f (v : Nat)) := Lib.hid fun v => by rw [hP]
  clear hP
  obtain ⟨us0, hus0⟩ : ∃ us0 : Nat → Value, us0 = fun i => if i < L.length then us i else Value.slice none 0 0 := ⟨_, rfl⟩
  have HF0 : Hid (Fresh L.length W.heap.size us us0) := Lib.hid (by rw [hus0]; exact Fresh.cut _ _ _)
  have HN0 : Hid (∀ i, L.length ≤ i → us0 i = .slice none 0 0) := Lib.hid fun i hi => by rw [hus0]; dsimp only; rw [if_neg (by omega)]
  rw [← hus0] at HGN
  have hz5 : Y.heap.size + 1 < W5.heap.size := by have := World.lt_of_block hrb; simpa using this
  have hrb2 : W5.heap[Y.heap.size + 1]? = some (.cells (rowA 10 P) 152) := by simpa using hrb
  have n0 : W5.heap[Y.heap.size]? = some (.cells #[.slice none 0 0] 81) := hg5.heap_of (World.heap_at _ _ _ rfl)
  have gY5 : Y.grows W5 := World.grows.trans (by (repeat (first | exact World.grows.refl _ | assumption | refine World.grows.alloc ?_ _ | refine World.grows.plus ?_ _ _ | refine World.grows.drew ?_))) hg5
  have HG5 := Lib.hid (HGN.out.mono gY5)
  have HgY5 := Lib.hid gY5
  have z0 := y0
  have z1 := y1
  have hBs5 := (HBY.out.trans gY5).size
  have HK5 : Hid (Keeps tb W1 W5) := Lib.hid (HKN.out.trans (Keeps.of gY5))
  have hLen : (L ++ [((f : Int), ([] : List (Int × Int)))]).length = L.length + 1 := by simp
  obtain ⟨L1, hL1⟩ : ∃ L1, L1 = L ++ [((f : Int), ([] : List (Int × Int)))] := ⟨_, rfl⟩
  rw [← hL1] at HGN HG5 hLen
  clear hrb hg5 hus0 gY5 y0 y1 y2 c0 c2
  refine wp_rangeFunc_own (f := 104) (by rfl) e104 (parts_seq (Y.heap.size + 1) P) (fun x hx => ?_)
    (fun j U => ∃ (v : Nat) (lV : List Nd) (nx : List (Int × Int)) (u : Value) (vs : Nat → Value), v ≤ 10 ∧ (partsL P v).length = j ∧ r.Some' s f L.length v lV nx ∧ GS B U tb z (L1 ++ lV) vs ∧ Fresh L1.length W5.heap.size us0 vs ∧ (∀ i, i < (L1 ++ lV).length → ∀ k, u.ownBlock = some k → (vs i).ownBlock ≠ some k) ∧
      U.heap[Y.heap.size]? = some (.cells #[u] 81) ∧ U.ownsRow W5.heap.size 129 2 u nx.length (pcells nx) ∧ Keeps tb Y U ∧ U.heap[Y.heap.size + 1]? = some (.cells (rowA 10 P) 152))
    (fun j U U' ⟨v, lV, nx, u, vs, h1, h2, h3, h4, h5, h6, h7, h8, h9, h10⟩ g => ⟨v, lV, nx, u, vs, h1, h2, h3, h4.mono g, h5, h6, g.heap_of h7, h8.grow g, h9.trans (Keeps.of g), g.heap_of h10⟩)
    (fun j U lo lo' hL ⟨v, lV, nx, u, vs, h1, h2, h3, h4, h5, h6, h7, h8, h9, h10⟩ => ⟨v, lV, nx, u, vs, h1, h2, h3, h4.putL hL rfl (by omega), h5, h6, by rw [World.putObj_heap_other (by omega)]; exact h7, ownsRow_putObj h8 _ hL rfl, h9.put (o := .loop lo) (by omega), by rw [World.putObj_heap_other (by omega)]; exact h10⟩)
    (fun j U ⟨v, lV, nx, u, vs, h1, h2, h3, h4, h5, h6, h7, h8, h9, h10⟩ => h10)
    (fun lo => ⟨0, [], [], .slice none 0 0, us0, by omega, rfl, Reg.Some'.zero Hr.out hf _, by rw [List.append_nil]; exact HG5.out.mono (by (repeat (first | exact World.grows.refl _ | assumption | refine World.grows.alloc ?_ _ | refine World.grows.plus ?_ _ _ | refine World.grows.drew ?_))), ?_, fun i _ k hk => by simp [Value.ownBlock] at hk, World.grows.heap_of (by (repeat (first | exact World.grows.refl _ | assumption | refine World.grows.alloc ?_ _ | refine World.grows.plus ?_ _ _ | refine World.grows.drew ?_))) n0, World.ownsRow_nil _ _ _ _, Keeps.of (HgY5.out.trans (by (repeat (first | exact World.grows.refl _ | assumption | refine World.grows.alloc ?_ _ | refine World.grows.plus ?_ _ _ | refine World.grows.drew ?_)))), World.grows.heap_of (by (repeat (first | exact World.grows.refl _ | assumption | refine World.grows.alloc ?_ _ | refine World.grows.plus ?_ _ _ | refine World.grows.drew ?_))) hrb2⟩) ?_ ?_
  · obtain ⟨j, hj⟩ := List.getElem?_of_mem hx
    exact partsL_size P hj
  · exact ⟨fun i _ => rfl, fun i hi k hk => by rw [HN0.out i (by omega)] at hk; simp [Value.ownBlock] at hk⟩
  · rintro j x U hx ⟨v, lV, nx, u, vs, hv, hj, hS, hG, hF, hd, hn, hu, hK, hrow⟩ hDf ⟨lo, hLo⟩ K0 hK0
    obtain ⟨v', hv1, hv2, hv3, rfl, hv5, hv6⟩ := partsL_next P hv hj hx
    have hS' := hS.jump hv1 (fun i h1 h2 => by rw [← HPv.out]; exact hv6 i h1 h2)
    clear hS hv6 hj hx
    rw [zip_two]
    simp only [List.setIfInBounds_toArray, List.set_cons_zero, List.set_cons_succ]
    obtain ⟨ua, uc, rfl, -, -⟩ := row_form hu
    have HG := Lib.hid hG
    have HF := Lib.hid hF
    have HS := Lib.hid hS'
    have Hd := Lib.hid hd
    have HK := Lib.hid hK
    have Hu := Lib.hid hu
    have Hrow := Lib.hid hrow
    clear hG hF hS' hd hK hu hrow
    gi_wp2
    refine hK0.out _ _ (by (repeat (first | exact World.grows.refl _ | assumption | refine World.grows.alloc ?_ _ | refine World.grows.plus ?_ _ _ | refine World.grows.drew ?_))) fun lo' K1 hK1 => ?_
    obtain ⟨U1, hU1⟩ : ∃ U1, U1 = U.putObj (W5.heap.size + 1) (.loop lo') := ⟨_, rfl⟩
    rw [← hU1]
    have hUL := World.lt_of_block hLo
    have uL : U1.heap[W5.heap.size + 1]? = some (.loop lo') := by rw [hU1]; exact World.putObj_heap_same hUL
    have uD : U1.heap[W5.heap.size]? = some (.deferred (some [])) := by rw [hU1, World.putObj_heap_other (by omega)]; exact hDf
    have un : U1.heap[Y.heap.size]? = some (.cells #[.slice ua nx.length uc] 81) := by rw [hU1, World.putObj_heap_other (by omega)]; exact hn
    have hG1 : GS B U1 tb z (L1 ++ lV) vs := by rw [hU1]; exact HG.out.putL hLo rfl (by omega)
    have hK1' : Keeps tb Y U1 := by rw [hU1]; exact HK.out.put (o := .loop lo) (by omega)
    have hu1 : U1.ownsRow W5.heap.size 129 2 (.slice ua nx.length uc) nx.length (pcells nx) := by rw [hU1]; exact ownsRow_putObj Hu.out _ hLo rfl
    have Hr1 : Hid (U1.heap[Y.heap.size + 1]? = some (.cells (rowA 10 P) 152)) := Lib.hid (by rw [hU1, World.putObj_heap_other (by omega)]; exact Hrow.out)
    have hU1s : U1.heap.size = U.heap.size := by rw [hU1]; simp
    clear hU1 hDf hn
    have t0 := cell_box (hK1'.block _ _ z0 (by omega) (fun c fr h => by cases h))
    have t1 := cell_box (hK1'.block _ _ z1 (by omega) (fun c fr h => by cases h))
    have hPe := HPv.out v'
    have hps : P v' < s := by rw [hPe]; exact Hpt.out v' hv2
    have hpn : P v' < 2 ^ r.nm := by rw [hPe]; exact r.part_lt _ _ _
    have hpc := Hct.out v' hv2
    rw [← hPe] at hpc
    have hcn := HS.out.cnt
    have hc1 := r.cntV_succ s f v'
    rw [← hPe] at hc1
    have hcm : r.cntV s f (v' + 1) ≤ r.cnt s := r.cntV_le s f (v' + 1)
    have hbd : (L1 ++ lV).length + r.cnt (P v') ≤ 40 := by
      rw [List.length_append, hLen]
      by_cases hnx : nx = []
      · rw [HS.out.nil hnx]; simp; omega
      · have : 0 < nx.length := List.length_pos_iff.2 hnx
        omega
    have h96 := Hih.out (P v') hps hv3 hpn U1 tb z (L1 ++ lV) vs hG1 hbd
    clear hpc hc1 hcn hbd hps hpn hPe
    have HG1 := Lib.hid hG1
    have HK1 := Lib.hid hK1'
    have Hu1 := Lib.hid hu1
    clear hG1 hK1' hu1
    have hnx40 := HS.out.cnt
    have hcv := r.cntV_le s f v'
    gi_wp2_with (first
     | (gi_at_call 96; go_loud (refine (Fence.free_round Try.prog _).calls _ _ _ _ _ (h96.mono ?_)); rintro e U2 ⟨l', dz, vs', rfl, hg2, hG2, hF2, hK2⟩; have un2 := hK2.block _ _ un (by omega) (fun c fr h => by cases h); have cn2 := cell_box un2; have fn2 := frozen_of_heap un2 0; have HL2 := Lib.hid (hK2.block _ _ uL (by omega) (fun c fr h => by cases h)); have HD2 := Lib.hid (hK2.block _ _ uD (by omega) (fun c fr h => by cases h)); have Hg2 := Lib.hid hg2; have HG2 := Lib.hid hG2; have HF2 := Lib.hid hF2; have HK2 := Lib.hid hK2; have Hu2 := Lib.hid (hK2.row (by decide) Hu1.out (fun b hb => (row_block Hu1.out (HG1.out.tb).choose_spec (by decide) b hb))); have hU2s := hK2.size; clear hg2 hG2 hF2 hK2 t0 t1)
     | (gi_at_builtin; go_loud (refine wpListIn_append_h _ rfl _ _ _ (by rfl) W5.heap.size 129 (.agg #[.int .i64 0, .int .i64 0]) 2 16 Try.underlying81 el129 (by rfl) (by omega) _ nx.length _ (by rfl) (Hu2.out.grow (by (repeat (first | exact World.grows.refl _ | assumption | refine World.grows.alloc ?_ _ | refine World.grows.plus ?_ _ _ | refine World.grows.drew ?_)))) _ (by rfl) 1 _ (by omega) (SliceAt.src (by omega) (two_slice _ _ _ _ _ (by simp))) (two_cells _ _) (by unfold maxLen; omega) (by omega) (by simp; omega) ?_; intro u3 U3 hown3 hgb3 hat3); obtain ⟨ub, ud, rfl, -, -⟩ := row_form hown3; have un3 : U3.heap[Y.heap.size]? = some (.cells #[.slice ua nx.length uc] 81) := (hgb3.block _ (by simp; omega) (fun e => row_block Hu2.out un2 (by decide) _ e.symm rfl)).trans (World.grows.heap_of (by (repeat (first | exact World.grows.refl _ | assumption | refine World.grows.alloc ?_ _ | refine World.grows.plus ?_ _ _ | refine World.grows.drew ?_))) un2); have cn3 := cell_box un3; have fn3 := frozen_of_heap un3 0; have Hown3 := Lib.hid hown3; have Hgb3 := Lib.hid hgb3; have Hat3 := Lib.hid hat3; clear hown3 hgb3 hat3))
    have hl2 : (L1 ++ lV).length = L.length + 1 + lV.length := by rw [List.length_append, hLen]
    have hdn : ∀ i, i < (L1 ++ lV ++ l').length → ∀ k, (Value.slice ua nx.length uc).ownBlock = some k → (vs' i).ownBlock ≠ some k := fun i hi k hk => by
      rcases Nat.lt_or_ge i (L1 ++ lV).length with h1 | h1
      · rw [HF2.out.1 i h1]; exact Hd.out i h1 k hk
      · intro e
        have h2 := HF2.out.2 i h1 k e
        have h3 := (Hu1.out.lt k hk).2
        omega
    have gal : U2.grows (U2.alloc (Obj.cells #[Value.int IntKind.i64 ↑v', Value.int IntKind.i64 dz] 129)) := by (repeat (first | exact World.grows.refl _ | assumption | refine World.grows.alloc ?_ _ | refine World.grows.plus ?_ _ _ | refine World.grows.drew ?_))
    have hun := Hu2.out.grow gal
    have hG3 := (HG2.out.mono gal).other hun (by omega) hdn Hgb3.out
    have hK3 : Keeps tb Y U3 := ((HK1.out.trans HK2.out).trans (Keeps.of gal)).own2 hun (by omega) Hgb3.out
    have hne3 : ∀ b, (Value.slice ub (nx.length + 1) ud).ownBlock = some b → b ≠ Y.heap.size := row_block Hown3.out un3 (by decide)
    have htbn : tb ≠ Y.heap.size := by omega
    refine hK1.out _ _ ⟨v' + 1, lV ++ l', nx ++ [((v' : Int), dz)], .slice ub (nx.length + 1) ud, vs', by omega, hv5, HS.out.step hv2 (by have := Hg2.out; rw [hl2, HPv.out] at this; exact this), ?_, HF.out.trans HF2.out (by rw [List.length_append]; omega) (by omega), ?_, ?_, ?_, hK3.set (.inr (Nat.le_refl _)) _, ?_⟩ ?_ ?_
    · rw [← List.append_assoc]
      exact hG3.setOther un3 (by decide) (by decide) (Ne.symm htbn) (by omega) 0 _
    · intro i hi k hk e
      rw [← List.append_assoc] at hi
      rcases Hat3.out with h1 | h1
      · rw [h1] at hk; exact hdn i hi k hk e
      · rw [h1] at hk
        have h2 := HG2.out.lt hi e
        simp at hk
        omega
    · exact store_of_heap un3 0 _
    · rw [List.length_append, List.length_singleton, pcells_snoc]
      exact ownsRow_setCell_other Hown3.out (fun e => hne3 _ e rfl) _
    · rw [World.heap_setCell_map _ _ _ _ (by simp)]
      have r2 := gal.heap_of (HK2.out.block _ _ Hr1.out (by omega) (fun c fr h => by cases h))
      exact (Hgb3.out.block _ (World.lt_of_block r2) (fun e => row_block hun r2 (by decide) _ e.symm rfl)).trans r2
    · rw [World.heap_setCell_map _ _ _ _ (show Y.heap.size ≠ W5.heap.size by omega)]
      exact (Hgb3.out.block _ (by simp; omega) (row_noblock hun (gal.heap_of HD2.out) rfl)).trans (gal.heap_of HD2.out)
    · rw [World.heap_setCell_map _ _ _ _ (show Y.heap.size ≠ W5.heap.size + 1 by omega)]
      exact (Hgb3.out.block _ (by simp; omega) (row_noblock hun (gal.heap_of HL2.out) rfl)).trans (gal.heap_of HL2.out)
  · rintro U ⟨v, lV, nx, u, vs, hv, hj, hS, hG, hF, hd, hn, hu, hK, hrow⟩ hDf
    have hall := partsL_done P hv hj
    have hS' := hS.jump hv (fun i h1 h2 => by rw [← HPv.out]; exact hall i h1 h2)
    have HGood := Lib.hid (hS'.node Hr.out hf (Htwo.out _ _ _ hS') Hw.out)
    obtain ⟨ua, uc, rfl, -, -⟩ := row_form hu
    have hl2 : (L1 ++ lV).length = L.length + 1 + lV.length := by rw [List.length_append, hLen]
    have hset : (L1 ++ lV).set L.length (ndF (L1 ++ lV) L.length, nx) = L ++ (((f : Int), nx) :: lV) := by
      rw [hL1]
      have : ndF (L ++ [((f : Int), ([] : List (Int × Int)))] ++ lV) L.length = (f : Int) := by unfold ndF; simp
      rw [this]
      simp
    obtain ⟨g, cap, q1, q2, q3, q4, q5⟩ := hG.open' (by omega)
    obtain ⟨q6, q7⟩ := q5 L.length nx (.slice ua nx.length uc) (by omega) (hu.down (by omega))
    rw [hset] at q6
    obtain ⟨q8, q9⟩ := q4 L.length (by omega)
    obtain ⟨qv, hqv⟩ := Option.isSome_iff_exists.1 q8
    clear q8
    have t1 := cell_box (hK.block _ _ z1 (by omega) (fun c fr h => by cases h))
    have tn := cell_box hn
    have tv : U.cell? ⟨tb, 1, none⟩ = some (.slice (some ⟨g, 0, none⟩) (L1 ++ lV).length cap) := cell_of_heap q1 rfl
    have hub := fun k hk => (hu.lt k hk).1
    have HFr : Hid (Fresh L.length W.heap.size us (fun i => if i = L.length then .slice ua nx.length uc else vs i)) := Lib.hid ((HF0.out.trans hF (by omega) (by omega)).set (Nat.le_refl _) (fun k hk => by have := hub k hk; omega))
    have HKW : Hid (Keeps tb W (U.setCell ⟨g, L.length * 2 + 1, none⟩ (.slice ua nx.length uc))) := Lib.hid (((Keeps.of g1).trans HKN.out).trans (q7 Y hK) |> fun h => h)
    have HGW := Lib.hid q6
    have hDs : W5.heap.size < U.heap.size := World.lt_of_block hDf
    have HM : Hid (Marks W.heap.size [{ target := .collected W5.heap.size, args := #[] }] (U.setCell ⟨g, L.length * 2 + 1, none⟩ (.slice ua nx.length uc))) := Lib.hid (Marks.setCell ⟨⟨W5.heap.size, rfl, by omega, hDf, fun d' hd => by simp at hd⟩, trivial⟩)
    obtain ⟨N, hN⟩ : ∃ N, (L1 ++ lV).length = N := ⟨_, rfl⟩
    rw [hN] at tv q2 hl2
    have q2' : L.length < N := by omega
    have q2I : (L.length : Int) < (N : Int) := by omega
    clear hN hl2 hLen
    unfold maxLen at q3
    clear hall hS hS' hj hG hF hd hn hu hK hrow hDf q1 q4 q5 q6 q7 hset hub
    go_wp2
    (refine wp_region_tail 8 (by kernel_rfl) (by kernel_rfl) (by decide) ?_; simp only [List.take_succ_cons, List.take_zero, List.drop_succ_cons, List.drop_zero, List.take_nil, List.drop_nil, List.append_nil, List.nil_append, List.cons_append, Nat.reduceAdd, Nat.reduceSub]; (repeat (refine wpCalm_step (fun K hK => ?_); go_simp; first | (refine hK _ ?_; clear hK K) | (apply Exists.intro; refine ⟨fun n' x' => ?_, hK _ ?_⟩; (fail); clear hK K))); refine wpCalm_nil ?_; intro nq xq)
    go_wp2
    refine Marks.leaves (B := W.heap.size) (fun W' => GS B W' tb z (L ++ ((f : Int), nx) :: lV) (fun i => if i = L.length then .slice ua nx.length uc else vs i) ∧ Keeps tb W W') (fun W' D h hD hd => ⟨h.1.putL hd rfl (by omega), h.2.put (o := .deferred (some [])) hD⟩) (fun W' h => ⟨_, by simp [results, Try.results96, go_sem] <;> rfl, _, _, _, rfl, HGood.out, h.1, HFr.out, h.2⟩) _ _ ?_ ⟨?_, ?_⟩
    · exact HM.out.mono (by (repeat (first | exact World.grows.refl _ | assumption | refine World.grows.alloc ?_ _ | refine World.grows.plus ?_ _ _ | refine World.grows.drew ?_)))
    · exact HGW.out.mono (by (repeat (first | exact World.grows.refl _ | assumption | refine World.grows.alloc ?_ _ | refine World.grows.plus ?_ _ _ | refine World.grows.drew ?_)))
    · exact HKW.out.trans (Keeps.of (by (repeat (first | exact World.grows.refl _ | assumption | refine World.grows.alloc ?_ _ | refine World.grows.plus ?_ _ _ | refine World.grows.drew ?_))))
end Go.Proofs.Ytdminglglapnlaa

/-
  What is proved: a node (47) of the chapter's examples.
-/
namespace Go.Proofs.Ytdminglglapnlaa
open Go.RowKit
attribute [local irreducible] Go.wpCalm

def nodeL (f : Nat → Int) (k : Nat) : List Value := tableL k 2 (bcell (fun b => f (2 * b)) (fun b => f (2 * b + 1)))
theorem node_sl {w : World} {base : Nat} {nv : Value} {f : Nat → Int} (h : w.ownsRow base 129 2 nv 2 (nodeL f 2)) : SliceAt w nv 2 2 (bcell (fun b => f (2 * b)) (fun b => f (2 * b + 1))) := h.sliceAt fun i j hi hj => tableL_get _ hi hj
set_option maxHeartbeats 2000000 in
theorem node_c (w : World) (x : Int) (lv : Value) (f : Nat → Int) (hl : IntsAt w lv 4 f) :
    Calls Try.prog 47 #[.int .i64 x, lv] w fun e w' => ∃ nv, e = .returned (.agg #[.int .i64 x, nv]) ∧ w'.ownsRow (w.heap.size + 2) 129 2 nv 2 (nodeL f 2) ∧ w.grows w' := by
  obtain ⟨la, lc, rfl, l1, l2, hc⟩ := hl
  obtain ⟨lb, lo, rfl, c0⟩ := hc 0 0 (by omega) (by omega)
  obtain ⟨_, _, e, c1⟩ := hc 1 0 (by omega) (by omega)
  cases e
  obtain ⟨_, _, e, c2⟩ := hc 2 0 (by omega) (by omega)
  cases e
  obtain ⟨_, _, e, c3⟩ := hc 3 0 (by omega) (by omega)
  cases e
  simp only [Nat.zero_mul, Nat.add_zero, Nat.mul_one] at c0 c1 c2 c3
  clear hc
  go_enter Try.func47, Try.ntmps47
  go_wp2
  go_loopw [6] (fun i wr => ∃ (k : Nat) (n : Int) (nv : Value), k ≤ 2 ∧ n = 2 * k ∧ i = .int .i64 n ∧ Hid (wr.heap[w.heap.size]? = some (.cells #[.int .i64 0, .slice none 0 0] 83)) ∧ Hid (wr.heap[w.heap.size + 1]? = some (.cells #[.int .i64 x, nv] 83)) ∧ Hid (wr.ownsRow (w.heap.size + 2) 129 2 nv k (nodeL f k)) ∧ Hid (w.grows wr)) (fun i _ => 4 - (intOf i).toNat)
  case atStart => exact ⟨0, 0, .slice none 0 0, by omega, rfl, rfl, Lib.hid (World.grows.heap_of (World.grows.alloc (World.grows.refl _) _) (World.heap_at _ _ _ rfl)), Lib.hid (World.heap_at _ _ _ (by simp)), Lib.hid (World.ownsRow_nil _ _ _ _), Lib.hid (by (repeat (first | exact World.grows.refl _ | assumption | refine World.grows.alloc ?_ _ | refine World.grows.plus ?_ _ _ | refine World.grows.drew ?_)))⟩
  case round =>
    obtain ⟨k, n, nv, hk, hn, rfl, H0, H1, Ho, Hg⟩ := hrel
    have hk' : k = 0 ∨ k = 1 ∨ k = 2 := by omega
    have k10 : wr.cell? ⟨w.heap.size + 1, 0, none⟩ = some (.int .i64 x) := cell_of_heap H1.out rfl
    have k11 : wr.cell? ⟨w.heap.size + 1, 1, none⟩ = some nv := cell_of_heap H1.out rfl
    have k00 : wr.cell? ⟨w.heap.size, 0, none⟩ = some (.int .i64 0) := cell_of_heap H0.out rfl
    have k01 : wr.cell? ⟨w.heap.size, 1, none⟩ = some (.slice none 0 0) := cell_of_heap H0.out rfl
    have f00 := frozen_of_heap H0.out 0
    have f01 := frozen_of_heap H0.out 1
    have f11 := frozen_of_heap H1.out 1
    have hs0 := World.lt_of_block H1.out
    replace c0 := Hg.out.cell_of c0
    replace c1 := Hg.out.cell_of c1
    replace c2 := Hg.out.cell_of c2
    replace c3 := Hg.out.cell_of c3
    obtain ⟨na, nc, rfl, -, -⟩ := row_form Ho.out
    rcases hk' with rfl | rfl | rfl
    · obtain rfl : n = 0 := (by omega); clear hn; have hw : IntKind.i64.wrap 1 = 1 := (by decide); go_wp2; (refine wp_region_made 13 12 _ rfl (by kernel_rfl) (by kernel_rfl) (by decide) (by decide) rfl ?_; simp only [List.take_succ_cons, List.take_zero, List.drop_succ_cons, List.drop_zero, List.take_nil, List.drop_nil, List.append_nil, List.nil_append, List.cons_append, Nat.reduceAdd, Nat.reduceSub]; (repeat (refine wpCalm_step (fun K hK => ?_); go_simp; first | (refine hK _ ?_; clear hK K) | (apply Exists.intro; refine ⟨fun n' x' => ?_, hK _ ?_⟩; (fail); clear hK K))); refine wpCalm_nil ⟨((fun b => .slice (some ⟨b, 0, none⟩) 1 1), _), fun n' x' => (by go_simp; first | exact ⟨rfl, rfl⟩ | rfl), ?_⟩; intro kq x1q mq x2q); clear hw
      go_wp2_with (at_builtin; go_loud (refine wpList_append_r _ rfl _ _ _ (by rfl) (w.heap.size + 2) 129 (.agg #[.int .i64 0, .int .i64 0]) 2 16 Try.underlying81 el129 (by rfl) (by omega) _ 0 _ (by rfl) (Ho.out.grow (by (repeat (first | exact World.grows.refl _ | assumption | refine World.grows.alloc ?_ _ | refine World.grows.plus ?_ _ _ | refine World.grows.drew ?_)))) _ (by rfl) 1 _ (SliceAt.src (by omega) ((two_slice _ _ _ _ _ (by simp)).mono (World.grows_plus _ _ _))) (two_cells _ _) (by unfold maxLen; omega) (by omega) (by simp; omega) ?_; intro v' w3 hown hgb; obtain ⟨va, vc, rfl, -, -⟩ := row_form hown; have u0 : w3.heap[w.heap.size]? = some (.cells #[.int .i64 0, .slice none 0 0] 83) := (hgb.block _ (by simp; omega) (fun e => (by have := (Ho.out.lt _ e.symm).1; omega))).trans (World.grows.heap_of (by (repeat (first | exact World.grows.refl _ | assumption | refine World.grows.alloc ?_ _ | refine World.grows.plus ?_ _ _ | refine World.grows.drew ?_))) H0.out); have u1 : w3.heap[w.heap.size + 1]? = some (.cells #[.int .i64 x, .slice na 0 nc] 83) := (hgb.block _ (by simp; omega) (fun e => (by have := (Ho.out.lt _ e.symm).1; omega))).trans (World.grows.heap_of (by (repeat (first | exact World.grows.refl _ | assumption | refine World.grows.alloc ?_ _ | refine World.grows.plus ?_ _ _ | refine World.grows.drew ?_))) H1.out); have q11 : w3.cell? ⟨w.heap.size + 1, 1, none⟩ = some (.slice na 0 nc) := cell_of_heap u1 rfl; have qf := frozen_of_heap u1 1; have Hgb := Lib.hid hgb; have Ho2 := Lib.hid hown; have U0 := Lib.hid u0; have U1 := Lib.hid u1; clear hgb hown u0 u1))
      have hg3 : w.grows w3 := Hgb.out.grows (Ho.out.grow (by (repeat (first | exact World.grows.refl _ | assumption | refine World.grows.alloc ?_ _ | refine World.grows.plus ?_ _ _ | refine World.grows.drew ?_)))) (Hg.out.trans (by (repeat (first | exact World.grows.refl _ | assumption | refine World.grows.alloc ?_ _ | refine World.grows.plus ?_ _ _ | refine World.grows.drew ?_)))) (by omega); have en : nodeL f (0 + 1) = nodeL f 0 ++ tableL 1 2 (kcell (fun _ => f 0) (fun _ => f 1)) := rfl; refine ⟨⟨0 + 1, 0 + 2, _, by omega, by omega, rfl, Lib.hid (by rw [World.heap_setCell_map _ _ _ _ (show w.heap.size + 1 ≠ w.heap.size by omega)]; exact U0.out), Lib.hid ((store_of_heap U1.out 1 _).trans rfl), Lib.hid (by rw [en]; exact Ho2.out.set (p := ⟨w.heap.size + 1, 1, none⟩) (by simp) _), Lib.hid (hg3.setCell (by simp) _)⟩, by simp [intOf]⟩
    · obtain rfl : n = 2 := (by omega); clear hn; have hw : IntKind.i64.wrap 3 = 3 := (by decide); go_wp2; (refine wp_region_made 13 12 _ rfl (by kernel_rfl) (by kernel_rfl) (by decide) (by decide) rfl ?_; simp only [List.take_succ_cons, List.take_zero, List.drop_succ_cons, List.drop_zero, List.take_nil, List.drop_nil, List.append_nil, List.nil_append, List.cons_append, Nat.reduceAdd, Nat.reduceSub]; (repeat (refine wpCalm_step (fun K hK => ?_); go_simp; first | (refine hK _ ?_; clear hK K) | (apply Exists.intro; refine ⟨fun n' x' => ?_, hK _ ?_⟩; (fail); clear hK K))); refine wpCalm_nil ⟨((fun b => .slice (some ⟨b, 0, none⟩) 1 1), _), fun n' x' => (by go_simp; first | exact ⟨rfl, rfl⟩ | rfl), ?_⟩; intro kq x1q mq x2q); clear hw
      go_wp2_with (at_builtin; go_loud (refine wpList_append_r _ rfl _ _ _ (by rfl) (w.heap.size + 2) 129 (.agg #[.int .i64 0, .int .i64 0]) 2 16 Try.underlying81 el129 (by rfl) (by omega) _ 1 _ (by rfl) (Ho.out.grow (by (repeat (first | exact World.grows.refl _ | assumption | refine World.grows.alloc ?_ _ | refine World.grows.plus ?_ _ _ | refine World.grows.drew ?_)))) _ (by rfl) 1 _ (SliceAt.src (by omega) ((two_slice _ _ _ _ _ (by simp)).mono (World.grows_plus _ _ _))) (two_cells _ _) (by unfold maxLen; omega) (by omega) (by simp; omega) ?_; intro v' w3 hown hgb; obtain ⟨va, vc, rfl, -, -⟩ := row_form hown; have u0 : w3.heap[w.heap.size]? = some (.cells #[.int .i64 0, .slice none 0 0] 83) := (hgb.block _ (by simp; omega) (fun e => (by have := (Ho.out.lt _ e.symm).1; omega))).trans (World.grows.heap_of (by (repeat (first | exact World.grows.refl _ | assumption | refine World.grows.alloc ?_ _ | refine World.grows.plus ?_ _ _ | refine World.grows.drew ?_))) H0.out); have u1 : w3.heap[w.heap.size + 1]? = some (.cells #[.int .i64 x, .slice na 1 nc] 83) := (hgb.block _ (by simp; omega) (fun e => (by have := (Ho.out.lt _ e.symm).1; omega))).trans (World.grows.heap_of (by (repeat (first | exact World.grows.refl _ | assumption | refine World.grows.alloc ?_ _ | refine World.grows.plus ?_ _ _ | refine World.grows.drew ?_))) H1.out); have q11 : w3.cell? ⟨w.heap.size + 1, 1, none⟩ = some (.slice na 1 nc) := cell_of_heap u1 rfl; have qf := frozen_of_heap u1 1; have Hgb := Lib.hid hgb; have Ho2 := Lib.hid hown; have U0 := Lib.hid u0; have U1 := Lib.hid u1; clear hgb hown u0 u1))
      have hg3 : w.grows w3 := Hgb.out.grows (Ho.out.grow (by (repeat (first | exact World.grows.refl _ | assumption | refine World.grows.alloc ?_ _ | refine World.grows.plus ?_ _ _ | refine World.grows.drew ?_)))) (Hg.out.trans (by (repeat (first | exact World.grows.refl _ | assumption | refine World.grows.alloc ?_ _ | refine World.grows.plus ?_ _ _ | refine World.grows.drew ?_)))) (by omega); have en : nodeL f (1 + 1) = nodeL f 1 ++ tableL 1 2 (kcell (fun _ => f 2) (fun _ => f 3)) := rfl; refine ⟨⟨1 + 1, 2 + 2, _, by omega, by omega, rfl, Lib.hid (by rw [World.heap_setCell_map _ _ _ _ (show w.heap.size + 1 ≠ w.heap.size by omega)]; exact U0.out), Lib.hid ((store_of_heap U1.out 1 _).trans rfl), Lib.hid (by rw [en]; exact Ho2.out.set (p := ⟨w.heap.size + 1, 1, none⟩) (by simp) _), Lib.hid (hg3.setCell (by simp) _)⟩, by simp [intOf]⟩
    · obtain rfl : n = 4 := by omega
      clear hn
      go_wp2
      generalize hU : World.setCell _ _ _ = U
      have c7 : U.heap[w.heap.size]? = some (.cells #[.int .i64 x, .slice na 2 nc] 83) := by rw [← hU]; exact (store_of_heap (store_of_heap H0.out 0 _) 1 _).trans rfl
      have x0 : U.cell? ⟨w.heap.size, 0, none⟩ = some (.int .i64 x) := cell_of_heap c7 rfl
      have x1 : U.cell? ⟨w.heap.size, 1, none⟩ = some (.slice na 2 nc) := cell_of_heap c7 rfl
      refine bodyPost_ret (v := .agg #[.int .i64 x, .slice na 2 nc]) (by simp [results, Try.results47, go_sem, x0, x1]) rfl ?_
      rw [← hU]
      refine ⟨_, rfl, ?_, World.grows.setCell (World.grows.setCell Hg.out (by simp) _) (by simp) _⟩
      exact (Ho.out.set (p := ⟨w.heap.size, 0, none⟩) (by simp) (.int .i64 x)).set (p := ⟨w.heap.size, 1, none⟩) (by simp) (.slice na 2 nc)
end Go.Proofs.Ytdminglglapnlaa

/-
  What is proved: the tree (46) and a table (49) of the chapter's examples.
-/
namespace Go.Proofs.Ytdminglglapnlaa
open Go.RowKit
attribute [local irreducible] Go.wpCalm

def nodeF (L : List Int) (i : Nat) : Int := L.getD i 0
set_option maxHeartbeats 2000000 in
theorem exTree_c (w : World) : Calls Try.prog 46 #[] w fun e w' => ∃ v, e = .returned v ∧ TreeAt w' v exT ∧ w.grows w' := by
  go_enter Try.func46, Try.ntmps46
  go_wp2_with (go_at_call 44; fail)
  refine (node_c _ _ _ (nodeF [0, 1, 1, -9]) (cells_at _ _ _ 4 1 _ (by simp) (by decide) (fun i j hi hj => by have hj' : j = 0 := (by omega); have hi' : i = 0 ∨ i = 1 ∨ i = 2 ∨ i = 3 ∨ i = 4 := (by omega); subst hj'; rcases hi' with rfl | rfl | rfl | rfl | rfl <;> first | rfl | omega))).mono ?_
  rintro e W1 ⟨n1, rfl, s1, g⟩
  have C0 : Hid (W1.heap[w.heap.size]? = some (.cells #[.int .i64 0, .slice none 0 0] 28)) := Lib.hid (g.heap_of (World.grows.heap_of (by (repeat (first | exact World.grows.refl _ | assumption | refine World.grows.alloc ?_ _ | refine World.grows.plus ?_ _ _ | refine World.grows.drew ?_))) (World.heap_at _ _ _ rfl)))
  have S1 := Lib.hid s1
  have G1 : Hid (w.grows W1) := Lib.hid (World.grows.trans (by (repeat (first | exact World.grows.refl _ | assumption | refine World.grows.alloc ?_ _ | refine World.grows.plus ?_ _ _ | refine World.grows.drew ?_))) g)
  have hs1 : w.heap.size < W1.heap.size := World.lt_of_block C0.out
  clear g s1
  go_wp2_with (go_at_call 44; fail)
  refine (node_c _ _ _ (nodeF [0, -8, 1, -10]) (cells_at _ _ _ 4 1 _ (by simp) (by decide) (fun i j hi hj => by have hj' : j = 0 := (by omega); have hi' : i = 0 ∨ i = 1 ∨ i = 2 ∨ i = 3 ∨ i = 4 := (by omega); subst hj'; rcases hi' with rfl | rfl | rfl | rfl | rfl <;> first | rfl | omega))).mono ?_
  rintro e W2 ⟨n2, rfl, s2, g⟩
  have G2 : Hid (W1.grows W2) := Lib.hid (World.grows.trans (by (repeat (first | exact World.grows.refl _ | assumption | refine World.grows.alloc ?_ _ | refine World.grows.plus ?_ _ _ | refine World.grows.drew ?_))) g)
  have S2 := Lib.hid s2
  have c5 := World.grows.heap_of G2.out C0.out
  have c50 : W2.cell? ⟨w.heap.size, 0, none⟩ = some (.int .i64 0) := cell_of_heap c5 rfl
  have c51 : W2.cell? ⟨w.heap.size, 1, none⟩ = some (.slice none 0 0) := cell_of_heap c5 rfl
  have f50 := frozen_of_heap c5 0
  have f51 := frozen_of_heap c5 1
  have hs5 : w.heap.size < W2.heap.size := World.lt_of_block c5
  have C5 := Lib.hid c5
  clear c5 g s2
  obtain ⟨b1, o1, rfl, -, -⟩ := row_form S1.out
  obtain ⟨b2, o2, rfl, -, -⟩ := row_form S2.out
  have H1 := G1.out.size
  go_wp2
  generalize hU : World.alloc _ _ = U
  have c7 : U.heap[w.heap.size]? = some (.cells #[.int .i64 0, .slice (some ⟨W2.heap.size, 0, none⟩) 2 2] 28) := by rw [← hU]; exact (World.grows.heap_of (World.grows.alloc (World.grows.refl _) _) (store_of_heap (store_of_heap C5.out 0 _) 1 _)).trans rfl
  have x0 : U.cell? ⟨w.heap.size, 0, none⟩ = some (.int .i64 0) := cell_of_heap c7 rfl
  have x1 : U.cell? ⟨w.heap.size, 1, none⟩ = some (.slice (some ⟨W2.heap.size, 0, none⟩) 2 2) := cell_of_heap c7 rfl
  refine bodyPost_ret (v := .agg #[.int .i64 0, .slice (some ⟨W2.heap.size, 0, none⟩) 2 2]) (by simp [results, Try.results46, go_sem, x0, x1]) rfl ?_
  rw [← hU]
  have q1 := node_sl (((((S1.out.down (base' := w.heap.size + 1) (by simp <;> omega)).grow G2.out).set (p := ⟨w.heap.size, 0, none⟩) (by simp) (.int .i64 0)).set (p := ⟨w.heap.size, 1, none⟩) (by simp) (.slice (some ⟨W2.heap.size, 0, none⟩) 2 2)))
  have q2 := node_sl (((S2.out.down (base' := w.heap.size + 1) (by simp <;> omega)).set (p := ⟨w.heap.size, 0, none⟩) (by simp) (.int .i64 0)).set (p := ⟨w.heap.size, 1, none⟩) (by simp) (.slice (some ⟨W2.heap.size, 0, none⟩) 2 2))
  refine ⟨_, rfl, ⟨_, rfl, fun i => if i = 0 then .slice b1 2 o1 else .slice b2 2 o2, cells_at _ _ _ 2 2 _ (by simp) (by decide) (fun i j hi hj => by have hj' : j = 0 ∨ j = 1 := (by omega); have hi' : i = 0 ∨ i = 1 ∨ i = 2 ∨ i = 3 ∨ i = 4 := (by omega); rcases hi' with rfl | rfl | rfl | rfl | rfl <;> rcases hj' with rfl | rfl <;> first | rfl | omega), fun i hi => ?_⟩, World.grows.alloc (World.grows.setCell (World.grows.setCell (G1.out.trans G2.out) (by simp) _) (by simp) _) _⟩
  have hi' : i = 0 ∨ i = 1 := by have : i < 2 := hi; omega
  rcases hi' with rfl | rfl
  · exact (q1.mono (World.grows.alloc (World.grows.refl _) _)).congr (fun i j hi hj => by have hj' : j = 0 ∨ j = 1 := (by omega); have hi' : i = 0 ∨ i = 1 ∨ i = 2 ∨ i = 3 ∨ i = 4 := (by omega); rcases hi' with rfl | rfl | rfl | rfl | rfl <;> rcases hj' with rfl | rfl <;> first | rfl | omega)
  · exact (q2.mono (World.grows.alloc (World.grows.refl _) _)).congr (fun i j hi hj => by have hj' : j = 0 ∨ j = 1 := (by omega); have hi' : i = 0 ∨ i = 1 ∨ i = 2 ∨ i = 3 ∨ i = 4 := (by omega); rcases hi' with rfl | rfl | rfl | rfl | rfl <;> rcases hj' with rfl | rfl <;> first | rfl | omega)
set_option maxHeartbeats 2000000 in
theorem exTab_c (w : World) (x : Int) : Calls Try.prog 49 #[.int .i64 x] w fun e w' => ∃ v, e = .returned v ∧ TableAt w' v (exB x) ∧ w.grows w' := by
  go_enter Try.func49, Try.ntmps49
  go_wp2_with (go_at_call 44; fail)
  refine (bound_s _ _ _ _ _).mono ?_
  rintro e W1 ⟨rfl, g⟩
  have R1 := Lib.hid ((cells_at _ _ _ 2 1 (fun i _ => .int .i64 (exEl 0 i)) rfl (by decide) (fun i j hi hj => by have hj' : j = 0 := (by omega); have hi' : i = 0 ∨ i = 1 ∨ i = 2 ∨ i = 3 ∨ i = 4 := (by omega); subst hj'; rcases hi' with rfl | rfl | rfl | rfl | rfl <;> first | rfl | omega)).mono g)
  have G1 : Hid (w.grows W1) := Lib.hid (World.grows.trans (by (repeat (first | exact World.grows.refl _ | assumption | refine World.grows.alloc ?_ _ | refine World.grows.plus ?_ _ _ | refine World.grows.drew ?_))) g)
  clear g
  go_wp2_with (go_at_call 44; fail)
  refine (bound_s _ _ _ _ _).mono ?_; rintro e W2 ⟨rfl, g⟩; have R2 := Lib.hid ((cells_at _ _ _ 2 1 (fun i _ => .int .i64 (exEl 1 i)) rfl (by decide) (fun i j hi hj => by have hj' : j = 0 := (by omega); have hi' : i = 0 ∨ i = 1 ∨ i = 2 ∨ i = 3 ∨ i = 4 := (by omega); subst hj'; rcases hi' with rfl | rfl | rfl | rfl | rfl <;> first | rfl | omega)).mono g); have G2 : Hid (W1.grows W2) := Lib.hid (World.grows.trans (by (repeat (first | exact World.grows.refl _ | assumption | refine World.grows.alloc ?_ _ | refine World.grows.plus ?_ _ _ | refine World.grows.drew ?_))) g); clear g
  go_wp2_with (go_at_call 44; fail)
  refine (bound_s _ _ _ _ _).mono ?_; rintro e W3 ⟨rfl, g⟩; have R3 := Lib.hid ((cells_at _ _ _ 3 1 (fun i _ => .int .i64 (exEl 2 i)) rfl (by decide) (fun i j hi hj => by have hj' : j = 0 := (by omega); have hi' : i = 0 ∨ i = 1 ∨ i = 2 ∨ i = 3 ∨ i = 4 := (by omega); subst hj'; rcases hi' with rfl | rfl | rfl | rfl | rfl <;> first | rfl | omega)).mono g); have G3 : Hid (W2.grows W3) := Lib.hid (World.grows.trans (by (repeat (first | exact World.grows.refl _ | assumption | refine World.grows.alloc ?_ _ | refine World.grows.plus ?_ _ _ | refine World.grows.drew ?_))) g); clear g
  go_wp2_with (go_at_call 44; fail)
  refine (bound_s _ _ _ _ _).mono ?_; rintro e W4 ⟨rfl, g⟩; have R4 := Lib.hid ((cells_at _ _ _ 3 1 (fun i _ => .int .i64 (exEl 3 i)) rfl (by decide) (fun i j hi hj => by have hj' : j = 0 := (by omega); have hi' : i = 0 ∨ i = 1 ∨ i = 2 ∨ i = 3 ∨ i = 4 := (by omega); subst hj'; rcases hi' with rfl | rfl | rfl | rfl | rfl <;> first | rfl | omega)).mono g); have G4 : Hid (W3.grows W4) := Lib.hid (World.grows.trans (by (repeat (first | exact World.grows.refl _ | assumption | refine World.grows.alloc ?_ _ | refine World.grows.plus ?_ _ _ | refine World.grows.drew ?_))) g); clear g
  go_wp2_with (go_at_call 44; fail)
  refine (bound_s _ _ _ _ _).mono ?_; rintro e W5 ⟨rfl, g⟩; have R5 := Lib.hid ((cells_at _ _ _ 5 1 (fun i _ => .int .i64 (exEl 4 i)) rfl (by decide) (fun i j hi hj => by have hj' : j = 0 := (by omega); have hi' : i = 0 ∨ i = 1 ∨ i = 2 ∨ i = 3 ∨ i = 4 := (by omega); subst hj'; rcases hi' with rfl | rfl | rfl | rfl | rfl <;> first | rfl | omega)).mono g); have G5 : Hid (W4.grows W5) := Lib.hid (World.grows.trans (by (repeat (first | exact World.grows.refl _ | assumption | refine World.grows.alloc ?_ _ | refine World.grows.plus ?_ _ _ | refine World.grows.drew ?_))) g); clear g
  go_wp2
  (refine bodyPost_ret (v := .slice (some ⟨W5.heap.size, 0, none⟩) 5 5) (by simp [results, Try.results49, go_sem]) rfl ?_)
  refine ⟨_, rfl, ⟨fun m => ([.slice (some ⟨w.heap.size, 0, none⟩) 2 2, .slice (some ⟨W1.heap.size, 0, none⟩) 2 2, .slice (some ⟨W2.heap.size, 0, none⟩) 3 3, .slice (some ⟨W3.heap.size, 0, none⟩) 3 3, .slice (some ⟨W4.heap.size, 0, none⟩) 5 5] : List Value).getD m undef, cells_at _ _ _ 5 2 _ rfl (by decide) (fun i j hi hj => by have hj' : j = 0 ∨ j = 1 := (by omega); have hi' : i = 0 ∨ i = 1 ∨ i = 2 ∨ i = 3 ∨ i = 4 := (by omega); rcases hi' with rfl | rfl | rfl | rfl | rfl <;> rcases hj' with rfl | rfl <;> first | rfl | omega), ?_⟩, World.grows.alloc (G1.out.trans (G2.out.trans (G3.out.trans (G4.out.trans G5.out)))) _⟩
  refine five ?_ ?_ ?_ ?_ ?_
  · exact (R1.out.mono (G2.out.trans (G3.out.trans (G4.out.trans G5.out)))).mono (World.grows.alloc (World.grows.refl _) _)
  · exact (R2.out.mono (G3.out.trans (G4.out.trans G5.out))).mono (World.grows.alloc (World.grows.refl _) _)
  · exact (R3.out.mono (G4.out.trans G5.out)).mono (World.grows.alloc (World.grows.refl _) _)
  · exact (R4.out.mono G5.out).mono (World.grows.alloc (World.grows.refl _) _)
  · exact R5.out.mono (World.grows.alloc (World.grows.refl _) _)
end Go.Proofs.Ytdminglglapnlaa

