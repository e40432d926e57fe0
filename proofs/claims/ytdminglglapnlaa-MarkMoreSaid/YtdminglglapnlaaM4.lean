/-
  What is proved: the law of a region that draws its order, with ONE operation that changes a block that is there, of which the others' values do not depend.
-/
import Derived.Test.YtdminglglapnlaaM3
set_option linter.all false
namespace Go
open Go.RowKit

section
variable {P : Program} {ops : Array Oper} {w0 w1 : World}

/-- a read or a call that has the same value before the change and behind it -/
def Oper.calm2 (P : Program) (o : Oper) (a : Act) (w0 w1 : World) (K : Act → Prop) : Prop := ∃ v, ((∀ n x, o.calmAt P a (w0.plus n x) v) ∧ (∀ n x, o.calmAt P a (w1.plus n x) v)) ∧ K (a.put o.dst v)
def wpCalm2 (P : Program) (ops : Array Oper) (w0 w1 : World) (K : Act → Prop) : List Oper → Act → Prop
  | [], a => K a
  | o :: r, a => if Region.wanted o (yielded ops a.tmps) then o.calm2 P a w0 w1 (wpCalm2 P ops w0 w1 K r) else wpCalm2 P ops w0 w1 K r (a.put o.dst undef)
attribute [go_sem] Oper.calm2

theorem wpCalm2_nil {K : Act → Prop} {a : Act} (h : K a) : wpCalm2 P ops w0 w1 K [] a := h
theorem wpCalm2_step {Q : Act → Prop} {a : Act} {o : Oper} {r : List Oper}
    (h : ∀ K : Act → Prop, (∀ a, wpCalm2 P ops w0 w1 Q r a → K a) → if Region.wanted o (yielded ops a.tmps) then o.calm2 P a w0 w1 K else K (a.put o.dst undef)) : wpCalm2 P ops w0 w1 Q (o :: r) a :=
  h _ (fun _ h => h)

theorem wpCalm2_cons {K : Act → Prop} {a : Act} {o : Oper} {r : List Oper} : wpCalm2 P ops w0 w1 K (o :: r) a ↔ ∃ v, (YieldsC P ops w0 o v a ∧ YieldsC P ops w1 o v a) ∧ wpCalm2 P ops w0 w1 K r (a.put o.dst v) := by
  simp only [wpCalm2]
  by_cases hw : Region.wanted o (yielded ops a.tmps) = true
  · simp only [hw, if_true, Oper.calm2, YieldsC, true_and, Bool.true_eq_false, false_and, or_false]
  · have hw' : Region.wanted o (yielded ops a.tmps) = false := by simpa using hw
    simp only [hw', if_false, YieldsC, Bool.false_eq_true, false_and, true_and, false_or, and_self, exists_eq_left]

theorem wpCalm2.snd {K : Act → Prop} : ∀ (l : List Oper) (a : Act), wpCalm2 P ops w0 w1 K l a → wpCalm P ops w1 K l a
  | [], _, h => h
  | o :: l, a, h => by
    obtain ⟨v, hv, h'⟩ := wpCalm2_cons.1 h
    exact wpCalm_cons.2 ⟨v, hv.2, wpCalm2.snd l _ h'⟩

theorem calm2_front {K : Act → Prop} {o : Oper} {l2 : List Oper} (hso : ∀ cs b, o.op ≠ .select cs b) : ∀ (l1 : List Oper) (a : Act),
    (∀ y ∈ l1, o.apart ops y = true ∧ ∀ cs b, y.op ≠ .select cs b) → wpCalm2 P ops w0 w1 K (l1 ++ o :: l2) a →
    ∃ v, (YieldsC P ops w0 o v a ∧ YieldsC P ops w1 o v a) ∧ wpCalm2 P ops w0 w1 K (l1 ++ l2) (a.put o.dst v)
  | [], a, _, h => wpCalm2_cons.1 h
  | y :: l1, a, hap, h => by
    obtain ⟨u, hy, h'⟩ := wpCalm2_cons.1 h
    obtain ⟨v, hv, h''⟩ := calm2_front hso l1 _ (fun z hz => hap z (List.mem_cons_of_mem _ hz)) h'
    obtain ⟨ha, hsy⟩ := hap y (List.mem_cons_self ..)
    obtain ⟨h1, h2, h3⟩ := Oper.apart_spec ha
    refine ⟨v, ⟨(YieldsC.put hso h3).1 hv.1, (YieldsC.put hso h3).1 hv.2⟩, ?_⟩
    rw [List.cons_append]
    refine wpCalm2_cons.2 ⟨u, ⟨(YieldsC.put hsy h1).2 hy.1, (YieldsC.put hsy h1).2 hy.2⟩, ?_⟩
    rw [Act.put_comm a v u h2]
    exact h''

/-- the operation that makes the change -/
def Oper.stirs (P : Program) (o : Oper) (a : Act) (w0 w1 : World) (v : Value) : Prop := ∀ n x, ∃ W', (execOp a.eval o).run P (w0.plus n x) = .ok (.value v) W' ∧ w1.grows W'
theorem Oper.stirs_put {x y : Oper} {v u : Value} {a : Act} (hs : ∀ cs b, x.op ≠ .select cs b) (hd : ∀ d, y.dst = some d → d ∉ x.looksAt ops) :
    x.stirs P (a.put y.dst u) w0 w1 v ↔ x.stirs P a w0 w1 v := by
  unfold Oper.stirs
  rw [execOp_put x hs a y.dst u hd]

theorem stir_front {K : Act → Prop} {o : Oper} (hso : ∀ cs b, o.op ≠ .select cs b) : ∀ (es : List Oper) (a : Act),
    (∀ y ∈ es, o.apart ops y = true ∧ ∀ cs b, y.op ≠ .select cs b) → wpCalm2 P ops w0 w1 (fun a' => ∃ v, o.stirs P a' w0 w1 v ∧ K (a'.put o.dst v)) es a →
    ∃ v, o.stirs P a w0 w1 v ∧ wpCalm2 P ops w0 w1 K es (a.put o.dst v)
  | [], a, _, h => h
  | y :: es, a, hap, h => by
    obtain ⟨u, hy, h'⟩ := wpCalm2_cons.1 h
    obtain ⟨v, hv, h''⟩ := stir_front hso es _ (fun z hz => hap z (List.mem_cons_of_mem _ hz)) h'
    obtain ⟨ha, hsy⟩ := hap y (List.mem_cons_self ..)
    obtain ⟨h1, h2, h3⟩ := Oper.apart_spec ha
    refine ⟨v, (Oper.stirs_put hso h3).1 hv, wpCalm2_cons.2 ⟨u, ⟨(YieldsC.put hsy h1).2 hy.1, (YieldsC.put hsy h1).2 hy.2⟩, ?_⟩⟩
    rw [Act.put_comm a v u h2]
    exact h''

variable {F : Fence} (hF : F.Free P) {N : Nat}

theorem wpCalm_app {K : Act → Prop} : ∀ (l1 l2 : List Oper) (a : Act), wpCalm P ops w1 (wpCalm P ops w1 K l2) l1 a → wpCalm P ops w1 K (l1 ++ l2) a
  | [], _, _, h => h
  | o :: l1, l2, a, h => by
    obtain ⟨v, hv, h'⟩ := wpCalm_cons.1 h
    exact wpCalm_cons.2 ⟨v, hv, wpCalm_app l1 l2 _ h'⟩

/-- the operations below m do not wait for k, those from m on do -/
def Region.stirB (ops : Array Oper) (m n k : Nat) : Bool :=
  (List.range m).all (fun i => match ops[i]? with | some o => i == k || o.after.all (fun e => !Region.binds .any e || e.on != k) | none => true) &&
  (List.range n).all (fun i => decide (i < m) || Region.waitsFor .any ops i k)

include hF in
theorem wpAnyIn_of_stir {Q : Exit → Act → World → Prop} {m n k : Nat} {ok : Oper} (hkn : k < m) (hmn : m ≤ n) (hok : ops[k]? = some ok) (hgk : ok.guard = none)
    (hB : Region.mixB ops n [] = true) (hS : Region.stirB ops m n k = true) (hnd : Region.noDeferB ops = true)
    (hheads0 : ∀ (listed : Array Bool) (i0 : Nat), HeadInv .any ops n listed → i0 < n → listed.getD i0 true = false → ∀ t ∈ Region.ready .any ops listed, t < n)
    {K : Act → Prop} {es2 : List (Nat × Oper)} (he2 : ∀ p ∈ es2, m ≤ p.1 ∧ p.1 < n ∧ ops[p.1]? = some p.2) (he2m : ∀ i, m ≤ i → i < n → i ∈ es2.map (·.1)) (he2s : (es2.map (·.1)).Pairwise (· < ·))
    (hK : ∀ a, K a → ∀ n' x, ∀ listed, HeadInv .any ops n listed → (∀ i, i < n → listed.getD i false = true) → wpAnyIn F N P .any ops Q (ops.size - n) listed a (w1.plus n' x)) :
    ∀ (cnt : Nat) (es : List (Nat × Oper)) (listed : Array Bool) (a : Act),
      es.length = cnt → HeadInv .any ops n listed →
      (∀ i, i < n → (listed.getD i false = false ↔ i ∈ es.map (·.1) ∨ i = k ∨ m ≤ i)) →
      (∀ p ∈ es, p.1 < m ∧ ops[p.1]? = some p.2 ∧ p.1 ≠ k) → (es.map (·.1)).Pairwise (· < ·) →
      wpCalm2 P ops w0 w1 (fun a' => ∃ v, ok.stirs P a' w0 w1 v ∧ wpCalm P ops w1 K (es2.map (·.2)) (a'.put ok.dst v)) (es.map (·.2)) a →
      ∀ n' x, wpAnyIn F N P .any ops Q (cnt + es2.length + 1 + (ops.size - n)) listed a (w0.plus n' x) := by
  have hB0 := hB
  simp only [Region.mixB, Bool.and_eq_true, decide_eq_true_eq] at hB
  obtain ⟨⟨⟨hsel, hnle⟩, hpair⟩, hedge⟩ := hB
  have hsp := Region.noSelect_spec hsel
  simp only [Region.stirB, Bool.and_eq_true] at hS
  have pairOf : ∀ i j oi oj, i < j → j < n → ops[i]? = some oi → ops[j]? = some oj → Region.waitsFor .any ops j i = true ∨ oi.apart ops oj = true := by
    intro i j oi oj hij hj hi hoj
    have h1 := List.all_eq_true.1 (List.all_eq_true.1 hpair i (List.mem_range.2 (by omega))) j (List.mem_range.2 hj)
    simp only [Bool.or_eq_true, decide_eq_true_eq, Region.pairB, hi, hoj] at h1
    rcases h1 with h1 | h1
    · omega
    · exact h1
  have apart_symm : ∀ x y : Oper, x.apart ops y = true → y.apart ops x = true := by
    intro x y h
    unfold Oper.apart at *
    cases hx : x.dst <;> cases hy : y.dst <;> simp [hx, hy] at h ⊢
    · exact h
    · exact h
    · exact ⟨⟨h.2, fun e => h.1.2 e.symm⟩, h.1.1⟩
  have edgeOf : ∀ i o, i < n → ops[i]? = some o → ∀ e ∈ o.after, Region.binds .any e = true → e.on < i := by
    intro i o hi ho e he hb
    have h1 := List.all_eq_true.1 hedge i (List.mem_range.2 hi)
    simp only [ho, Bool.and_eq_true] at h1
    have h2 := Array.all_eq_true_iff_forall_mem.1 h1.1 e he
    simpa only [hb, Bool.not_true, Bool.false_or, decide_eq_true_eq] using h2
  have edgeK : ∀ i o, i < m → i ≠ k → ops[i]? = some o → ∀ e ∈ o.after, Region.binds .any e = true → e.on ≠ k := by
    intro i o hi hik ho e he hb
    have h1 := List.all_eq_true.1 hS.1 i (List.mem_range.2 hi)
    simp only [ho, Bool.or_eq_true, beq_iff_eq, hik, false_or] at h1
    have h2 := Array.all_eq_true_iff_forall_mem.1 h1 e he
    simpa [hb] using h2
  have late : ∀ i, m ≤ i → i < n → Region.waitsFor .any ops i k = true := by
    intro i hi hin
    have h1 := List.all_eq_true.1 hS.2 i (List.mem_range.2 hin)
    simp only [Bool.or_eq_true, decide_eq_true_eq] at h1
    rcases h1 with h1 | h1
    · omega
    · exact h1
  have unwait : ∀ (listed : Array Bool) (i j : Nat), i ∈ Region.ready .any ops listed → listed.getD j false = false → Region.waitsFor .any ops i j = true → False := by
    intro listed i j hi hj hw
    obtain ⟨oi, hoi, e, he, hb, hon⟩ := Region.waitsFor_spec hw
    obtain ⟨_, o', ho', hall⟩ := mem_ready.1 hi
    rw [hoi] at ho'; cases ho'
    have := hall e he hb
    rw [hon, hj] at this; cases this
  intro cnt
  induction cnt with
  | zero =>
    intro es listed a hc inv hmem hes hse h n' x
    have hkl : listed.getD k false = false := (hmem k (by omega)).2 (.inr (.inl rfl))
    have hheads := hheads0 listed k inv (by omega) (getD_in (by rw [inv.size]; omega) hkl)
    rw [show ∀ a b, a + 1 + b = (a + b) + 1 by omega]
    refine ⟨fun hnil => ?_, fun i hi => ?_⟩
    · exfalso
      have first : ∀ i o, i < m → ops[i]? = some o → listed.getD i false = false → (∀ j, j < i → listed.getD j false = true ∨ (i ≠ k ∧ j = k)) → False := by
        intro i o hi ho hl hall
        have : i ∈ Region.ready .any ops listed := mem_ready.2 ⟨getD_in (by rw [inv.size]; omega) hl, o, ho, fun e he hb => by
          have h1 := edgeOf i o (by omega) ho e he hb
          rcases hall e.on h1 with h3 | ⟨h3, h4⟩
          · exact h3
          · exact absurd h4 (edgeK i o hi h3 ho e he hb)⟩
        rw [hnil] at this; cases this
      cases es with
      | nil =>
        refine first k ok hkn hok hkl fun j hj => ?_
        cases hl : listed.getD j false with
        | true => exact .inl rfl
        | false =>
          rcases (hmem j (by omega)).1 hl with h4 | h4 | h4
          · simp at h4
          · omega
          · omega
      | cons p es =>
        obtain ⟨h1, h2, h3⟩ := hes p (List.mem_cons_self ..)
        refine first p.1 p.2 h1 h2 ((hmem p.1 (by omega)).2 (.inl (by simp))) fun j hj => ?_
        cases hl : listed.getD j false with
        | true => exact .inl rfl
        | false =>
          refine .inr ⟨h3, ?_⟩
          rcases (hmem j (by omega)).1 hl with h4 | h4 | h4
          · simp only [List.map_cons, List.mem_cons] at h4
            simp only [List.map_cons, List.pairwise_cons] at hse
            rcases h4 with h4 | h4
            · omega
            · have := hse.1 j h4; omega
          · exact h4
          · omega
    · have hin := hheads i hi
      have hl : listed.getD i false = false := getD_both (mem_ready.1 hi).1
      have inv' := inv.set hi hin
      have set_mem : ∀ j, j < n → j ≠ i → ((listed.setIfInBounds i true).getD j false = false ↔ listed.getD j false = false) := fun j hj hji => by rw [getD_set_ne false (Ne.symm hji)]
      have set_self : (listed.setIfInBounds i true).getD i false = true := by
        have : i < listed.size := by rw [inv.size]; omega
        simp [this]
      rcases (hmem i hin).1 hl with hie | hia | him
      · exfalso
        have : es = [] := List.eq_nil_of_length_eq_zero hc
        subst this
        simp at hie
      · subst hia
        have hape : ∀ y ∈ es.map (·.2), ok.apart ops y = true ∧ ∀ cs b, y.op ≠ .select cs b := by
          intro y hy
          obtain ⟨q, hq, rfl⟩ := List.mem_map.1 hy
          obtain ⟨g1, g2, g3⟩ := hes q hq
          refine ⟨?_, fun cs b => hsp q.1 q.2 cs b g2⟩
          have hql : listed.getD q.1 false = false := (hmem q.1 (by omega)).2 (.inl (List.mem_map.2 ⟨q, hq, rfl⟩))
          rcases Nat.lt_trichotomy q.1 i with hlt | heq | hgt
          · rcases pairOf q.1 i q.2 ok hlt (by omega) g2 hok with hw | ha
            · exact (unwait listed i q.1 hi hql hw).elim
            · exact apart_symm _ _ ha
          · exact absurd heq g3
          · rcases pairOf i q.1 ok q.2 hgt (by omega) hok g2 with hw | ha
            · exfalso
              obtain ⟨oq, hoq, e, he, hb, hon⟩ := Region.waitsFor_spec hw
              exact edgeK q.1 oq g1 g3 hoq e he hb hon
            · exact ha
        obtain ⟨v, hst, h'⟩ := stir_front (K := fun a' => wpCalm P ops w1 K (es2.map (·.2)) a') (fun cs b => hsp i ok cs b hok) _ a hape h
        obtain ⟨W', hrun, hgr⟩ := hst n' x
        unfold wpOpIn
        simp only [hok]
        rw [if_pos (by simp [Region.wanted, hgk])]
        unfold Oper.wpIn
        refine ⟨fun f _ => hF.fn f, ?_⟩
        rw [Oper.semAt_plain F a.eval ok (Region.noDefer_spec hnd i ok hok), hrun]
        simp only [Oper.uponIn]
        obtain ⟨n'', y, rfl⟩ := World.plus_of hgr
        have key := wpAnyIn_of_order hF (N := N) (Q := Q) (w0 := w1) (as0 := []) hB0 hnd hheads0 (K := fun _ a' => K a') (fun _ _ _ _ h => h)
          (fun _ a hK' n' x _ listed inv hall => hK a hK' n' x listed inv hall) (es.length + es2.length) (es ++ es2) [] (listed.setIfInBounds i true) (fun _ => True) (a.put ok.dst v)
          (by simp) inv' (fun j hj => by
            simp only [List.map_nil, List.not_mem_nil, or_false, List.map_append, List.mem_append]
            by_cases hji : j = i
            · subst hji
              rw [set_self]
              simp only [Bool.true_eq_false, false_iff]
              rintro (hh | hh)
              · obtain ⟨q, hq, he⟩ := List.mem_map.1 hh
                exact (hes q hq).2.2 he
              · obtain ⟨q, hq, he⟩ := List.mem_map.1 hh
                have := (he2 q hq).1
                omega
            · rw [set_mem j hj hji, hmem j hj]
              constructor
              · rintro (h | h | h)
                · exact .inl h
                · exact absurd h hji
                · exact .inr (he2m j h hj)
              · rintro (h | h)
                · exact .inl h
                · obtain ⟨q, hq, rfl⟩ := List.mem_map.1 h
                  exact .inr (.inr (he2 q hq).1))
          (fun p hp => by
            rcases List.mem_append.1 hp with hp | hp
            · have := hes p hp; exact ⟨by omega, this.2.1, by simp⟩
            · have := he2 p hp; exact ⟨this.2.1, this.2.2, by simp⟩)
          (fun p hp => absurd hp (by simp))
          (by
            rw [List.map_append, List.pairwise_append]
            refine ⟨hse, he2s, fun x hx y hy => ?_⟩
            obtain ⟨q, hq, rfl⟩ := List.mem_map.1 hx
            obtain ⟨q', hq', rfl⟩ := List.mem_map.1 hy
            have := hes q hq
            have := he2 q' hq'
            omega) List.Pairwise.nil (fun _ _ _ _ => trivial)
          (by rw [List.map_append]; exact wpCalm_app _ _ _ (wpCalm2.snd _ _ h')) n'' y trivial
        rw [hc] at key
        exact key
      · exact (unwait listed i k hi hkl (late i him hin)).elim
  | succ cnt ih =>
    intro es listed a hc inv hmem hes hse h n' x
    have hkl : listed.getD k false = false := (hmem k (by omega)).2 (.inr (.inl rfl))
    have hheads := hheads0 listed k inv (by omega) (getD_in (by rw [inv.size]; omega) hkl)
    rw [show ∀ a b, a + 1 + b = (a + b) + 1 by omega]
    refine ⟨fun hnil => ?_, fun i hi => ?_⟩
    · exfalso
      have first : ∀ i o, i < m → ops[i]? = some o → listed.getD i false = false → (∀ j, j < i → listed.getD j false = true ∨ (i ≠ k ∧ j = k)) → False := by
        intro i o hi ho hl hall
        have : i ∈ Region.ready .any ops listed := mem_ready.2 ⟨getD_in (by rw [inv.size]; omega) hl, o, ho, fun e he hb => by
          have h1 := edgeOf i o (by omega) ho e he hb
          rcases hall e.on h1 with h3 | ⟨h3, h4⟩
          · exact h3
          · exact absurd h4 (edgeK i o hi h3 ho e he hb)⟩
        rw [hnil] at this; cases this
      cases es with
      | nil =>
        refine first k ok hkn hok hkl fun j hj => ?_
        cases hl : listed.getD j false with
        | true => exact .inl rfl
        | false =>
          rcases (hmem j (by omega)).1 hl with h4 | h4 | h4
          · simp at h4
          · omega
          · omega
      | cons p es =>
        obtain ⟨h1, h2, h3⟩ := hes p (List.mem_cons_self ..)
        refine first p.1 p.2 h1 h2 ((hmem p.1 (by omega)).2 (.inl (by simp))) fun j hj => ?_
        cases hl : listed.getD j false with
        | true => exact .inl rfl
        | false =>
          refine .inr ⟨h3, ?_⟩
          rcases (hmem j (by omega)).1 hl with h4 | h4 | h4
          · simp only [List.map_cons, List.mem_cons] at h4
            simp only [List.map_cons, List.pairwise_cons] at hse
            rcases h4 with h4 | h4
            · omega
            · have := hse.1 j h4; omega
          · exact h4
          · omega
    · have hin := hheads i hi
      have hl : listed.getD i false = false := getD_both (mem_ready.1 hi).1
      have inv' := inv.set hi hin
      have set_mem : ∀ j, j < n → j ≠ i → ((listed.setIfInBounds i true).getD j false = false ↔ listed.getD j false = false) := fun j hj hji => by rw [getD_set_ne false (Ne.symm hji)]
      have set_self : (listed.setIfInBounds i true).getD i false = true := by
        have : i < listed.size := by rw [inv.size]; omega
        simp [this]
      rcases (hmem i hin).1 hl with hie | hia | him
      · obtain ⟨p, hp, rfl⟩ := List.mem_map.1 hie
        obtain ⟨l1, l2, rfl⟩ := List.append_of_mem hp
        obtain ⟨h1, h2, h3⟩ := hes p hp
        have hsort := hse
        simp only [List.map_append, List.map_cons, List.pairwise_append, List.pairwise_cons] at hsort
        have hap1 : ∀ y ∈ l1.map (·.2), p.2.apart ops y = true ∧ ∀ cs b, y.op ≠ .select cs b := by
          intro y hy
          obtain ⟨q, hq, rfl⟩ := List.mem_map.1 hy
          obtain ⟨g1, g2, g3⟩ := hes q (by simp [hq])
          refine ⟨?_, fun cs b => hsp q.1 q.2 cs b g2⟩
          have hlt : q.1 < p.1 := hsort.2.2 q.1 (List.mem_map.2 ⟨q, hq, rfl⟩) p.1 (by simp)
          rcases pairOf q.1 p.1 q.2 p.2 hlt (by omega) g2 h2 with hw | ha
          · exact (unwait listed p.1 q.1 hi ((hmem q.1 (by omega)).2 (.inl (by simp; exact .inl ⟨_, hq⟩))) hw).elim
          · exact apart_symm _ _ ha
        rw [List.map_append, List.map_cons] at h
        obtain ⟨v, ⟨hy, _⟩, h'⟩ := calm2_front (fun cs b => hsp p.1 p.2 cs b h2) _ a hap1 h
        have hrest : ∀ n'' y, wpAnyIn F N P .any ops Q (cnt + 1 + es2.length + (ops.size - n)) (listed.setIfInBounds p.1 true) (a.put p.2.dst v) (w0.plus n'' y) := by
          rw [show cnt + 1 + es2.length = cnt + es2.length + 1 by omega]
          refine ih (l1 ++ l2) _ _ (by simp at hc ⊢; omega) inv' (fun j hj => ?_) (fun q hq => hes q (by simp at hq ⊢; rcases hq with h | h <;> simp [h])) ?_ (by rw [List.map_append]; exact h')
          · by_cases hji : j = p.1
            · subst hji
              rw [set_self]
              simp only [Bool.true_eq_false, false_iff]
              rintro (hh | hh | hh)
              · obtain ⟨q, hq, he⟩ := List.mem_map.1 hh
                rcases List.mem_append.1 hq with hq | hq
                · have := hsort.2.2 q.1 (List.mem_map.2 ⟨q, hq, rfl⟩) p.1 (by simp); omega
                · have := hsort.2.1.1 q.1 (List.mem_map.2 ⟨q, hq, rfl⟩); omega
              · exact h3 hh
              · omega
            · rw [set_mem j hj hji, hmem j hj]
              simp only [List.map_append, List.map_cons, List.mem_append, List.mem_cons]
              constructor
              · rintro ((h | h | h) | h)
                · exact .inl (.inl h)
                · exact absurd h hji
                · exact .inl (.inr h)
                · exact .inr h
              · rintro ((h | h) | h)
                · exact .inl (.inl h)
                · exact .inl (.inr (.inr h))
                · exact .inr h
          · rw [List.map_append, List.pairwise_append]
            exact ⟨hsort.1, hsort.2.1.2, fun x hx y hy => hsort.2.2 x hx y (List.mem_cons_of_mem _ hy)⟩
        unfold wpOpIn
        simp only [h2]
        rcases hy with ⟨hw, hv⟩ | ⟨hw, rfl⟩
        · rw [if_pos hw]
          have hv' := hv n' x
          unfold Oper.calmAt at hv'
          unfold Oper.wpIn
          refine ⟨fun f _ => hF.fn f, ?_⟩
          rw [Oper.semAt_plain F a.eval p.2 (Region.noDefer_spec hnd p.1 p.2 h2)]
          generalize (execOp a.eval p.2).run P (w0.plus n' x) = r at *
          cases r with
          | halt z w' => simp only [Oper.calmUpon] at hv'
          | ok nx w' =>
            cases nx <;> simp only [Oper.calmUpon] at hv' <;> simp only [Oper.uponIn]
            case value u => obtain ⟨rfl, rfl⟩ := hv'; exact hrest n' x
            case skip => obtain ⟨rfl, rfl⟩ := hv'; exact hrest n' x
            case enter f args =>
              obtain ⟨rfl, hcall⟩ := hv'
              refine ⟨(fun h => by rw [hF.depth] at h; cases h), hF.calls _ _ _ _ _ (hcall.mono fun e w'' ⟨he, hg⟩ => ?_)⟩
              subst he
              obtain ⟨n'', y, hxy⟩ := World.plus_of ((World.grows_plus w0 n' x).trans hg)
              subst hxy
              exact hrest n'' y
        · rw [if_neg (by rw [hw]; exact Bool.false_ne_true)]
          exact ⟨fun f _ => hF.fn f, hrest n' x⟩
      · subst hia
        have hape : ∀ y ∈ es.map (·.2), ok.apart ops y = true ∧ ∀ cs b, y.op ≠ .select cs b := by
          intro y hy
          obtain ⟨q, hq, rfl⟩ := List.mem_map.1 hy
          obtain ⟨g1, g2, g3⟩ := hes q hq
          refine ⟨?_, fun cs b => hsp q.1 q.2 cs b g2⟩
          have hql : listed.getD q.1 false = false := (hmem q.1 (by omega)).2 (.inl (List.mem_map.2 ⟨q, hq, rfl⟩))
          rcases Nat.lt_trichotomy q.1 i with hlt | heq | hgt
          · rcases pairOf q.1 i q.2 ok hlt (by omega) g2 hok with hw | ha
            · exact (unwait listed i q.1 hi hql hw).elim
            · exact apart_symm _ _ ha
          · exact absurd heq g3
          · rcases pairOf i q.1 ok q.2 hgt (by omega) hok g2 with hw | ha
            · exfalso
              obtain ⟨oq, hoq, e, he, hb, hon⟩ := Region.waitsFor_spec hw
              exact edgeK q.1 oq g1 g3 hoq e he hb hon
            · exact ha
        obtain ⟨v, hst, h'⟩ := stir_front (K := fun a' => wpCalm P ops w1 K (es2.map (·.2)) a') (fun cs b => hsp i ok cs b hok) _ a hape h
        obtain ⟨W', hrun, hgr⟩ := hst n' x
        unfold wpOpIn
        simp only [hok]
        rw [if_pos (by simp [Region.wanted, hgk])]
        unfold Oper.wpIn
        refine ⟨fun f _ => hF.fn f, ?_⟩
        rw [Oper.semAt_plain F a.eval ok (Region.noDefer_spec hnd i ok hok), hrun]
        simp only [Oper.uponIn]
        obtain ⟨n'', y, rfl⟩ := World.plus_of hgr
        have key := wpAnyIn_of_order hF (N := N) (Q := Q) (w0 := w1) (as0 := []) hB0 hnd hheads0 (K := fun _ a' => K a') (fun _ _ _ _ h => h)
          (fun _ a hK' n' x _ listed inv hall => hK a hK' n' x listed inv hall) (es.length + es2.length) (es ++ es2) [] (listed.setIfInBounds i true) (fun _ => True) (a.put ok.dst v)
          (by simp) inv' (fun j hj => by
            simp only [List.map_nil, List.not_mem_nil, or_false, List.map_append, List.mem_append]
            by_cases hji : j = i
            · subst hji
              rw [set_self]
              simp only [Bool.true_eq_false, false_iff]
              rintro (hh | hh)
              · obtain ⟨q, hq, he⟩ := List.mem_map.1 hh
                exact (hes q hq).2.2 he
              · obtain ⟨q, hq, he⟩ := List.mem_map.1 hh
                have := (he2 q hq).1
                omega
            · rw [set_mem j hj hji, hmem j hj]
              constructor
              · rintro (h | h | h)
                · exact .inl h
                · exact absurd h hji
                · exact .inr (he2m j h hj)
              · rintro (h | h)
                · exact .inl h
                · obtain ⟨q, hq, rfl⟩ := List.mem_map.1 h
                  exact .inr (.inr (he2 q hq).1))
          (fun p hp => by
            rcases List.mem_append.1 hp with hp | hp
            · have := hes p hp; exact ⟨by omega, this.2.1, by simp⟩
            · have := he2 p hp; exact ⟨this.2.1, this.2.2, by simp⟩)
          (fun p hp => absurd hp (by simp))
          (by
            rw [List.map_append, List.pairwise_append]
            refine ⟨hse, he2s, fun x hx y hy => ?_⟩
            obtain ⟨q, hq, rfl⟩ := List.mem_map.1 hx
            obtain ⟨q', hq', rfl⟩ := List.mem_map.1 hy
            have := hes q hq
            have := he2 q' hq'
            omega) List.Pairwise.nil (fun _ _ _ _ => trivial)
          (by rw [List.map_append]; exact wpCalm_app _ _ _ (wpCalm2.snd _ _ h')) n'' y trivial
        rw [hc] at key
        exact key
      · exact (unwait listed i k hi hkl (late i him hin)).elim

include hF in
/-- reads and calls, ONE operation (number k) that changes what is there, then those that wait for it (from m on), a tail in order (from n on) -/
theorem wpIn_region_stir {id : Nat} {Q : Exit → Act → World → Prop} {a : Act} {w : World} {l : List Oper} (m n k : Nat) (ok : Oper) (w1 : World) (hk : l[k]? = some ok) (hm : P.follows .mixedOrders = true)
    (hB : (Region.planB l.toArray n [] && Region.stirB l.toArray m n k) = true) (hnd : Region.noDeferB l.toArray = true) (hn : n ≤ l.length) (hmn : m ≤ n) (hkn : k < m) (hg : ok.guard = none)
    (h : wpCalm2 P l.toArray w w1 (fun a' => ∃ v, ok.stirs P a' w w1 v ∧ wpCalm P l.toArray w1 (fun a'' => ∀ n' x, wpListIn F N P l.toArray Q (l.drop n) a'' (w1.plus n' x)) ((l.drop m).take (n - m)) (a'.put ok.dst v)) (l.take k ++ (l.drop (k + 1)).take (m - (k + 1))) a) : (Code.region id l.toArray true).wpIn F N P Q a w := by
  simp only [Region.planB, Bool.and_eq_true, Bool.or_eq_true, decide_eq_true_eq] at hB
  obtain ⟨⟨⟨hmix, hplan⟩, hseq⟩, hstir⟩ := hB
  have hkl : (l.take k).length = k := by simp; omega
  have hnle : n ≤ l.toArray.size := by simpa using hn
  refine wpIn_region_any hm ?_
  obtain ⟨n0, x0, h0⟩ := World.more_drew w
  rw [h0]
  have e1 : ∀ (j : Nat) (l : List Oper), (withNo j l).length = l.length := fun j l => by
    have := congrArg List.length (withNo_snd j l)
    simpa using this
  have hlen : (withNo 0 (l.take k) ++ withNo (k + 1) ((l.drop (k + 1)).take (m - (k + 1)))).length = m - 1 := by
    rw [List.length_append, e1, e1]
    simp
    omega
  have hlen2 : (withNo m ((l.drop m).take (n - m))).length = n - m := by
    rw [e1]; simp; omega
  have key := wpAnyIn_of_stir hF (N := N) (P := P) (ops := l.toArray) (w0 := w) (w1 := w1) (Q := Q) (m := m) (n := n) (k := k) (ok := ok) hkn hmn (by simpa using hk) hg hmix hstir hnd
    (fun listed i0 inv hi0 hun0 => by
      rcases hplan with h | ⟨⟨h1, h2⟩, h3⟩
      · subst h; exact heads_of_all listed
      · exact heads_of_tail h1 h2 h3 listed i0 inv hi0 hun0)
    (K := fun a' => ∀ n' x, wpListIn F N P l.toArray Q (l.drop n) a' (w1.plus n' x)) (es2 := withNo m ((l.drop m).take (n - m)))
    (fun p hp => by
      obtain ⟨h1, h2⟩ := (withNo_mem m _ p).1 hp
      rw [List.getElem?_take] at h2
      split at h2
      · rename_i hlt
        rw [List.getElem?_drop, show m + (p.1 - m) = p.1 by omega] at h2
        exact ⟨h1, by omega, by simpa using h2⟩
      · cases h2)
    (fun i h1 h2 => by rw [withNo_fst]; simp; omega)
    (by rw [withNo_fst]; exact List.pairwise_lt_range')
    (fun a hK n' x listed inv hall => by
      have hl := seq_listed inv hnle hall
      subst hl
      have hd : (l.drop n).length = l.toArray.size - n := by simp
      have := wpAnyIn_of_seq hnd (Q' := Q) (l.drop n) n _ a (w1.plus n' x) (fun j => by simp [List.getElem?_drop]) (by rw [hd]; exact hseq) (hK n' x)
      rwa [hd] at this)
    (m - 1) (withNo 0 (l.take k) ++ withNo (k + 1) ((l.drop (k + 1)).take (m - (k + 1)))) (Array.replicate l.toArray.size false) a hlen (headInv_start n)
    (fun i hi => by
      simp only [getD_replicate_false, true_iff, List.map_append, withNo_fst]
      simp
      omega)
    (fun p hp => by
      rcases List.mem_append.1 hp with hp | hp
      · have h2 := ((withNo_mem 0 _ p).1 hp).2
        rw [Nat.sub_zero, List.getElem?_take] at h2
        split at h2
        · rename_i hlt; exact ⟨by omega, by simpa using h2, by omega⟩
        · cases h2
      · obtain ⟨h1, h2⟩ := (withNo_mem (k + 1) _ p).1 hp
        rw [List.getElem?_take] at h2
        split at h2
        · rename_i hlt
          rw [List.getElem?_drop, show k + 1 + (p.1 - (k + 1)) = p.1 by omega] at h2
          exact ⟨by omega, by simpa using h2, by omega⟩
        · cases h2)
    (by
      rw [List.map_append, withNo_fst, withNo_fst, List.pairwise_append]
      refine ⟨List.pairwise_lt_range', List.pairwise_lt_range', fun x hx y hy => ?_⟩
      simp at hx hy
      omega)
    (by
      rw [List.map_append, withNo_snd, withNo_snd, withNo_snd]
      exact h)
    n0 x0
  rw [hlen2, show m - 1 + (n - m) + 1 + (l.toArray.size - n) = l.toArray.size by omega] at key
  exact key

end
end Go
namespace Go
open Go.RowKit
/-- the same, with the change of one block spelled out -/
theorem wpIn_region_stirO {P : Program} {F : Fence} (hF : F.Free P) {N : Nat} {id : Nat} {Q : Exit → Act → World → Prop} {a : Act} {w : World} {l : List Oper} (m n k : Nat) (ok : Oper) (b : Nat) (ob : Obj) (hk : l[k]? = some ok) (hm : P.follows .mixedOrders = true)
    (hB : (Region.planB l.toArray n [] && Region.stirB l.toArray m n k) = true) (hnd : Region.noDeferB l.toArray = true) (hn : n ≤ l.length) (hmn : m ≤ n) (hkn : k < m) (hg : ok.guard = none)
    (h : wpCalm2 P l.toArray w (w.putObj b ob) (fun a' => ∃ v, ok.stirs P a' w (w.putObj b ob) v ∧ wpCalm P l.toArray (w.putObj b ob) (fun a'' => ∀ n' x, wpListIn F N P l.toArray Q (l.drop n) a'' ((w.putObj b ob).plus n' x)) ((l.drop m).take (n - m)) (a'.put ok.dst v)) (l.take k ++ (l.drop (k + 1)).take (m - (k + 1))) a) : (Code.region id l.toArray true).wpIn F N P Q a w :=
  wpIn_region_stir hF m n k ok _ hk hm hB hnd hn hmn hkn hg h
end Go

