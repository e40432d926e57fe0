/-
  What is proved: rows of a search are written whole.
-/
import Derived.Test.YteingahlmlndkaaM7
import Derived.Lib.SliceRun
import Derived.Laws.IdiomCopy
import Derived.Test.YteingahlmlndkaaM2
import Derived.Test.YteingahlmlndkaaM6
import Derived.Test.YteingahlmlndkaaM1
import Derived.ArgAppend
import Derived.Maps.OwnIn
import Derived.Test.YteingahlmlndkaaM5
import Derived.Test.YteingahlmlndkaaM4
set_option linter.all false
namespace Go.Proofs.Yteingahlmlndkaa
open Go.RowKit
attribute [local irreducible] Go.wpCalm rowV rowI
theorem setCells_row {b n : Nat} {t : TypeId} : ∀ (vs : List Value) (o : Nat) (w : World) (c : Nat → Value), w.heap[b]? = some (.cells (rowV n c) t) → o + vs.length ≤ n →
    ∃ c', (w.setCells b o vs).heap[b]? = some (.cells (rowV n c') t) ∧ ∀ i, c' i = if o ≤ i ∧ i < o + vs.length then vs.getD (i - o) undef else c i
  | [], o, w, c, h, _ => ⟨c, h, fun i => by rw [if_neg (by simp)]⟩
  | v :: vs, o, w, c, h, hl => by
    rw [List.length_cons] at hl
    obtain ⟨c', h1, h2⟩ := setCells_row vs (o + 1) (w.setCell ⟨b, o, none⟩ v) _ (rowV_store h (by omega) v) (by omega)
    refine ⟨c', h1, fun i => ?_⟩
    rw [h2, List.length_cons]
    unfold updV
    by_cases e : i = o
    · subst e
      rw [if_neg (by omega), if_pos rfl, if_pos (by omega), Nat.sub_self]
      rfl
    · by_cases h3 : o ≤ i ∧ i < o + (vs.length + 1)
      · rw [if_pos (by omega), if_pos h3, show i - o = (i - (o + 1)) + 1 by omega, List.getD_cons_succ]
      · rw [if_neg (by omega), if_neg e, if_neg h3]
theorem Only.cells {sb : Nat} {a : World} : ∀ (vs : List Value) (o : Nat) (b : World), Only sb a b → Only sb a (b.setCells sb o vs)
  | [], _, _, h => h
  | v :: vs, o, b, h => Only.cells vs (o + 1) _ (h.set o v)
section
variable {w : World} {b : Nat} {bp : Value} {L : Nat} {M : Nat → Nat} {p : Nat → Option Nat} {bs : Nat → Nat} {S : Nat}
theorem rowI_getD (f : Nat → Int) {i : Nat} (h : i < 16) : (rowI 16 f).toList.getD i undef = .int .i64 (f i) := by
  have := rowI_get 16 f i h
  rw [List.getD_eq_getElem?_getD, Array.getElem?_toList, this]; rfl
theorem SrchAt.rowP (h : SrchAt w b bp L M p bs S) : SrchAt (w.setCells b 18 (rowI 16 fun _ => -1).toList) b bp L M (fun _ => none) bs S := by
  have hlen : (rowI 16 fun _ => -1).toList.length = 16 := by rw [Array.length_toList, rowI_size]
  obtain ⟨c', h1, h2⟩ := setCells_row (rowI 16 fun _ => -1).toList 18 w _ h (by rw [hlen]; omega)
  unfold SrchAt
  rw [h1]
  congr 2
  refine rowV_congr fun i hi => ?_
  rw [h2, hlen]
  unfold srchC
  by_cases h3 : 18 ≤ i ∧ i < 18 + 16
  · rw [if_pos h3, rowI_getD _ (by omega), if_neg (by omega), if_neg (by omega), if_neg (by omega), if_pos (by omega)]
    rfl
  · rw [if_neg h3]
    by_cases h4 : i < 18
    · simp only [h4, if_true]
    · have h5 : ¬ i < 34 := by omega
      simp only [h4, h5, if_false]
theorem SrchAt.zeroB (h : SrchAt w b bp L M p bs S) : SrchAt (w.setCells b 34 (List.replicate 16 (.int .i64 0))) b bp L M p (fun _ => 0) S := by
  obtain ⟨vs, hvs⟩ : ∃ vs, List.replicate 16 (Value.int .i64 0) = vs := ⟨_, rfl⟩
  have hlen : vs.length = 16 := by rw [← hvs, List.length_replicate]
  have hget : ∀ j, j < 16 → vs.getD j undef = .int .i64 0 := fun j hj => by rw [← hvs, List.getD_eq_getElem?_getD, List.getElem?_replicate, if_pos hj]; rfl
  rw [hvs]
  obtain ⟨c', h1, h2⟩ := setCells_row vs 34 w _ h (by rw [hlen]; omega)
  unfold SrchAt
  have e : rowV 51 c' = rowV 51 (srchC bp L M p (fun _ => 0) S) := rowV_congr fun i hi => ?_
  · rw [h1, e]
  rw [h2, hlen]
  unfold srchC
  by_cases h3 : 34 ≤ i ∧ i < 34 + 16
  · rw [if_pos h3, hget _ (by omega), if_neg (by omega), if_neg (by omega), if_neg (by omega), if_neg (by omega), if_pos (by omega)]
    rfl
  · rw [if_neg h3]
    by_cases h4 : i < 34
    · simp only [h4, if_true]
    · have h5 : ¬ i < 50 := by omega
      simp only [h4, h5, if_false]
theorem SrchAt.there (h : SrchAt w b bp L M p bs S) {o : Nat} (ho : o + 16 ≤ 51) : w.there b o 16 := fun j hj => by
  refine ⟨?_, h.fz (o + j)⟩
  have := rowV_cell h (i := o + j) (by omega)
  rw [this]; rfl
theorem SrchAt.rowM_load (h : SrchAt w b bp L M p bs S) : (Instr.loadAt 99 (.pointer (some ⟨b, 2, none⟩))).run Try.prog w = .ok (.agg (rowI 16 (mvI M))) w := by
  have := run_loadAt_mid (P := Try.prog) w b 2 99 (rowI 16 (mvI M)).toList _ (fun j v hv => by obtain ⟨h1, rfl⟩ := rowI_list hv; exact h.mate h1) Try.underlying99 rfl (info99 _)
  rwa [Array.toArray_toList] at this
theorem SrchAt.clear_run (h : SrchAt w b bp L M p bs S) (ty : TypeId) : (Builtin.clear_ #[26] ty #[.slice (some ⟨b, 34, none⟩) 16 16]).run Try.prog w = .ok (.tuple #[]) (w.setCells b 34 (List.replicate 16 (.int .i64 0))) :=
  Lib.run_clear_slice _ 26 3 ty (.int .i64 0) Try.underlying26 zero3 rfl rfl _ _ 16 16 (by omega) (fun j hj => (h.there (o := 34) (by omega) j hj).1) (fun j hj => (h.there (o := 34) (by omega) j hj).2)
end
theorem wpList_clear {P : Program} {w w2 : World} {ops : Array Oper} {rest : List Oper} {o : Oper} {a : Act} {Q : Exit → Act → World → Prop} (hgd : o.guard = none) (s : Operand) (t : TypeId)
    (ho : o.op = .call { callee := .builtin .clear, args := #[s], argTypes := #[t] }) (x : Value) (hs : a.eval s = x)
    (hr : (Builtin.clear_ #[t] o.type #[x]).run P w = .ok (.tuple #[]) w2) (h : wpList P ops Q rest (a.put o.dst (.tuple #[])) w2) : wpList P ops Q (o :: rest) a w := by
  refine wpList_plain hgd fun K hK => ?_
  unfold Oper.wp execOp
  simp only [ho, resolve, invoke, builtin, Sem.run_bind, Sem.run_pure, Result.andThen_ok, List.map_toArray, List.map_cons, List.map_nil, hs, hr]
  exact hK _ _ h
end Go.Proofs.Yteingahlmlndkaa

/-
  What is proved: plain: a search for a way, step by step.
-/
namespace Go.Proofs.Yteingahlmlndkaa
def UW (wt : List Nat) : Nat → Nat → Prop := fun x _ => x ∈ wt
def UI (wt : List Nat) (v : Nat) (l : List Nat) : Nat → Nat → Prop := fun x u => x ∈ wt ∨ (x = v ∧ u ∈ l)
structure WayP (A : Nat → Nat → Bool) (Lf : Nat → Bool) (M : Nat → Nat) (r : Nat) (p : Nat → Option Nat) (bs : Nat → Nat) (sn : Nat → Bool) (wt : List Nat) (U : Nat → Nat → Prop) : Prop where
  srch : ∃ d, Srch A Lf M r p bs sn d
  edg : Edg A Lf M bs sn U
  wsn : ∀ v ∈ wt, sn v = true
section
variable {A : Nat → Nat → Bool} {Lf : Nat → Bool} {M : Nat → Nat} {r : Nat} {p : Nat → Option Nat} {bs : Nat → Nat} {sn : Nat → Bool} {wt l : List Nat} {U : Nat → Nat → Prop} {v t : Nat}
theorem WayP.start (hm : IsM A Lf M) (hr : Lf r = true) (h1 : M r = r) : WayP A Lf M r (fun _ => none) id (fun v => decide (v = r)) [r] (UW [r]) :=
  ⟨⟨_, Srch.start hm hr h1⟩, fun v u h _ _ => by simp only [decide_eq_true_eq] at h; exact .inr (.inr (.inl (by unfold UW; simp [h]))), fun v hv => by simpa using hv⟩
theorem WayP.pop (h : WayP A Lf M r p bs sn (v :: wt) (UW (v :: wt))) (hA : ∀ a b, A a b = A b a) (hL : ∀ u, Lf u = true → u < 16) : WayP A Lf M r p bs sn wt (UI wt v (filtL (fun u => Lf u && A v u) 16)) ∧ sn v = true := by
  obtain ⟨⟨d, hs⟩, he, hw⟩ := h
  have key : ∀ x u, sn x = true → Lf u = true → A x u = true → x ∈ v :: wt → UI wt v (filtL (fun u => Lf u && A v u) 16) x u := fun x u _ h2 h3 hx => by
    rcases List.mem_cons.1 hx with rfl | hx
    · exact .inr ⟨rfl, by simp only [filtL, List.mem_filter, List.mem_range]; exact ⟨hL u h2, by rw [h2, h3]; rfl⟩⟩
    · exact .inl hx
  refine ⟨⟨⟨d, hs⟩, fun x u h1 h2 h3 => ?_, fun x hx => hw x (List.mem_cons_of_mem _ hx)⟩, hw v (List.mem_cons_self ..)⟩
  rcases he x u h1 h2 h3 with k | k | k | ⟨k1, k2⟩
  · exact .inl k
  · exact .inr (.inl k)
  · exact .inr (.inr (.inl (key x u h1 h2 h3 k)))
  · exact .inr (.inr (.inr ⟨k1, key u x k1 (hs.in_ _ h1) (by rw [hA]; exact h3) k2⟩))
theorem WayP.fin (h : WayP A Lf M r p bs sn wt (UI wt v [])) : WayP A Lf M r p bs sn wt (UW wt) :=
  ⟨h.srch, h.edg.mono fun x u k => by rcases k with k | ⟨_, k⟩; exact k; exact absurd k List.not_mem_nil, h.wsn⟩
theorem WayP.hung (h : WayP A Lf M r p bs sn [] (UW [])) (hL : ∀ u, Lf u = true → u < 16) : NoCov A Lf M r := by
  obtain ⟨d, hs⟩ := h.srch
  exact (hs.hung (h.edg.mono fun x u k => List.not_mem_nil k)).noCov hL
theorem ui_next (x u : Nat) (h : UI wt v (t :: l) x u) : UI wt v l x u ∨ (x = v ∧ u = t) := by
  rcases h with k | ⟨k1, k2⟩
  · exact .inl (.inl k)
  · rcases List.mem_cons.1 k2 with k2 | k2
    · exact .inr ⟨k1, k2⟩
    · exact .inl (.inr ⟨k1, k2⟩)
/-- of one base -/
theorem WayP.same (h : WayP A Lf M r p bs sn wt (UI wt v (t :: l))) (hv : sn v = true) (hb : bs v = bs t) : WayP A Lf M r p bs sn wt (UI wt v l) := by
  obtain ⟨⟨d, hs⟩, he, hw⟩ := h
  refine ⟨⟨d, hs⟩, he.next ui_next hv (.inl ⟨?_, hb.symm⟩), hw⟩
  cases e : sn t with
  | true => rfl
  | false =>
    have h1 := (hs.base v hv).1
    rw [hb, hs.unb t e, e] at h1; cases h1
theorem Srch.cov_of {d : Nat → Nat} (hs : Srch A Lf M r p bs sn d) (ht : sn t = true) (hr : t ≠ r) : M t ≠ t := by
  by_cases hb : bs t = t
  · exact (hs.out t ht hb hr).1
  · exact (hs.ring t ht hb).1
/-- the mate -/
theorem WayP.mate (h : WayP A Lf M r p bs sn wt (UI wt v (t :: l))) (hv : sn v = true) (hne : M v ≠ v) (hm : M v = t) : WayP A Lf M r p bs sn wt (UI wt v l) := by
  obtain ⟨⟨d, hs⟩, he, hw⟩ := h
  refine ⟨⟨d, hs⟩, he.next ui_next hv ?_, hw⟩
  have ht : M t = v := by rw [← hm]; exact hs.isM.inv v
  cases e : sn t with
  | true =>
    refine .inl ⟨rfl, ?_⟩
    by_cases hb : bs v = v
    · have hvr : v ≠ r := fun e => by rw [e] at hne; exact hne hs.root.2.1
      have := (hs.out v hv hb hvr).2.1
      rw [hm, e] at this; cases this
    · have := (hs.ring v hv hb).2.2.1
      rwa [hm] at this
  | false => exact .inr ⟨rfl, by rw [ht]; exact fun e => hne (by rw [hm, e]), by rw [ht]; exact hv⟩
/-- the test tells what was seen -/
theorem WayP.test (h : WayP A Lf M r p bs sn wt U) (t : Nat) : (decide (t = r) || (decide (M t ≠ t) && (p (M t)).isSome)) = sn t := by
  obtain ⟨d, hs⟩ := h.srch
  by_cases hr : t = r
  · rw [hr, hs.root.1]; simp
  · by_cases hm : M t = t
    · cases e : sn t with
      | true => exact absurd hm (hs.cov_of e hr)
      | false => simp [hr, hm]
    · rw [hs.told hr hm]; simp [hr, hm]
/-- one that has a mark already -/
theorem WayP.old (h : WayP A Lf M r p bs sn wt (UI wt v (t :: l))) (hv : sn v = true) (ht : sn t = false) (hp : (p t).isSome = true) : WayP A Lf M r p bs sn wt (UI wt v l) := by
  obtain ⟨⟨d, hs⟩, he, hw⟩ := h
  exact ⟨⟨d, hs⟩, he.next ui_next hv (.inr ⟨ht, (hs.tee t ht hp).2⟩), hw⟩
/-- a pair is seen -/
theorem WayP.grow (h : WayP A Lf M r p bs sn wt (UI wt v (t :: l))) (hv : sn v = true) (hL : Lf t = true) (hA : A v t = true) (ht : sn t = false) (hp : p t = none) (hm : M t ≠ t) :
    sn (M t) = false ∧ WayP A Lf M r (updP p t (some v)) bs (fun x => sn x || decide (x = M t)) (wt ++ [M t]) (UI (wt ++ [M t]) v l) := by
  obtain ⟨⟨d, hs⟩, he, hw⟩ := h
  obtain ⟨h1, h2⟩ := hs.grow hv hL hA ht hp hm
  refine ⟨h1, ⟨_, h2⟩, ?_, fun x hx => ?_⟩
  · have e1 := he.grow hs.isM.inv ht (U' := UI (wt ++ [M t]) v (t :: l)) (fun x u k => by
      rcases k with k | k
      · exact .inl (List.mem_append_left _ k)
      · exact .inr k) (fun u => .inl (by simp))
    refine e1.next ui_next (by simp [hv]) (.inr ⟨?_, hm, by simp⟩)
    simp only [ht, Bool.false_or, decide_eq_false_iff_not]
    exact fun e => hm e.symm
  · rcases List.mem_append.1 hx with hx | hx
    · simp [hw x hx]
    · simp [List.mem_singleton.1 hx]
/-- a ring -/
theorem WayP.ring (h : WayP A Lf M r p bs sn wt (UI wt v (t :: l))) (hv : sn v = true) (ht : sn t = true) (hA : ∀ a b, A a b = A b a) (hvt : A v t = true) (hb : bs v ≠ bs t) (hL : ∀ u, Lf u = true → u < 16) {b : Nat} {C1 C2 P1 P2 : List Nat} {x1 x2 : Nat} (R : Ring M p bs sn r v t b C1 C2 P1 P2 x1 x2) :
    WayP A Lf M r (sideF (sideF p P1 t) P2 v) (fun z => if inRing M bs sn (C1 ++ C2) z then b else bs z) (fun z => sn z || inRing M bs sn (C1 ++ C2) z) (wt ++ filtL (fun z => inRing M bs sn (C1 ++ C2) z && !sn z) 16) (UI (wt ++ filtL (fun z => inRing M bs sn (C1 ++ C2) z && !sn z) 16) v l) ∧ 0 < (filtL (fun z => inRing M bs sn (C1 ++ C2) z && !sn z) 16).length := by
  obtain ⟨⟨d, hs⟩, he, hw⟩ := h
  have f1 := (Chn.facts hs R.c1 hv).2
  have f2 := (Chn.facts hs R.c2 ht).2
  have inL : ∀ c ∈ C1 ++ C2, M c ∈ filtL (fun z => inRing M bs sn (C1 ++ C2) z && !sn z) 16 ∧ sn c = true := fun c hc => by
    obtain ⟨h1, h2, h3⟩ : sn c = true ∧ bs c = c ∧ c ≠ r := by
      rcases List.mem_append.1 hc with k | k
      · exact ⟨(f1 c k).2.1, (f1 c k).2.2.1, (f1 c k).2.2.2.1⟩
      · exact ⟨(f2 c k).2.1, (f2 c k).2.2.1, (f2 c k).2.2.2.1⟩
    obtain ⟨g1, g2, g3⟩ := hs.out c h1 h2 h3
    refine ⟨?_, h1⟩
    have hLm : Lf (M c) = true := (hs.tee _ g2 g3).1
    simp only [filtL, List.mem_filter, List.mem_range]
    refine ⟨hL _ hLm, ?_⟩
    rw [g2]
    simp only [inRing, g2, Bool.false_and, Bool.not_false, Bool.true_and, Bool.false_or, Bool.and_true, hs.isM.inv, List.contains_iff_mem, hc]
  refine ⟨⟨⟨_, hs.shrink hA hv ht hvt R⟩, ?_, fun x hx => ?_⟩, ?_⟩
  · have inW : ∀ z, inRing M bs sn (C1 ++ C2) z = true → sn z = false → z ∈ filtL (fun z => inRing M bs sn (C1 ++ C2) z && !sn z) 16 := fun z h1 h2 => by
      rcases inRing_iff.1 h1 with ⟨k, _⟩ | ⟨_, k⟩
      · rw [h2] at k; cases k
      · have := (inL _ k).1
        rwa [hs.isM.inv] at this
    have e1 := he.shrink (C := C1 ++ C2) (b := b) (U' := UI (wt ++ filtL (fun z => inRing M bs sn (C1 ++ C2) z && !sn z) 16) v (t :: l)) (fun x u k => by
      rcases k with k | k
      · exact .inl (List.mem_append_left _ k)
      · exact .inr k) (fun z h1 h2 u => .inl (List.mem_append_right _ (inW z h1 h2)))
    have base : ∀ x C, sn x = true → Chn M p bs r x C b → (∀ c ∈ C, c ∈ C1 ++ C2) → (if inRing M bs sn (C1 ++ C2) x then b else bs x) = b := fun x C hx hc hC => by
      cases hc with
      | nil e => rw [e]; split <;> rfl
      | cons k1 k2 k3 k4 => rw [if_pos (inRing_iff.2 (.inl ⟨hx, hC _ (List.mem_cons_self ..)⟩))]
    refine e1.next ui_next (by simp [hv]) (.inl ⟨by simp [ht], ?_⟩)
    show (if inRing M bs sn (C1 ++ C2) t then b else bs t) = (if inRing M bs sn (C1 ++ C2) v then b else bs v)
    rw [base t C2 ht R.c2 fun c hc => List.mem_append_right _ hc, base v C1 hv R.c1 fun c hc => List.mem_append_left _ hc]
  · rcases List.mem_append.1 hx with hx | hx
    · simp [hw x hx]
    · simp only [filtL, List.mem_filter, List.mem_range, Bool.and_eq_true] at hx
      simp [hx.2.1]
  · have : ∃ c, c ∈ C1 ++ C2 := by
      cases C1 with
      | cons c _ => exact ⟨c, by simp⟩
      | nil =>
        cases C2 with
        | cons c _ => exact ⟨c, by simp⟩
        | nil =>
          exfalso
          cases R.c1 with
          | nil e1 => cases R.c2 with
            | nil e2 => exact hb (e1.trans e2.symm)
    obtain ⟨c, hc⟩ := this
    exact List.length_pos_of_mem (inL c hc).1
/-- the end of a way -/
theorem WayP.done (h : WayP A Lf M r p bs sn wt (UI wt v (t :: l))) (hv : sn v = true) (hA : A v t = true) (ht : sn t = false) (hm : M t = t) :
    ∃ q, Alt M (updP p t (some v)) v q r ∧ (t :: (q ++ [r])).Nodup ∧ (∀ y ∈ q, M y ≠ y) ∧ (∀ z w, updP p t (some v) z = some w → A w z = true) := by
  obtain ⟨⟨d, hs⟩, he, hw⟩ := h
  obtain ⟨q, h1, h2, h3⟩ := hs.full hv
  have htq : t ∉ q := fun k => h3 t k hm
  have htr : t ≠ r := fun e => by rw [e, hs.root.1] at ht; cases ht
  refine ⟨q, h1.congr fun y hy => updP_ne fun e => htq (by rw [← e]; exact odds_sub hy), List.nodup_cons.2 ⟨by simp [htq, htr], h2⟩, h3, fun z w hz => ?_⟩
  by_cases e : z = t
  · subst e
    rw [updP_self] at hz
    cases hz
    exact hA
  · rw [updP_ne e] at hz
    exact (hs.pe z w hz).2
/-- what is left of a search -/
def wayM (sn : Nat → Bool) (wt : List Nat) : Nat := 2 * cntB (fun i => !sn i) 16 + wt.length
theorem filtL_cnt (q : Nat → Bool) : ∀ n, (filtL q n).length = cntB q n
  | 0 => rfl
  | n + 1 => by
    rw [filtL_succ]
    have ih := filtL_cnt q n
    show _ = cntB q n + (if q n = true then 1 else 0)
    split
    · rw [List.length_append, ih]; rfl
    · rw [ih]; rfl
theorem wayM_more (g : Nat → Bool) (h : ∀ z, g z = true → sn z = false) : wayM (fun z => sn z || g z) (wt ++ filtL g 16) ≤ wayM sn wt := by
  unfold wayM
  rw [List.length_append, filtL_cnt]
  have h1 := cntB_or (p := g) (q := fun i => !(sn i || g i)) (n := 16) (fun i hi k => by simp [k])
  have h2 := cntB_congr (p := fun i => g i || !(sn i || g i)) (q := fun i => !sn i) (n := 16) (fun i hi => by
    cases e : g i with
    | true => simp [h i e]
    | false => simp)
  show 2 * cntB (fun i => !(sn i || g i)) 16 + (wt.length + cntB g 16) ≤ _
  omega
theorem wayM_grow {x : Nat} (hx : x < 16) (h : sn x = false) : wayM (fun z => sn z || decide (z = x)) (wt ++ [x]) ≤ wayM sn wt := by
  have h1 := wayM_more (sn := sn) (wt := wt) (fun z => decide (z = x)) (fun z k => by rw [of_decide_eq_true k]; exact h)
  have h2 := filtL_cnt (fun z => decide (z = x)) 16
  have h3 := cntB_pos (p := fun z => decide (z = x)) (n := 16) hx (by simp)
  unfold wayM at h1 ⊢
  rw [List.length_append] at h1 ⊢
  rw [h2] at h1
  show 2 * cntB (fun i => !(sn i || decide (i = x))) 16 + (wt.length + 1) ≤ _
  replace h1 : 2 * cntB (fun i => !(sn i || decide (i = x))) 16 + (wt.length + cntB (fun z => decide (z = x)) 16) ≤ 2 * cntB (fun i => !sn i) 16 + wt.length := h1
  omega
theorem wayM_ring {I : Nat → Bool} : wayM (fun z => sn z || I z) (wt ++ filtL (fun z => I z && !sn z) 16) ≤ wayM sn wt := by
  have h := wayM_more (sn := sn) (wt := wt) (fun z => I z && !sn z) (fun z k => by simp only [Bool.and_eq_true, Bool.not_eq_true'] at k; exact k.2)
  have e : (fun z => sn z || (I z && !sn z)) = fun z => sn z || I z := funext fun z => by cases sn z <;> simp
  rwa [e] at h
theorem wayM_le (hw : wt.length ≤ 1) : wayM sn wt ≤ 33 := by
  unfold wayM
  have := cntB_le (fun i => !sn i) 16
  omega
end
end Go.Proofs.Yteingahlmlndkaa

/-
  What is proved: append onto a slice without elements and without room: the new block, outright.
-/
namespace Go
open Go.RowKit
section
variable {P : Program} (w : World)
theorem run_append_fresh (t ty e : TypeId) (z : Value) (size bytes : Nat) (ht : P.underlying t = some (.slice e)) (hi : P.knows e z size bytes) (hzs : z.cells.size = size) (hsz : 0 < size)
    (A : Option Addr) (xv : Value) (m : Nat) (news : List Value) (hsrc : SrcAt w xv m size news) (h0 : 0 < m) (h63 : m ≤ maxLen) (hbytes : m * bytes ≤ 140737488355328) :
    ∃ cap xs, (Builtin.append_ #[t, t] ty #[.slice A 0 0, xv]).run P w = .ok (.slice (some ⟨w.heap.size, 0, none⟩) m cap) (w.drew.alloc (.cells xs e)) ∧ m ≤ cap ∧ cap ≤ maxLen ∧ xs.size = cap * size ∧ xs.toList.take (m * size) = news := by
  obtain ⟨i, hi, hz, rfl, rfl⟩ := hi
  obtain ⟨B, c, rfl, hl, hB⟩ := hsrc
  obtain ⟨ad, rfl, hc⟩ := hB h0
  have hge := grownCap_ge w m 0 e
  have hcm : grownCap w m 0 e ≤ maxLen := grownCap_le_maxLen w m 0 e h63
  refine ⟨grownCap w m 0 e, news.toArray ++ Builtin.zeroCells z.cells (grownCap w m 0 e - m), ?_, hge, hcm, ?_, ?_⟩
  · cases A with
    | none =>
      exact run_append_nil (P := P) w t ty e i z ht hi hz ad m c news hl hc (by omega) (by simp only [maxLen] at h63; omega) (by omega)
    | some b =>
      have hr := run_append_grow (P := P) w t ty e i z ht hi hz b 0 0 [] (by simp) (by simp) ad m c news hl hc (by omega) (by simp only [maxLen] at h63; omega) (growslice_fits (by omega) (by simpa using hbytes))
      simpa using hr
  · simp only [Array.size_append, List.size_toArray, size_zeroCells, hzs, hl, ← Nat.add_mul]
    congr 1
    omega
  · simp only [Array.toList_append]
    rw [← hl]
    exact List.take_left
end
end Go

/-
  What is proved: a queue: a slice of the call's own that is appended to at its end, and cut at its head: elements of one cell.
-/
namespace Go
open Go.RowKit

def vblk : Value → Option Nat
  | .slice (some a) _ _ => some a.block
  | _ => none
def QAt (w : World) (base : Nat) (e : TypeId) (v : Value) (xs : List Value) : Prop :=
  ∃ A cap, v = .slice A xs.length cap ∧ xs.length ≤ cap ∧ cap ≤ maxLen ∧ (∀ a, A = some a → base ≤ a.block ∧ a.block < w.heap.size) ∧ (0 < cap → ∃ b o cur, A = some ⟨b, o, none⟩ ∧ base ≤ b ∧ w.heap[b]? = some (.cells cur e) ∧ cur.size = o + cap ∧ ∀ i x, xs[i]? = some x → cur[o + i]? = some x)
theorem QAt.nil (w : World) (base : Nat) (e : TypeId) : QAt w base e (.slice none 0 0) [] := ⟨none, 0, rfl, Nat.le_refl _, Nat.zero_le _, fun _ h => (by cases h), fun h => by omega⟩
theorem QAt.keep {w w' : World} {base : Nat} {e : TypeId} {v : Value} {xs : List Value} (h : QAt w base e v xs) (hs : w.heap.size ≤ w'.heap.size) (g : ∀ b, vblk v = some b → b < w.heap.size → w'.heap[b]? = w.heap[b]?) : QAt w' base e v xs := by
  obtain ⟨A, cap, rfl, h1, h2, h0, h3⟩ := h
  refine ⟨A, cap, rfl, h1, h2, fun a ha => ⟨(h0 a ha).1, Nat.lt_of_lt_of_le (h0 a ha).2 hs⟩, fun hc => ?_⟩
  obtain ⟨b, o, cur, rfl, h4, h5, h6, h7⟩ := h3 hc
  exact ⟨b, o, cur, rfl, h4, by rw [g b rfl (World.lt_of_block h5)]; exact h5, h6, h7⟩
theorem QAt.mono {w w' : World} {base : Nat} {e : TypeId} {v : Value} {xs : List Value} (h : QAt w base e v xs) (g : w.grows w') : QAt w' base e v xs := h.keep g.size fun b _ hb => g.block b hb
theorem QAt.get {w : World} {base : Nat} {e : TypeId} {A : Option Addr} {n cap : Nat} {xs : List Value} (h : QAt w base e (.slice A n cap) xs) {i : Nat} {x : Value} (hx : xs[i]? = some x) : ∃ b o, A = some ⟨b, o, none⟩ ∧ w.cell? ⟨b, o + i, none⟩ = some x := by
  obtain ⟨A', cap', he, h1, h2, h0, h3⟩ := h
  cases he
  have hi := (List.getElem?_eq_some_iff.1 hx).1
  obtain ⟨b, o, cur, rfl, h4, h5, h6, h7⟩ := h3 (by omega)
  refine ⟨b, o, rfl, ?_⟩
  unfold World.cell?
  simp only [h5]
  exact h7 i x hx
theorem QAt.blk {w : World} {base : Nat} {e : TypeId} {v : Value} {xs : List Value} (h : QAt w base e v xs) {b : Nat} (hb : vblk v = some b) : base ≤ b ∧ b < w.heap.size := by
  obtain ⟨A, cap, rfl, h1, h2, h0, h3⟩ := h
  cases A with
  | none => cases hb
  | some a =>
    have : a.block = b := by simpa [vblk] using hb
    rw [← this]
    exact h0 a rfl
theorem QAt.form {w : World} {base : Nat} {e : TypeId} {v : Value} {xs : List Value} (h : QAt w base e v xs) : ∃ A cap, v = .slice A xs.length cap ∧ xs.length ≤ cap ∧ cap ≤ maxLen := by
  obtain ⟨A, cap, rfl, h1, h2, -⟩ := h
  exact ⟨A, cap, rfl, h1, h2⟩
/-- cut at its head -/
theorem QAt.tail {w : World} {base : Nat} {e : TypeId} {b o n cap : Nat} {x : Value} {xs : List Value} (h : QAt w base e (.slice (some ⟨b, o, none⟩) n cap) (x :: xs)) {A : Option Addr} (hA : A = some ⟨b, o + 1, none⟩ ∨ (cap = 1 ∧ A = some ⟨b, o, none⟩)) : QAt w base e (.slice A xs.length (cap - 1)) xs := by
  obtain ⟨A', cap', he, h1, h2, h0, h3⟩ := h
  cases he
  rw [List.length_cons] at h1
  obtain ⟨b', o', cur, heq, h4, h5, h6, h7⟩ := h3 (by omega)
  cases heq
  refine ⟨A, cap - 1, rfl, by omega, by omega, fun a ha => ?_, fun hc => ?_⟩
  · rcases hA with rfl | ⟨_, rfl⟩ <;> cases ha <;> exact ⟨h4, World.lt_of_block h5⟩
  · rcases hA with rfl | ⟨hc1, _⟩
    · exact ⟨b, o + 1, cur, rfl, h4, h5, by omega, fun i u hu => by rw [show o + 1 + i = o + (i + 1) by omega]; exact h7 (i + 1) u (by simpa using hu)⟩
    · omega
/-- another object is put where no cells lie -/
theorem QAt.put {w : World} {base : Nat} {e : TypeId} {v : Value} {xs : List Value} (h : QAt w base e v xs) {b : Nat} {o : Obj} (hb : ∀ c t fr, w.heap[b]? ≠ some (.cells c t fr)) : QAt (w.putObj b o) base e v xs := by
  obtain ⟨A, cap, rfl, h1, h2, h0, h3⟩ := h
  refine ⟨A, cap, rfl, h1, h2, fun a ha => ⟨(h0 a ha).1, by simpa using (h0 a ha).2⟩, fun hc => ?_⟩
  obtain ⟨b', o', cur, rfl, h4, h5, h6, h7⟩ := h3 hc
  refine ⟨b', o', cur, rfl, h4, ?_, h6, h7⟩
  rw [World.putObj_heap_other (fun e => by rw [e] at h5; exact hb _ _ _ h5)]
  exact h5
theorem setCells_one (w : World) (b o : Nat) (x : Value) : w.setCells b o [x] = w.setCell ⟨b, o, none⟩ x := rfl
section
variable {P : Program} (w : World)
theorem run_append_q (base : Nat) (t ty e : TypeId) (z : Value) (bytes : Nat) (ht : P.underlying t = some (.slice e)) (hi : P.knows e z 1 bytes) (hzs : z.cells.size = 1)
    (v : Value) (xs : List Value) (hq : QAt w base e v xs) (ad : Addr) (c : Nat) (x : Value) (hx : w.cell? ad = some x) (hs : ad.spot = none) (h1 : x.oneCell' = true)
    (h63 : xs.length + 1 ≤ maxLen) (hbytes : (xs.length + 1) * bytes ≤ 140737488355328) (hbase : base ≤ w.heap.size) :
    ∃ v' w', (Builtin.append_ #[t, t] ty #[v, .slice (some ad) 1 c]).run P w = .ok v' w' ∧ QAt w' base e v' (xs ++ [x]) ∧ w.grownBy w' (vblk v) ∧ (vblk v' = vblk v ∨ ∃ b, vblk v' = some b ∧ w.heap.size ≤ b) ∧ ∀ (k : Nat) (o : Obj), w.heap[k]? = some o → (∀ c fr, o ≠ Obj.cells c e fr) → w'.heap[k]? = some o := by
  obtain ⟨A, cap, rfl, hl, hm, hA0, hq⟩ := hq
  obtain ⟨ab, ao, asp⟩ := ad
  dsimp only at hs
  subst hs
  have hnews : ∀ j u, [x][j]? = some u → w.cell? ((⟨ab, ao, none⟩ : Addr).add j) = some u := fun j u hu => by
    cases j with
    | zero =>
      have : x = u := by simpa using hu
      subst this
      have : (⟨ab, ao, none⟩ : Addr).add 0 = ⟨ab, ao, none⟩ := by unfold Addr.add; rfl
      rw [this]; exact hx
    | succ j => simp at hu
  have hone : ∀ u ∈ [x], u.oneCell' = true := fun u hu => by rw [List.mem_singleton.1 hu]; exact h1
  obtain ⟨i, hi1, hz, hsz, hby⟩ := hi
  have hi : P.knows e z 1 bytes := ⟨i, hi1, hz, hsz, hby⟩
  by_cases hc : cap = 0
  · subst hc
    have hx0 : xs = [] := List.eq_nil_of_length_eq_zero (by omega)
    subst hx0
    have hsrc : SrcAt w (.slice (some ⟨ab, ao, none⟩) 1 c) 1 1 [x] := ⟨some ⟨ab, ao, none⟩, c, rfl, rfl, fun _ => ⟨_, rfl, hnews⟩⟩
    obtain ⟨cap', ys, hr, e1, e2, e3, e4⟩ := run_append_fresh (P := P) (w := w) (ty := ty) t e z 1 bytes ht hi hzs (by omega) A (.slice (some ⟨ab, ao, none⟩) 1 c) 1 [x] hsrc (by omega) (by unfold maxLen; omega) (by simpa using hbytes)
    refine ⟨_, _, hr, ⟨_, cap', rfl, e1, e2, fun a h => (by cases h; exact ⟨hbase, by simp⟩), fun _ => ⟨w.heap.size, 0, ys, rfl, hbase, heap_alloc_new w.drew _, by omega, fun i u hu => ?_⟩⟩, ⟨rfl, rfl, rfl, by simp, fun k hk _ => heap_alloc_old w.drew _ hk⟩, .inr ⟨w.heap.size, rfl, Nat.le_refl _⟩, fun k o ho _ => (heap_alloc_old w.drew _ (World.lt_of_block ho)).trans ho⟩
    rw [Nat.zero_add, ← Array.getElem?_toList, ← List.take_append_drop 1 ys.toList, show ys.toList.take 1 = [x] from by simpa using e4]
    have hu' : [x][i]? = some u := by simpa using hu
    have hi0 := (List.getElem?_eq_some_iff.1 hu').1
    rw [List.getElem?_append_left hi0]
    exact hu'
  · obtain ⟨b, o, cur, rfl, h4, h5, h6, h7⟩ := hq (by omega)
    by_cases hr : xs.length + 1 ≤ cap
    · have hlt : o + xs.length < cur.size := by omega
      have hcell : w.cell? ⟨b, o + xs.length, none⟩ = some cur[o + xs.length] := by
        unfold World.cell?
        simp only [h5]
        exact Array.getElem?_eq_getElem hlt
      have hrun := run_append_room_cells (P := P) w t ty e i ht hi1 b o xs.length cap ⟨ab, ao, none⟩ 1 c [x] (by rw [hsz]; rfl) hnews hone hr
        (fun j hj => by have : j = 0 := by simpa using hj
                        subst this
                        rw [hsz, Nat.mul_one, Nat.add_zero, hcell]; rfl)
        (fun j hj => by unfold World.frozen?; simp only [h5]; simp)
      rw [hsz, Nat.mul_one, setCells_one] at hrun
      have hheap : (w.setCell ⟨b, o + xs.length, none⟩ x).heap[b]? = some (.cells (cur.setIfInBounds (o + xs.length) x) e) := by
        unfold World.setCell
        simp only [Array.getElem?_modify, h5, if_true, Option.map_some]
        simp
      refine ⟨_, _, hrun, ⟨_, cap, by rw [List.length_append]; rfl, by rw [List.length_append]; simpa using hr, hm, fun a h => (by cases h; exact ⟨h4, by simpa using World.lt_of_block h5⟩), fun _ => ⟨b, o, _, rfl, h4, hheap, by simpa using h6, fun i u hu => ?_⟩⟩, ⟨rfl, rfl, rfl, by simp, fun k hk hne => ?_⟩, .inl rfl, fun k u hu hne => ?_⟩
      · rw [Array.getElem?_setIfInBounds]
        by_cases hi : o + xs.length = o + i
        · have : i = xs.length := by omega
          subst this
          rw [if_pos rfl, if_pos hlt]
          simpa using hu
        · rw [if_neg hi]
          refine h7 i u ?_
          have hil := (List.getElem?_eq_some_iff.1 hu).1
          rw [List.length_append] at hil
          simp at hil
          rwa [List.getElem?_append_left (by omega)] at hu
      · unfold World.setCell
        simp only [Array.getElem?_modify]
        rw [if_neg (fun e => hne (by rw [← e]; rfl))]
      · unfold World.setCell
        simp only [Array.getElem?_modify]
        rw [if_neg (fun e => by
          rw [← e, h5] at hu
          exact hne _ _ (Option.some.inj hu).symm)]
        exact hu
    · have holds : ∀ j u, xs[j]? = some u → w.cell? ((⟨b, o, none⟩ : Addr).add j) = some u := fun j u hu => by
        have : (⟨b, o, none⟩ : Addr).add j = ⟨b, o + j, none⟩ := by unfold Addr.add; simp
        rw [this]
        unfold World.cell?
        simp only [h5]
        exact h7 j u hu
      obtain ⟨v', w', hrun, hown, hg⟩ := run_append_arg_grows (P := P) w t ty e i z 1 bytes ht hi1 hz hsz hby hzs (by omega) ⟨b, o, none⟩ xs.length cap xs (by omega) holds ⟨ab, ao, none⟩ 1 c [x] rfl hnews (by omega) h63 hbytes
      rcases hown.2 with ⟨_, h0⟩ | ⟨g, cap', cur', rfl, hb, hheap, h11, h12, h13, h14⟩
      · omega
      · refine ⟨_, _, hrun, ⟨_, cap', by rw [List.length_append]; rfl, by rw [List.length_append]; simpa using h11, h12, fun a h => (by cases h; exact ⟨Nat.le_trans hbase hb, World.lt_of_block hheap⟩), fun _ => ⟨g, 0, cur', rfl, by omega, hheap, by omega, fun i u hu => ?_⟩⟩, ⟨hg.os, hg.tape, hg.output, hg.size, fun k hk _ => hg.block k hk (by simp)⟩, .inr ⟨g, rfl, hb⟩, fun k u hu _ => (hg.block k (World.lt_of_block hu) (by simp)).trans hu⟩
        rw [Nat.zero_add, ← Array.getElem?_toList]
        have hil := (List.getElem?_eq_some_iff.1 hu).1
        rw [← List.take_append_drop ((xs.length + 1) * 1) cur'.toList, h14, List.getElem?_append_left hil]
        exact hu
/-- at an operation of a walk -/
theorem wpList_append_q {ops : Array Oper} {rest : List Oper} {o : Oper} {a : Act} {Q : Exit → Act → World → Prop} (hgd : o.guard = none) (s x : Operand) (t : TypeId)
    (ho : o.op = .call { callee := .builtin .append, args := #[s, x], argTypes := #[t, t] })
    (base : Nat) (e : TypeId) (z : Value) (bytes : Nat) (ht : P.underlying t = some (.slice e)) (hi : P.knows e z 1 bytes) (hzs : z.cells.size = 1)
    (v : Value) (xs : List Value) (hs : a.eval s = v) (hq : QAt w base e v xs) (ad : Addr) (c : Nat) (u : Value) (hxv : a.eval x = .slice (some ad) 1 c) (hx : w.cell? ad = some u) (hsp : ad.spot = none) (h1 : u.oneCell' = true)
    (h63 : xs.length + 1 ≤ maxLen) (hbytes : (xs.length + 1) * bytes ≤ 140737488355328) (hbase : base ≤ w.heap.size)
    (h : ∀ v' w', QAt w' base e v' (xs ++ [u]) → w.grownBy w' (vblk v) → (vblk v' = vblk v ∨ ∃ b, vblk v' = some b ∧ w.heap.size ≤ b) → (∀ (k : Nat) (o : Obj), w.heap[k]? = some o → (∀ c fr, o ≠ Obj.cells c e fr) → w'.heap[k]? = some o) → wpList P ops Q rest (a.put o.dst v') w') : wpList P ops Q (o :: rest) a w := by
  refine wpList_plain hgd fun K hK => ?_
  obtain ⟨v', w', hr, h2, h3, h4, h5⟩ := run_append_q (P := P) w base t o.type e z bytes ht hi hzs v xs hq ad c u hx hsp h1 h63 hbytes hbase
  unfold Oper.wp execOp
  simp only [ho, resolve, invoke, builtin, Sem.run_bind, Sem.run_pure, Result.andThen_ok, List.map_toArray, List.map_cons, List.map_nil, hs, hxv, hr]
  exact hK _ _ (h v' w' h2 h3 h4 h5)
theorem wpListIn_append_q {F : Fence} {nF : Nat} {ops : Array Oper} {rest : List Oper} {o : Oper} {a : Act} {Q : Exit → Act → World → Prop} (hgd : o.guard = none) (s x : Operand) (t : TypeId)
    (ho : o.op = .call { callee := .builtin .append, args := #[s, x], argTypes := #[t, t] })
    (base : Nat) (e : TypeId) (z : Value) (bytes : Nat) (ht : P.underlying t = some (.slice e)) (hi : P.knows e z 1 bytes) (hzs : z.cells.size = 1)
    (v : Value) (xs : List Value) (hs : a.eval s = v) (hq : QAt w base e v xs) (ad : Addr) (c : Nat) (u : Value) (hxv : a.eval x = .slice (some ad) 1 c) (hx : w.cell? ad = some u) (hsp : ad.spot = none) (h1 : u.oneCell' = true)
    (h63 : xs.length + 1 ≤ maxLen) (hbytes : (xs.length + 1) * bytes ≤ 140737488355328) (hbase : base ≤ w.heap.size)
    (h : ∀ v' w', QAt w' base e v' (xs ++ [u]) → w.grownBy w' (vblk v) → (vblk v' = vblk v ∨ ∃ b, vblk v' = some b ∧ w.heap.size ≤ b) → (∀ (k : Nat) (o : Obj), w.heap[k]? = some o → (∀ c fr, o ≠ Obj.cells c e fr) → w'.heap[k]? = some o) → wpListIn F nF P ops Q rest (a.put o.dst v') w') : wpListIn F nF P ops Q (o :: rest) a w := by
  refine wpListIn_plain hgd fun K hK => ?_
  obtain ⟨v', w', hr, h2, h3, h4, h5⟩ := run_append_q (P := P) w base t o.type e z bytes ht hi hzs v xs hq ad c u hx hsp h1 h63 hbytes hbase
  unfold Oper.wpIn
  refine ⟨by simp [Oper.about, ho, resolve, Target.leads, Sem.run_pure], ?_⟩
  rw [Oper.semAt_plain F _ _ (by rw [ho]; intro c hc'; cases hc')]
  simp [execOp, ho, resolve, invoke, builtin, hs, hxv, hr, Result.andThen]
  exact hK _ _ (h v' w' h2 h3 h4 h5)
end
end Go

/-
  What is proved: a queue: a list is appended at its end.
-/
namespace Go
open Go.RowKit

theorem setCells_at {b : Nat} {e : TypeId} : ∀ (vs : List Value) (o : Nat) (w : World) (cur : Array Value), w.heap[b]? = some (.cells cur e) → o + vs.length ≤ cur.size →
    ∃ cur', (w.setCells b o vs).heap[b]? = some (.cells cur' e) ∧ cur'.size = cur.size ∧ ∀ i, cur'[i]? = if o ≤ i ∧ i < o + vs.length then vs[i - o]? else cur[i]?
  | [], o, w, cur, h, _ => ⟨cur, h, rfl, fun i => by rw [if_neg (by simp)]⟩
  | v :: vs, o, w, cur, h, hl => by
    rw [List.length_cons] at hl
    have hh : (w.setCell ⟨b, o, none⟩ v).heap[b]? = some (.cells (cur.setIfInBounds o v) e) := by
      unfold World.setCell
      simp only [Array.getElem?_modify, h, if_true, Option.map_some]
      simp
    obtain ⟨c', h1, h2, h3⟩ := setCells_at vs (o + 1) (w.setCell ⟨b, o, none⟩ v) _ hh (by rw [Array.size_setIfInBounds]; omega)
    rw [Array.size_setIfInBounds] at h2
    refine ⟨c', h1, h2, fun i => ?_⟩
    rw [h3, List.length_cons]
    by_cases e1 : i = o
    · subst e1
      rw [if_neg (by omega), if_pos (by omega), Nat.sub_self, Array.getElem?_setIfInBounds, if_pos rfl, if_pos (by omega)]
      rfl
    · by_cases e2 : o + 1 ≤ i ∧ i < o + 1 + vs.length
      · rw [if_pos e2, if_pos (by omega), show i - o = (i - (o + 1)) + 1 by omega, List.getElem?_cons_succ]
      · rw [if_neg e2, if_neg (by omega), Array.getElem?_setIfInBounds, if_neg (by omega)]
theorem setCells_other {b k : Nat} (hk : k ≠ b) : ∀ (vs : List Value) (o : Nat) (w : World), (w.setCells b o vs).heap[k]? = w.heap[k]?
  | [], _, _ => rfl
  | v :: vs, o, w => by
    show ((w.setCell ⟨b, o, none⟩ v).setCells b (o + 1) vs).heap[k]? = _
    rw [setCells_other hk vs]
    exact World.heap_setCell_map _ _ _ _ (fun e => hk e.symm)
theorem setCells_size {b : Nat} : ∀ (vs : List Value) (o : Nat) (w : World), (w.setCells b o vs).heap.size = w.heap.size
  | [], _, _ => rfl
  | v :: vs, o, w => by
    show ((w.setCell ⟨b, o, none⟩ v).setCells b (o + 1) vs).heap.size = _
    rw [setCells_size vs]; simp
theorem setCells_os {b : Nat} : ∀ (vs : List Value) (o : Nat) (w : World), (w.setCells b o vs).os = w.os ∧ (w.setCells b o vs).tape = w.tape ∧ (w.setCells b o vs).output = w.output
  | [], _, _ => ⟨rfl, rfl, rfl⟩
  | v :: vs, o, w => by
    obtain ⟨h1, h2, h3⟩ := setCells_os (b := b) vs (o + 1) (w.setCell ⟨b, o, none⟩ v)
    exact ⟨h1, h2, h3⟩
section
variable {P : Program} (w : World)
theorem run_append_qs (base : Nat) (t ty e : TypeId) (z : Value) (bytes : Nat) (ht : P.underlying t = some (.slice e)) (hi : P.knows e z 1 bytes) (hzs : z.cells.size = 1)
    (v : Value) (xs : List Value) (hq : QAt w base e v xs) (xv : Value) (news : List Value) (hsrc : SrcAt w xv news.length 1 news) (h0 : 0 < news.length) (hone : ∀ u ∈ news, u.oneCell' = true)
    (h63 : xs.length + news.length ≤ maxLen) (hbytes : (xs.length + news.length) * bytes ≤ 140737488355328) (hbase : base ≤ w.heap.size) :
    ∃ v' w', (Builtin.append_ #[t, t] ty #[v, xv]).run P w = .ok v' w' ∧ QAt w' base e v' (xs ++ news) ∧ w.grownBy w' (vblk v) ∧ (vblk v' = vblk v ∨ ∃ b, vblk v' = some b ∧ w.heap.size ≤ b) ∧ ∀ (k : Nat) (o : Obj), w.heap[k]? = some o → (∀ c fr, o ≠ Obj.cells c e fr) → w'.heap[k]? = some o := by
  obtain ⟨A, cap, rfl, hl, hm, hA0, hq⟩ := hq
  have hsrc' := hsrc
  obtain ⟨As, c, rfl, -, hnews0⟩ := hsrc
  obtain ⟨ad, rfl, hnews⟩ := hnews0 h0
  obtain ⟨i, hi1, hz, hsz, hby⟩ := hi
  have hi : P.knows e z 1 bytes := ⟨i, hi1, hz, hsz, hby⟩
  by_cases hc : cap = 0
  · subst hc
    have hx0 : xs = [] := List.eq_nil_of_length_eq_zero (by omega)
    subst hx0
    obtain ⟨cap', ys, hr, e1, e2, e3, e4⟩ := run_append_fresh (P := P) (w := w) (ty := ty) t e z 1 bytes ht hi hzs (by omega) A _ news.length news hsrc' h0 (by simpa using h63) (by simpa using hbytes)
    refine ⟨_, _, hr, ⟨_, cap', by rw [List.nil_append], by simpa using e1, e2, fun a h => (by cases h; exact ⟨hbase, by simp⟩), fun _ => ⟨w.heap.size, 0, ys, rfl, hbase, heap_alloc_new w.drew _, by omega, fun i u hu => ?_⟩⟩, ⟨rfl, rfl, rfl, by simp, fun k hk _ => heap_alloc_old w.drew _ hk⟩, .inr ⟨w.heap.size, rfl, Nat.le_refl _⟩, fun k o ho _ => (heap_alloc_old w.drew _ (World.lt_of_block ho)).trans ho⟩
    have hu' : news[i]? = some u := by simpa using hu
    have hi0 := (List.getElem?_eq_some_iff.1 hu').1
    rw [Nat.zero_add, ← Array.getElem?_toList, ← List.take_append_drop news.length ys.toList, show ys.toList.take news.length = news from by simpa using e4]
    rw [List.getElem?_append_left hi0]
    exact hu'
  · obtain ⟨b, o, cur, rfl, h4, h5, h6, h7⟩ := hq (by omega)
    by_cases hr : xs.length + news.length ≤ cap
    · have hcell : ∀ j, j < cur.size → w.cell? ⟨b, j, none⟩ = some (cur.getD j undef) := fun j hj => by
        unfold World.cell?
        simp only [h5]
        rw [Array.getD_eq_getD_getElem?, Array.getElem?_eq_getElem hj]; rfl
      have hrun := run_append_room_cells (P := P) w t ty e i ht hi1 b o xs.length cap ad news.length c news (by rw [hsz, Nat.mul_one]) hnews hone hr
        (fun j hj => by rw [hsz, Nat.mul_one, hcell _ (by omega)]; rfl)
        (fun j hj => by unfold World.frozen?; simp only [h5]; simp)
      rw [hsz, Nat.mul_one] at hrun
      obtain ⟨cur', hheap, hcs, hcur⟩ := setCells_at news (o + xs.length) w cur h5 (by omega)
      obtain ⟨k1, k2, k3⟩ := setCells_os (b := b) news (o + xs.length) w
      refine ⟨_, _, hrun, ⟨_, cap, by rw [List.length_append], by rw [List.length_append]; exact hr, hm, fun a h => (by cases h; exact ⟨h4, by rw [setCells_size]; exact World.lt_of_block h5⟩), fun _ => ⟨b, o, _, rfl, h4, hheap, by rw [hcs]; exact h6, fun i u hu => ?_⟩⟩, ⟨k1, k2, k3, by rw [setCells_size]; exact Nat.le_refl _, fun k hk hne => ?_⟩, .inl rfl, fun k u hu hne => ?_⟩
      · have hil := (List.getElem?_eq_some_iff.1 hu).1
        rw [List.length_append] at hil
        rw [hcur]
        by_cases hi : i < xs.length
        · rw [if_neg (by omega)]
          refine h7 i u ?_
          rwa [List.getElem?_append_left hi] at hu
        · rw [if_pos (by omega), show o + i - (o + xs.length) = i - xs.length by omega]
          rwa [List.getElem?_append_right (by omega)] at hu
      · exact setCells_other (fun e => hne (by rw [e]; rfl)) _ _ _
      · rw [setCells_other (fun e => by rw [e, h5] at hu; exact hne _ _ (Option.some.inj hu).symm)]
        exact hu
    · have holds : ∀ j u, xs[j]? = some u → w.cell? ((⟨b, o, none⟩ : Addr).add j) = some u := fun j u hu => by
        have : (⟨b, o, none⟩ : Addr).add j = ⟨b, o + j, none⟩ := by unfold Addr.add; simp
        rw [this]
        unfold World.cell?
        simp only [h5]
        exact h7 j u hu
      obtain ⟨v', w', hrun, hown, hg⟩ := run_append_arg_grows (P := P) w t ty e i z 1 bytes ht hi1 hz hsz hby hzs (by omega) ⟨b, o, none⟩ xs.length cap xs (by omega) holds ad news.length c news (by omega) hnews (by omega) h63 hbytes
      rcases hown.2 with ⟨_, h0⟩ | ⟨g, cap', cur', rfl, hb, hheap, h11, h12, h13, h14⟩
      · omega
      · refine ⟨_, _, hrun, ⟨_, cap', by rw [List.length_append], by rw [List.length_append]; exact h11, h12, fun a h => (by cases h; exact ⟨Nat.le_trans hbase hb, World.lt_of_block hheap⟩), fun _ => ⟨g, 0, cur', rfl, by omega, hheap, by omega, fun i u hu => ?_⟩⟩, ⟨hg.os, hg.tape, hg.output, hg.size, fun k hk _ => hg.block k hk (by simp)⟩, .inr ⟨g, rfl, hb⟩, fun k u hu _ => (hg.block k (World.lt_of_block hu) (by simp)).trans hu⟩
        have hil := (List.getElem?_eq_some_iff.1 hu).1
        rw [Nat.zero_add, ← Array.getElem?_toList, ← List.take_append_drop ((xs.length + news.length) * 1) cur'.toList, h14, List.getElem?_append_left hil]
        exact hu
end
theorem wpChainJ_append_q {P : Program} {ops : Array Oper} {I : World → Prop} {rest : List Oper} {o : Oper} {a : Act} {Q : Act → World → Prop} {W : World} (hgd : o.guard = none) (s x : Operand) (t : TypeId)
    (ho : o.op = .call { callee := .builtin .append, args := #[s, x], argTypes := #[t, t] })
    (base : Nat) (e : TypeId) (z : Value) (bytes : Nat) (ht : P.underlying t = some (.slice e)) (hi : P.knows e z 1 bytes) (hzs : z.cells.size = 1)
    (v : Value) (xs : List Value) (hs : a.eval s = v) (hq : QAt W base e v xs)
    (xv : Value) (hx : a.eval x = xv) (news : List Value) (hsrc : ∀ W0, W.grows W0 → SrcAt W0 xv news.length 1 news) (h0 : 0 < news.length) (h1 : ∀ u ∈ news, u.oneCell' = true)
    (h63 : xs.length + news.length ≤ maxLen) (hbytes : (xs.length + news.length) * bytes ≤ 140737488355328) (hbase : base ≤ W.heap.size)
    (h : ∀ W0 v' w', W.grows W0 → I W0 → QAt w' base e v' (xs ++ news) → W0.grownBy w' (vblk v) → (vblk v' = vblk v ∨ ∃ b, vblk v' = some b ∧ W0.heap.size ≤ b) → (∀ (k : Nat) (o : Obj), W0.heap[k]? = some o → (∀ c fr, o ≠ Obj.cells c e fr) → w'.heap[k]? = some o) → I w' ∧ wpChainJ P ops I Q rest (a.put o.dst v') w') :
    wpChainJ P ops I Q (o :: rest) a W := by
  intro W0 hg hI0
  rw [if_pos (by simp [Region.wanted, hgd])]
  obtain ⟨v', w', hr, h2, h3, h4, h5⟩ := run_append_qs (P := P) W0 base t o.type e z bytes ht hi hzs v xs (hq.mono hg) xv news (hsrc W0 hg) h0 h1 h63 hbytes (Nat.le_trans hbase hg.size)
  unfold Oper.goesOJ execOp
  simp only [ho, resolve, invoke, builtin, Sem.run_bind, Sem.run_pure, Result.andThen_ok, List.map_toArray, List.map_cons, List.map_nil, hs, hx, hr]
  exact h W0 v' w' hg hI0 h2 h3 h4 h5
end Go

/-
  What is proved: as ChainJ, inside a round.
-/
namespace Go
open Go.RowKit

section
variable {P : Program} {ops : Array Oper} {I : World → Prop} {F : Fence} (hF : F.Free P) {N : Nat}

include hF in
theorem wpAnyIn_of_chainJ {Q : Exit → Act → World → Prop} {n : Nat} {ms0 : List Nat}
    (hB : Region.chainsB ops n ms0 = true) (hnd : Region.noDeferB ops = true)
    (hI : ∀ W W', I W → W.grows W' → I W') (hheads0 : ∀ (listed : Array Bool) (i0 : Nat), HeadInv .any ops n listed → i0 < n → listed.getD i0 true = false → ∀ t ∈ Region.ready .any ops listed, t < n)
    {K : Act → World → Prop}
    (hK : ∀ a W, K a W → ∀ listed, HeadInv .any ops n listed → (∀ i, i < n → listed.getD i false = true) → wpAnyIn F N P .any ops Q (ops.size - n) listed a W) :
    ∀ (cnt : Nat) (es ms : List (Nat × Oper)) (listed : Array Bool) (a : Act) (W : World),
      es.length + ms.length = cnt → HeadInv .any ops n listed →
      (∀ i, i < n → (listed.getD i false = false ↔ i ∈ es.map (·.1) ∨ i ∈ ms.map (·.1))) →
      (∀ p ∈ es, p.1 < n ∧ ops[p.1]? = some p.2 ∧ ms0.contains p.1 = false) → (∀ p ∈ ms, p.1 < n ∧ ops[p.1]? = some p.2 ∧ ms0.contains p.1 = true) →
      (es.map (·.1)).Pairwise (· < ·) → (ms.map (·.1)).Pairwise (fun i j => i < j) → (∀ p q : Nat × Oper, ∀ l1 l2, ms = l1 ++ p :: q :: l2 → Region.waitsFor .any ops q.1 p.1 = true) →
      I W → wpCalmJ P ops I (fun a' => wpChainJ P ops I K (ms.map (·.2)) a' W) (es.map (·.2)) a →
      wpAnyIn F N P .any ops Q (cnt + (ops.size - n)) listed a W := by
  simp only [Region.chainsB, Bool.and_eq_true] at hB
  obtain ⟨⟨⟨hmix, hEM⟩, _⟩, _⟩ := hB
  simp only [Region.mixB, Bool.and_eq_true, decide_eq_true_eq] at hmix
  obtain ⟨⟨⟨hsel, hnle⟩, hpair⟩, hedge⟩ := hmix
  have hsp := Region.noSelect_spec hsel
  have pairOf : ∀ i j oi oj, i < j → j < n → ops[i]? = some oi → ops[j]? = some oj → Region.waitsFor .any ops j i = true ∨ oi.apart ops oj = true := by
    intro i j oi oj hij hj hi hoj
    have h1 := List.all_eq_true.1 (List.all_eq_true.1 hpair i (List.mem_range.2 (by omega))) j (List.mem_range.2 hj)
    simp only [Bool.or_eq_true, decide_eq_true_eq, Region.pairB, hi, hoj] at h1
    rcases h1 with h1 | h1
    · omega
    · exact h1
  have apart_symm : ∀ x y : Oper, x.apart ops y = true → y.apart ops x = true := by
    intro x y h
    unfold Oper.apart at *
    cases hx : x.dst <;> cases hy : y.dst <;> simp [hx, hy] at h ⊢
    · exact h
    · exact h
    · exact ⟨⟨h.2, fun e => h.1.2 e.symm⟩, h.1.1⟩
  have edgeOf : ∀ i o, i < n → ops[i]? = some o → ∀ e ∈ o.after, Region.binds .any e = true → e.on < i := by
    intro i o hi ho e he hb
    have h1 := List.all_eq_true.1 hedge i (List.mem_range.2 hi)
    simp only [ho, Bool.and_eq_true] at h1
    have h2 := Array.all_eq_true_iff_forall_mem.1 h1.1 e he
    simpa only [hb, Bool.not_true, Bool.false_or, decide_eq_true_eq] using h2
  have edgeEM : ∀ i o, i < n → ops[i]? = some o → ms0.contains i = false → ∀ e ∈ o.after, Region.binds .any e = true → ms0.contains e.on = false := by
    intro i o hi ho h3 e he hb
    have h1 := List.all_eq_true.1 hEM i (List.mem_range.2 hi)
    simp only [ho, h3, Bool.false_or] at h1
    have h2 := Array.all_eq_true_iff_forall_mem.1 h1 e he
    simpa [hb] using h2
  have unwait : ∀ (listed : Array Bool) (i j : Nat), i ∈ Region.ready .any ops listed → listed.getD j false = false → Region.waitsFor .any ops i j = true → False := by
    intro listed i j hi hj hw
    obtain ⟨oi, hoi, e, he, hb, hon⟩ := Region.waitsFor_spec hw
    obtain ⟨_, o', ho', hall⟩ := mem_ready.1 hi
    rw [hoi] at ho'; cases ho'
    have := hall e he hb
    rw [hon, hj] at this; cases this
  intro cnt
  induction cnt with
  | zero =>
    intro es ms listed a W hc inv hmem hes hms _ _ _ hgW h
    have he : es = [] := List.eq_nil_of_length_eq_zero (by omega)
    have ha : ms = [] := List.eq_nil_of_length_eq_zero (by omega)
    subst he; subst ha
    rw [Nat.zero_add]
    refine hK a W (h W (World.grows.refl _)) listed inv fun i hi => ?_
    have := hmem i hi
    simp only [List.map_nil, List.not_mem_nil, or_self, iff_false, Bool.not_eq_false] at this
    exact this
  | succ cnt ih =>
    intro es ms listed a W hc inv hmem hes hms hse hsm hsw hgW h
    rw [show cnt + 1 + (ops.size - n) = (cnt + (ops.size - n)) + 1 by omega]
    have hun : ∃ i, i < n ∧ listed.getD i true = false := by
      cases es with
      | cons p es =>
        have h1 := hes p (List.mem_cons_self ..)
        refine ⟨p.1, h1.1, getD_in (by rw [inv.size]; omega) ((hmem p.1 h1.1).2 (.inl (by simp)))⟩
      | nil =>
        cases ms with
        | nil => simp at hc
        | cons p ms =>
          have h1 := hms p (List.mem_cons_self ..)
          exact ⟨p.1, h1.1, getD_in (by rw [inv.size]; omega) ((hmem p.1 h1.1).2 (.inr (by simp)))⟩
    obtain ⟨i0, hi0, hun0⟩ := hun
    have hheads := hheads0 listed i0 inv hi0 hun0
    refine ⟨fun hnil => ?_, fun i hi => ?_⟩
    · exfalso
      have first : ∀ i o, i < n → ops[i]? = some o → listed.getD i false = false → (∀ j, j < i → listed.getD j false = true ∨ (ms0.contains i = false ∧ ms0.contains j = true)) → False := by
        intro i o hi ho hl hall
        have : i ∈ Region.ready .any ops listed := mem_ready.2 ⟨getD_in (by rw [inv.size]; omega) hl, o, ho, fun e he hb => by
          have h1 := edgeOf i o hi ho e he hb
          rcases hall e.on h1 with h3 | ⟨h3, h4⟩
          · exact h3
          · rw [edgeEM i o hi ho h3 e he hb] at h4; cases h4⟩
        rw [hnil] at this; cases this
      cases es with
      | cons p es =>
        obtain ⟨h1, h2, h3⟩ := hes p (List.mem_cons_self ..)
        refine first p.1 p.2 h1 h2 ((hmem p.1 h1).2 (.inl (by simp))) fun j hj => ?_
        cases hl : listed.getD j false with
        | true => exact .inl rfl
        | false =>
          refine .inr ⟨h3, ?_⟩
          rcases (hmem j (by omega)).1 hl with h4 | h4
          · simp only [List.map_cons, List.mem_cons] at h4
            simp only [List.map_cons, List.pairwise_cons] at hse
            rcases h4 with h4 | h4
            · omega
            · have := hse.1 j h4; omega
          · obtain ⟨q, hq, rfl⟩ := List.mem_map.1 h4
            exact (hms q hq).2.2
      | nil =>
        cases ms with
        | nil => simp at hc
        | cons p ms =>
          obtain ⟨h1, h2, h3⟩ := hms p (List.mem_cons_self ..)
          refine first p.1 p.2 h1 h2 ((hmem p.1 h1).2 (.inr (by simp))) fun j hj => ?_
          cases hl : listed.getD j false with
          | true => exact .inl rfl
          | false =>
            rcases (hmem j (by omega)).1 hl with h4 | h4
            · simp at h4
            · simp only [List.map_cons, List.mem_cons] at h4
              simp only [List.map_cons, List.pairwise_cons] at hsm
              rcases h4 with h4 | h4
              · omega
              · have := hsm.1 j h4; omega
    · have hin := hheads i hi
      have hl : listed.getD i false = false := getD_both (mem_ready.1 hi).1
      have inv' := inv.set hi hin
      have set_mem : ∀ j, j < n → j ≠ i → ((listed.setIfInBounds i true).getD j false = false ↔ listed.getD j false = false) := fun j hj hji => by rw [getD_set_ne false (Ne.symm hji)]
      have set_self : (listed.setIfInBounds i true).getD i false = true := by
        have : i < listed.size := by rw [inv.size]; omega
        simp [this]
      rcases (hmem i hin).1 hl with hie | him
      · obtain ⟨p, hp, rfl⟩ := List.mem_map.1 hie
        obtain ⟨l1, l2, rfl⟩ := List.append_of_mem hp
        obtain ⟨h1, h2, h3⟩ := hes p hp
        have hsort := hse
        simp only [List.map_append, List.map_cons, List.pairwise_append, List.pairwise_cons] at hsort
        have hap1 : ∀ y ∈ l1.map (·.2), p.2.apart ops y = true ∧ ∀ cs b, y.op ≠ .select cs b := by
          intro y hy
          obtain ⟨q, hq, rfl⟩ := List.mem_map.1 hy
          obtain ⟨g1, g2, g3⟩ := hes q (by simp [hq])
          refine ⟨?_, fun cs b => hsp q.1 q.2 cs b g2⟩
          have hlt : q.1 < p.1 := hsort.2.2 q.1 (List.mem_map.2 ⟨q, hq, rfl⟩) p.1 (by simp)
          rcases pairOf q.1 p.1 q.2 p.2 hlt h1 g2 h2 with hw | ha
          · exact (unwait listed p.1 q.1 hi ((hmem q.1 g1).2 (.inl (by simp; exact .inl ⟨_, hq⟩))) hw).elim
          · exact apart_symm _ _ ha
        rw [List.map_append, List.map_cons] at h
        obtain ⟨v, hy, h'⟩ := calm_frontJ (fun cs b => hsp p.1 p.2 cs b h2) _ a hap1 h
        have hrest : ∀ W', W.grows W' → wpAnyIn F N P .any ops Q (cnt + (ops.size - n)) (listed.setIfInBounds p.1 true) (a.put p.2.dst v) W' := by
          intro W' hg
          refine ih (l1 ++ l2) ms _ _ W' (by simp at hc ⊢; omega) inv' (fun j hj => ?_) (fun q hq => hes q (by simp at hq ⊢; rcases hq with h | h <;> simp [h])) hms ?_ hsm hsw (hI _ _ hgW hg) (by rw [List.map_append]; exact wpCalm_monoJ (fun a' h => wpChain_growJ hg h) _ _ h')
          · by_cases hji : j = p.1
            · subst hji
              rw [set_self]
              simp only [Bool.true_eq_false, false_iff]
              rintro (hh | hh)
              · obtain ⟨q, hq, he⟩ := List.mem_map.1 hh
                rcases List.mem_append.1 hq with hq | hq
                · have := hsort.2.2 q.1 (List.mem_map.2 ⟨q, hq, rfl⟩) p.1 (by simp); omega
                · have := hsort.2.1.1 q.1 (List.mem_map.2 ⟨q, hq, rfl⟩); omega
              · obtain ⟨q, hq, he⟩ := List.mem_map.1 hh
                have := (hms q hq).2.2
                rw [he, h3] at this; cases this
            · rw [set_mem j hj hji, hmem j hj]
              simp only [List.map_append, List.map_cons, List.mem_append, List.mem_cons]
              constructor
              · rintro ((h | h | h) | h)
                · exact .inl (.inl h)
                · exact absurd h hji
                · exact .inl (.inr h)
                · exact .inr h
              · rintro ((h | h) | h)
                · exact .inl (.inl h)
                · exact .inl (.inr (.inr h))
                · exact .inr h
          · rw [List.map_append, List.pairwise_append]
            exact ⟨hsort.1, hsort.2.1.2, fun x hx y hy => hsort.2.2 x hx y (List.mem_cons_of_mem _ hy)⟩
        unfold wpOpIn
        simp only [h2]
        rcases hy with ⟨hw, hv⟩ | ⟨hw, rfl⟩
        · rw [if_pos hw]
          have hv' := hv _ hgW
          unfold Oper.calmAt at hv'
          unfold Oper.wpIn
          refine ⟨fun f _ => hF.fn f, ?_⟩
          rw [Oper.semAt_plain F a.eval p.2 (Region.noDefer_spec hnd p.1 p.2 h2)]
          generalize (execOp a.eval p.2).run P W = r at *
          cases r with
          | halt z w' => simp only [Oper.calmUpon] at hv'
          | ok nx w' =>
            cases nx <;> simp only [Oper.calmUpon] at hv' <;> simp only [Oper.uponIn]
            case value u => obtain ⟨rfl, rfl⟩ := hv'; exact hrest _ (World.grows.refl _)
            case skip => obtain ⟨rfl, rfl⟩ := hv'; exact hrest _ (World.grows.refl _)
            case enter f args =>
              obtain ⟨rfl, hcall⟩ := hv'
              refine ⟨(fun h => by rw [hF.depth] at h; cases h), hF.calls _ _ _ _ _ (hcall.mono fun e w'' ⟨he, hg⟩ => ?_)⟩
              subst he
              exact hrest _ hg
        · rw [if_neg (by rw [hw]; exact Bool.false_ne_true)]
          exact ⟨fun f _ => hF.fn f, hrest _ (World.grows.refl _)⟩
      · -- the next of the chain
        cases ms with
        | nil => simp at him
        | cons m ms =>
        have hhead : i = m.1 := by
          rcases List.mem_cons.1 (by simpa using him : i ∈ m.1 :: ms.map (·.1)) with h1 | h1
          · exact h1
          · exfalso
            obtain ⟨q, hq, rfl⟩ := List.mem_map.1 h1
            obtain ⟨l1, l2, rfl⟩ := List.append_of_mem hq
            rcases List.eq_nil_or_concat l1 with rfl | ⟨l0, z, rfl⟩
            · exact unwait listed q.1 m.1 hi ((hmem m.1 (hms m (List.mem_cons_self ..)).1).2 (.inr (by simp))) (hsw m q [] l2 (by simp))
            · exact unwait listed q.1 z.1 hi ((hmem z.1 (hms z (by simp)).1).2 (.inr (by simp))) (hsw z q (m :: l0) l2 (by simp))
        subst hhead
        obtain ⟨h1, h2, h3⟩ := hms m (List.mem_cons_self ..)
        have hape : ∀ y ∈ es.map (·.2), m.2.apart ops y = true ∧ ∀ cs b, y.op ≠ .select cs b := by
          intro y hy
          obtain ⟨q, hq, rfl⟩ := List.mem_map.1 hy
          obtain ⟨g1, g2, g3⟩ := hes q hq
          refine ⟨?_, fun cs b => hsp q.1 q.2 cs b g2⟩
          have hql : listed.getD q.1 false = false := (hmem q.1 g1).2 (.inl (List.mem_map.2 ⟨q, hq, rfl⟩))
          rcases Nat.lt_trichotomy q.1 m.1 with hlt | heq | hgt
          · rcases pairOf q.1 m.1 q.2 m.2 hlt h1 g2 h2 with hw | ha
            · exact (unwait listed m.1 q.1 hi hql hw).elim
            · exact apart_symm _ _ ha
          · rw [heq, h3] at g3; cases g3
          · rcases pairOf m.1 q.1 m.2 q.2 hgt g1 h2 g2 with hw | ha
            · exfalso
              obtain ⟨oq, hoq, e, he, hb, hon⟩ := Region.waitsFor_spec hw
              have := edgeEM q.1 oq g1 hoq g3 e he hb
              rw [hon, h3] at this; cases this
            · exact ha
        have h' := chain_frontJ (Φ := fun _ a'' W'' => wpChainJ P ops I K (ms.map (·.2)) a'' W'') (fun cs b => hsp m.1 m.2 cs b h2) _ a hape (wpCalm_monoJ (fun a' h => h W (World.grows.refl _) hgW) _ _ h)
        have hrest : ∀ v W', I W' → wpCalmJ P ops I (fun a'' => wpChainJ P ops I K (ms.map (·.2)) a'' W') (es.map (·.2)) (a.put m.2.dst v) → wpAnyIn F N P .any ops Q (cnt + (ops.size - n)) (listed.setIfInBounds m.1 true) (a.put m.2.dst v) W' := by
          intro v W' hg hh
          have hsm' : m.1 ∉ ms.map (·.1) := by
            simp only [List.map_cons, List.pairwise_cons] at hsm
            intro hx
            have := hsm.1 m.1 hx
            omega
          refine ih es ms _ _ W' (by simp at hc ⊢; omega) inv' (fun j hj => ?_) hes (fun q hq => hms q (List.mem_cons_of_mem _ hq)) hse ?_ (fun p q l1 l2 he => hsw p q (m :: l1) l2 (by rw [he]; rfl)) hg hh
          · by_cases hji : j = m.1
            · subst hji
              rw [set_self]
              simp only [Bool.true_eq_false, false_iff]
              rintro (hh | hh)
              · obtain ⟨q, hq, he⟩ := List.mem_map.1 hh
                have := (hes q hq).2.2
                rw [he, h3] at this; cases this
              · exact hsm' hh
            · rw [set_mem j hj hji, hmem j hj]
              simp only [List.map_cons, List.mem_cons]
              constructor
              · rintro (h | h | h)
                · exact .inl h
                · exact absurd h hji
                · exact .inr h
              · rintro (h | h)
                · exact .inl h
                · exact .inr (.inr h)
          · simp only [List.map_cons, List.pairwise_cons] at hsm
            exact hsm.2
        unfold wpOpIn
        simp only [h2]
        by_cases hw : Region.wanted m.2 (yielded ops a.tmps) = true
        · rw [if_pos hw] at h' ⊢
          unfold Oper.goesOJ at h'
          unfold Oper.wpIn
          refine ⟨fun f _ => hF.fn f, ?_⟩
          rw [Oper.semAt_plain F a.eval m.2 (Region.noDefer_spec hnd m.1 m.2 h2)]
          generalize (execOp a.eval m.2).run P W = r at *
          cases r with
          | halt z w' => simp only [goesUponOJ] at h'
          | ok nx w' =>
            cases nx <;> simp only [goesUponOJ] at h' <;> simp only [Oper.uponIn]
            case value u => exact hrest _ _ h'.1 h'.2
            case skip => exact hrest _ _ h'.1 h'.2
            case enter f args =>
              obtain ⟨rfl, hcall⟩ := h'
              refine ⟨(fun h => by rw [hF.depth] at h; cases h), hF.calls _ _ _ _ _ (hcall.mono fun e w'' ⟨v, he, hg, hp⟩ => ?_)⟩
              subst he
              exact hrest _ _ hg hp
        · rw [if_neg hw] at h' ⊢
          exact ⟨fun f _ => hF.fn f, hrest _ _ hgW h'⟩

include hF in
/-- reads and calls in any order, beside a chain (numbers ms), a tail in order from n on -/
theorem wpIn_region_chainJ {id : Nat} {Q : Exit → Act → World → Prop} {a : Act} {w : World} {l : List Oper} (n : Nat) (ms : List Nat) (I : World → Prop) (hI : ∀ W W', I W → W.grows W' → I W') (hIw : I w) (hm : P.follows .mixedOrders = true)
    (hB : (Region.chainPlanB l.toArray n ms && decide (((withNo 0 (l.take n)).filter fun p => ms.contains p.1).map (·.1) = ms)) = true) (hnd : Region.noDeferB l.toArray = true) (hn : n ≤ l.length)
    (h : wpCalmJ P l.toArray I (fun a' => wpChainJ P l.toArray I (fun a'' W => wpListIn F N P l.toArray Q (l.drop n) a'' W) (only l n ms) a' w) (without l n ms) a) : (Code.region id l.toArray true).wpIn F N P Q a w := by
  simp only [Region.chainPlanB, Bool.and_eq_true, Bool.or_eq_true, decide_eq_true_eq] at hB
  obtain ⟨⟨⟨hch, hplan⟩, hseq⟩, hms⟩ := hB
  have hch0 := hch
  have hnle : n ≤ l.toArray.size := by simpa using hn
  refine wpIn_region_any hm ?_
  obtain ⟨n0, x0, h0⟩ := World.more_drew w
  rw [h0]
  have hat : ∀ p ∈ withNo 0 (l.take n), p.1 < n ∧ l.toArray[p.1]? = some p.2 := fun p hp => by
    have h2 := ((withNo_mem 0 _ p).1 hp).2
    rw [Nat.sub_zero, List.getElem?_take] at h2
    split at h2
    · rename_i hlt; exact ⟨by omega, by simpa using h2⟩
    · cases h2
  have hsorted : ((withNo 0 (l.take n)).map (·.1)).Pairwise (· < ·) := by rw [withNo_fst]; exact List.pairwise_lt_range'
  have hfilt : ∀ (q : Nat × Oper → Bool), (((withNo 0 (l.take n)).filter q).map (·.1)).Pairwise (· < ·) := fun q => by
    have : ((withNo 0 (l.take n)).filter q).Sublist (withNo 0 (l.take n)) := List.filter_sublist
    exact hsorted.sublist (this.map _)
  have hlen : ((withNo 0 (l.take n)).filter fun p => !ms.contains p.1).length + ((withNo 0 (l.take n)).filter fun p => ms.contains p.1).length = n := by
    have e1 : (withNo 0 (l.take n)).length = n := by
      have := congrArg List.length (withNo_snd 0 (l.take n))
      simp at this
      omega
    have := filt_len (fun p : Nat × Oper => ms.contains p.1) (withNo 0 (l.take n))
    omega
  have key := wpAnyIn_of_chainJ hF (N := N) (P := P) (ops := l.toArray) (I := I) (Q := Q) (n := n) (ms0 := ms) hch hnd hI
    (fun listed i0 inv hi0 hun0 => by
      rcases hplan with h | ⟨⟨h1, h2⟩, h3⟩
      · subst h; exact heads_of_all listed
      · exact heads_of_tail h1 h2 h3 listed i0 inv hi0 hun0)
    (K := fun a'' W => wpListIn F N P l.toArray Q (l.drop n) a'' W)
    (fun a W hK listed inv hall => by
      have hl := seq_listed inv hnle hall
      subst hl
      have hd : (l.drop n).length = l.toArray.size - n := by simp
      have := wpAnyIn_of_seq hnd (Q' := Q) (l.drop n) n _ a W (fun j => by simp [List.getElem?_drop]) (by rw [hd]; exact hseq) hK
      rwa [hd] at this)
    n ((withNo 0 (l.take n)).filter fun p => !ms.contains p.1) ((withNo 0 (l.take n)).filter fun p => ms.contains p.1) (Array.replicate l.toArray.size false) a (w.plus n0 x0) hlen (headInv_start n)
    (fun i hi => by
      simp only [getD_replicate_false, true_iff, List.mem_map, List.mem_filter]
      have hil : i < (l.take n).length := by simp; omega
      have hi2 : (i, (l.take n)[i]) ∈ withNo 0 (l.take n) := (withNo_mem 0 _ _).2 ⟨Nat.zero_le _, by rw [Nat.sub_zero]; exact List.getElem?_eq_getElem hil⟩
      cases hc : ms.contains i with
      | true => exact .inr ⟨_, ⟨hi2, hc⟩, rfl⟩
      | false => exact .inl ⟨_, ⟨hi2, by simpa using hc⟩, rfl⟩)
    (fun p hp => by
      obtain ⟨h1, h2⟩ := List.mem_filter.1 hp
      exact ⟨(hat p h1).1, (hat p h1).2, by simpa using h2⟩)
    (fun p hp => by
      obtain ⟨h1, h2⟩ := List.mem_filter.1 hp
      exact ⟨(hat p h1).1, (hat p h1).2, h2⟩)
    (hfilt _) (hfilt _)
    (fun p q l1 l2 he => by
      simp only [Region.chainsB, Bool.and_eq_true] at hch0
      have hz := hch0.1.2
      have := zip_nextIn ms (fun i j => decide (i < j) && Region.waitsFor .any l.toArray j i) hz p.1 q.1 (l1.map (·.1)) (l2.map (·.1)) (by rw [← hms, he]; simp)
      simp only [Bool.and_eq_true] at this
      exact this.2)
    (hI _ _ hIw (World.grows_plus _ _ _))
    (wpCalm_monoJ (fun a' h => wpChain_growJ (World.grows_plus _ _ _) h) _ _ h)
  rw [show n + (l.toArray.size - n) = l.toArray.size by omega] at key
  exact key
end
end Go

/-
  What is proved: a range over a function whose rounds end normally, and may change what they have made: what holds between the rounds is said of the world itself.
-/
namespace Go
open Go.RowKit

theorem wp_rangeFunc_own {P : Program} {g : Operand} {ps : Array Tmp} {assign body : Code} {Q : Exit → Act → World → Prop} {a : Act} {w : World} {f : Nat} {lb : Array Value} {xs : List (Array Value)} {Ro : World → Prop}
    (hg : a.eval g = .func (.func f) #[] lb) (eg : ∀ args w, (callFunc f args).run P w = .ok (.enter f args) w)
    (hseq : SeqC P f lb xs Ro) (hps : ∀ x ∈ xs, x.size = ps.size)
    (J : Nat → World → Prop) (hJ : ∀ k W W', J k W → W.grows W' → J k W')
    (hput : ∀ k W lo lo', W.heap[w.heap.size + 1]? = some (.loop lo) → J k W → J k (W.putObj (w.heap.size + 1) (.loop lo')))
    (hR : ∀ k W, J k W → Ro W) (h0 : ∀ lo, J 0 ((w.alloc (.deferred (some []))).alloc lo))
    (hround : ∀ (k : Nat) (x : Array Value) (W : World), xs[k]? = some x → J k W → W.heap[w.heap.size]? = some (.deferred (some [])) → (∃ lo, W.heap[w.heap.size + 1]? = some (.loop lo)) → ∀ K0 : Act → World → Prop,
      Hid (∀ a1 W1, W.grows W1 →
        (∀ (lo' : Loop) (K1 : Exit → Act → World → Prop), Hid (∀ a' W', J (k + 1) W' → W'.heap[w.heap.size]? = some (.deferred (some [])) → W'.heap[w.heap.size + 1]? = some (.loop lo') → K1 .normal a' W') →
          body.wpIn (Fence.wide.inRound (w.heap.size + 1)) 0 P K1 a1 (W1.putObj (w.heap.size + 1) (.loop lo'))) → K0 a1 W1) →
      assign.wpIn (Fence.wide.inRound (w.heap.size + 1)) 0 P (Exit.then K0 (fun _ _ _ => False))
        { tmps := (ps.zip x).foldl (fun t (p, v) => t.setIfInBounds p v) a.tmps, defers := [] } W)
    (hdone : ∀ W, J xs.length W → W.heap[w.heap.size]? = some (.deferred (some [])) → Q .normal { a with defers := { target := .collected w.heap.size, args := #[] } :: a.defers } W) :
    (Code.rangeFunc g ps assign body).wp P Q a w := by
  refine (wpIn_wide (n := 0)).1 (wpIn_rangeFunc ?_)
  intro fn hfn
  obtain ⟨rec, hrec⟩ : ∃ rec : LoopState → Option Code → Loop, rec = fun st pe => { state := st, pending := pe, fn, tmps := a.tmps, params := ps, assign, body, defers := w.heap.size } := ⟨_, rfl⟩
  refine ⟨w.heap.size + 1, [{ target := .collected w.heap.size, args := #[] }], (w.alloc (.deferred (some []))).alloc (.loop (rec .ready none)), { target := .fn (.func f) lb, args := #[.func (.yield (w.heap.size + 1)) #[] #[]] }, (w.alloc (.deferred (some []))).alloc (.loop (rec .ready none)), f,
    #[.func (.yield (w.heap.size + 1)) #[] #[]] ++ lb, (w.alloc (.deferred (some []))).alloc (.loop (rec .ready none)), ?_, ?_, fun _ _ => trivial, ?_, fun h => (by simp [Fence.wide] at h), ?_⟩
  · rw [hrec]; exact run_enterLoop_outer _ _ _ _ _
  · simp only [resolve, hg]
    simp [go_sem]
  · simp [invoke, go_sem, eg]
  · have hD0 : ((w.alloc (.deferred (some []))).alloc (.loop (rec .ready none))).heap[w.heap.size]? = some (.deferred (some [])) :=
      World.grows.heap_of (World.grows.alloc (World.grows.refl _) _) (heap_alloc_new w _)
    have hL0 : ((w.alloc (.deferred (some []))).alloc (.loop (rec .ready none))).heap[w.heap.size + 1]? = some (.loop (rec .ready none)) := by
      have := heap_alloc_new (w.alloc (.deferred (some []))) (.loop (rec .ready none))
      rwa [World.size_alloc] at this
    refine (hseq (w.heap.size + 1) (fun k W => J k W ∧ W.heap[w.heap.size]? = some (.deferred (some [])) ∧ W.heap[w.heap.size + 1]? = some (.loop (rec .ready none))) (fun _ => False) _
      (fun k W W' ⟨h1, h2, h3⟩ h4 => ⟨hJ k W W' h1 h4, h4.heap_of h2, h4.heap_of h3⟩) (fun _ _ h _ => h) (fun k W h => hR k W h.1) ?_ ⟨h0 _, hD0, hL0⟩).mono ?_
    · rintro k x hx W ⟨hJW, hD, hl⟩
      have hy : ∀ W : World, W.heap[w.heap.size + 1]? = some (.loop (rec .ready none)) → (Instr.yield (w.heap.size + 1) x).run P W = .ok (.round (w.heap.size + 1) fn ((ps.zip x).foldl (fun t (p, v) => t.setIfInBounds p v) a.tmps) assign body) W := fun W hl => by
        have := run_yield (P := P) (args := x) hl (by rw [hrec]; exact hps x (List.mem_of_getElem? hx))
        rw [hrec] at this
        exact this
      refine ⟨fn, _, assign, body, hy _ hl, roundIn_of_wpIn hfn ?_⟩
      refine wpIn_mono (hround k x W hx hJW hD ⟨_, hl⟩
        (fun a1 W1 => W.grows W1 ∧ ∀ lo', body.wpIn (Fence.wide.inRound (w.heap.size + 1)) 0 P (fun e a' W' => e = .normal ∧ J (k + 1) W' ∧ W'.heap[w.heap.size]? = some (.deferred (some [])) ∧ W'.heap[w.heap.size + 1]? = some (.loop lo')) a1 (W1.putObj (w.heap.size + 1) (.loop lo')))
        (Lib.hid fun a1 W1 hg1 hb => ⟨hg1, fun lo' => hb lo' _ (Lib.hid fun a' W' h1 h2 h3 => ⟨rfl, h1, h2, h3⟩)⟩)) ?_
      rintro e a1 W1 h1
      cases e with
      | normal =>
        obtain ⟨hg1, hb⟩ := h1
        have hl1 := hg1.heap_of hl
        refine ⟨_, run_beginRound hl1 (by rw [hrec]), wpIn_mono (hb _) ?_⟩
        rintro e a3 W3 ⟨rfl, hJ3, hD3, hL3⟩
        have fin := run_endRound (P := P) none hL3
        rw [hrec] at fin
        have hsz := World.lt_of_block hL3
        rw [hrec]
        exact ⟨_, _, fin, .inl ⟨rfl, hput _ _ _ _ hL3 hJ3, by rw [World.putObj_heap_other (by omega)]; exact hD3, by rw [World.putObj_heap_same hsz]; rfl⟩⟩
      | exit id => exact h1.elim
      | goto t => exact h1.elim
      | ret => exact h1.elim
      | panic ch => exact h1.elim
      | outgrown => exact h1.elim
    · rintro e W2 ⟨⟨v, rfl⟩, (⟨hJW, hD, hl⟩ | hF)⟩
      · have he := run_endLoop (P := P) hl (by rw [hrec]; simp)
        have hsz := World.lt_of_block hl
        rw [hrec] at he
        exact ⟨none, _, he, hdone _ (hput _ _ _ _ hl hJW) (by rw [World.putObj_heap_other (by omega)]; exact hD)⟩
      · exact hF.elim
end Go

/-
  What is proved: a range over a function whose rounds may change what they have made, and may leave the loop: what holds between the rounds is said of the world itself.
-/
namespace Go
open Go.RowKit

theorem wp_rangeFunc_ownX {P : Program} {g : Operand} {ps : Array Tmp} {assign body : Code} {Q : Exit → Act → World → Prop} {a : Act} {w : World} {f : Nat} {lb : Array Value} {xs : List (Array Value)} {Ro : World → Prop}
    (hg : a.eval g = .func (.func f) #[] lb) (eg : ∀ args w, (callFunc f args).run P w = .ok (.enter f args) w)
    (hseq : SeqC P f lb xs Ro) (hps : ∀ x ∈ xs, x.size = ps.size)
    (J : Nat → World → Prop) (X : Code → World → Prop) (hJ : ∀ k W W', J k W → W.grows W' → J k W') (hX : ∀ c W W', X c W → W.grows W' → X c W')
    (hput : ∀ k W lo lo', W.heap[w.heap.size + 1]? = some (.loop lo) → J k W → J k (W.putObj (w.heap.size + 1) (.loop lo')))
    (hXput : ∀ c W lo lo', W.heap[w.heap.size + 1]? = some (.loop lo) → X c W → X c (W.putObj (w.heap.size + 1) (.loop lo')))
    (hR : ∀ k W, J k W → Ro W) (h0 : ∀ lo, J 0 ((w.alloc (.deferred (some []))).alloc lo))
    (hround : ∀ (k : Nat) (x : Array Value) (W : World), xs[k]? = some x → J k W → W.heap[w.heap.size]? = some (.deferred (some [])) → (∃ lo, W.heap[w.heap.size + 1]? = some (.loop lo)) → ∀ K0 : Act → World → Prop,
      Hid (∀ a1 W1, W.grows W1 →
        (∀ (lo' : Loop) (K1 : Exit → Act → World → Prop), Hid ((∀ a' W', J (k + 1) W' → W'.heap[w.heap.size]? = some (.deferred (some [])) → W'.heap[w.heap.size + 1]? = some (.loop lo') → K1 .normal a' W') ∧
            (∀ a' W', X .ret W' → W'.heap[w.heap.size]? = some (.deferred (some [])) → W'.heap[w.heap.size + 1]? = some (.loop lo') → K1 .ret a' W') ∧
            (∀ id a' W', X (.exit id) W' → W'.heap[w.heap.size]? = some (.deferred (some [])) → W'.heap[w.heap.size + 1]? = some (.loop lo') → K1 (.exit id) a' W')) →
          body.wpIn (Fence.wide.inRound (w.heap.size + 1)) 0 P K1 a1 (W1.putObj (w.heap.size + 1) (.loop lo'))) → K0 a1 W1) →
      assign.wpIn (Fence.wide.inRound (w.heap.size + 1)) 0 P (Exit.then K0 (fun _ _ _ => False))
        { tmps := (ps.zip x).foldl (fun t (p, v) => t.setIfInBounds p v) a.tmps, defers := [] } W)
    (hdone : ∀ W, J xs.length W → W.heap[w.heap.size]? = some (.deferred (some [])) → Q .normal { a with defers := { target := .collected w.heap.size, args := #[] } :: a.defers } W)
    (hstop : ∀ c W, X c W → W.heap[w.heap.size]? = some (.deferred (some [])) → c.wp P Q { a with defers := { target := .collected w.heap.size, args := #[] } :: a.defers } W) :
    (Code.rangeFunc g ps assign body).wp P Q a w := by
  refine (wpIn_wide (n := 0)).1 (wpIn_rangeFunc ?_)
  intro fn hfn
  obtain ⟨rec, hrec⟩ : ∃ rec : LoopState → Option Code → Loop, rec = fun st pe => { state := st, pending := pe, fn, tmps := a.tmps, params := ps, assign, body, defers := w.heap.size } := ⟨_, rfl⟩
  refine ⟨w.heap.size + 1, [{ target := .collected w.heap.size, args := #[] }], (w.alloc (.deferred (some []))).alloc (.loop (rec .ready none)), { target := .fn (.func f) lb, args := #[.func (.yield (w.heap.size + 1)) #[] #[]] }, (w.alloc (.deferred (some []))).alloc (.loop (rec .ready none)), f,
    #[.func (.yield (w.heap.size + 1)) #[] #[]] ++ lb, (w.alloc (.deferred (some []))).alloc (.loop (rec .ready none)), ?_, ?_, fun _ _ => trivial, ?_, fun h => (by simp [Fence.wide] at h), ?_⟩
  · rw [hrec]; exact run_enterLoop_outer _ _ _ _ _
  · simp only [resolve, hg]
    simp [go_sem]
  · simp [invoke, go_sem, eg]
  · have hD0 : ((w.alloc (.deferred (some []))).alloc (.loop (rec .ready none))).heap[w.heap.size]? = some (.deferred (some [])) :=
      World.grows.heap_of (World.grows.alloc (World.grows.refl _) _) (heap_alloc_new w _)
    have hL0 : ((w.alloc (.deferred (some []))).alloc (.loop (rec .ready none))).heap[w.heap.size + 1]? = some (.loop (rec .ready none)) := by
      have := heap_alloc_new (w.alloc (.deferred (some []))) (.loop (rec .ready none))
      rwa [World.size_alloc] at this
    refine (hseq (w.heap.size + 1) (fun k W => J k W ∧ W.heap[w.heap.size]? = some (.deferred (some [])) ∧ W.heap[w.heap.size + 1]? = some (.loop (rec .ready none)))
      (fun W => ∃ c, X c W ∧ W.heap[w.heap.size]? = some (.deferred (some [])) ∧ W.heap[w.heap.size + 1]? = some (.loop (rec .done (some c)))) _
      (fun k W W' ⟨h1, h2, h3⟩ h4 => ⟨hJ k W W' h1 h4, h4.heap_of h2, h4.heap_of h3⟩) (fun W W' ⟨c, h1, h2, h3⟩ h4 => ⟨c, hX c W W' h1 h4, h4.heap_of h2, h4.heap_of h3⟩) (fun k W h => hR k W h.1) ?_ ⟨h0 _, hD0, hL0⟩).mono ?_
    · rintro k x hx W ⟨hJW, hD, hl⟩
      have hy : ∀ W : World, W.heap[w.heap.size + 1]? = some (.loop (rec .ready none)) → (Instr.yield (w.heap.size + 1) x).run P W = .ok (.round (w.heap.size + 1) fn ((ps.zip x).foldl (fun t (p, v) => t.setIfInBounds p v) a.tmps) assign body) W := fun W hl => by
        have := run_yield (P := P) (args := x) hl (by rw [hrec]; exact hps x (List.mem_of_getElem? hx))
        rw [hrec] at this
        exact this
      refine ⟨fn, _, assign, body, hy _ hl, roundIn_of_wpIn hfn ?_⟩
      refine wpIn_mono (hround k x W hx hJW hD ⟨_, hl⟩
        (fun a1 W1 => W.grows W1 ∧ ∀ lo', body.wpIn (Fence.wide.inRound (w.heap.size + 1)) 0 P (fun e a' W' =>
          (e = .normal ∧ J (k + 1) W' ∧ W'.heap[w.heap.size]? = some (.deferred (some [])) ∧ W'.heap[w.heap.size + 1]? = some (.loop lo')) ∨
          (e = .ret ∧ X .ret W' ∧ W'.heap[w.heap.size]? = some (.deferred (some [])) ∧ W'.heap[w.heap.size + 1]? = some (.loop lo')) ∨
          ∃ id, e = .exit id ∧ X (.exit id) W' ∧ W'.heap[w.heap.size]? = some (.deferred (some [])) ∧ W'.heap[w.heap.size + 1]? = some (.loop lo')) a1 (W1.putObj (w.heap.size + 1) (.loop lo')))
        (Lib.hid fun a1 W1 hg1 hb => ⟨hg1, fun lo' => hb lo' _ (Lib.hid ⟨fun a' W' h1 h2 h3 => .inl ⟨rfl, h1, h2, h3⟩, fun a' W' h1 h2 h3 => .inr (.inl ⟨rfl, h1, h2, h3⟩), fun id a' W' h1 h2 h3 => .inr (.inr ⟨id, rfl, h1, h2, h3⟩)⟩)⟩)) ?_
      rintro e a1 W1 h1
      cases e with
      | normal =>
        obtain ⟨hg1, hb⟩ := h1
        have hl1 := hg1.heap_of hl
        refine ⟨_, run_beginRound hl1 (by rw [hrec]), wpIn_mono (hb _) ?_⟩
        have fin : ∀ (jump : Option Code) (W3 : World), W3.heap[w.heap.size + 1]? = some (.loop { rec .ready none with state := .busy }) →
            (Instr.endRound (w.heap.size + 1) jump).run P W3 = .ok (.bool jump.isNone) (W3.putObj (w.heap.size + 1) (.loop (rec (if jump.isNone then .ready else .done) jump))) := fun jump W3 hL3 => by
          have := run_endRound (P := P) jump hL3
          rw [hrec] at this ⊢
          exact this
        rintro e a3 W3 (⟨rfl, hJ3, hD3, hL3⟩ | ⟨rfl, hJ3, hD3, hL3⟩ | ⟨id, rfl, hJ3, hD3, hL3⟩)
        · have hsz := World.lt_of_block hL3
          exact ⟨_, _, fin none W3 hL3, .inl ⟨rfl, hput _ _ _ _ hL3 hJ3, by rw [World.putObj_heap_other (by omega)]; exact hD3, by rw [World.putObj_heap_same hsz]; rfl⟩⟩
        · have hsz := World.lt_of_block hL3
          exact ⟨_, _, fin (some .ret) W3 hL3, .inr ⟨rfl, .ret, hXput _ _ _ _ hL3 hJ3, by rw [World.putObj_heap_other (by omega)]; exact hD3, by rw [World.putObj_heap_same hsz]; rfl⟩⟩
        · have hsz := World.lt_of_block hL3
          exact ⟨_, _, fin (some (.exit id)) W3 hL3, .inr ⟨rfl, .exit id, hXput _ _ _ _ hL3 hJ3, by rw [World.putObj_heap_other (by omega)]; exact hD3, by rw [World.putObj_heap_same hsz]; rfl⟩⟩
      | exit id => exact h1.elim
      | goto t => exact h1.elim
      | ret => exact h1.elim
      | panic ch => exact h1.elim
      | outgrown => exact h1.elim
    · rintro e W2 ⟨⟨v, rfl⟩, (⟨hJW, hD, hl⟩ | ⟨c, hXW, hD, hl⟩)⟩
      · have he := run_endLoop (P := P) hl (by rw [hrec]; simp)
        have hsz := World.lt_of_block hl
        rw [hrec] at he
        exact ⟨none, _, he, hdone _ (hput _ _ _ _ hl hJW) (by rw [World.putObj_heap_other (by omega)]; exact hD)⟩
      · have he := run_endLoop (P := P) hl (by rw [hrec]; simp)
        have hsz := World.lt_of_block hl
        rw [hrec] at he
        exact ⟨some c, _, he, (wpIn_wide (n := 0)).2 (hstop c _ (hXput _ _ _ _ hl hXW) (by rw [World.putObj_heap_other (by omega)]; exact hD))⟩
end Go

/-
  What is proved: the boxes of a search for a way.
-/
namespace Go.Proofs.Yteingahlmlndkaa
open Go.RowKit
theorem cell_box {w : World} {b : Nat} {v : Value} {t : TypeId} (h : w.heap[b]? = some (.cells #[v] t)) : w.cell? ⟨b, 0, none⟩ = some v := cell_of_heap h rfl
theorem ilist_app (L L' : List Nat) : ilist (L ++ L') = ilist L ++ ilist L' := by simp [ilist]
theorem ListAt.src {w : World} {v : Value} {L : List Nat} (h : ListAt w v L) : SrcAt w v L.length 1 (ilist L) := by
  have e : tableL L.length 1 (fun i _ => Value.int .i64 ((L.getD i 0 : Nat) : Int)) = ilist L := by
    apply List.ext_getElem?
    intro i
    rcases Nat.lt_or_ge i L.length with hi | hi
    · have := tableL_get (fun i _ => Value.int .i64 ((L.getD i 0 : Nat) : Int)) (m := L.length) (sz := 1) hi (j := 0) (by omega)
      rw [Nat.mul_one, Nat.add_zero] at this
      rw [this, ilist_get L hi]
    · rw [List.getElem?_eq_none (by rw [tableL_length]; omega), List.getElem?_eq_none (by rw [ilist_len]; omega)]
  rw [← e]
  exact SliceAt.src (by omega) h
structure WyS (w : World) (sb x6 : Nat) (P : List (Nat × Obj)) (ds : List Deferred) (wt : List Nat) (wv : Value) (U : World) : Prop where
  only : Only sb w U
  x6b : w.heap.size ≤ x6
  sbb : sb < w.heap.size
  x6h : U.heap[x6]? = some (.cells #[wv] 26)
  qu : QAt U w.heap.size 3 wv (ilist wt)
  q6 : vblk wv ≠ some x6
  at_ : ∀ y ∈ P, U.heap[y.1]? = some y.2
  n1 : ∀ y ∈ P, y.1 ≠ sb ∧ y.1 ≠ x6
  n2 : ∀ y ∈ P, vblk wv ≠ some y.1
  ms : Marks w.heap.size ds U
section
variable {w U U' : World} {sb x6 : Nat} {P : List (Nat × Obj)} {ds : List Deferred} {wt : List Nat} {wv : Value}
theorem WyS.mono (h : WyS w sb x6 P ds wt wv U) (g : U.grows U') : WyS w sb x6 P ds wt wv U' :=
  ⟨h.only.grow g, h.x6b, h.sbb, g.heap_of h.x6h, h.qu.mono g, h.q6, fun y hy => g.heap_of (h.at_ y hy), h.n1, h.n2, h.ms.mono g⟩
theorem WyS.step (h : WyS w sb x6 P ds wt wv U) {c : Array Value} {t : TypeId} (hc : U.heap[sb]? = some (.cells c t)) (g : Only sb U U') : WyS w sb x6 P ds wt wv U' := by
  have hlt := h.sbb
  have hb := h.x6b
  refine ⟨h.only.trans g, h.x6b, h.sbb, g.other _ _ (by omega) h.x6h, h.qu.keep g.size fun b hb hl => ?_, h.q6, fun y hy => g.other _ _ (h.n1 y hy).1 (h.at_ y hy), h.n1, h.n2, h.ms.keep fun D hD => g.other _ _ (fun e => by rw [e, hc] at hD; cases hD) hD⟩
  have h1 := (h.qu.blk hb).1
  rw [Array.getElem?_eq_getElem hl]
  exact g.other b _ (by omega) (Array.getElem?_eq_getElem hl)
theorem WyS.setS (h : WyS w sb x6 P ds wt wv U) {c : Array Value} {t : TypeId} (hc : U.heap[sb]? = some (.cells c t)) (i : Nat) (v : Value) : WyS w sb x6 P ds wt wv (U.setCell ⟨sb, i, none⟩ v) := h.step hc ((Only.refl sb U).set i v)
theorem WyS.add (h : WyS w sb x6 P ds wt wv U) {b : Nat} {o : Obj} (hb : U.heap[b]? = some o) (h1 : b ≠ sb) (h2 : b ≠ x6) (h3 : vblk wv ≠ some b) : WyS w sb x6 ((b, o) :: P) ds wt wv U :=
  ⟨h.only, h.x6b, h.sbb, h.x6h, h.qu, h.q6, fun y hy => by rcases List.mem_cons.1 hy with rfl | hy; exact hb; exact h.at_ y hy, fun y hy => by rcases List.mem_cons.1 hy with rfl | hy; exact ⟨h1, h2⟩; exact h.n1 y hy, fun y hy => by rcases List.mem_cons.1 hy with rfl | hy; exact h3; exact h.n2 y hy, h.ms⟩
theorem WyS.drop {y : Nat × Obj} (h : WyS w sb x6 (y :: P) ds wt wv U) : WyS w sb x6 P ds wt wv U :=
  ⟨h.only, h.x6b, h.sbb, h.x6h, h.qu, h.q6, fun y hy => h.at_ y (List.mem_cons_of_mem _ hy), fun y hy => h.n1 y (List.mem_cons_of_mem _ hy), fun y hy => h.n2 y (List.mem_cons_of_mem _ hy), h.ms⟩
/-- a block that was just made -/
theorem WyS.fresh (h : WyS w sb x6 P ds wt wv U) {b : Nat} {o : Obj} (g : U.grows U') (hb : U'.heap[b]? = some o) (hf : U.heap.size ≤ b) : WyS w sb x6 ((b, o) :: P) ds wt wv U' := by
  have h1 := World.lt_of_block h.x6h
  have h2 := h.sbb
  have h3 := h.x6b
  exact (h.mono g).add hb (by omega) (by omega) fun e => by have := (h.qu.blk e).2; omega
theorem WyS.hd {b : Nat} {o : Obj} (h : WyS w sb x6 ((b, o) :: P) ds wt wv U) : U.heap[b]? = some o := h.at_ (b, o) (List.mem_cons_self ..)
theorem WyS.n2h {b : Nat} {o : Obj} (h : WyS w sb x6 ((b, o) :: P) ds wt wv U) : vblk wv ≠ some b := h.n2 (b, o) (List.mem_cons_self ..)
theorem Only.setx {w U : World} {sb b : Nat} (h : Only sb w U) (hb : w.heap.size ≤ b) (v : Value) : Only sb w (U.setCell ⟨b, 0, none⟩ v) := h.set_new hb 0 v
theorem WyS.app {wt' : List Nat} {wv' : Value} (h : WyS w sb x6 P ds wt wv U) (hsrch : ∃ c t, U.heap[sb]? = some (.cells c t)) (hq : QAt U' w.heap.size 3 wv' (ilist wt')) (g : U.grownBy U' (vblk wv)) (hv : vblk wv' = vblk wv ∨ vblk wv' = none ∨ ∃ b, vblk wv' = some b ∧ U.heap.size ≤ b) (hk : ∀ (k : Nat) (o : Obj), U.heap[k]? = some o → (∀ c fr, o ≠ Obj.cells c 3 fr) → U'.heap[k]? = some o) :
    WyS w sb x6 P ds wt' wv' (U'.setCell ⟨x6, 0, none⟩ wv') := by
  have h1 := World.lt_of_block h.x6h
  have h2 := h.sbb
  have h3 := h.x6b
  have hbl : ∀ b, vblk wv = some b → w.heap.size ≤ b := fun b hb => (h.qu.blk hb).1
  have keep : ∀ k o, U.heap[k]? = some o → vblk wv ≠ some k → U'.heap[k]? = some o := fun k o ho hne => by
    rw [g.block k (World.lt_of_block ho) (fun e => hne e.symm)]; exact ho
  have hne : ∀ k, k < U.heap.size → vblk wv ≠ some k → vblk wv' ≠ some k := fun k hk hn e => by
    rcases hv with hv | hv | ⟨b, hv, hb⟩
    · exact hn (hv.symm.trans e)
    · rw [hv] at e; cases e
    · rw [hv] at e
      have : b = k := Option.some.inj e
      omega
  have only' : Only sb w U' := ⟨Nat.le_trans h.only.size g.size, fun k o hks ho => keep k o (h.only.other k o hks ho) (fun e => by have := hbl k e; have := World.lt_of_block ho; omega), fun w0 g0 hw0 => by
    have g1 := h.only.grows w0 g0 hw0
    exact ⟨g.os.trans g1.os, g.tape.trans g1.tape, g.output.trans g1.output, Nat.le_trans g1.size g.size, fun k hk => by
      rw [g.block k (Nat.lt_of_lt_of_le hk g1.size) (fun e => by have := hbl k e.symm; omega)]; exact g1.block k hk⟩⟩
  have h6' := keep x6 _ h.x6h h.q6
  refine ⟨only'.setx h.x6b _, h.x6b, h.sbb, store_of_heap h6' 0 _, ?_, hne _ h1 h.q6, fun y hy => ?_, h.n1, fun y hy => hne _ (World.lt_of_block (h.at_ y hy)) (h.n2 y hy), Marks.setCell (h.ms.keep fun D hD => hk D _ hD (fun c fr e => by cases e))⟩
  · refine hq.keep (by simp) fun c hc _ => World.heap_setCell_map _ _ _ _ ?_
    have := hne _ h1 h.q6
    rw [hc] at this
    exact fun e => this (by rw [← e])
  · rw [World.heap_setCell_map _ _ _ _ (fun e => (h.n1 y hy).2 e.symm)]
    exact keep _ _ (h.at_ y hy) (h.n2 y hy)
theorem WyS.putL (h : WyS w sb x6 P ds wt wv U) {b : Nat} {lo lo' : Loop} (hL : U.heap[b]? = some (.loop lo)) (hb : w.heap.size ≤ b) (hP : ∀ y ∈ P, ∀ l : Loop, y.2 ≠ Obj.loop l) : WyS w sb x6 P ds wt wv (U.putObj b (.loop lo')) := by
  have keep : ∀ (k : Nat) (o : Obj), U.heap[k]? = some o → (∀ l : Loop, o ≠ Obj.loop l) → (U.putObj b (.loop lo')).heap[k]? = some o := fun k o ho hn => by
    rw [World.putObj_heap_other (fun e => by rw [e, hL] at ho; exact hn lo (Option.some.inj ho).symm)]; exact ho
  refine ⟨⟨by simpa using h.only.size, fun k o hk ho => ?_, fun w0 g0 hw0 => World.putObj_grows (h.only.grows w0 g0 hw0) _ (Nat.le_trans g0.size hb)⟩, h.x6b, h.sbb, keep _ _ h.x6h (fun l e => by cases e), h.qu.put (fun c t fr e => by rw [hL] at e; cases e), h.q6, fun y hy => keep _ _ (h.at_ y hy) (hP y hy), h.n1, h.n2, h.ms.put (fun c e => by rw [hL] at e; cases e)⟩
  rw [World.putObj_heap_other (show k ≠ b by have := World.lt_of_block ho; omega)]
  exact h.only.other k o hk ho
theorem Only.putB {w U : World} {sb b : Nat} {o : Obj} (h : Only sb w U) (hb : w.heap.size ≤ b) : Only sb w (U.putObj b o) := by
  refine ⟨by simpa using h.size, fun k o' hk ho => ?_, fun w0 g0 hw0 => World.putObj_grows (h.grows w0 g0 hw0) _ (Nat.le_trans g0.size hb)⟩
  rw [World.putObj_heap_other (show k ≠ b by have := World.lt_of_block ho; omega)]
  exact h.other k o' hk ho
end
/-- what is left to do, as the boxes tell -/
def wyM (sb x6 : Nat) (W : World) : Nat := wayM (match W.cell? ⟨sb, 50, none⟩ with | some (.int _ f) => f.toNat.testBit | _ => fun _ => false) (match W.cell? ⟨x6, 0, none⟩ with | some (.slice _ m _) => List.replicate m 0 | _ => [])
theorem wyM_eq {w W : World} {sb x6 : Nat} {P : List (Nat × Obj)} {ds : List Deferred} {wt : List Nat} {wv bp : Value} {L : Nat} {M : Nat → Nat} {p : Nat → Option Nat} {bs : Nat → Nat} {S : Nat} (h : WyS w sb x6 P ds wt wv W) (hs : SrchAt W sb bp L M p bs S) : wyM sb x6 W = wayM S.testBit wt := by
  obtain ⟨A, cap, rfl, -, -⟩ := h.qu.form
  have hc : W.cell? ⟨x6, 0, none⟩ = some (.slice A (ilist wt).length cap) := cell_of_heap h.x6h rfl
  unfold wyM
  rw [hs.seen, hc]
  dsimp only
  unfold wayM
  rw [Int.toNat_natCast, List.length_replicate, ilist_len]
end Go.Proofs.Yteingahlmlndkaa

