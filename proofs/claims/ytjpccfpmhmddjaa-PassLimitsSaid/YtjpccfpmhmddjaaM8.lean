/-
  What is proved: plain words on the order that one reads off backwards.
-/
import Derived.Test.YtjpccfpmhmddjaaM7
import Derived.Laws.CopyOwn
set_option linter.all false
namespace Go.Proofs.Ytjpccfpmhmddjaa
open Go.RowKit

/-- these edges lead from a place to the last one, by steps not above 'hot' -/
def Suf (J : Job) (hot : Int) : (Nat → Nat) → List Nat → Prop
  | p, [] => p = J.last
  | p, r :: l => r < J.n ∧ p r < J.len r ∧ J.hot p r ≤ hot ∧ Suf J hot (Job.to p r) l
theorem Suf.back {J : Job} {hot : Int} {p : Nat → Nat} {l : List Nat} {r : Nat} (h : Suf J hot p l) (hr : r < J.n) (h0 : 0 < p r) (hp : J.In p) (hh : J.hot (dn p r) r ≤ hot) : Suf J hot (dn p r) (r :: l) :=
  ⟨hr, Job.dn_lt hp hr h0, hh, by unfold Job.to; rw [to_dn h0]; exact h⟩
theorem Suf.len {J : Job} {hot : Int} : ∀ {l : List Nat} {p : Nat → Nat}, Suf J hot p l → l.length + J.deg p = J.deg J.last
  | [], p, h => by rw [h]; simp
  | r :: l, p, ⟨hr, hl, _, h⟩ => by
    have := Suf.len h
    have h2 := J.deg_dn (p := Job.to p r) hr (by simp [Job.to, upd])
    have h3 : dn (Job.to p r) r = p := dn_to p r
    rw [h3] at h2
    simp only [List.length_cons]
    omega
theorem Suf.walk {J : Job} {hot : Int} {g : Nat → Nat} : ∀ (l : List Nat) (k : Nat), (∀ i, i < l.length → g (k + i) = l.getD i 0) → Suf J hot (walkP g k) l →
    (∀ i, i < l.length → g (k + i) < J.n ∧ walkP g (k + i) (g (k + i)) < J.len (g (k + i)) ∧ J.hotAt g (k + i) ≤ hot) ∧ walkP g (k + l.length) = J.last
  | [], k, _, h => ⟨fun i hi => absurd hi (by simp), h⟩
  | r :: l, k, hg, ⟨hr, hl, hh, h⟩ => by
    have h0 : g k = r := by simpa using hg 0 (by simp)
    have hw : walkP g (k + 1) = Job.to (walkP g k) r := by simp only [walkP, h0]; rfl
    have ih := Suf.walk (g := g) l (k + 1) (fun i hi => by
      have := hg (i + 1) (by simp; omega)
      rw [show k + 1 + i = k + (i + 1) by omega, this]
      simp) (by rw [hw]; exact h)
    refine ⟨fun i hi => ?_, ?_⟩
    · cases i with
      | zero => simp only [Nat.add_zero, Job.hotAt, h0]; exact ⟨hr, hl, hh⟩
      | succ i =>
        have := ih.1 i (by simpa using hi)
        rwa [show k + 1 + i = k + (i + 1) by omega] at this
    · have := ih.2
      simp only [List.length_cons]
      rwa [show k + 1 + l.length = k + (l.length + 1) by omega] at this
theorem Suf.order {J : Job} {hot : Int} {l : List Nat} (h : Suf J hot (fun _ => 0) l) : J.OrdOk l.length (fun i => l.getD i 0) ∧ ∀ i, i < l.length → J.hotAt (fun i => l.getD i 0) i ≤ hot := by
  have := Suf.walk (g := fun i => l.getD i 0) l 0 (fun i hi => by simp) (by simpa [walkP] using h)
  simp only [Nat.zero_add] at this
  refine ⟨⟨fun i hi => (this.1 i hi).1, fun r hr => ?_⟩, fun i hi => (this.1 i hi).2.2⟩
  rw [this.2]
  simp [Job.last, hr]

/-- no order becomes less hot than a best one -/
theorem Job.OrdOk.within {J : Job} {m : Nat} {g : Nat → Nat} {l : Int} (h : J.OrdOk m g) (hh : ∀ k, k < m → J.hotAt g k ≤ l) (hJ : J.Ok) : 0 < J.waysN l J.last := by
  have key : ∀ k, k ≤ m → 0 < J.waysN l (walkP g k) ∧ J.In (walkP g k) := by
    intro k
    induction k with
    | zero => intro _; exact ⟨by rw [J.waysN_zero l (show J.deg (walkP g 0) = 0 from sumN_zero _ fun _ _ => rfl)]; omega, ⟨fun _ _ => Nat.zero_le _, fun _ _ => rfl⟩⟩
    | succ k ih =>
      intro hk
      obtain ⟨h1, h2⟩ := ih (by omega)
      have hlt := h.lt k (by omega)
      have hll := h.lt_len (k := k) (by omega)
      have hw : walkP g (k + 1) = Job.to (walkP g k) (g k) := rfl
      have hin := Job.in_to h2 hlt hll
      have hdn : dn (Job.to (walkP g k) (g k)) (g k) = walkP g k := dn_to _ _
      refine ⟨?_, by rw [hw]; exact hin⟩
      rw [hw]
      have hpos : 0 < Job.to (walkP g k) (g k) (g k) := by simp [Job.to, upd]
      have hd := J.deg_dn hlt hpos
      rw [J.waysN_eq l (by omega)]
      refine Nat.pos_of_ne_zero fun hz => ?_
      have := sumN_eq_zero J.n hz (g k) hlt
      rw [hdn, if_pos ⟨hpos, hh k (by omega)⟩] at this
      omega
  have hlast : walkP g m = J.last := by
    funext r
    rcases Nat.lt_or_ge r J.n with hr | hr
    · rw [h.all r hr]; simp [Job.last, hr]
    · rw [walkP_out m h.lt r hr]; simp [Job.last]; omega
  have := (key m (Nat.le_refl _)).1
  rwa [hlast] at this
theorem maxN_le_iff {h : Nat → Int} {l : Int} : ∀ m, 1 ≤ m → (maxN h m ≤ l ↔ ∀ k, k < m → h k ≤ l)
  | 1, _ => by
    rw [maxN_one]
    refine ⟨fun h k hk => ?_, fun h => h 0 (by omega)⟩
    have : k = 0 := by omega
    subst this; exact h
  | m + 2, _ => by
    have ih := maxN_le_iff (h := h) (l := l) (m + 1) (by omega)
    have e : maxN h (m + 2) = max (maxN h (m + 1)) (h (m + 1)) := rfl
    rw [e]
    constructor
    · intro hm k hk
      rcases Nat.lt_or_ge k (m + 1) with h1 | h1
      · exact ih.1 (by omega) k h1
      · have : k = m + 1 := by omega
        subst this; omega
    · intro hm
      have h1 := ih.2 fun k hk => hm k (by omega)
      have h2 := hm (m + 1) (by omega)
      omega
/-- an order whose steps are not hotter than a best one becomes as hot -/
theorem Job.Best.max_eq {J : Job} (hJ : J.Ok) {hot : Int} (hb : J.Best hot) {m : Nat} {g : Nat → Nat} (h : J.OrdOk m g) (hm : 1 ≤ m) (hh : ∀ k, k < m → J.hotAt g k ≤ hot) : maxN (J.hotAt g) m = hot := by
  have h1 := (maxN_le_iff m hm).2 hh
  have h2 := h.within (l := maxN (J.hotAt g) m) ((maxN_le_iff m hm).1 (Int.le_refl _)) hJ
  have h3 := (hb.iff _).1 h2
  omega
theorem Job.Best.le_max {J : Job} (hJ : J.Ok) {hot : Int} (hb : J.Best hot) {m : Nat} {g : Nat → Nat} (h : J.OrdOk m g) (hm : 1 ≤ m) : hot ≤ maxN (J.hotAt g) m :=
  (hb.iff _).1 (h.within ((maxN_le_iff m hm).1 (Int.le_refl _)) hJ)

end Go.Proofs.Ytjpccfpmhmddjaa

/-
  What is proved: Best (25).
-/
namespace Go.Proofs.Ytjpccfpmhmddjaa
open Go.RowKit
attribute [local irreducible] Go.wpCalm

def z4 (a0 a1 a2 a3 : Nat) : Bool := decide ((a0, a1, a2, a3) = ((0, 0, 0, 0) : Pl))
@[local go_sem ↓] theorem eq76z (a0 a1 a2 a3 : Nat) (w : World) : (Op.equalIn 10000 76 (.agg #[.int .i64 a0, .int .i64 a1, .int .i64 a2, .int .i64 a3]) (.agg #[.int .i64 0, .int .i64 0, .int .i64 0, .int .i64 0])).run Try.prog w =
    .ok (z4 a0 a1 a2 a3) w := eq76 9998 w (a0, a1, a2, a3) (0, 0, 0, 0)

theorem plcO_cell {W : World} {b : Nat} {p : Nat → Nat} (h : W.heap[b]? = some (plcO p)) {i : Nat} (hi : i < 4) : W.cell? ⟨b, i, none⟩ = some (.int .i64 (p i)) := by
  unfold World.cell?
  simp only [h]
  match i, hi with
  | 0, _ => rfl
  | 1, _ => rfl
  | 2, _ => rfl
  | 3, _ => rfl
theorem plcO_frozen {W : World} {b : Nat} {p : Nat → Nat} (h : W.heap[b]? = some (plcO p)) (i : Nat) : W.frozen? ⟨b, i, none⟩ = false := by
  unfold World.frozen?
  simp only [h]
  simp
theorem plcO_store {W : World} {b : Nat} {p : Nat → Nat} (h : W.heap[b]? = some (plcO p)) {i : Nat} (hi : i < 4) (x : Nat) : (W.setCell ⟨b, i, none⟩ (.int .i64 x)).heap[b]? = some (plcO (upd p i x)) := by
  unfold World.setCell
  simp only [Array.getElem?_modify, h, if_true, Option.map_some]
  have := plc_setA p i x hi
  simp only [Option.isSome_none, Bool.false_eq_true, if_false, this]
theorem World.setCell_heap_other {W : World} {b c : Nat} {i : Nat} {v : Value} (h : c ≠ b) : (W.setCell ⟨b, i, none⟩ v).heap[c]? = W.heap[c]? := by
  unfold World.setCell
  simp only [Array.getElem?_modify]
  rw [if_neg fun e => h e.symm]
theorem ownsRow_setOther {W : World} {base : Nat} {e : TypeId} {v : Value} {n : Nat} {xs : List Value} (h : W.ownsRow base e 1 v n xs) {b : Nat} {p : Nat → Nat} (hb : W.heap[b]? = some (plcO p)) (he : e ≠ 76) (i : Nat) (u : Value) :
    (W.setCell ⟨b, i, none⟩ u).ownsRow base e 1 v n xs := by
  refine ⟨h.1, ?_⟩
  rcases h.2 with hn | ⟨g, cap, cur, rfl, hg, hgg, rest⟩
  · exact .inl hn
  · refine .inr ⟨g, cap, cur, rfl, hg, ?_, rest⟩
    rw [World.setCell_heap_other]
    · exact hgg
    · rintro rfl
      rw [hb] at hgg
      cases hgg
      exact he rfl
theorem grownBy_plcO {W W' : World} {base : Nat} {e : TypeId} {v : Value} {n : Nat} {xs : List Value} (h : W.ownsRow base e 1 v n xs) {b : Nat} {p : Nat → Nat} (hb : W.heap[b]? = some (plcO p)) (he : e ≠ 76) (g : W.grownBy W' v.ownBlock) :
    W'.heap[b]? = some (plcO p) := by
  rw [g.block b (World.lt_of_block hb) ?_]
  · exact hb
  · rcases h.2 with ⟨rfl, _⟩ | ⟨k, cap, cur, rfl, hg, hgg, rest⟩
    · simp [Value.ownBlock]
    · simp only [Value.ownBlock, ne_eq, Option.some.injEq]
      rintro rfl
      rw [hb] at hgg
      cases hgg
      exact he rfl
theorem tableL_list (l : List Nat) : tableL l.length 1 (fun i _ => Value.int .i64 (l.getD i 0 : Nat)) = l.map fun x : Nat => Value.int .i64 (x : Nat) := by
  rw [tableL_map]
  apply List.ext_getElem?
  intro i
  simp only [List.getElem?_map]
  rcases Nat.lt_or_ge i l.length with h | h
  · rw [List.getElem?_range h]
    simp [h]
  · simp [h]

set_option maxHeartbeats 4000000 in
theorem best_c (w : World) (v : Value) (J : Job) (hv : RawAt w v J) :
    Calls Try.prog 25 #[v] w fun e w' => ∃ (sv : Value) (hot : Int), e = .returned (.tuple #[sv, .int .i64 hot, .int .i64 J.check]) ∧ w.grows w' ∧ (J.check ≠ 0 → sv = .slice none 0 0 ∧ hot = 0) ∧
      (J.check = 0 → J.Best hot ∧ ∃ l : List Nat, Suf J hot (fun _ => 0) l ∧ IntsAt w' sv l.length (fun i => (l.getD i 0 : Nat))) := by
  have Hv := Lib.hid hv
  obtain ⟨rv, row, rfl, -, -⟩ := hv
  go_enter Try.func25, Try.ntmps25
  by_cases hc : J.check = 0
  · have hJ := Lib.hid ((Job.Ok_iff J).2 hc)
    have Hc := Lib.hid hc
    clear hc
    go_wp2_with (first
      | (go_at_call 44; refine (open_c _ _ J ((Hv.out.mono (by (repeat (first | exact World.grows.refl _ | assumption | refine World.grows.alloc ?_ _ | refine World.grows.plus ?_ _ _ | refine World.grows.drew ?_)))).job hJ.out) hJ.out).mono ?_; rintro e w1 ⟨p, rfl, hg1, hP, hp⟩)
      | (go_at_call 60; go_loud (refine (cool_c _ p J (hP.mono (by (repeat (first | exact World.grows.refl _ | assumption | refine World.grows.alloc ?_ _ | refine World.grows.plus ?_ _ _ | refine World.grows.drew ?_)))) hJ.out).mono ?_; rintro e w2 ⟨bb, m, hot, rfl, hg2, hbb, hby, hsl, hbest⟩; have q0 := (hP.mono hg2).last 0 (by omega); have q1 := (hP.mono hg2).last 1 (by omega); have q2 := (hP.mono hg2).last 2 (by omega); have q3 := (hP.mono hg2).last 3 (by omega); simp only [Nat.reduceAdd] at q0 q1 q2 q3; have Hgw := Lib.hid (show w.grows w2 from World.grows.trans (World.grows.trans (by (repeat (first | exact World.grows.refl _ | assumption | refine World.grows.alloc ?_ _ | refine World.grows.plus ?_ _ _ | refine World.grows.drew ?_))) hg1) hg2); clear hP hp hg1 hg2)))
    have Hby := Lib.hid hby
    have Hbest := Lib.hid hbest
    clear hby hbest q0 q1 q2 q3
    have hlast : J.In J.last := J.in_last
    have hdl := Lib.hid (Job.deg_le hJ.out hlast)
    go_loopw [9, 10] (fun s pb wr => ∃ (l : List Nat) (at_ : Nat → Nat) (bi : Nat), pb = .pointer (some ⟨bi, 0, none⟩) ∧ w2.heap.size ≤ bi ∧ wr.heap[bi]? = some (plcO at_) ∧ Hid (wr.ownsRow w2.heap.size 3 1 s l.length (l.reverse.map fun x : Nat => .int .i64 (x : Nat))) ∧ Hid (w2.grows wr) ∧ Hid (Suf J hot at_ l) ∧ Hid (J.In at_ ∧ seenP m at_)) (fun s _ _ => J.deg J.last - lenV s)
    case atStart => exact ⟨[], J.last, _, rfl, Nat.le_refl _, heap_alloc_new w2 _, Lib.hid (World.ownsRow_nil _ _ _ _), Lib.hid (by (repeat (first | exact World.grows.refl _ | assumption | refine World.grows.alloc ?_ _ | refine World.grows.plus ?_ _ _ | refine World.grows.drew ?_))), Lib.hid rfl, Lib.hid ⟨hlast, hsl⟩⟩
    case round =>
      obtain ⟨l, at_, bi, rfl, hbi, hob, hown, hgr, hsuf, hat⟩ := hrel
      have p0 := plcO_cell hob (i := 0) (by omega)
      have p1 := plcO_cell hob (i := 1) (by omega)
      have p2 := plcO_cell hob (i := 2) (by omega)
      have p3 := plcO_cell hob (i := 3) (by omega)
      have hbw : wr.heap[bb]? = some (m.obj ePl) := hgr.out.heap_of hbb
      have hl := fun W h => lk93 m bb W h at_
      obtain ⟨vo, vc, hv⟩ : ∃ vo vc, u9 = .slice vo l.length vc := by
        rcases hown.out.2 with ⟨rfl, hn⟩ | ⟨g, cap, cur, rfl, _⟩
        · rw [hn]; exact ⟨_, _, rfl⟩
        · exact ⟨_, _, rfl⟩
      subst hv
      have hlen := Lib.hid hsuf.out.len
      by_cases hz : tup at_ = (0, 0, 0, 0)
      · have hd : z4 (at_ 0) (at_ 1) (at_ 2) (at_ 3) = true := by simpa [tup, z4] using hz
        have hzero : at_ = fun _ => 0 := Job.tup_inj hJ.out hat.out.1 ⟨fun _ _ => Nat.zero_le _, fun _ _ => rfl⟩ hz
        have hdeg0 : J.deg at_ = 0 := by rw [hzero]; exact sumN_zero _ fun _ _ => rfl
        have hn1 : 1 ≤ l.length := by have := hlen.out; have := Job.last_deg hJ.out; omega
        have hn2 : l.length ≤ 24 := by have := hlen.out; have := hdl.out; omega
        have hn9 : l.length ≤ 1000000000 := by omega
        have hsuf0 := hsuf.out
        rw [hzero] at hsuf0
        have Hsuf0 := Lib.hid hsuf0
        clear hsuf0 hzero hdeg0 hz hl hob hbw
        obtain ⟨g, cap, hv, hgb⟩ := hown.out.form (by omega)
        cases hv
        have hownT : wr.ownsRow w2.heap.size 3 1 (.slice (some ⟨g, 0, none⟩) l.length vc) l.length (tableL l.length 1 (fun i _ => .int .i64 (l.reverse.getD i 0 : Nat))) := by
          have := tableL_list l.reverse
          rw [List.length_reverse] at this
          rw [this]; exact hown.out
        have HownT := Lib.hid hownT
        clear hownT
        iterate 29 go_step
        refine (reverse_c _ w2.heap.size l.length _ (fun i => (l.reverse.getD i 0 : Nat)) HownT.out (by omega)).mono ?_
        rintro e w4 ⟨u, rfl, hown4, hg4⟩; have G4 := Lib.hid (hg4 w2 hgr.out (Nat.le_refl _)); have Hown4 := Lib.hid hown4; clear hown4 hg4
        dsimp only
        iterate 29 go_step
        refine wpList_copy_splice rfl (.tmp 51) (.tmp 52) 25 25 rfl 3 Try.underlying25 (by kernel_rfl) _ _ _ _ _ _ (by rfl) (by rfl) w4.heap.size 0 (rowA l.length fun _ => 0).toList 3 (by simpa using heap_alloc_new w4 _) (l.map fun x : Nat => Value.int .i64 (x : Nat)) (by simp) (fun _ => ⟨rfl, _, rfl, fun j v hv => ?_⟩) (by simp [rowA]) ?_ w4.heap.size w4 (by exact World.grows.alloc (World.grows.refl _) _) (Nat.le_refl _) ?_
        · have hj : j < l.length := by
            have := (List.getElem?_eq_some_iff.1 hv).1
            simpa using this
          have h4 := Hown4.out.cellAt j (by omega)
          rw [add_plain, Nat.zero_add, World.cell?_alloc_is _ _ _ (by rw [h4, tableL_map]; simp [hj]), h4, tableL_map]
          rw [← hv]
          simp only [List.getElem?_map, List.getElem?_range hj, Option.map_some]
          rw [List.getElem?_eq_getElem hj, List.getD_eq_getElem?_getD, List.getElem?_reverse (by omega), show l.length - 1 - (l.length - 1 - j) = j by omega, List.getElem?_eq_getElem hj]
          rfl
        · intro v hv
          obtain ⟨x, _, rfl⟩ := List.mem_map.1 hv
          rfl
        · intro w5 H5 hg5
          have hsp : splice (rowA l.length fun _ => 0).toList 0 (l.map fun x : Nat => Value.int .i64 (x : Nat)) = l.map fun x : Nat => Value.int .i64 (x : Nat) := by
            simp [splice, rowA]
          rw [hsp] at H5
          have G5 := Lib.hid (show w4.grows w5 from hg5)
          clear hg5 hsp
          go_wp2
          (refine bodyPost_ret (v := .tuple #[.slice (some ⟨w4.heap.size, 0, none⟩) l.length l.length, .int .i64 hot, .int .i64 0]) (by simp [results, Try.results25, go_sem]) rfl ?_)
          refine ⟨_, hot, by rw [Hc.out], Hgw.out.trans (G4.out.trans G5.out), fun h => absurd Hc.out h, fun _ => ⟨Hbest.out, l, Hsuf0.out, ?_⟩⟩
          refine ⟨_, _, rfl, Nat.le_refl _, by unfold maxLen; omega, fun i j hi hj => ⟨_, _, rfl, ?_⟩⟩
          have : j = 0 := by omega
          subst this
          unfold World.cell?
          simp only [H5.out, Nat.mul_one, Nat.add_zero, Nat.zero_add]
          simp [hi]
      · have hd : z4 (at_ 0) (at_ 1) (at_ 2) (at_ 3) = false := by simpa [tup, z4] using hz
        have hd0 : J.deg at_ ≠ 0 := fun h => hz (by rw [Job.deg_zero hat.out.1 h]; rfl)
        obtain ⟨r, hr, hmr, h0, hh, hsd⟩ := Hby.out.way at_ hat.out.1 hat.out.2 hd0
        simp only [hmr] at hl
        have hr4 : r < 4 := by have := hJ.out.n4; omega
        have hr4i : (r : Int) < 4 := by omega
        clear hz
        go_wp2_with (at_builtin; go_loud (refine wpList_append_r _ rfl _ _ _ (by rfl) w2.heap.size 3 (.int .i64 0) 1 8 Try.underlying25 el3 (by rfl) (by omega) _ _ _ (by rfl) (hown.out.grow (by (repeat (first | exact World.grows.refl _ | assumption | refine World.grows.alloc ?_ _ | refine World.grows.plus ?_ _ _ | refine World.grows.drew ?_)))) _ (by rfl) 1 _ (SliceAt.src (by omega) (one_slice _ _ _ _ (by simp))) (ints_one _ _) (by unfold maxLen; have := hlen.out; have := hdl.out; omega) (by have := hlen.out; have := hdl.out; omega) (by have := hgr.out.size; simp; omega) ?_; intro v3 w6 hown3 hgr3; have hob6 := grownBy_plcO (hown.out.grow (by (repeat (first | exact World.grows.refl _ | assumption | refine World.grows.alloc ?_ _ | refine World.grows.plus ?_ _ _ | refine World.grows.drew ?_)))) (b := bi) (p := at_) (by simp [go_sem, hob]) (by decide) hgr3; have g6 := World.grownBy.grows hgr3 (hown.out.grow (by (repeat (first | exact World.grows.refl _ | assumption | refine World.grows.alloc ?_ _ | refine World.grows.plus ?_ _ _ | refine World.grows.drew ?_)))) (W0 := w2) (hgr.out.alloc _) (Nat.le_refl _); have G6 := Lib.hid g6; have Hown3 := Lib.hid hown3; have d0 := plcO_cell hob6 hr4; have d1 := plcO_frozen hob6 r; have hx : ((at_ r - 1 : Nat) : Int) = (at_ r : Int) - 1 := (by omega); have hob7 := plcO_store hob6 hr4 (at_ r - 1); rw [hx] at hob7; have e0 := plcO_cell hob7 (i := 0) (by omega); have e1 := plcO_cell hob7 (i := 1) (by omega); have e2 := plcO_cell hob7 (i := 2) (by omega); have e3 := plcO_cell hob7 (i := 3) (by omega); have H7 := Lib.hid (ownsRow_setOther hown3 hob6 (by decide) r (.int .i64 ((at_ r : Int) - 1))); have G7 := Lib.hid (World.grows.setCell g6 (p := ⟨bi, r, none⟩) hbi (.int .i64 ((at_ r : Int) - 1))); have hal : at_ r ≤ J.len r := hat.out.1.le r hr; have hl6 := hJ.out.l6 r hr; clear hown3 hgr3 hob6 hob7 g6 p0 p1 p2 p3 hob hx))
        go_roundw
        case rel =>
          refine ⟨r :: l, dn at_ r, _, rfl, by have := G6.out.size; omega, World.heap_at _ _ _ (by simp), Lib.hid ?_, Lib.hid (G7.out.alloc _), Lib.hid (hsuf.out.back hr h0 hat.out.1 hh), Lib.hid ⟨Job.in_dn r hat.out.1, hsd⟩⟩
          show (World.alloc _ (plcO (dn at_ r))).ownsRow _ _ _ _ _ _
          have := H7.out.alloc (plcO (dn at_ r))
          simpa [tableL_one] using this
        case measure =>
          have e := ownsRow_len H7.out
          have := hlen.out
          rw [e]
          simp only [lenV]
          omega
  · go_wp2_with (go_at_call 44; refine (open_bad _ _ J (Hv.out.mono (by (repeat (first | exact World.grows.refl _ | assumption | refine World.grows.alloc ?_ _ | refine World.grows.plus ?_ _ _ | refine World.grows.drew ?_)))) hc).mono ?_; rintro e w' ⟨rfl, hg⟩; obtain ⟨n2, x2, rfl⟩ := World.plus_of hg)
    (refine bodyPost_ret (v := .tuple #[.slice none 0 0, .int .i64 0, .int .i64 J.check]) (by simp [results, Try.results25, go_sem]) rfl ?_)
    exact ⟨_, _, rfl, by (repeat (first | exact World.grows.refl _ | assumption | refine World.grows.alloc ?_ _ | refine World.grows.plus ?_ _ _ | refine World.grows.drew ?_)), fun _ => ⟨rfl, rfl⟩, fun h => absurd h hc⟩

end Go.Proofs.Ytjpccfpmhmddjaa

/-
  What is proved: plain words on barriers: the error of a list of positions, the bound.
-/
namespace Go.Proofs.Ytjpccfpmhmddjaa
open Go.RowKit

/-- v is a slice of m slices of numbers -/
def RowsOf (W : World) (v : Value) (m : Nat) (ln : Nat → Nat) (f : Nat → Nat → Int) : Prop :=
  ∃ row : Nat → Value, SliceAt W v m 1 (fun t _ => row t) ∧ ∀ t, t < m → IntsAt W (row t) (ln t) (f t)
theorem RowsOf.mono {W W' : World} {v : Value} {m : Nat} {ln : Nat → Nat} {f : Nat → Nat → Int} (h : RowsOf W v m ln f) (g : W.grows W') : RowsOf W' v m ln f := by
  obtain ⟨row, h1, h2⟩ := h
  exact ⟨row, h1.mono g, fun t ht => (h2 t ht).mono g⟩

/-- is a place among the positions? -/
def Job.bar (J : Job) (m : Nat) (ln : Nat → Nat) (f : Nat → Nat → Int) (p : Nat → Nat) : Bool := (List.range m).any fun t => decide (tup (J.posP (ln t) (f t)) = tup p)
def Job.barErr (J : Job) (m : Nat) (ln : Nat → Nat) (f : Nat → Nat → Int) : Int :=
  if J.check ≠ 0 then J.check else if 4096 < m then 6 else if (List.range m).any (fun t => decide (J.posErr (ln t) (f t) ≠ 0)) = true then 3
  else if J.bar m ln f (fun _ => 0) = false ∨ J.bar m ln f J.last = true then 14 else 0
/-- the least heat of the steps of the edges below r that lead out, and b -/
def Job.bdR (J : Job) (S : (Nat → Nat) → Bool) (p : Nat → Nat) : Nat → Int → Int
  | 0, b => b
  | r + 1, b => if p r < J.len r ∧ S p = true ∧ S (Job.to p r) = false then min (J.bdR S p r b) (J.hot p r) else J.bdR S p r b
def Job.bdT (J : Job) (S : (Nat → Nat) → Bool) : Nat → Int
  | 0 => 1099511627776
  | t + 1 => J.bdR S (J.dig t) J.n (J.bdT S t)
def Job.barAns (J : Job) (m : Nat) (ln : Nat → Nat) (f : Nat → Nat → Int) : Int := if J.barErr m ln f = 0 then J.bdT (J.bar m ln f) J.size else 0

theorem Job.barErr_check {J : Job} {m : Nat} {ln : Nat → Nat} {f : Nat → Nat → Int} (h : J.check ≠ 0) : J.barErr m ln f = J.check := by unfold Job.barErr; rw [if_pos h]
theorem Job.barErr_many {J : Job} {m : Nat} {ln : Nat → Nat} {f : Nat → Nat → Int} (h : J.check = 0) (hm : 4096 < m) : J.barErr m ln f = 6 := by
  unfold Job.barErr; rw [if_neg (by simp [h]), if_pos hm]
theorem Job.barErr_pos {J : Job} {m : Nat} {ln : Nat → Nat} {f : Nat → Nat → Int} (h : J.check = 0) (hm : m ≤ 4096) {t : Nat} (ht : t < m) (hp : J.posErr (ln t) (f t) ≠ 0) : J.barErr m ln f = 3 := by
  unfold Job.barErr
  rw [if_neg (by simp [h]), if_neg (by omega), if_pos]
  exact List.any_eq_true.2 ⟨t, List.mem_range.2 ht, by simpa using hp⟩
theorem Job.barErr_sum {J : Job} {m : Nat} {ln : Nat → Nat} {f : Nat → Nat → Int} (h : J.check = 0) (hm : m ≤ 4096) (hp : ∀ t, t < m → J.posErr (ln t) (f t) = 0) :
    J.barErr m ln f = if J.bar m ln f (fun _ => 0) = false ∨ J.bar m ln f J.last = true then 14 else 0 := by
  unfold Job.barErr
  rw [if_neg (by simp [h]), if_neg (by omega), if_neg]
  simp only [Bool.not_eq_true, List.any_eq_false, List.mem_range]
  intro t ht
  simp [hp t ht]

/-- the map of the positions that have been looked at -/
def inIs (J : Job) (ln : Nat → Nat) (f : Nat → Nat → Int) (k : Nat) (mk : PM Pl) : Prop := mk.Ok ∧ ∀ p : Nat → Nat, mk.getD (tup p) = if J.bar k ln f p = true then 1 else 0
theorem inIs.start (J : Job) (ln : Nat → Nat) (f : Nat → Nat → Int) : inIs J ln f 0 (PM.empty Pl) := ⟨PM.Ok.empty, fun p => by simp [Job.bar, PM.getD_empty]⟩
theorem inIs.next {J : Job} {ln : Nat → Nat} {f : Nat → Nat → Int} {k : Nat} {mk : PM Pl} (h : inIs J ln f k mk) : inIs J ln f (k + 1) (mk.set (tup (J.posP (ln k) (f k))) 1) :=
  ⟨h.1.set _ _, fun p => by
    rw [PM.getD_set, h.2 p]
    have e : J.bar (k + 1) ln f p = (J.bar k ln f p || decide (tup (J.posP (ln k) (f k)) = tup p)) := by simp [Job.bar, List.range_succ]
    rw [e]
    by_cases h1 : tup p = tup (J.posP (ln k) (f k))
    · rw [if_pos h1]
      have : decide (tup (J.posP (ln k) (f k)) = tup p) = true := by simpa using h1.symm
      simp [this]
    · rw [if_neg h1]
      have : decide (tup (J.posP (ln k) (f k)) = tup p) = false := by simpa using fun e => h1 e.symm
      simp [this]⟩
theorem Job.bdR_skip (J : Job) (S : (Nat → Nat) → Bool) (p : Nat → Nat) (b : Int) {k : Nat} : ∀ d, (∀ i, k ≤ i → i < k + d → ¬ p i < J.len i) → J.bdR S p (k + d) b = J.bdR S p k b
  | 0, _ => rfl
  | d + 1, h => by
    rw [← Nat.add_assoc, Job.bdR, if_neg fun hc => h (k + d) (by omega) (by omega) hc.1]
    exact J.bdR_skip S p b d fun i h1 h2 => h i h1 (by omega)
theorem Job.bdR_bd {J : Job} (hJ : J.Ok) (S : (Nat → Nat) → Bool) {p : Nat → Nat} (hp : J.In p) {b : Int} (hb : -1099511627776 ≤ b ∧ b ≤ 1099511627776) : ∀ r, r ≤ J.n → -1099511627776 ≤ J.bdR S p r b ∧ J.bdR S p r b ≤ 1099511627776
  | 0, _ => hb
  | r + 1, hr => by
    have ih := Job.bdR_bd hJ S hp hb r (by omega)
    rw [Job.bdR]
    split
    · rename_i hc
      have := Job.hot_bd hJ hp (show r < J.n by omega) hc.1
      omega
    · exact ih
theorem Job.bdT_bd {J : Job} (hJ : J.Ok) (S : (Nat → Nat) → Bool) : ∀ t, -1099511627776 ≤ J.bdT S t ∧ J.bdT S t ≤ 1099511627776
  | 0 => by simp [Job.bdT]
  | t + 1 => Job.bdR_bd hJ S (J.dig_in t) (Job.bdT_bd hJ S t) J.n (Nat.le_refl _)

theorem _root_.Go.World.setCell_self {W : World} {b i : Nat} {v : Value} (h : W.cell? ⟨b, i, none⟩ = some v) : W.setCell ⟨b, i, none⟩ v = W := by
  unfold World.cell? at h
  unfold World.setCell
  simp only at h
  have : W.heap.modify b (fun | .cells c elem frozen => .cells (if (none : Option Nat).isSome = true then c else c.setIfInBounds i v) elem frozen | o => o) = W.heap := by
    apply Array.ext_getElem?
    intro k
    rw [Array.getElem?_modify]
    by_cases hk : b = k
    · subst hk
      rw [if_pos rfl]
      cases hh : W.heap[b]? with
      | none => rfl
      | some o =>
        rw [hh] at h
        cases o <;> simp at h ⊢
        rename_i cs t fz
        apply Array.ext_getElem?
        intro j
        rw [Array.getElem?_setIfInBounds]
        by_cases hj : i = j
        · subst hj
          rw [if_pos rfl, if_pos (Array.getElem?_eq_some_iff.1 h).1, h]
        · rw [if_neg hj]
    · rw [if_neg hk]
  exact congrArg (fun x => { W with heap := x }) this
theorem _root_.Go.World.setCell_setCell (W : World) (b i : Nat) (u v : Value) : (W.setCell ⟨b, i, none⟩ u).setCell ⟨b, i, none⟩ v = W.setCell ⟨b, i, none⟩ v := by
  unfold World.setCell
  simp only
  congr 1
  apply Array.ext_getElem?
  intro k
  simp only [Array.getElem?_modify]
  by_cases hk : b = k
  · subst hk
    simp only [if_true, Option.map_map]
    cases hh : W.heap[b]? with
    | none => rfl
    | some o =>
      cases o <;> simp
  · simp [hk]
theorem cell_set_ne {W : World} {b i : Nat} {v : Value} {a : Addr} (h : a.block ≠ b ∨ a.off ≠ i) (ha : a.spot = none) : (W.setCell ⟨b, i, none⟩ v).cell? a = W.cell? a := by
  obtain ⟨ab, ao, asp⟩ := a
  subst ha
  simp only at h
  unfold World.cell? World.setCell
  simp only [Array.getElem?_modify]
  by_cases hb : b = ab
  · subst hb
    have ho : ao ≠ i := by rcases h with h | h; exact absurd rfl h; exact h
    simp only [if_true]
    cases hh : W.heap[b]? with
    | none => rfl
    | some o =>
      cases o <;> simp [Option.map_some]
      rename_i cs t fz
      rw [Array.getElem?_setIfInBounds]
      rw [if_neg fun e => ho e.symm]
  · rw [if_neg hb]

end Go.Proofs.Ytjpccfpmhmddjaa

/-
  What is proved: CheckBarrier of the program (30).
-/
namespace Go.Proofs.Ytjpccfpmhmddjaa
open Go.RowKit
attribute [local irreducible] Go.wpCalm
attribute [local go_sem] Oper.semAt_some

@[local go_sem ↓] theorem mk93' (w : World) : (Instr.makeMap 93 none).run Try.prog w = .ok (.map (some w.heap.size)) (w.alloc ((PM.empty Pl).obj ePl)) := rfl

set_option maxHeartbeats 4000000 in
theorem chkBar_c (w : World) (v : Value) (J : Job) (hv : RawAt w v J) (lv : Value) (m : Nat) (ln : Nat → Nat) (f : Nat → Nat → Int) (hl : RowsOf w lv m ln f) :
    Calls Try.prog 30 #[v, lv] w fun e w' => e = .returned (.tuple #[.int .i64 (J.barAns m ln f), .int .i64 (J.barErr m ln f)]) ∧ w.grows w' := by
  have Hv := Lib.hid hv
  obtain ⟨rv, row0, rfl, -, -⟩ := hv
  obtain ⟨row, hrow, hints⟩ := hl
  have Hrow := Lib.hid hrow
  have Hints := Lib.hid hints
  obtain ⟨la, lcap, rfl, hlc1, hlc2, -⟩ := hrow
  unfold maxLen at hlc2
  clear hints
  (refine (callsIn_wide (n := 0)).1 (callsIn_of_wp_marks Try.func30 rfl trivial ((wpIn_wide (n := 0)).2 ?_) rfl); simp only [Try.ntmps30, List.size_toArray, List.length_cons, List.length_nil, Nat.reduceAdd, Nat.reduceSub, Array.replicate_succ, Array.replicate_zero, List.push_toArray, List.append_toArray, List.nil_append, List.cons_append])
  by_cases hc : J.check = 0
  · have hJ := Lib.hid ((Job.Ok_iff J).2 hc)
    have Hc := Lib.hid hc
    clear hc
    by_cases hm : 4096 < m
    · have hE := Lib.hid (Job.barErr_many (ln := ln) (f := f) Hc.out hm)
      go_wp2_with (go_at_call 44; refine (open_c _ _ J ((Hv.out.mono (by (repeat (first | exact World.grows.refl _ | assumption | refine World.grows.alloc ?_ _ | refine World.grows.plus ?_ _ _ | refine World.grows.drew ?_)))).job hJ.out) hJ.out).mono ?_; rintro e w1 ⟨p, rfl, hg1, hP, hp⟩; have hgw : w.grows w1 := World.grows.trans (by (repeat (first | exact World.grows.refl _ | assumption | refine World.grows.alloc ?_ _ | refine World.grows.plus ?_ _ _ | refine World.grows.drew ?_))) hg1; have Hgw := Lib.hid hgw; clear hgw hg1 hP)
      (refine bodyPostM_ret (v := .tuple #[.int .i64 0, .int .i64 6]) (by simp [results, Try.results30, go_sem]) ?_)
      exact ⟨by unfold Job.barAns; rw [hE.out]; rfl, Hgw.out⟩
    · go_wp2_with (go_at_call 44; refine (open_c _ _ J ((Hv.out.mono (by (repeat (first | exact World.grows.refl _ | assumption | refine World.grows.alloc ?_ _ | refine World.grows.plus ?_ _ _ | refine World.grows.drew ?_)))).job hJ.out) hJ.out).mono ?_; rintro e w1 ⟨p, rfl, hg1, hP, hp⟩; have hgw : w.grows w1 := World.grows.trans (by (repeat (first | exact World.grows.refl _ | assumption | refine World.grows.alloc ?_ _ | refine World.grows.plus ?_ _ _ | refine World.grows.drew ?_))) hg1; have Hgw := Lib.hid hgw; have HP := Lib.hid hP; clear hgw hg1 hP)
      have hord : Hid (∀ k : Nat, k < m → ∃ b o, la = some ⟨b, o, none⟩ ∧ w1.cell? ⟨b, o + k, none⟩ = some (row k)) := Lib.hid (by
        obtain ⟨_, _, he, _, _, hc⟩ := Hrow.out.mono Hgw.out
        cases he
        intro k hk
        obtain ⟨b, o, h1, h2⟩ := hc k 0 hk (by omega)
        exact ⟨b, o, h1, by simpa using h2⟩)
      go_loopw [33] (fun i wr => ∃ (k : Nat) (mk : PM Pl), k ≤ m ∧ i = .int .i64 k ∧ Hid (∀ j, j < k → J.posErr (ln j) (f j) = 0) ∧ Hid (inIs J ln f k mk) ∧ Hid (((w1.alloc (mk.obj ePl)).alloc (.cells #[.map (some w1.heap.size)] 93)).grows wr)) (fun i _ => m - (intOf i).toNat)
      case atStart => exact ⟨0, PM.empty Pl, by omega, rfl, Lib.hid fun j hj => by omega, Lib.hid (inIs.start J ln f), Lib.hid (World.grows.refl _)⟩
      case round =>
        obtain ⟨k, mk, hk, rfl, hok, hin, hg⟩ := hrel
        have wb : wr.heap[w1.heap.size]? = some (mk.obj ePl) := hg.out.heap_of (by rw [World.heap_a _ _ _ (by rw [World.heap_at _ _ _ rfl]; rfl), World.heap_at _ _ _ rfl])
        have w8 : wr.cell? ⟨w1.heap.size + 1, 0, none⟩ = some (.map (some w1.heap.size)) := hg.out.cell_of (by simp [go_sem])
        have hg1 : w1.grows wr := World.grows.trans (by (repeat (first | exact World.grows.refl _ | assumption | refine World.grows.alloc ?_ _ | refine World.grows.plus ?_ _ _ | refine World.grows.drew ?_))) hg.out
        have Hg1 := Lib.hid hg1
        have hput : Hid (∀ (mk' : PM Pl) (W : World), wr.grows W → ((w1.alloc (mk'.obj ePl)).alloc (.cells #[.map (some w1.heap.size)] 93)).grows (W.putObj w1.heap.size (mk'.obj ePl))) := Lib.hid fun mk' W hW => by
          have := (hg.out.trans hW).putObj (mk'.obj ePl) (b := w1.heap.size) (by simp; omega)
          rwa [World.putObj_alloc_lt _ _ _ _ (by simp), World.putObj_alloc_at _ _ _ _ rfl] at this
        clear hg1
        by_cases hlt : k < m
        · obtain ⟨lb, lo, rfl, h0⟩ := hord.out k hlt
          have hik := Lib.hid (Hints.out k hlt)
          obtain ⟨ra, rcap, hrk, -⟩ := Hints.out k hlt
          rw [hrk] at h0 hik
          replace h0 := Hg1.out.cell_of h0
          by_cases he : J.posErr (ln k) (f k) = 0
          · have hup := fun W h => up93 mk w1.heap.size W h (J.posP (ln k) (f k)) 1
            go_wp2_with (go_at_call 45; go_loud (refine (place_c _ p J hJ.out (HP.out.mono Hg1.out) _ (ln k) (f k) (hik.out.mono (Hgw.out.trans Hg1.out))).mono ?_; rintro e w3 ⟨rfl, hg3⟩; have x3 := hg3.heap_of wb; have x8 := hg3.cell_of w8; have HG3 := Lib.hid hg3; clear hg3; rw [he]))
            go_roundw
            case rel => exact ⟨k + 1, _, by omega, by go_num, Lib.hid fun j hj => (by rcases Nat.lt_or_ge j k with h | h; exact hok.out j h; have hjk : j = k := (by omega); subst hjk; exact he), Lib.hid hin.out.next, Lib.hid ((hput.out _ _ HG3.out).alloc _)⟩
            case measure => simp [intOf]; omega
          · have hE := Lib.hid (Job.barErr_pos (m := m) (ln := ln) (f := f) Hc.out (by omega) hlt he)
            go_wp2_with (go_at_call 45; go_loud (refine (place_c _ p J hJ.out (HP.out.mono Hg1.out) _ (ln k) (f k) (hik.out.mono (Hgw.out.trans Hg1.out))).mono ?_; rintro e w3 ⟨rfl, hg3⟩; have x3 := hg3.heap_of wb; have x8 := hg3.cell_of w8; have HG3 := Lib.hid hg3; clear hg3))
            (refine bodyPostM_ret (v := .tuple #[.int .i64 0, .int .i64 3]) (by simp [results, Try.results30, go_sem]) ?_)
            exact ⟨by unfold Job.barAns; rw [hE.out]; rfl, Hgw.out.trans (Hg1.out.trans (HG3.out.alloc _))⟩
        · have hke : k = m := by omega
          subst hke
          have hsum := Lib.hid (Job.barErr_sum (m := k) (ln := ln) (f := f) Hc.out (by omega) hok.out)
          have q0 : wr.cell? ⟨p, 2, none⟩ = some (.int .i64 (J.last 0)) := (HP.out.mono Hg1.out).last 0 (by omega)
          have q1 : wr.cell? ⟨p, 3, none⟩ = some (.int .i64 (J.last 1)) := (HP.out.mono Hg1.out).last 1 (by omega)
          have q2 : wr.cell? ⟨p, 4, none⟩ = some (.int .i64 (J.last 2)) := (HP.out.mono Hg1.out).last 2 (by omega)
          have q3 : wr.cell? ⟨p, 5, none⟩ = some (.int .i64 (J.last 3)) := (HP.out.mono Hg1.out).last 3 (by omega)
          have hlz : ∀ W : World, W.heap[w1.heap.size]? = some (mk.obj ePl) → (Instr.lookup 93 (.map (some w1.heap.size)) (.agg #[.int .i64 0, .int .i64 0, .int .i64 0, .int .i64 0]) false).run Try.prog W = .ok (.int .i64 (mk.getD (tup fun _ => 0))) W := fun W h => lk93 mk _ W h (fun _ => 0)
          have hll := fun W h => lk93 mk w1.heap.size W h J.last
          simp only [hin.out.2] at hlz hll
          by_cases hb0 : J.bar k ln f (fun _ => 0) = true
          · by_cases hbl : J.bar k ln f J.last = true
            · have hE : Hid (J.barErr k ln f = 14) := Lib.hid (by rw [hsum.out, if_pos (.inr hbl)])
              simp only [hb0, hbl, if_true] at hlz hll
              go_wp2
              (refine wp_region_calm (by kernel_rfl) (by kernel_rfl) ?_; (repeat (refine wpCalm_step (fun K hK => ?_); go_simp; first | (refine hK _ ?_; clear hK K) | (apply Exists.intro; refine ⟨fun n' x' => ?_, hK _ ?_⟩; (fail); clear hK K))); refine wpCalm_nil ?_; intro nq xq)
              go_wp2
              (refine bodyPostM_ret (v := .tuple #[.int .i64 0, .int .i64 14]) (by simp [results, Try.results30, go_sem]) ?_)
              exact ⟨by unfold Job.barAns; rw [hE.out]; rfl, Hgw.out.trans (Hg1.out.trans (by (repeat (first | exact World.grows.refl _ | assumption | refine World.grows.alloc ?_ _ | refine World.grows.plus ?_ _ _ | refine World.grows.drew ?_))))⟩
            · have hE : Hid (J.barErr k ln f = 0) := Lib.hid (by rw [hsum.out, if_neg (by simp [hb0, hbl])])
              simp only [hb0, hbl, if_true, Bool.false_eq_true, if_false] at hlz hll
              go_wp2
              (refine wp_region_calm (by kernel_rfl) (by kernel_rfl) ?_; (repeat (refine wpCalm_step (fun K hK => ?_); go_simp; first | (refine hK _ ?_; clear hK K) | (apply Exists.intro; refine ⟨fun n' x' => ?_, hK _ ?_⟩; (fail); clear hK K))); refine wpCalm_nil ?_; intro nq xq)
              go_wp2_with (go_at_call 65; go_loud (refine (all_c _ p J ((HP.out.mono Hg1.out).mono (by (repeat (first | exact World.grows.refl _ | assumption | refine World.grows.alloc ?_ _ | refine World.grows.plus ?_ _ _ | refine World.grows.drew ?_)))) hJ.out).mono ?_; rintro e w4 ⟨av, rfl, hg4, hA⟩; obtain ⟨aa, acap, rfl, ha1, ha2, hac⟩ := hA; unfold maxLen at ha2; have Hac := Lib.hid hac; clear hac))
              have y8 : w4.cell? ⟨w1.heap.size + 1, 0, none⟩ = some (.map (some w1.heap.size)) := hg4.cell_of (by simp [go_sem, w8])
              have yb : w4.heap[w1.heap.size]? = some (mk.obj ePl) := hg4.heap_of (by simp [go_sem, wb])
              have y13 : w4.cell? ⟨wr.heap.size + nq, 0, none⟩ = some (.int .i64 1099511627776) := hg4.cell_of (by simp [go_sem])
              have yf : w4.frozen? ⟨wr.heap.size + nq, 0, none⟩ = false := by rw [Below.frozen hg4 (by simp)]; simp [go_sem]
              have ys : w1.heap.size + 1 < wr.heap.size := by have := hg.out.size; simp at this; omega
              have yg : w1.grows w4 := Hg1.out.trans (World.grows.trans (by (repeat (first | exact World.grows.refl _ | assumption | refine World.grows.alloc ?_ _ | refine World.grows.plus ?_ _ _ | refine World.grows.drew ?_))) hg4)
              have yls : wr.heap.size + nq < w4.heap.size := by have := hg4.size; simp at this; omega
              have HP1 : Hid (∀ b, w1.grows (w4.setCell ⟨wr.heap.size + nq, 0, none⟩ (.int .i64 b))) := Lib.hid fun b => yg.setCell (by simp; omega) _
              have yc : ∀ (b : Int) (a : Addr), a ≠ ⟨wr.heap.size + nq, 0, none⟩ → a.spot = none → (w4.setCell ⟨wr.heap.size + nq, 0, none⟩ (.int .i64 b)).cell? a = w4.cell? a := fun b a h hs => cell_set_ne (by
                obtain ⟨ab, ao, asp⟩ := a
                simp only at hs
                subst hs
                by_cases h1 : ab = wr.heap.size + nq
                · right; intro h2; exact h (by subst h1; simp only at h2; subst h2; rfl)
                · exact .inl h1) hs
              have yc13 : ∀ b : Int, (w4.setCell ⟨wr.heap.size + nq, 0, none⟩ (.int .i64 b)).cell? ⟨wr.heap.size + nq, 0, none⟩ = some (.int .i64 b) := fun b => World.cell?_setCell_same _ _ _ y13
              have Hyc := Lib.hid yc
              have Hy8 := Lib.hid y8
              have Hyb := Lib.hid yb
              have Hyf := Lib.hid yf
              have Hy13 := Lib.hid y13
              have Hyc13 := Lib.hid yc13
              have Hle := Job.size_le hJ.out
              clear hg4 q0 q1 q2 q3 w8 wb hlz hll yc y8 yb yf y13 yc13
              refine wp_loop_d [false, false, false, false, false, false, false, false, false, false, false, false, false, false, false, true, true, false, false, false, false, false, false, false, false, false, false, false, false, false, false, false, false, false, false, false, false, false, false, false, false, false, false, false, false, false, false, false, false, false, false, false, false, false, false, false, false, false, false, false, false, false, false, false, true, true, true, true, true, true, true, true, true, true, true, true, true, true, true, true, true, true, true, true, true, true, true, true, false] (fun u ds W => ∃ t : Nat, t ≤ J.size ∧ u 64 = .int .i64 t ∧ Hid (Marks w4.heap.size ds W) ∧ Hid ((w4.setCell ⟨wr.heap.size + nq, 0, none⟩ (.int .i64 (J.bdT (J.bar k ln f) t))).grows W)) (fun u _ => J.size - (intOf (u 64)).toNat) (by rfl) ⟨0, by omega, rfl, Lib.hid trivial, Lib.hid ?_⟩ ?_
              · have := World.setCell_self Hy13.out
                rw [show J.bdT (J.bar k ln f) 0 = 1099511627776 from rfl, this]
                exact World.grows.refl _
              rintro u ds W ⟨t, ht, hu, hds, hg⟩
              simp only [fillL, hu, Nat.reduceAdd, Nat.zero_add]
              have x13 : W.cell? ⟨wr.heap.size + nq, 0, none⟩ = some (.int .i64 (J.bdT (J.bar k ln f) t)) := hg.out.cell_of (Hyc13.out _)
              have xf : W.frozen? ⟨wr.heap.size + nq, 0, none⟩ = false := by rw [Below.frozen hg.out (by simp; omega)]; simpa using Hyf.out
              have x8 : W.cell? ⟨w1.heap.size + 1, 0, none⟩ = some (.map (some w1.heap.size)) := hg.out.cell_of (by rw [Hyc.out _ _ (by intro e; injection e; omega) rfl]; exact Hy8.out)
              have xb : W.heap[w1.heap.size]? = some (mk.obj ePl) := hg.out.heap_of (by rw [World.setCell_heap_other (by omega)]; exact Hyb.out)
              have xls : wr.heap.size + nq < W.heap.size := by have := hg.out.size; simp at this; omega
              have xbd := Job.bdT_bd hJ.out (J.bar k ln f) t
              by_cases hlt : t < J.size
              · obtain ⟨ab, ao, rfl, h0⟩ := Hac.out t 0 hlt (by omega)
                obtain ⟨_, _, e1, h1⟩ := Hac.out t 1 hlt (by omega); cases e1
                obtain ⟨_, _, e1, h2⟩ := Hac.out t 2 hlt (by omega); cases e1
                obtain ⟨_, _, e1, h3⟩ := Hac.out t 3 hlt (by omega); cases e1
                simp only [placeC, Nat.add_zero] at h0 h1 h2 h3
                have hd6 : ∀ i, J.dig t i ≤ 6 := fun i => by
                  rcases Nat.lt_or_ge i J.n with h | h
                  · have := (J.dig_in t).le i h; have := hJ.out.l6 i h; omega
                  · rw [(J.dig_in t).out i h]; omega
                have hcw : ∀ (a : Addr) (i : Nat), a.spot = none → w4.cell? a = some (.int .i64 (J.dig t i)) → W.cell? a = some (.int .i64 (J.dig t i)) := fun a i hs h => hg.out.cell_of (by
                  rw [Hyc.out _ a (fun e => by
                    rw [e, Hy13.out] at h
                    simp only [Option.some.injEq, Value.int.injEq, true_and] at h
                    have := hd6 i
                    omega) hs]
                  exact h)
                replace h0 := hcw _ 0 rfl h0
                replace h1 := hcw _ 1 rfl h1
                replace h2 := hcw _ 2 rfl h2
                replace h3 := hcw _ 3 rfl h3
                clear hcw hd6
                go_wp2_with (go_at_call 66; refine (steps_c _ p (J.dig t)).mono ?_; rintro e W9 ⟨rfl, rfl⟩)
                generalize hWe : (((W.alloc (Obj.cells #[Value.int IntKind.i64 ↑(J.dig t 0), Value.int IntKind.i64 ↑(J.dig t 1), Value.int IntKind.i64 ↑(J.dig t 2), Value.int IntKind.i64 ↑(J.dig t 3)] 76)).alloc (Obj.cells #[Value.pointer (some { block := p, off := 0 })] 72)).alloc (plcO (J.dig t))) = We
                refine wp_rangeFunc_walk (f := 85) (by rfl) (fun _ _ => rfl) (steps_seq _ _ p J (J.dig t) hJ.out (J.dig_in t).le) (fun x hx => by obtain ⟨r, _, rfl⟩ := List.mem_map.1 hx; rfl)
                  (fun j V => ∃ (r : Nat), r ≤ J.n ∧ (J.steps (J.dig t) r).length = j ∧ V = ((((W.setCell ⟨wr.heap.size + nq, 0, none⟩ (.int .i64 (J.bdR (J.bar k ln f) (J.dig t) r (J.bdT (J.bar k ln f) t)))).alloc (plcO (J.dig t))).alloc (.cells #[.pointer (some ⟨p, 0, none⟩)] 72)).alloc (plcO (J.dig t))))
                  (fun _ _ => False) ?_ (fun _ _ h => h.elim) ?_ ?_ ?_ ?_ (fun _ _ _ _ h => h.elim)
                · rintro j V ⟨r, -, -, rfl⟩
                  subst hWe
                  simp
                · rintro j V ⟨r, -, -, rfl⟩ W9 hgW
                  refine ⟨hgW.cell_of (by simp [go_sem]), fun i hi => hgW.cell_of (by simp [go_sem, hi]), ?_⟩
                  refine (HP.out.mono (w' := ((((W.setCell ⟨wr.heap.size + nq, 0, none⟩ (.int .i64 (J.bdR (J.bar k ln f) (J.dig t) r (J.bdT (J.bar k ln f) t)))).alloc (plcO (J.dig t))).alloc (.cells #[.pointer (some ⟨p, 0, none⟩)] 72)).alloc (plcO (J.dig t)))) ?_).mono hgW
                  have := (HP1.out (J.bdT (J.bar k ln f) t)).trans hg.out
                  exact World.grows.trans (this.setCell (p := ⟨wr.heap.size + nq, 0, none⟩) (by simp; omega) _) (by (repeat (first | exact World.grows.refl _ | assumption | refine World.grows.alloc ?_ _ | refine World.grows.plus ?_ _ _ | refine World.grows.drew ?_)))
                · exact ⟨0, by omega, rfl, by rw [show J.bdR (J.bar k ln f) (J.dig t) 0 (J.bdT (J.bar k ln f) t) = J.bdT (J.bar k ln f) t from rfl, World.setCell_self x13]; exact hWe.symm⟩
                · rintro j x V lo n y hx ⟨r, hr, hj, hV⟩ K0 hK0
                  obtain ⟨r', hr1, hr2, hr3, rfl, hr4, hr5⟩ := J.next_open (J.dig t) (J.n - r) r (by omega) hj hx
                  have hbr : J.bdR (J.bar k ln f) (J.dig t) r (J.bdT (J.bar k ln f) t) = J.bdR (J.bar k ln f) (J.dig t) r' (J.bdT (J.bar k ln f) t) := by
                    have := J.bdR_skip (J.bar k ln f) (J.dig t) (J.bdT (J.bar k ln f) t) (k := r) (r' - r) (fun i h1 h2 => hr5 i h1 (by omega))
                    rw [show r + (r' - r) = r' by omega] at this
                    exact this.symm
                  rw [hbr] at hV
                  have hbb := Job.bdR_bd hJ.out (J.bar k ln f) (J.dig_in t) xbd r' (by omega)
                  have hnx : J.bdR (J.bar k ln f) (J.dig t) (r' + 1) (J.bdT (J.bar k ln f) t) = if J.bar k ln f (J.dig t) = true ∧ J.bar k ln f (Job.to (J.dig t) r') = false then min (J.bdR (J.bar k ln f) (J.dig t) r' (J.bdT (J.bar k ln f) t)) (J.hot (J.dig t) r') else J.bdR (J.bar k ln f) (J.dig t) r' (J.bdT (J.bar k ln f) t) := by
                    rw [Job.bdR]
                    simp only [hr3, true_and]
                  have Hnx := Lib.hid hnx
                  clear hbr hr hj hr1 hr5 hx hnx
                  obtain ⟨c, hcdef⟩ : ∃ c, J.bdR (J.bar k ln f) (J.dig t) r' (J.bdT (J.bar k ln f) t) = c := ⟨_, rfl⟩
                  rw [hcdef] at hV hbb Hnx
                  have hWes : We.heap.size = W.heap.size + 3 := by subst hWe; simp
                  have hVs : V.heap.size = W.heap.size + 3 := by subst hV; simp
                  have hVb : V.heap[w1.heap.size]? = some (mk.obj ePl) := by subst hV; simp [go_sem, World.setCell_heap_other (show w1.heap.size ≠ wr.heap.size + nq by omega), xb]
                  have v8 : V.cell? ⟨w1.heap.size + 1, 0, none⟩ = some (.map (some w1.heap.size)) := by
                    subst hV
                    refine World.grows.cell_of (w := W.setCell ⟨wr.heap.size + nq, 0, none⟩ (.int .i64 c)) (by (repeat (first | exact World.grows.refl _ | assumption | refine World.grows.alloc ?_ _ | refine World.grows.plus ?_ _ _ | refine World.grows.drew ?_))) ?_
                    rw [cell_set_ne (.inl (by show w1.heap.size + 1 ≠ _; omega)) rfl]; exact x8
                  have v13 : V.cell? ⟨wr.heap.size + nq, 0, none⟩ = some (.int .i64 c) := by
                    subst hV
                    exact World.grows.cell_of (w := W.setCell ⟨wr.heap.size + nq, 0, none⟩ (.int .i64 c)) (by (repeat (first | exact World.grows.refl _ | assumption | refine World.grows.alloc ?_ _ | refine World.grows.plus ?_ _ _ | refine World.grows.drew ?_))) (World.cell?_setCell_same _ _ _ x13)
                  have vf : V.frozen? ⟨wr.heap.size + nq, 0, none⟩ = false := by
                    subst hV
                    rw [Below.frozen (show (W.setCell ⟨wr.heap.size + nq, 0, none⟩ (.int .i64 c)).grows _ by (repeat (first | exact World.grows.refl _ | assumption | refine World.grows.alloc ?_ _ | refine World.grows.plus ?_ _ _ | refine World.grows.drew ?_))) (by simp; omega)]
                    simpa using xf
                  have p0 : V.cell? ⟨W.heap.size, 0, none⟩ = some (.int .i64 (J.dig t 0)) := by subst hV; simp [go_sem]
                  have p1 : V.cell? ⟨W.heap.size, 1, none⟩ = some (.int .i64 (J.dig t 1)) := by subst hV; simp [go_sem]
                  have p2 : V.cell? ⟨W.heap.size, 2, none⟩ = some (.int .i64 (J.dig t 2)) := by subst hV; simp [go_sem]
                  have p3 : V.cell? ⟨W.heap.size, 3, none⟩ = some (.int .i64 (J.dig t 3)) := by subst hV; simp [go_sem]
                  have hVc : ∀ b : Int, V.setCell ⟨wr.heap.size + nq, 0, none⟩ (.int .i64 b) = ((((W.setCell ⟨wr.heap.size + nq, 0, none⟩ (.int .i64 (b))).alloc (plcO (J.dig t))).alloc (.cells #[.pointer (some ⟨p, 0, none⟩)] 72)).alloc (plcO (J.dig t))) := fun b => by
                    subst hV
                    have e0 : ((W.setCell ⟨wr.heap.size + nq, 0, none⟩ (.int .i64 c)).cell? ⟨wr.heap.size + nq, 0, none⟩).isSome = true := by rw [World.cell?_setCell_same _ _ _ x13]; rfl
                    rw [World.setCell_alloc_is _ _ _ _ (by rw [World.cell?_alloc_is _ _ _ (by rw [World.cell?_alloc_is _ _ _ e0]; exact e0), World.cell?_alloc_is _ _ _ e0]; exact e0), World.setCell_alloc_is _ _ _ _ (by rw [World.cell?_alloc_is _ _ _ e0]; exact e0), World.setCell_alloc_is _ _ _ _ e0, World.setCell_setCell]
                  have HVc := Lib.hid hVc
                  have hhb := Job.hot_bd hJ.out (J.dig_in t) hr2 hr3
                  clear hV hWe hVc h0 h1 h2 h3 x8 x13 xf xb hcdef
                  simp only [hWes] at hK0 ⊢
                  dsimp only [Job.stepv]
                  rw [zip_one]
                  simp only [List.setIfInBounds_toArray, List.set_cons_zero, List.set_cons_succ]
                  gi_wp2
                  refine hK0.out _ _ (by (repeat (first | exact World.grows.refl _ | assumption | refine World.grows.alloc ?_ _ | refine World.grows.plus ?_ _ _ | refine World.grows.drew ?_))) fun lo' K1 hK1 => ?_
                  rw [World.putObj_alloc_lt _ _ _ _ (by simp; omega), World.putObj_plus _ _ _ _ _ (by simp; omega), World.putObj_alloc_at _ _ _ _ (by simp; omega)]
                  generalize World.putIn ((V.alloc (Obj.deferred (some []))).alloc lo) n y (W.heap.size + 3 + 1) lo' = y'
                  have hl1 := fun W h => lk93 mk w1.heap.size W h (J.dig t)
                  have hl2 := fun W h => lk93 mk w1.heap.size W h (Job.to (J.dig t) r')
                  simp only [hin.out.2] at hl1 hl2
                  by_cases hS1 : J.bar k ln f (J.dig t) = true
                  · by_cases hS2 : J.bar k ln f (Job.to (J.dig t) r') = true
                    · simp only [hS1, hS2, if_true] at hl1 hl2
                      have hnx := Hnx.out
                      rw [if_neg (by simp [hS2])] at hnx
                      gi_wp2
                      refine hK1.out _ _ _ ⟨V, ⟨r' + 1, by omega, by rw [Job.steps_succ, if_pos hr3]; simp [hr4], by rw [hnx, ← HVc.out c, World.setCell_self v13]⟩, by (repeat (first | exact World.grows.refl _ | assumption | refine World.grows.alloc ?_ _ | refine World.grows.plus ?_ _ _ | refine World.grows.drew ?_))⟩
                    · simp only [hS1, hS2, if_true, Bool.false_eq_true, if_false] at hl1 hl2
                      have hnx := Hnx.out
                      rw [if_pos ⟨hS1, by simpa using hS2⟩] at hnx
                      gi_wp2
                      case inl =>
                        have e1 : min c (J.hot (J.dig t) r') = J.hot (J.dig t) r' := by omega
                        refine hK1.out _ _ _ ⟨V.setCell ⟨wr.heap.size + nq, 0, none⟩ (.int .i64 (J.hot (J.dig t) r')), ⟨r' + 1, by omega, by rw [Job.steps_succ, if_pos hr3]; simp [hr4], by rw [hnx, e1]; exact HVc.out _⟩, by (repeat (first | exact World.grows.refl _ | assumption | refine World.grows.alloc ?_ _ | refine World.grows.plus ?_ _ _ | refine World.grows.drew ?_))⟩
                      case inr =>
                        have e1 : min c (J.hot (J.dig t) r') = c := by omega
                        refine hK1.out _ _ _ ⟨V.setCell ⟨wr.heap.size + nq, 0, none⟩ (.int .i64 c), ⟨r' + 1, by omega, by rw [Job.steps_succ, if_pos hr3]; simp [hr4], by rw [hnx, e1]; exact HVc.out _⟩, by (repeat (first | exact World.grows.refl _ | assumption | refine World.grows.alloc ?_ _ | refine World.grows.plus ?_ _ _ | refine World.grows.drew ?_))⟩
                  · simp only [hS1, Bool.false_eq_true, if_false] at hl1
                    have hnx := Hnx.out
                    rw [if_neg (by simp [hS1])] at hnx
                    gi_wp2
                    refine hK1.out _ _ _ ⟨V, ⟨r' + 1, by omega, by rw [Job.steps_succ, if_pos hr3]; simp [hr4], by rw [hnx, ← HVc.out c, World.setCell_self v13]⟩, by (repeat (first | exact World.grows.refl _ | assumption | refine World.grows.alloc ?_ _ | refine World.grows.plus ?_ _ _ | refine World.grows.drew ?_))⟩
                · rintro V n y ⟨r, hr, hj, hV⟩
                  have hbr : J.bdR (J.bar k ln f) (J.dig t) r (J.bdT (J.bar k ln f) t) = J.bdT (J.bar k ln f) (t + 1) := by
                    have := J.bdR_skip (J.bar k ln f) (J.dig t) (J.bdT (J.bar k ln f) t) (k := r) (J.n - r) (fun i h1 h2 => J.done_open (J.dig t) (J.n - r) r (by omega) hj i h1 (by omega))
                    rw [show r + (J.n - r) = J.n by omega] at this
                    exact this.symm
                  rw [hbr] at hV
                  have hWes : We.heap.size = V.heap.size := by subst hWe; subst hV; simp
                  have hVs : V.heap.size = W.heap.size + 3 := by subst hV; simp
                  have hgV : (w4.setCell ⟨wr.heap.size + nq, 0, none⟩ (.int .i64 (J.bdT (J.bar k ln f) (t + 1)))).grows V := by
                    subst hV
                    refine World.grows.trans ?_ (show (W.setCell ⟨wr.heap.size + nq, 0, none⟩ (.int .i64 (J.bdT (J.bar k ln f) (t + 1)))).grows _ by (repeat (first | exact World.grows.refl _ | assumption | refine World.grows.alloc ?_ _ | refine World.grows.plus ?_ _ _ | refine World.grows.drew ?_)))
                    have hgo := hg.out
                    refine ⟨hgo.os, hgo.tape, hgo.output, by simpa using hgo.size, fun i hi => ?_⟩
                    by_cases he : i = wr.heap.size + nq
                    · subst he
                      have hb2 := hgo.block (wr.heap.size + nq) (by simp; omega)
                      unfold World.setCell at hb2 ⊢
                      simp only [Array.getElem?_modify, if_true] at hb2 ⊢
                      rw [hb2]
                      cases hh : w4.heap[wr.heap.size + nq]? with
                      | none => rfl
                      | some o => cases o <;> simp
                    · rw [World.setCell_heap_other he, World.setCell_heap_other he]
                      have := hgo.block i (by simpa using hi)
                      rwa [World.setCell_heap_other he] at this
                  have HgV := Lib.hid hgV
                  have hdV : Marks w4.heap.size ds V := by
                    subst hV
                    exact (hds.out.setCell).mono (by (repeat (first | exact World.grows.refl _ | assumption | refine World.grows.alloc ?_ _ | refine World.grows.plus ?_ _ _ | refine World.grows.drew ?_)))
                  have HdV := Lib.hid hdV
                  have hsW := hg.out.size
                  simp only [World.size_setCell] at hsW
                  clear hgV hdV hj hr hV hWe h0 h1 h2 h3 hbr x8 x13 xf xb
                  go_wp2
                  refine ⟨_, rfl, rfl, ⟨t + 1, by omega, by simp [getL], Lib.hid ?_, Lib.hid (HgV.out.trans (by (repeat (first | exact World.grows.refl _ | assumption | refine World.grows.alloc ?_ _ | refine World.grows.plus ?_ _ _ | refine World.grows.drew ?_))))⟩, by simp [getL, intOf]; omega⟩
                  rw [hWes]
                  exact HdV.out.push (World.grows_plus _ _ _) (by omega)
              · have hte : t = J.size := by omega
                subst hte
                have hE2 : J.barAns k ln f = J.bdT (J.bar k ln f) J.size := by unfold Job.barAns; rw [if_pos hE.out]
                go_wp2
                refine Marks.leaves (B := w4.heap.size) (fun W' => w1.grows W') (fun W' D h hD hd => World.putObj_grows h _ (by have := yg.size; omega)) (fun W' h => ⟨.tuple #[.int .i64 (J.bdT (J.bar k ln f) J.size), .int .i64 0], by simp [results, Try.results30, go_sem], ?_⟩) ds _ hds.out ((HP1.out _).trans hg.out)
                exact ⟨by rw [hE.out, hE2], Hgw.out.trans h⟩
          · have hE : Hid (J.barErr k ln f = 14) := Lib.hid (by rw [hsum.out, if_pos (.inl (by simpa using hb0))])
            simp only [hb0, if_false] at hlz
            go_wp2
            (refine wp_region_calm (by kernel_rfl) (by kernel_rfl) ?_; (repeat (refine wpCalm_step (fun K hK => ?_); go_simp; first | (refine hK _ ?_; clear hK K) | (apply Exists.intro; refine ⟨fun n' x' => ?_, hK _ ?_⟩; (fail); clear hK K))); refine wpCalm_nil ?_; intro nq xq)
            go_wp2
            (refine bodyPostM_ret (v := .tuple #[.int .i64 0, .int .i64 14]) (by simp [results, Try.results30, go_sem]) ?_)
            exact ⟨by unfold Job.barAns; rw [hE.out]; rfl, Hgw.out.trans (Hg1.out.trans (by (repeat (first | exact World.grows.refl _ | assumption | refine World.grows.alloc ?_ _ | refine World.grows.plus ?_ _ _ | refine World.grows.drew ?_))))⟩
  · have hE := Lib.hid (Job.barErr_check (m := m) (ln := ln) (f := f) hc)
    go_wp2_with (go_at_call 44; refine (open_bad _ _ J (Hv.out.mono (by (repeat (first | exact World.grows.refl _ | assumption | refine World.grows.alloc ?_ _ | refine World.grows.plus ?_ _ _ | refine World.grows.drew ?_)))) hc).mono ?_; rintro e w' ⟨rfl, hg⟩; obtain ⟨n2, x2, rfl⟩ := World.plus_of hg)
    (refine bodyPostM_ret (v := .tuple #[.int .i64 0, .int .i64 J.check]) (by simp [results, Try.results30, go_sem]) ?_)
    exact ⟨by unfold Job.barAns; rw [hE.out, if_neg hc], by (repeat (first | exact World.grows.refl _ | assumption | refine World.grows.alloc ?_ _ | refine World.grows.plus ?_ _ _ | refine World.grows.drew ?_))⟩

end Go.Proofs.Ytjpccfpmhmddjaa

/-
  What is proved: slices.Clone (69), Barrier (32).
-/
namespace Go.Proofs.Ytjpccfpmhmddjaa
open Go.RowKit
attribute [local irreducible] Go.wpCalm

theorem eq25n (a : Addr) (n c : Nat) (w : World) : (Op.equal 25 (.slice (some a) n c) (.slice none 0 0)).run Try.prog w = .ok false w := by
  unfold Op.equal
  show (Op.equalIn (9999 + 1) 25 _ _).run _ _ = _
  rw [Op.equalIn]
  simp [go_sem, run_underlying Try.underlying25]
@[local go_sem ↓] theorem eqb25 (a : Addr) (n c : Nat) (w : World) : (Go.binOp .eql 25 (.slice (some a) n c) (.slice none 0 0)).run Try.prog w = .ok (.bool false) w := by
  simp only [Go.binOp, Sem.run_bind, eq25n, Result.andThen_ok, Sem.run_pure]
set_option maxHeartbeats 1000000 in
theorem clone_c (w : World) (b o n cap : Nat) (f : Nat → Int) (h : ∀ i, i < n → w.cell? ⟨b, o + i, none⟩ = some (.int .i64 (f i))) (hc : n ≤ cap) (hc2 : cap ≤ 1000000) :
    Calls Try.prog 69 #[.slice (some ⟨b, o, none⟩) n cap] w fun e w' => ∃ u, e = .returned u ∧ w.grows w' ∧ w'.ownsRow w.heap.size 3 1 u n (tableL n 1 (fun i _ => .int .i64 (f i))) := by
  have hs : SliceAt w (.slice (some ⟨b, o, none⟩) n cap) n 1 (fun i _ => .int .i64 (f i)) := ⟨_, _, rfl, hc, by unfold maxLen; omega, fun i j hi hj => ⟨_, _, rfl, by have : j = 0 := (by omega); subst this; simpa using h i hi⟩⟩
  have Hs := Lib.hid hs
  clear hs h
  go_enter Try.func69, Try.ntmps69
  go_wp2_with (at_builtin; go_loud (refine wpList_append_g _ rfl _ _ _ (by rfl) w.heap.size 3 (.int .i64 0) 1 8 Try.underlying25 el3 (by rfl) (by omega) _ 0 [] (by rfl) (empty_own _ _ _ (by simp) (by simp)) _ (by rfl) n _ (SliceAt.src (by omega) (Hs.out.mono (by (repeat (first | exact World.grows.refl _ | assumption | refine World.grows.alloc ?_ _ | refine World.grows.plus ?_ _ _ | refine World.grows.drew ?_))))) (ints_one _ _) (by unfold maxLen; omega) (by omega) (by simp) ?_; intro v1 w4 hown hgr; have hg4 := hgr w (World.grows.alloc (World.grows.refl _) _) (by simp); simp only [Nat.zero_add, List.nil_append] at hown))
  (refine bodyPost_ret (v := v1) (by simp [results, Try.results69, go_sem]) rfl ?_)
  exact ⟨_, rfl, hg4, hown⟩

/-- the numbers of the places below t from which there is a way within a limit -/
def Job.okL (J : Job) (l : Int) (t : Nat) : List Nat := (List.range t).filter fun t => decide (0 < J.waysN l (J.dig t))
theorem Job.okL_succ (J : Job) (l : Int) (t : Nat) : J.okL l (t + 1) = J.okL l t ++ if 0 < J.waysN l (J.dig t) then [t] else [] := by
  unfold Job.okL
  rw [List.range_succ, List.filter_append]
  by_cases h : 0 < J.waysN l (J.dig t) <;> simp [h]
theorem Job.okL_pre (J : Job) (l : Int) (t m : Nat) (h : t ≤ m) : ∃ r, J.okL l m = J.okL l t ++ r := by
  induction m with
  | zero => exact ⟨[], by have : t = 0 := by omega
                          subst this; simp⟩
  | succ m ih =>
    rcases Nat.lt_or_ge m t with h' | h'
    · have : t = m + 1 := by omega
      subst this; exact ⟨[], by simp⟩
    · obtain ⟨r, hr⟩ := ih h'
      exact ⟨r ++ _, by rw [Job.okL_succ, hr, List.append_assoc]⟩
theorem Job.okL_at (J : Job) (l : Int) (t m : Nat) (h : t < m) (hw : 0 < J.waysN l (J.dig t)) : (J.okL l m).getD (J.okL l t).length 0 = t := by
  obtain ⟨r, hr⟩ := J.okL_pre l (t + 1) m (by omega)
  rw [hr, Job.okL_succ, if_pos hw, List.append_assoc, List.getD_eq_getElem?_getD, List.getElem?_append_right (by omega)]
  simp
theorem Job.okL_len (J : Job) (l : Int) (t : Nat) : (J.okL l t).length ≤ t := by
  unfold Job.okL
  have := List.length_filter_le (fun t => decide (0 < J.waysN l (J.dig t))) (List.range t)
  simpa using this

set_option maxHeartbeats 4000000 in
theorem barrier_c (w : World) (v : Value) (J : Job) (hv : RawAt w v J) :
    Calls Try.prog 32 #[v] w fun e w' => ∃ (sv : Value), e = .returned (.tuple #[sv, .int .i64 J.check]) ∧ w.grows w' ∧ (J.check ≠ 0 → sv = .slice none 0 0) ∧
      (J.check = 0 → ∃ hot, J.Best hot ∧ TabAt w' sv (J.okL (hot - 1) J.size).length J.n (fun i j => J.dig ((J.okL (hot - 1) J.size).getD i 0) j)) := by
  have Hv := Lib.hid hv
  obtain ⟨rv, row0, rfl, -, -⟩ := hv
  go_enter Try.func32, Try.ntmps32
  by_cases hc : J.check = 0
  · have hJ := Lib.hid ((Job.Ok_iff J).2 hc)
    have Hc := Lib.hid hc
    obtain ⟨jb, jo, jcap, rb, ro, rc, hvv, hjc, hjc2, -⟩ := Hv.out.job hJ.out
    have hrv : rv = .slice (some ⟨jb, jo, none⟩) J.n jcap := by simpa using hvv
    subst hrv
    clear hvv
    unfold maxLen at hjc2
    clear hc
    go_wp2_with (first
      | (go_at_call 44; refine (open_c _ _ J ((Hv.out.mono (by (repeat (first | exact World.grows.refl _ | assumption | refine World.grows.alloc ?_ _ | refine World.grows.plus ?_ _ _ | refine World.grows.drew ?_)))).job hJ.out) hJ.out).mono ?_; rintro e w1 ⟨p, rfl, hg1, hP, hp⟩; have HP := Lib.hid hP; have Hgw := Lib.hid (show w.grows w1 from World.grows.trans (by (repeat (first | exact World.grows.refl _ | assumption | refine World.grows.alloc ?_ _ | refine World.grows.plus ?_ _ _ | refine World.grows.drew ?_))) hg1); have hbx := hg1.cell_of (a := ⟨w.heap.size, 1, none⟩) (v := .slice (some ⟨jb, jo, none⟩) J.n jcap) (by simp [go_sem]); have Hbx := Lib.hid hbx; clear hg1 hP hbx)
      | (go_at_call 60; go_loud (refine (cool_c _ p J HP.out hJ.out).mono ?_; rintro e w2 ⟨bb, m, hot, rfl, hg2, -, -, -, hbest⟩; have hbd := hbest.bd hJ.out; have Hbest := Lib.hid hbest; have HG2 := Lib.hid hg2; clear hg2 hbest))
      | (go_at_call 63; go_loud (refine (c63 _ _ (hot - 1)).mono ?_; rintro e w3 ⟨rfl, rfl⟩))
      | (go_at_call 62; go_loud (refine (ways_c _ p _ J ((HP.out.mono HG2.out).mono (by (repeat (first | exact World.grows.refl _ | assumption | refine World.grows.alloc ?_ _ | refine World.grows.plus ?_ _ _ | refine World.grows.drew ?_)))) hJ.out (hot - 1) (by simp [go_sem])).mono ?_; rintro e w4 ⟨wb, wm, rfl, hg4, hwb, -, hwq⟩; have HG4 := Lib.hid (World.grows.trans (show w2.grows _ by (repeat (first | exact World.grows.refl _ | assumption | refine World.grows.alloc ?_ _ | refine World.grows.plus ?_ _ _ | refine World.grows.drew ?_))) hg4); have Hwb := Lib.hid hwb; have Hwq := Lib.hid hwq; clear hg4 hwb hwq))
      | (go_at_call 65; go_loud (refine (all_c _ p J ((HP.out.mono HG2.out).mono HG4.out) hJ.out).mono ?_; rintro e w5 ⟨av, rfl, hg5, hA⟩; obtain ⟨aa, acap, rfl, ha1, ha2, hac⟩ := hA; unfold maxLen at ha2; have Hac := Lib.hid hac; have HG5 := Lib.hid hg5; clear hac hg5)))
    have HW := Lib.hid (show w.grows w5 from Hgw.out.trans (HG2.out.trans (HG4.out.trans HG5.out)))
    have ybx : w5.cell? ⟨w.heap.size, 1, none⟩ = some (.slice (some ⟨jb, jo, none⟩) J.n jcap) := HG5.out.cell_of (HG4.out.cell_of (HG2.out.cell_of Hbx.out))
    have ywb : w5.heap[wb]? = some (wm.obj ePl) := HG5.out.heap_of Hwb.out
    have hn4 := hJ.out.n4
    have hn1 := hJ.out.n1
    have hsz := J.size_le hJ.out
    have hnc : Hid (∀ t, (J.okL (hot - 1) t).length ≤ t) := Lib.hid (J.okL_len _)
    go_loopw [10, 36] (fun s i wr => ∃ t : Nat, t ≤ J.size ∧ i = .int .i64 t ∧ Hid (GrowTab wr w5.heap.size s (J.okL (hot - 1) t).length J.n (fun i j => J.dig ((J.okL (hot - 1) J.size).getD i 0) j)) ∧ Hid (w5.grows wr)) (fun _ i _ => J.size - (intOf i).toNat)
    case atStart => exact ⟨0, by omega, rfl, Lib.hid (GrowTab.nil _ _ _ _), Lib.hid (World.grows.refl _)⟩
    case round =>
      obtain ⟨t, ht, rfl, hT, hg⟩ := hrel
      obtain ⟨rw_, g1, g2⟩ := hT.out
      have G1 := Lib.hid g1
      have G2 := Lib.hid g2
      obtain ⟨vo, vc, hv⟩ : ∃ vo vc, u10 = .slice vo (J.okL (hot - 1) t).length vc := by
        rcases g1.2 with ⟨rfl, hn⟩ | ⟨g, cap, cur, rfl, _⟩
        · rw [hn]; exact ⟨_, _, rfl⟩
        · exact ⟨_, _, rfl⟩
      subst hv
      clear g1 g2
      by_cases hlt : t < J.size
      · obtain ⟨ab, ao, rfl, h0⟩ := Hac.out t 0 hlt (by omega)
        obtain ⟨_, _, e1, h1⟩ := Hac.out t 1 hlt (by omega); cases e1
        obtain ⟨_, _, e1, h2⟩ := Hac.out t 2 hlt (by omega); cases e1
        obtain ⟨_, _, e1, h3⟩ := Hac.out t 3 hlt (by omega); cases e1
        simp only [placeC, Nat.add_zero] at h0 h1 h2 h3
        replace h0 := hg.out.cell_of h0
        replace h1 := hg.out.cell_of h1
        replace h2 := hg.out.cell_of h2
        replace h3 := hg.out.cell_of h3
        have xbx := hg.out.cell_of ybx
        have xwb := hg.out.heap_of ywb
        have hl := fun W h => lk99 wm wb W h (J.dig t)
        simp only [Hwq.out _ (J.dig_in t)] at hl
        have hsucc := Lib.hid (J.okL_succ (hot - 1) t)
        have hle := hnc.out t
        by_cases hw : 0 < J.waysN (hot - 1) (J.dig t)
        · have hwi : (0 : Int) < (J.waysN (hot - 1) (J.dig t) : Int) := by omega
          have hat := Lib.hid (J.okL_at (hot - 1) t J.size hlt hw)
          have hn4i : (J.n : Int) ≤ 4 := by omega
          go_wp2_with (first
           | (go_at_call 69; go_loud (refine (clone_c _ wr.heap.size 0 J.n 4 (fun i => (J.dig t i : Nat)) (fun i hi => by rw [Nat.zero_add]; exact plcO_cell (heap_alloc_new wr _) (by omega)) (by omega) (by omega)).mono ?_; rintro e w6 ⟨u, rfl, hg6, hu⟩; obtain ⟨ug, uc, rfl, -⟩ := hu.form (by omega); have Hu := Lib.hid hu; have HG6 := Lib.hid (World.grows.trans (show wr.grows _ by (repeat (first | exact World.grows.refl _ | assumption | refine World.grows.alloc ?_ _ | refine World.grows.plus ?_ _ _ | refine World.grows.drew ?_))) hg6); clear hu hg6))
           | (at_builtin; go_loud (refine wpList_append_r _ rfl _ _ _ (by rfl) w5.heap.size 25 (.slice none 0 0) 1 24 Try.underlying40 el25 (by rfl) (by omega) _ _ _ (by rfl) ((G1.out.grow HG6.out).grow (World.grows.alloc (World.grows.refl _) _)) _ (by rfl) 1 _ (SliceAt.src (by omega) (one_slice _ _ _ _ (by simp))) (any_one _ rfl) (by unfold maxLen; omega) (by omega) (by have := HG6.out.size; have := hg.out.size; simp; omega) ?_; intro v3 w7 hown hgr; have Hown := Lib.hid hown; have Hgr := Lib.hid hgr; clear hown hgr)))
          have hb5 : w5.heap.size ≤ wr.heap.size := hg.out.size
          have hT7 : GrowTab w7 w5.heap.size v3 ((J.okL (hot - 1) t).length + 1) J.n (fun i j => J.dig ((J.okL (hot - 1) J.size).getD i 0) j) := by
            refine GrowTab.push ((G1.out.grow HG6.out).grow (World.grows.alloc (World.grows.refl _) _)) (fun i hi => ((G2.out i hi).grow HG6.out).grow (World.grows.alloc (World.grows.refl _) _)) ?_ Hown.out Hgr.out
            simp only [hat.out]
            exact (Hu.out.grow (World.grows.alloc (World.grows.refl _) _)).down (by simp; omega)
          have hg7 : w5.grows w7 := World.grownBy.grows Hgr.out ((G1.out.grow HG6.out).grow (World.grows.alloc (World.grows.refl _) _)) ((hg.out.trans HG6.out).alloc _) (Nat.le_refl _)
          have HT7 := Lib.hid hT7
          have Hg7 := Lib.hid hg7
          clear hT7 hg7
          go_roundw
          case rel => exact ⟨t + 1, by omega, by go_num, Lib.hid (by rw [hsucc.out, if_pos hw, List.length_append]; exact HT7.out), Hg7⟩
          case measure => simp [intOf]; omega
        · have hwi : ¬ (0 : Int) < (J.waysN (hot - 1) (J.dig t) : Int) := by omega
          go_wp2
          go_roundw
          case rel => exact ⟨t + 1, by omega, by go_num, Lib.hid (by rw [hsucc.out, if_neg hw, List.append_nil]; exact hT.out.grow (by (repeat (first | exact World.grows.refl _ | assumption | refine World.grows.alloc ?_ _ | refine World.grows.plus ?_ _ _ | refine World.grows.drew ?_)))), Lib.hid (hg.out.alloc _)⟩
          case measure => simp [intOf]; omega
      · have hte : t = J.size := by omega
        subst hte
        go_wp2
        (refine bodyPost_ret (v := .tuple #[.slice vo (J.okL (hot - 1) J.size).length vc, .int .i64 0]) (by simp [results, Try.results32, go_sem]) rfl ?_)
        exact ⟨_, by rw [Hc.out], HW.out.trans hg.out, fun h => absurd Hc.out h, fun _ => ⟨hot, Hbest.out, hT.out.tab⟩⟩
  · go_wp2_with (go_at_call 44; refine (open_bad _ _ J (Hv.out.mono (by (repeat (first | exact World.grows.refl _ | assumption | refine World.grows.alloc ?_ _ | refine World.grows.plus ?_ _ _ | refine World.grows.drew ?_)))) hc).mono ?_; rintro e w' ⟨rfl, hg⟩; obtain ⟨n2, x2, rfl⟩ := World.plus_of hg)
    (refine bodyPost_ret (v := .tuple #[.slice none 0 0, .int .i64 J.check]) (by simp [results, Try.results32, go_sem]) rfl ?_)
    exact ⟨_, rfl, by (repeat (first | exact World.grows.refl _ | assumption | refine World.grows.alloc ?_ _ | refine World.grows.plus ?_ _ _ | refine World.grows.drew ?_)), fun _ => rfl, fun h => absurd h hc⟩

end Go.Proofs.Ytjpccfpmhmddjaa

/-
  What is proved: the job of the examples (43), and the little functions that make its parts (40, 41).
-/
namespace Go.Proofs.Ytjpccfpmhmddjaa
open Go.RowKit
attribute [local irreducible] Go.wpCalm

theorem pass_c (w : World) (a b : Int) : Calls Try.prog 41 #[.int .i64 a, .int .i64 b] w fun e w' => e = .returned (.agg #[.int .i64 a, .int .i64 b]) ∧ w' = w.alloc (.cells #[.int .i64 a, .int .i64 b] 65) := by
  go_enter Try.func41, Try.ntmps41
  go_wp2
  (refine bodyPost_ret (v := .agg #[.int .i64 a, .int .i64 b]) (by simp [results, Try.results41, go_sem]) rfl ?_)
  exact ⟨rfl, rfl⟩
theorem name_c (w : World) (a b : Int) : Calls Try.prog 40 #[.int .i64 a, .int .i64 b] w fun e w' => e = .returned (.agg #[.int .i64 a, .int .i64 b]) ∧ w.grows w' := by
  go_enter Try.func40, Try.ntmps40
  go_wp2
  (refine bodyPost_ret (v := .agg #[.int .i64 a, .int .i64 b]) (by simp [results, Try.results40, go_sem]) rfl ?_)
  exact ⟨rfl, by (repeat (first | exact World.grows.refl _ | assumption | refine World.grows.alloc ?_ _ | refine World.grows.plus ?_ _ _ | refine World.grows.drew ?_))⟩

/-- the job of the examples -/
def exJ : Job where
  start := 20
  n := 2
  len := fun _ => 2
  pk := fun i k => if i = 0 then (if k = 0 then 30 else 5) else if k = 0 then 40 else 10
  lv := fun i k => if i = 0 then (if k = 0 then 10 else -20) else if k = 0 then 15 else -5
theorem exJ_check : exJ.check = 0 := by decide
theorem exJ_ok : exJ.Ok := (Job.Ok_iff exJ).2 exJ_check

set_option maxHeartbeats 1000000 in
theorem job_c (w : World) : Calls Try.prog 43 #[] w fun e w' => ∃ v, e = .returned v ∧ w.grows w' ∧ RawAt w' v exJ := by
  go_enter Try.func43, Try.ntmps43
  go_wp2_with (go_at_call 41; refine (pass_c _ _ _).mono ?_; rintro e w1 ⟨rfl, rfl⟩)
  have h0 : ∀ i : Nat, i < 2 → i = 0 ∨ i = 1 := fun i hi => by omega
  (refine bodyPost_ret (v := .agg #[.int .i64 20, .slice (some ⟨w.heap.size+1+1+1+1+1+1+1, 0, none⟩) 2 2]) (by simp [results, Try.results43, go_sem]) rfl ?_)
  refine ⟨_, rfl, by (repeat (first | exact World.grows.refl _ | assumption | refine World.grows.alloc ?_ _ | refine World.grows.plus ?_ _ _ | refine World.grows.drew ?_)), JobAt.raw ⟨w.heap.size+1+1+1+1+1+1+1, 0, 2, fun i => if i = 0 then w.heap.size+1+1+1 else w.heap.size+1+1+1+1+1+1, fun _ => 0, fun _ => 2, rfl, by decide, by decide, ?_, ?_, ?_, ?_⟩⟩
  · intro i hi
    rcases h0 i hi with rfl | rfl <;> simp [go_sem, exJ]
  · intro i k hi hk
    rcases h0 i hi with rfl | rfl <;> rcases h0 k hk with rfl | rfl <;> simp [go_sem, exJ]
  · intro i k hi hk
    rcases h0 i hi with rfl | rfl <;> rcases h0 k hk with rfl | rfl <;> simp [go_sem, exJ]
  · intro i hi
    rcases h0 i hi with rfl | rfl <;> decide

end Go.Proofs.Ytjpccfpmhmddjaa

/-
  What is proved: which passes there are (86), the first place with a pass at hand (71, 72).
-/
namespace Go.Proofs.Ytjpccfpmhmddjaa
open Go.RowKit
attribute [local irreducible] Go.wpCalm

/-- there is no such pass -/
def Job.noPass (J : Job) (r k : Int) : Bool := decide (r < 0) || decide ((J.n : Int) ≤ r) || decide (k < 0) || decide ((J.len r.toNat : Int) ≤ k)

set_option maxHeartbeats 2000000 in
theorem c86 (w : World) (jb b o cap : Nat) (rb ro rc : Nat → Nat) (J : Job) (r k : Int)
    (hj : w.cell? ⟨jb, 1, none⟩ = some (.slice (some ⟨b, o, none⟩) J.n cap)) (hrow : ∀ i : Nat, i < J.n → w.cell? ⟨b, o + i, none⟩ = some (.slice (some ⟨rb i, ro i, none⟩) (J.len i) (rc i))) (hn4 : J.n ≤ 4) (h6 : ∀ i, i < J.n → J.len i ≤ 6) :
    Calls Try.prog 86 #[.agg #[.int .i64 r, .int .i64 k], .pointer (some ⟨jb, 0, none⟩)] w fun e w' => e = .returned (.bool (J.noPass r k)) ∧ w.grows w' := by
  unfold Job.noPass
  go_enter Try.func86, Try.ntmps86
  by_cases h1 : r < 0
  · go_wp2
    (refine wp_region_calm (by kernel_rfl) (by kernel_rfl) ?_; (repeat (refine wpCalm_step (fun K hK => ?_); go_simp; first | (refine hK _ ?_; clear hK K) | (apply Exists.intro; refine ⟨fun n' x' => ?_, hK _ ?_⟩; (fail); clear hK K))); refine wpCalm_nil ?_; intro nq xq)
    go_wp2
    (refine bodyPost_ret (v := .bool true) (by simp [results, Try.results86, go_sem]) rfl ?_)
    exact ⟨by simp [h1], by (repeat (first | exact World.grows.refl _ | assumption | refine World.grows.alloc ?_ _ | refine World.grows.plus ?_ _ _ | refine World.grows.drew ?_))⟩
  by_cases h2 : (J.n : Int) ≤ r
  · go_wp2
    (refine wp_region_calm (by kernel_rfl) (by kernel_rfl) ?_; (repeat (refine wpCalm_step (fun K hK => ?_); go_simp; first | (refine hK _ ?_; clear hK K) | (apply Exists.intro; refine ⟨fun n' x' => ?_, hK _ ?_⟩; (fail); clear hK K))); refine wpCalm_nil ?_; intro nq xq)
    go_wp2
    (refine bodyPost_ret (v := .bool true) (by simp [results, Try.results86, go_sem]) rfl ?_)
    exact ⟨by simp [h2], by (repeat (first | exact World.grows.refl _ | assumption | refine World.grows.alloc ?_ _ | refine World.grows.plus ?_ _ _ | refine World.grows.drew ?_))⟩
  by_cases h3 : k < 0
  · go_wp2
    (refine wp_region_calm (by kernel_rfl) (by kernel_rfl) ?_; (repeat (refine wpCalm_step (fun K hK => ?_); go_simp; first | (refine hK _ ?_; clear hK K) | (apply Exists.intro; refine ⟨fun n' x' => ?_, hK _ ?_⟩; (fail); clear hK K))); refine wpCalm_nil ?_; intro nq xq)
    go_wp2
    (refine bodyPost_ret (v := .bool true) (by simp [results, Try.results86, go_sem]) rfl ?_)
    exact ⟨by simp [h3], by (repeat (first | exact World.grows.refl _ | assumption | refine World.grows.alloc ?_ _ | refine World.grows.plus ?_ _ _ | refine World.grows.drew ?_))⟩
  obtain ⟨rn, rfl⟩ := Int.eq_ofNat_of_zero_le (by omega : 0 ≤ r)
  have hrn : rn < J.n := by omega
  have hrk := hrow rn hrn
  have hl6 := h6 rn hrn
  clear hrow h6
  by_cases h4 : (J.len rn : Int) ≤ k
  · go_wp2
    (refine wp_region_calm (by kernel_rfl) (by kernel_rfl) ?_; (repeat (refine wpCalm_step (fun K hK => ?_); go_simp; first | (refine hK _ ?_; clear hK K) | (apply Exists.intro; refine ⟨fun n' x' => ?_, hK _ ?_⟩; (fail); clear hK K))); refine wpCalm_nil ?_; intro nq xq)
    go_wp2
    (refine bodyPost_ret (v := .bool true) (by simp [results, Try.results86, go_sem]) rfl ?_)
    exact ⟨by simp [h4], by (repeat (first | exact World.grows.refl _ | assumption | refine World.grows.alloc ?_ _ | refine World.grows.plus ?_ _ _ | refine World.grows.drew ?_))⟩
  · go_wp2
    (refine wp_region_calm (by kernel_rfl) (by kernel_rfl) ?_; (repeat (refine wpCalm_step (fun K hK => ?_); go_simp; first | (refine hK _ ?_; clear hK K) | (apply Exists.intro; refine ⟨fun n' x' => ?_, hK _ ?_⟩; (fail); clear hK K))); refine wpCalm_nil ?_; intro nq xq)
    go_wp2
    refine bodyPost_ret (v := .bool false) (by simp [results, Try.results86, go_sem, hrn, h3, h4]) rfl ?_
    exact ⟨by simp [hrn, h3, h4], by (repeat (first | exact World.grows.refl _ | assumption | refine World.grows.alloc ?_ _ | refine World.grows.plus ?_ _ _ | refine World.grows.drew ?_))⟩

set_option maxHeartbeats 1000000 in
theorem c72 (w : World) (fb rn : Nat) (k : Int) (p : Nat → Nat) (h0 : w.cell? ⟨fb, 0, none⟩ = some (.int .i64 rn)) (h1 : w.cell? ⟨fb, 1, none⟩ = some (.int .i64 k)) (hr : rn < 4) :
    Calls Try.prog 72 #[plc p, .pointer (some ⟨fb, 0, none⟩)] w fun e w' => e = .returned (.bool (decide ((p rn : Int) ≤ k))) ∧ w.grows w' := by
  go_enter Try.func72, Try.ntmps72
  have hpg := plc_get p rn hr
  have hr' : (rn : Int) < 4 := by omega
  go_wp2
  (refine wp_region_calm (by kernel_rfl) (by kernel_rfl) ?_; (repeat (refine wpCalm_step (fun K hK => ?_); go_simp; first | (refine hK _ ?_; clear hK K) | (apply Exists.intro; refine ⟨fun n' x' => ?_, hK _ ?_⟩; (fail); clear hK K))); refine wpCalm_nil ?_; intro nq xq)
  go_wp2
  (refine bodyPost_ret (v := .bool (decide ((p rn : Int) ≤ k))) (by simp [results, Try.results72, go_sem]) rfl ?_)
  exact ⟨rfl, by (repeat (first | exact World.grows.refl _ | assumption | refine World.grows.alloc ?_ _ | refine World.grows.plus ?_ _ _ | refine World.grows.drew ?_))⟩

set_option maxHeartbeats 1000000 in
/-- the first place at which the function holds -/
theorem first_c (w : World) (s : Value) (m : Nat) (d : Nat → Nat → Nat) (ff : Nat) (lb : Array Value) (q : Nat → Bool) (hs : SliceAt w s m 4 (placeC d))
    (eg : ∀ args w, (callFunc ff args).run Try.prog w = .ok (.enter ff args) w)
    (hf : ∀ i, i < m → ∀ W : World, w.grows W → Calls Try.prog ff (#[plc (d i)] ++ lb) W fun e W' => e = .returned (.bool (q i)) ∧ W.grows W') :
    Calls Try.prog 71 #[s, .func (.func ff) #[] lb] w fun e w' => e = .returned (.int .i64 (fstIdx q m)) ∧ w.grows w' := by
  obtain ⟨a, cap, rfl, hcap, hmax, hc⟩ := hs
  unfold maxLen at hmax
  go_enter Try.func71, Try.ntmps71
  go_wp2
  go_loopw [9] (fun i wr => ∃ k : Nat, k ≤ m ∧ i = .int .i64 k ∧ Hid (∀ j, j < k → q j = false) ∧ Hid (w.grows wr)) (fun i _ => m - (intOf i).toNat)
  case atStart => exact ⟨0, by omega, rfl, Lib.hid fun j hj => by omega, Lib.hid (World.grows.refl _)⟩
  case round =>
    obtain ⟨k, hk, rfl, Hq, Hg⟩ := hrel
    by_cases hlt : k < m
    · obtain ⟨b, o, rfl, h0⟩ := hc k 0 hlt (by omega)
      obtain ⟨_, _, he1, h1⟩ := hc k 1 hlt (by omega)
      cases he1
      obtain ⟨_, _, he2, h2⟩ := hc k 2 hlt (by omega)
      cases he2
      obtain ⟨_, _, he3, h3⟩ := hc k 3 hlt (by omega)
      cases he3
      have hfk := hf k hlt
      replace h0 := Hg.out.cell_of h0
      replace h1 := Hg.out.cell_of h1
      replace h2 := Hg.out.cell_of h2
      replace h3 := Hg.out.cell_of h3
      simp only [placeC, Nat.add_zero] at h0 h1 h2 h3
      clear hc hf
      cases hqk : q k with
      | true =>
        rw [hqk] at hfk
        have Hqk := Lib.hid hqk
        clear hqk
        go_wp2_with ((refine (hfk _ (Hg.out.trans (by (repeat (first | exact World.grows.refl _ | assumption | refine World.grows.alloc ?_ _ | refine World.grows.plus ?_ _ _ | refine World.grows.drew ?_))))).mono ?_; rintro e w' ⟨rfl, hg2⟩; have Hg2 := Lib.hid hg2; clear hg2))
        have Hm := Lib.hid (fstIdx_at q m k hlt Hq.out Hqk.out)
        (refine bodyPost_ret (v := .int .i64 (k : Int)) (by simp [results, Try.results71, go_sem]) rfl ?_)
        exact ⟨ret_int Hm.out.symm, Hg.out.trans (World.grows.trans (by (repeat (first | exact World.grows.refl _ | assumption | refine World.grows.alloc ?_ _ | refine World.grows.plus ?_ _ _ | refine World.grows.drew ?_))) Hg2.out)⟩
      | false =>
        rw [hqk] at hfk
        have Hqk := Lib.hid hqk
        clear hqk
        go_wp2_with ((refine (hfk _ (Hg.out.trans (by (repeat (first | exact World.grows.refl _ | assumption | refine World.grows.alloc ?_ _ | refine World.grows.plus ?_ _ _ | refine World.grows.drew ?_))))).mono ?_; rintro e w' ⟨rfl, hg2⟩; have Hg2 := Lib.hid hg2; clear hg2))
        go_roundw
        case rel => exact ⟨k + 1, by omega, by go_num, Lib.hid fun j hj => (by rcases Nat.lt_or_ge j k with h | h; exact Hq.out j h; have hjk : j = k := (by omega); subst hjk; exact Hqk.out), Lib.hid (Hg.out.trans (World.grows.trans (by (repeat (first | exact World.grows.refl _ | assumption | refine World.grows.alloc ?_ _ | refine World.grows.plus ?_ _ _ | refine World.grows.drew ?_))) Hg2.out))⟩
        case measure => simp [intOf]; omega
    · have hke : k = m := by omega
      subst hke
      have Hn := Lib.hid (fstIdx_none q k Hq.out)
      go_wp2
      (refine bodyPost_ret (v := .int .i64 (-1)) (by simp [results, Try.results71, go_sem]) rfl ?_)
      exact ⟨ret_int Hn.out.symm, Hg.out⟩

end Go.Proofs.Ytjpccfpmhmddjaa

/-
  What is proved: the places with a given pass at hand from which there is a way within a limit (70).
-/
namespace Go.Proofs.Ytjpccfpmhmddjaa
open Go.RowKit
attribute [local irreducible] Go.wpCalm

/-- the numbers below t at which q holds -/
def filT (q : Nat → Bool) (t : Nat) : List Nat := (List.range t).filter q
theorem filT_succ (q : Nat → Bool) (t : Nat) : filT q (t + 1) = filT q t ++ if q t = true then [t] else [] := by
  unfold filT
  rw [List.range_succ, List.filter_append]
  by_cases h : q t = true <;> simp [h]
theorem filT_pre (q : Nat → Bool) (t m : Nat) (h : t ≤ m) : ∃ r, filT q m = filT q t ++ r := by
  induction m with
  | zero => exact ⟨[], by have : t = 0 := by omega
                          subst this; simp⟩
  | succ m ih =>
    rcases Nat.lt_or_ge m t with h' | h'
    · have : t = m + 1 := by omega
      subst this; exact ⟨[], by simp⟩
    · obtain ⟨r, hr⟩ := ih h'
      exact ⟨r ++ _, by rw [filT_succ, hr, List.append_assoc]⟩
theorem filT_at (q : Nat → Bool) (t m : Nat) (h : t < m) (hw : q t = true) : (filT q m).getD (filT q t).length 0 = t := by
  obtain ⟨r, hr⟩ := filT_pre q (t + 1) m (by omega)
  rw [hr, filT_succ, if_pos hw, List.append_assoc, List.getD_eq_getElem?_getD, List.getElem?_append_right (by omega)]
  simp
theorem filT_len (q : Nat → Bool) (t : Nat) : (filT q t).length ≤ t := by
  unfold filT
  have := List.length_filter_le q (List.range t)
  simpa using this

def Job.seenB (J : Job) (l : Int) (r k : Nat) (t : Nat) : Bool := decide (J.dig t r = k) && decide (0 < J.waysN l (J.dig t)) && decide (J.hot (J.dig t) r ≤ l) && decide (0 < J.togoN l (Job.to (J.dig t) r))
def Job.seenErr (J : Job) (l : Int) (m : Nat) (R K : Nat → Int) : Int :=
  if J.check ≠ 0 then J.check else if (List.range m).any (fun i => J.noPass (R i) (K i)) = true then 2 else if J.waysN l J.last = 0 then 20 else 0
/-- names of passes -/
def nmV (R K : Nat → Int) (i j : Nat) : Value := if j = 0 then .int .i64 (R i) else .int .i64 (K i)

theorem c86s (jb b o cap : Nat) (rb ro rc : Nat → Nat) (J : Job) (R K : Nat → Int) (hJ : J.Ok) (w : World)
    (hj : w.cell? ⟨jb, 1, none⟩ = some (.slice (some ⟨b, o, none⟩) J.n cap)) (hrow : ∀ i : Nat, i < J.n → w.cell? ⟨b, o + i, none⟩ = some (.slice (some ⟨rb i, ro i, none⟩) (J.len i) (rc i))) :
    Hid (∀ i, ∀ W : World, w.grows W → Calls Try.prog 86 (#[.agg #[nmV R K i 0, nmV R K i 1]] ++ #[.pointer (some ⟨jb, 0, none⟩)]) W fun e W' => e = .returned (.bool (J.noPass (R i) (K i))) ∧ W.grows W') :=
  Lib.hid fun i W hW => c86 W jb b o cap rb ro rc J (R i) (K i) (hW.cell_of hj) (fun i hi => hW.cell_of (hrow i hi)) hJ.n4 hJ.l6

set_option maxRecDepth 100000 in
set_option maxHeartbeats 4000000 in
theorem seen_c (w : World) (v : Value) (J : Job) (hv : RawAt w v J) (l : Int) (pl : Value) (m : Nat) (R K : Nat → Int) (hpl : SliceAt w pl m 2 (nmV R K)) (hm : 1 ≤ m) (hm2 : m ≤ 1000) :
    Calls Try.prog 70 #[v, .int .i64 l, pl] w fun e w' => ∃ pv sv, e = .returned (.tuple #[pv, sv, .int .i64 (J.seenErr l m R K)]) ∧ w.grows w' ∧
      (J.seenErr l m R K = 0 → ∃ P0 r k, pv = .pointer (some ⟨P0, 0, none⟩) ∧ R (m - 1) = (r : Nat) ∧ K (m - 1) = (k : Nat) ∧ r < J.n ∧ k < J.len r ∧ PlateAt w' P0 J ∧
        SliceAt w' sv (filT (J.seenB l r k) J.size).length 4 (placeC fun i => J.dig ((filT (J.seenB l r k) J.size).getD i 0))) := by
  have Hv := Lib.hid hv
  obtain ⟨rv, row0, rfl, -, -⟩ := hv
  have Hpl := Lib.hid hpl
  obtain ⟨pa, pcap, rfl, hpc1, hpc2, hpc⟩ := hpl
  unfold maxLen at hpc2
  obtain ⟨pb, po, rfl, n0⟩ := hpc (m - 1) 0 (by omega) (by omega)
  obtain ⟨_, _, e1, n1⟩ := hpc (m - 1) 1 (by omega) (by omega)
  cases e1
  simp only [nmV, if_true, Nat.add_zero, if_neg Nat.one_ne_zero] at n0 n1
  clear hpc
  have hmi : ((m : Int) - 1) = ((m - 1 : Nat) : Int) := by omega
  go_enter Try.func70, Try.ntmps70
  by_cases hc : J.check = 0
  · have hJ := Lib.hid ((Job.Ok_iff J).2 hc)
    have Hc := Lib.hid hc
    obtain ⟨jb, jo, jcap, rb, ro, rc, hvv, hjc, hjc2, hrows⟩ := Hv.out.job hJ.out
    have hrv : rv = .slice (some ⟨jb, jo, none⟩) J.n jcap := by simpa using hvv
    subst hrv
    have Hrow := Lib.hid hrows.row
    clear hvv hrows
    unfold maxLen at hjc2
    clear hc
    have hn4 := hJ.out.n4
    have Hl6 := Lib.hid hJ.out.l6
    by_cases hb : (List.range m).any (fun i => J.noPass (R i) (K i)) = true
    · have hE : Hid (J.seenErr l m R K = 2) := Lib.hid (by unfold Job.seenErr; rw [if_neg (by simp [Hc.out]), if_pos hb])
      go_wp2_with (first
        | (go_at_call 44; refine (open_c _ _ J ((Hv.out.mono (by (repeat (first | exact World.grows.refl _ | assumption | refine World.grows.alloc ?_ _ | refine World.grows.plus ?_ _ _ | refine World.grows.drew ?_)))).job hJ.out) hJ.out).mono ?_; rintro e w1 ⟨p, rfl, hg1, hP, hp⟩; have HP := Lib.hid hP; have Hgw := Lib.hid (show w.grows w1 from World.grows.trans (by (repeat (first | exact World.grows.refl _ | assumption | refine World.grows.alloc ?_ _ | refine World.grows.plus ?_ _ _ | refine World.grows.drew ?_))) hg1); have Hbx := Lib.hid (hg1.cell_of (a := ⟨w.heap.size, 1, none⟩) (v := .slice (some ⟨jb, jo, none⟩) J.n jcap) (by simp [go_sem])); have H86 := c86s w.heap.size jb jo jcap rb ro rc J R K hJ.out w1 Hbx.out (fun i hi => Hgw.out.cell_of (Hrow.out i hi)); clear hg1 hP)
        | (go_at_call 87; go_loud (refine (has87 _ _ m (nmV R K) 86 #[.pointer (some ⟨w.heap.size, 0, none⟩)] (fun i => J.noPass (R i) (K i)) (Hpl.out.mono Hgw.out) (fun args w => (by simp [go_sem])) (fun i hi W hW => H86.out i W hW)).mono ?_; rw [hb]; rintro e w2 ⟨rfl, hg2⟩; have HG2 := Lib.hid hg2; clear hg2)))
      (refine bodyPost_ret (v := .tuple #[.pointer none, .slice none 0 0, .int .i64 2]) (by simp [results, Try.results70, go_sem]) rfl ?_)
      exact ⟨_, _, by rw [hE.out], Hgw.out.trans HG2.out, fun h => absurd (hE.out.symm.trans h) (by decide)⟩
    have hb' : (List.range m).any (fun i => J.noPass (R i) (K i)) = false := by simpa using hb
    have hbl : J.noPass (R (m - 1)) (K (m - 1)) = false := by
      rw [List.any_eq_false] at hb'
      simpa using hb' (m - 1) (by simp; omega)
    obtain ⟨r, hr⟩ := Int.eq_ofNat_of_zero_le (a := R (m - 1)) (by simp [Job.noPass] at hbl; omega)
    obtain ⟨k, hk⟩ := Int.eq_ofNat_of_zero_le (a := K (m - 1)) (by simp [Job.noPass] at hbl; omega)
    have hrn : r < J.n := by rw [hr, hk] at hbl; simp [Job.noPass] at hbl; omega
    have hkn : k < J.len r := by rw [hr, hk] at hbl; simp [Job.noPass] at hbl; omega
    rw [hr] at n0
    rw [hk] at n1
    have Hrk := Lib.hid (And.intro hr hk)
    clear hb hbl hr hk
    rcases Nat.eq_zero_or_pos (J.waysN l J.last) with hz | hz
    · go_wp2_with (first
        | (go_at_call 44; refine (open_c _ _ J ((Hv.out.mono (by (repeat (first | exact World.grows.refl _ | assumption | refine World.grows.alloc ?_ _ | refine World.grows.plus ?_ _ _ | refine World.grows.drew ?_)))).job hJ.out) hJ.out).mono ?_; rintro e w1 ⟨p, rfl, hg1, hP, hp⟩; have HP := Lib.hid hP; have Hgw := Lib.hid (show w.grows w1 from World.grows.trans (by (repeat (first | exact World.grows.refl _ | assumption | refine World.grows.alloc ?_ _ | refine World.grows.plus ?_ _ _ | refine World.grows.drew ?_))) hg1); have Hbx := Lib.hid (hg1.cell_of (a := ⟨w.heap.size, 1, none⟩) (v := .slice (some ⟨jb, jo, none⟩) J.n jcap) (by simp [go_sem])); have H86 := c86s w.heap.size jb jo jcap rb ro rc J R K hJ.out w1 Hbx.out (fun i hi => Hgw.out.cell_of (Hrow.out i hi)); clear hg1 hP)
        | (go_at_call 87; go_loud (refine (has87 _ _ m (nmV R K) 86 #[.pointer (some ⟨w.heap.size, 0, none⟩)] (fun i => J.noPass (R i) (K i)) (Hpl.out.mono Hgw.out) (fun args w => (by simp [go_sem])) (fun i hi W hW => H86.out i W hW)).mono ?_; rw [hb']; rintro e w2 ⟨rfl, hg2⟩; have HG2 := Lib.hid hg2; clear hg2))
        | (go_at_call 63; go_loud (refine (c63 _ _ l).mono ?_; rintro e w3 ⟨rfl, rfl⟩))
        | (go_at_call 62; go_loud (refine (ways_c _ p _ J ((HP.out.mono HG2.out).mono (by (repeat (first | exact World.grows.refl _ | assumption | refine World.grows.alloc ?_ _ | refine World.grows.plus ?_ _ _ | refine World.grows.drew ?_)))) hJ.out l (by simp [go_sem])).mono ?_; rintro e w4 ⟨wb, wm, rfl, hg4, hwb, -, hwq⟩; have HG4 := Lib.hid (World.grows.trans (show w2.grows _ by (repeat (first | exact World.grows.refl _ | assumption | refine World.grows.alloc ?_ _ | refine World.grows.plus ?_ _ _ | refine World.grows.drew ?_))) hg4); have Hlb := Lib.hid (hg4.cell_of (a := ⟨w2.heap.size, 0, none⟩) (v := .int .i64 l) (by simp [go_sem])); have Hwb := Lib.hid hwb; have Hwq := Lib.hid hwq; clear hg4 hwb hwq))
        | (go_at_call 88; go_loud (refine (togo_c _ p _ J ((HP.out.mono HG2.out).mono HG4.out) hJ.out l Hlb.out).mono ?_; rintro e w5 ⟨tb, tm, rfl, hg5, htb, -, htq⟩; have HG5 := Lib.hid hg5; have Htb := Lib.hid htb; have Htq := Lib.hid htq; clear hg5 htb htq; have HW5 := Lib.hid (show w1.grows w5 from HG2.out.trans (HG4.out.trans HG5.out)); have q0 := (HP.out.mono HW5.out).last 0 (by omega); have q1 := (HP.out.mono HW5.out).last 1 (by omega); have q2 := (HP.out.mono HW5.out).last 2 (by omega); have q3 := (HP.out.mono HW5.out).last 3 (by omega); simp only [Nat.reduceAdd] at q0 q1 q2 q3; have ywb := HG5.out.heap_of Hwb.out; have yn0 := (Hgw.out.trans HW5.out).cell_of n0; have yn1 := (Hgw.out.trans HW5.out).cell_of n1; have hl := fun W h => lk99 wm wb W h J.last; simp only [Hwq.out _ J.in_last, hz] at hl; have Hz := Lib.hid hz; clear hz)))
      have hE : Hid (J.seenErr l m R K = 20) := Lib.hid (by unfold Job.seenErr; rw [if_neg (by simp [Hc.out]), if_neg (by simp [hb']), if_pos Hz.out])
      (refine bodyPost_ret (v := .tuple #[.pointer none, .slice none 0 0, .int .i64 20]) (by simp [results, Try.results70, go_sem]) rfl ?_)
      exact ⟨_, _, by rw [hE.out], Hgw.out.trans HW5.out, fun h => absurd (hE.out.symm.trans h) (by decide)⟩
    have hzi : ¬ (J.waysN l J.last : Int) = 0 := by omega
    go_wp2_with (first
      | (go_at_call 44; refine (open_c _ _ J ((Hv.out.mono (by (repeat (first | exact World.grows.refl _ | assumption | refine World.grows.alloc ?_ _ | refine World.grows.plus ?_ _ _ | refine World.grows.drew ?_)))).job hJ.out) hJ.out).mono ?_; rintro e w1 ⟨p, rfl, hg1, hP, hp⟩; have HP := Lib.hid hP; have Hgw := Lib.hid (show w.grows w1 from World.grows.trans (by (repeat (first | exact World.grows.refl _ | assumption | refine World.grows.alloc ?_ _ | refine World.grows.plus ?_ _ _ | refine World.grows.drew ?_))) hg1); have Hbx := Lib.hid (hg1.cell_of (a := ⟨w.heap.size, 1, none⟩) (v := .slice (some ⟨jb, jo, none⟩) J.n jcap) (by simp [go_sem])); have H86 := c86s w.heap.size jb jo jcap rb ro rc J R K hJ.out w1 Hbx.out (fun i hi => Hgw.out.cell_of (Hrow.out i hi)); clear hg1 hP)
      | (go_at_call 87; go_loud (refine (has87 _ _ m (nmV R K) 86 #[.pointer (some ⟨w.heap.size, 0, none⟩)] (fun i => J.noPass (R i) (K i)) (Hpl.out.mono Hgw.out) (fun args w => (by simp [go_sem])) (fun i hi W hW => H86.out i W hW)).mono ?_; rw [hb']; rintro e w2 ⟨rfl, hg2⟩; have HG2 := Lib.hid hg2; clear hg2))
      | (go_at_call 63; go_loud (refine (c63 _ _ l).mono ?_; rintro e w3 ⟨rfl, rfl⟩))
      | (go_at_call 62; go_loud (refine (ways_c _ p _ J ((HP.out.mono HG2.out).mono (by (repeat (first | exact World.grows.refl _ | assumption | refine World.grows.alloc ?_ _ | refine World.grows.plus ?_ _ _ | refine World.grows.drew ?_)))) hJ.out l (by simp [go_sem])).mono ?_; rintro e w4 ⟨wb, wm, rfl, hg4, hwb, -, hwq⟩; have HG4 := Lib.hid (World.grows.trans (show w2.grows _ by (repeat (first | exact World.grows.refl _ | assumption | refine World.grows.alloc ?_ _ | refine World.grows.plus ?_ _ _ | refine World.grows.drew ?_))) hg4); have Hlb := Lib.hid (hg4.cell_of (a := ⟨w2.heap.size, 0, none⟩) (v := .int .i64 l) (by simp [go_sem])); have Hwb := Lib.hid hwb; have Hwq := Lib.hid hwq; clear hg4 hwb hwq))
      | (go_at_call 88; go_loud (refine (togo_c _ p _ J ((HP.out.mono HG2.out).mono HG4.out) hJ.out l Hlb.out).mono ?_; rintro e w5 ⟨tb, tm, rfl, hg5, htb, -, htq⟩; have HG5 := Lib.hid hg5; have Htb := Lib.hid htb; have Htq := Lib.hid htq; clear hg5 htb htq; have HW5 := Lib.hid (show w1.grows w5 from HG2.out.trans (HG4.out.trans HG5.out)); have q0 := (HP.out.mono HW5.out).last 0 (by omega); have q1 := (HP.out.mono HW5.out).last 1 (by omega); have q2 := (HP.out.mono HW5.out).last 2 (by omega); have q3 := (HP.out.mono HW5.out).last 3 (by omega); simp only [Nat.reduceAdd] at q0 q1 q2 q3; have ywb := HG5.out.heap_of Hwb.out; have yn0 := (Hgw.out.trans HW5.out).cell_of n0; have yn1 := (Hgw.out.trans HW5.out).cell_of n1; have hl := fun W h => lk99 wm wb W h J.last; simp only [Hwq.out _ J.in_last] at hl)))
    have hE : Hid (J.seenErr l m R K = 0) := Lib.hid (by unfold Job.seenErr; rw [if_neg (by simp [Hc.out]), if_neg (by simp [hb']), if_neg (by omega)])
    go_wp2_with (go_at_call 65; go_loud (refine (all_c _ p J ((HP.out.mono HW5.out).mono (by (repeat (first | exact World.grows.refl _ | assumption | refine World.grows.alloc ?_ _ | refine World.grows.plus ?_ _ _ | refine World.grows.drew ?_)))) hJ.out).mono ?_; rintro e w6 ⟨av, rfl, hg6, hA⟩; obtain ⟨aa, acap, rfl, ha1, ha2, hac⟩ := hA; unfold maxLen at ha2; have Hac := Lib.hid hac; have HG6 := Lib.hid hg6; clear hac))
    have z0 : w6.cell? ⟨w5.heap.size, 0, none⟩ = some (.int .i64 r) := hg6.cell_of (by simp [go_sem])
    have z1 : w6.cell? ⟨w5.heap.size, 1, none⟩ = some (.int .i64 k) := hg6.cell_of (by simp [go_sem])
    have HG56 := Lib.hid (show w5.grows w6 from World.grows.trans (by (repeat (first | exact World.grows.refl _ | assumption | refine World.grows.alloc ?_ _ | refine World.grows.plus ?_ _ _ | refine World.grows.drew ?_))) hg6)
    have HW := Lib.hid (show w1.grows w6 from HW5.out.trans HG56.out)
    have zwb := HG56.out.heap_of ywb
    have ztb := HG56.out.heap_of Htb.out
    have zlb := HG56.out.cell_of (HG5.out.cell_of Hlb.out)
    have hsz := J.size_le hJ.out
    clear hg6 q0 q1 q2 q3 ywb yn0 yn1 hl hzi hz n0 n1
    have hr4i : (r : Int) < 4 := by omega
    have hnc := Lib.hid (filT_len (J.seenB l r k))
    go_loopw [16, 59] (fun s i wr => ∃ t : Nat, t ≤ J.size ∧ i = .int .i64 t ∧ Hid (wr.ownsRow w6.heap.size 76 4 s (filT (J.seenB l r k) t).length (tableL (filT (J.seenB l r k) t).length 4 (placeC fun i => J.dig ((filT (J.seenB l r k) J.size).getD i 0)))) ∧ Hid (w6.grows wr)) (fun _ i _ => J.size - (intOf i).toNat)
    case atStart => exact ⟨0, by omega, rfl, Lib.hid (World.ownsRow_nil _ _ _ _), Lib.hid (World.grows.refl _)⟩
    case round =>
      obtain ⟨t, ht, rfl, hT, hg⟩ := hrel
      obtain ⟨vo, vc, hv⟩ : ∃ vo vc, u16 = .slice vo (filT (J.seenB l r k) t).length vc := by
        rcases hT.out.2 with ⟨rfl, hn⟩ | ⟨g, cap, cur, rfl, _⟩
        · rw [hn]; exact ⟨_, _, rfl⟩
        · exact ⟨_, _, rfl⟩
      subst hv
      by_cases hlt : t < J.size
      · obtain ⟨ab, ao, rfl, h0⟩ := Hac.out t 0 hlt (by omega)
        obtain ⟨_, _, e1, h1⟩ := Hac.out t 1 hlt (by omega); cases e1
        obtain ⟨_, _, e1, h2⟩ := Hac.out t 2 hlt (by omega); cases e1
        obtain ⟨_, _, e1, h3⟩ := Hac.out t 3 hlt (by omega); cases e1
        simp only [placeC, Nat.add_zero] at h0 h1 h2 h3
        replace h0 := hg.out.cell_of h0
        replace h1 := hg.out.cell_of h1
        replace h2 := hg.out.cell_of h2
        replace h3 := hg.out.cell_of h3
        have x0 := hg.out.cell_of z0
        have x1 := hg.out.cell_of z1
        have xwb := hg.out.heap_of zwb
        have hl := fun W h => lk99 wm wb W h (J.dig t)
        simp only [Hwq.out _ (J.dig_in t)] at hl
        have hpg := plc_get (J.dig t) r (by omega)
        have hsucc := Lib.hid (filT_succ (J.seenB l r k) t)
        have hle := hnc.out t
        by_cases hk : J.dig t r = k
        · have hki : (J.dig t r : Int) = k := by omega
          have hd := decide_eq_true hk
          have hpr : J.dig t r < J.len r := by omega
          by_cases hw : 0 < J.waysN l (J.dig t)
          · have hwi : ¬ (J.waysN l (J.dig t) : Int) = 0 := by omega
            have hdw := decide_eq_true hw
            have hto := Job.in_to (J.dig_in t) hrn hpr
            have hlt2 := fun W h => lk99 tm tb W h (Job.to (J.dig t) r)
            simp only [Htq.out _ hto] at hlt2
            go_wp2
            (refine wp_region_calm (by kernel_rfl) (by kernel_rfl) ?_; (repeat (refine wpCalm_step (fun K hK => ?_); go_simp; first | (refine hK _ ?_; clear hK K) | (apply Exists.intro; refine ⟨fun n' x' => ?_, hK _ ?_⟩; (fail); clear hK K))); refine wpCalm_nil ?_; intro nq xq)
            by_cases hh : J.hot (J.dig t) r ≤ l
            · have Hdh := Lib.hid (decide_eq_true hh)
              by_cases hg0 : 0 < J.togoN l (Job.to (J.dig t) r)
              · have hgi : (0 : Int) < (J.togoN l (Job.to (J.dig t) r) : Int) := by omega
                have hq : Hid (J.seenB l r k t = true) := Lib.hid (by unfold Job.seenB; rw [hd, hdw, decide_eq_true hh, decide_eq_true hg0]; rfl)
                have hat := Lib.hid (filT_at (J.seenB l r k) t J.size hlt hq.out)
                go_wp2_with (first
                  | (go_at_call 76; go_loud (refine (step_c _ p J (J.dig t) r ((HP.out.mono (HW.out.trans hg.out)).mono (by (repeat (first | exact World.grows.refl _ | assumption | refine World.grows.alloc ?_ _ | refine World.grows.plus ?_ _ _ | refine World.grows.drew ?_)))) hJ.out (J.dig_in t).le hrn hpr).mono ?_; rintro e w7 ⟨rfl, hg7⟩; have s0 := hg7.cell_of (a := ⟨wr.heap.size, 0, none⟩) (v := .int .i64 (J.dig t 0)) (by simp [go_sem]); have s1 := hg7.cell_of (a := ⟨wr.heap.size, 1, none⟩) (v := .int .i64 (J.dig t 1)) (by simp [go_sem]); have s2 := hg7.cell_of (a := ⟨wr.heap.size, 2, none⟩) (v := .int .i64 (J.dig t 2)) (by simp [go_sem]); have s3 := hg7.cell_of (a := ⟨wr.heap.size, 3, none⟩) (v := .int .i64 (J.dig t 3)) (by simp [go_sem]); have HG7 := Lib.hid (show wr.grows w7 from World.grows.trans (by (repeat (first | exact World.grows.refl _ | assumption | refine World.grows.alloc ?_ _ | refine World.grows.plus ?_ _ _ | refine World.grows.drew ?_))) hg7); have slb := HG7.out.cell_of (hg.out.cell_of zlb); have stb := HG7.out.heap_of (hg.out.heap_of ztb); clear hg7 h0 h1 h2 h3))
                  | (go_at_call 84; go_loud (refine (c84 _ _ r (Job.to (J.dig t) r) (J.hot (J.dig t) r) l (by simp [go_sem, slb])).mono ?_; rw [Hdh.out]; rintro e w8 ⟨rfl, hg8⟩; have y0 := hg8.cell_of (a := ⟨wr.heap.size, 0, none⟩) (v := .int .i64 (J.dig t 0)) (by simp [go_sem, s0]); have y1 := hg8.cell_of (a := ⟨wr.heap.size, 1, none⟩) (v := .int .i64 (J.dig t 1)) (by simp [go_sem, s1]); have y2 := hg8.cell_of (a := ⟨wr.heap.size, 2, none⟩) (v := .int .i64 (J.dig t 2)) (by simp [go_sem, s2]); have y3 := hg8.cell_of (a := ⟨wr.heap.size, 3, none⟩) (v := .int .i64 (J.dig t 3)) (by simp [go_sem, s3]); have ytb := hg8.heap_of (b := tb) (o := tm.obj ePl) (by simp [go_sem, stb]); have t1 := hg8.cell_of (a := ⟨w7.heap.size, 1, none⟩) (v := .int .i64 (Job.to (J.dig t) r 0)) (by simp [go_sem]); have t2 := hg8.cell_of (a := ⟨w7.heap.size, 2, none⟩) (v := .int .i64 (Job.to (J.dig t) r 1)) (by simp [go_sem]); have t3 := hg8.cell_of (a := ⟨w7.heap.size, 3, none⟩) (v := .int .i64 (Job.to (J.dig t) r 2)) (by simp [go_sem]); have t4 := hg8.cell_of (a := ⟨w7.heap.size, 4, none⟩) (v := .int .i64 (Job.to (J.dig t) r 3)) (by simp [go_sem]); have HG8 := Lib.hid (show wr.grows w8 from World.grows.trans (World.grows.trans HG7.out (by (repeat (first | exact World.grows.refl _ | assumption | refine World.grows.alloc ?_ _ | refine World.grows.plus ?_ _ _ | refine World.grows.drew ?_)))) hg8); clear hg8 s0 s1 s2 s3 stb slb))
                  | (at_builtin; go_loud (refine wpList_append_g _ rfl _ _ _ (by rfl) w6.heap.size 76 (.agg #[.int .i64 0, .int .i64 0, .int .i64 0, .int .i64 0]) 4 32 Try.underlying105 el76 (by rfl) (by omega) _ _ _ (by rfl) ((hT.out.grow HG8.out).grow (World.grows.alloc (World.grows.refl _) _)) _ (by rfl) 1 _ (SliceAt.src (by omega) (place_slice _ (J.dig t) _ _ (by simp))) (place_one _) (by unfold maxLen; omega) (by omega) (by have := HG8.out.size; have := hg.out.size; simp; omega) ?_; intro v9 w9 hown hgr; have Hown := Lib.hid hown; have Hgr := Lib.hid (hgr w6 ((hg.out.trans HG8.out).alloc _) (Nat.le_refl _)); clear hown hgr)))
                go_roundw
                case rel =>
                  refine ⟨t + 1, by omega, by go_num, Lib.hid ?_, Hgr⟩
                  rw [hsucc.out, hq.out, if_pos rfl, List.length_append, List.length_singleton, tableL_snoc]
                  have e : placeC (fun i => J.dig ((filT (J.seenB l r k) J.size).getD i 0)) (filT (J.seenB l r k) t).length = fun j => Value.int .i64 (J.dig t j : Nat) := by
                    funext j
                    simp only [placeC, hat.out]
                  rw [e]
                  exact Hown.out
                case measure => simp [intOf]; omega
              · have hgi : ¬ (0 : Int) < (J.togoN l (Job.to (J.dig t) r) : Int) := by omega
                have hq : Hid (J.seenB l r k t = false) := Lib.hid (by unfold Job.seenB; rw [decide_eq_false hg0]; simp)
                go_wp2_with (first
                  | (go_at_call 76; go_loud (refine (step_c _ p J (J.dig t) r ((HP.out.mono (HW.out.trans hg.out)).mono (by (repeat (first | exact World.grows.refl _ | assumption | refine World.grows.alloc ?_ _ | refine World.grows.plus ?_ _ _ | refine World.grows.drew ?_)))) hJ.out (J.dig_in t).le hrn hpr).mono ?_; rintro e w7 ⟨rfl, hg7⟩; have s0 := hg7.cell_of (a := ⟨wr.heap.size, 0, none⟩) (v := .int .i64 (J.dig t 0)) (by simp [go_sem]); have s1 := hg7.cell_of (a := ⟨wr.heap.size, 1, none⟩) (v := .int .i64 (J.dig t 1)) (by simp [go_sem]); have s2 := hg7.cell_of (a := ⟨wr.heap.size, 2, none⟩) (v := .int .i64 (J.dig t 2)) (by simp [go_sem]); have s3 := hg7.cell_of (a := ⟨wr.heap.size, 3, none⟩) (v := .int .i64 (J.dig t 3)) (by simp [go_sem]); have HG7 := Lib.hid (show wr.grows w7 from World.grows.trans (by (repeat (first | exact World.grows.refl _ | assumption | refine World.grows.alloc ?_ _ | refine World.grows.plus ?_ _ _ | refine World.grows.drew ?_))) hg7); have slb := HG7.out.cell_of (hg.out.cell_of zlb); have stb := HG7.out.heap_of (hg.out.heap_of ztb); clear hg7 h0 h1 h2 h3))
                  | (go_at_call 84; go_loud (refine (c84 _ _ r (Job.to (J.dig t) r) (J.hot (J.dig t) r) l (by simp [go_sem, slb])).mono ?_; rw [Hdh.out]; rintro e w8 ⟨rfl, hg8⟩; have y0 := hg8.cell_of (a := ⟨wr.heap.size, 0, none⟩) (v := .int .i64 (J.dig t 0)) (by simp [go_sem, s0]); have y1 := hg8.cell_of (a := ⟨wr.heap.size, 1, none⟩) (v := .int .i64 (J.dig t 1)) (by simp [go_sem, s1]); have y2 := hg8.cell_of (a := ⟨wr.heap.size, 2, none⟩) (v := .int .i64 (J.dig t 2)) (by simp [go_sem, s2]); have y3 := hg8.cell_of (a := ⟨wr.heap.size, 3, none⟩) (v := .int .i64 (J.dig t 3)) (by simp [go_sem, s3]); have ytb := hg8.heap_of (b := tb) (o := tm.obj ePl) (by simp [go_sem, stb]); have t1 := hg8.cell_of (a := ⟨w7.heap.size, 1, none⟩) (v := .int .i64 (Job.to (J.dig t) r 0)) (by simp [go_sem]); have t2 := hg8.cell_of (a := ⟨w7.heap.size, 2, none⟩) (v := .int .i64 (Job.to (J.dig t) r 1)) (by simp [go_sem]); have t3 := hg8.cell_of (a := ⟨w7.heap.size, 3, none⟩) (v := .int .i64 (Job.to (J.dig t) r 2)) (by simp [go_sem]); have t4 := hg8.cell_of (a := ⟨w7.heap.size, 4, none⟩) (v := .int .i64 (Job.to (J.dig t) r 3)) (by simp [go_sem]); have HG8 := Lib.hid (show wr.grows w8 from World.grows.trans (World.grows.trans HG7.out (by (repeat (first | exact World.grows.refl _ | assumption | refine World.grows.alloc ?_ _ | refine World.grows.plus ?_ _ _ | refine World.grows.drew ?_)))) hg8); clear hg8 s0 s1 s2 s3 stb slb)))
                go_roundw
                case rel => exact ⟨t + 1, by omega, by go_num, Lib.hid (by rw [hsucc.out, hq.out]; simpa using hT.out.grow (HG8.out.trans (by (repeat (first | exact World.grows.refl _ | assumption | refine World.grows.alloc ?_ _ | refine World.grows.plus ?_ _ _ | refine World.grows.drew ?_))))), Lib.hid (hg.out.trans (HG8.out.trans (by (repeat (first | exact World.grows.refl _ | assumption | refine World.grows.alloc ?_ _ | refine World.grows.plus ?_ _ _ | refine World.grows.drew ?_)))))⟩
                case measure => simp [intOf]; omega
            · have Hdh := Lib.hid (decide_eq_false hh)
              have hq : Hid (J.seenB l r k t = false) := Lib.hid (by unfold Job.seenB; rw [decide_eq_false hh]; simp)
              go_wp2_with (first
                | (go_at_call 76; go_loud (refine (step_c _ p J (J.dig t) r ((HP.out.mono (HW.out.trans hg.out)).mono (by (repeat (first | exact World.grows.refl _ | assumption | refine World.grows.alloc ?_ _ | refine World.grows.plus ?_ _ _ | refine World.grows.drew ?_)))) hJ.out (J.dig_in t).le hrn hpr).mono ?_; rintro e w7 ⟨rfl, hg7⟩; have s0 := hg7.cell_of (a := ⟨wr.heap.size, 0, none⟩) (v := .int .i64 (J.dig t 0)) (by simp [go_sem]); have s1 := hg7.cell_of (a := ⟨wr.heap.size, 1, none⟩) (v := .int .i64 (J.dig t 1)) (by simp [go_sem]); have s2 := hg7.cell_of (a := ⟨wr.heap.size, 2, none⟩) (v := .int .i64 (J.dig t 2)) (by simp [go_sem]); have s3 := hg7.cell_of (a := ⟨wr.heap.size, 3, none⟩) (v := .int .i64 (J.dig t 3)) (by simp [go_sem]); have HG7 := Lib.hid (show wr.grows w7 from World.grows.trans (by (repeat (first | exact World.grows.refl _ | assumption | refine World.grows.alloc ?_ _ | refine World.grows.plus ?_ _ _ | refine World.grows.drew ?_))) hg7); have slb := HG7.out.cell_of (hg.out.cell_of zlb); have stb := HG7.out.heap_of (hg.out.heap_of ztb); clear hg7 h0 h1 h2 h3))
                | (go_at_call 84; go_loud (refine (c84 _ _ r (Job.to (J.dig t) r) (J.hot (J.dig t) r) l (by simp [go_sem, slb])).mono ?_; rw [Hdh.out]; rintro e w8 ⟨rfl, hg8⟩; have y0 := hg8.cell_of (a := ⟨wr.heap.size, 0, none⟩) (v := .int .i64 (J.dig t 0)) (by simp [go_sem, s0]); have y1 := hg8.cell_of (a := ⟨wr.heap.size, 1, none⟩) (v := .int .i64 (J.dig t 1)) (by simp [go_sem, s1]); have y2 := hg8.cell_of (a := ⟨wr.heap.size, 2, none⟩) (v := .int .i64 (J.dig t 2)) (by simp [go_sem, s2]); have y3 := hg8.cell_of (a := ⟨wr.heap.size, 3, none⟩) (v := .int .i64 (J.dig t 3)) (by simp [go_sem, s3]); have ytb := hg8.heap_of (b := tb) (o := tm.obj ePl) (by simp [go_sem, stb]); have t1 := hg8.cell_of (a := ⟨w7.heap.size, 1, none⟩) (v := .int .i64 (Job.to (J.dig t) r 0)) (by simp [go_sem]); have t2 := hg8.cell_of (a := ⟨w7.heap.size, 2, none⟩) (v := .int .i64 (Job.to (J.dig t) r 1)) (by simp [go_sem]); have t3 := hg8.cell_of (a := ⟨w7.heap.size, 3, none⟩) (v := .int .i64 (Job.to (J.dig t) r 2)) (by simp [go_sem]); have t4 := hg8.cell_of (a := ⟨w7.heap.size, 4, none⟩) (v := .int .i64 (Job.to (J.dig t) r 3)) (by simp [go_sem]); have HG8 := Lib.hid (show wr.grows w8 from World.grows.trans (World.grows.trans HG7.out (by (repeat (first | exact World.grows.refl _ | assumption | refine World.grows.alloc ?_ _ | refine World.grows.plus ?_ _ _ | refine World.grows.drew ?_)))) hg8); clear hg8 s0 s1 s2 s3 stb slb)))
              go_roundw
              case rel => exact ⟨t + 1, by omega, by go_num, Lib.hid (by rw [hsucc.out, hq.out]; simpa using hT.out.grow (HG8.out.trans (by (repeat (first | exact World.grows.refl _ | assumption | refine World.grows.alloc ?_ _ | refine World.grows.plus ?_ _ _ | refine World.grows.drew ?_))))), Lib.hid (hg.out.trans (HG8.out.trans (by (repeat (first | exact World.grows.refl _ | assumption | refine World.grows.alloc ?_ _ | refine World.grows.plus ?_ _ _ | refine World.grows.drew ?_)))))⟩
              case measure => simp [intOf]; omega
          · have hwi : (J.waysN l (J.dig t) : Int) = 0 := by omega
            have hq : Hid (J.seenB l r k t = false) := Lib.hid (by unfold Job.seenB; rw [decide_eq_false hw]; simp)
            go_wp2
            (refine wp_region_calm (by kernel_rfl) (by kernel_rfl) ?_; (repeat (refine wpCalm_step (fun K hK => ?_); go_simp; first | (refine hK _ ?_; clear hK K) | (apply Exists.intro; refine ⟨fun n' x' => ?_, hK _ ?_⟩; (fail); clear hK K))); refine wpCalm_nil ?_; intro nq xq)
            go_wp2
            go_roundw
            case rel => exact ⟨t + 1, by omega, by go_num, Lib.hid (by rw [hsucc.out, hq.out]; simpa using hT.out.grow (by (repeat (first | exact World.grows.refl _ | assumption | refine World.grows.alloc ?_ _ | refine World.grows.plus ?_ _ _ | refine World.grows.drew ?_)))), Lib.hid (hg.out.trans (by (repeat (first | exact World.grows.refl _ | assumption | refine World.grows.alloc ?_ _ | refine World.grows.plus ?_ _ _ | refine World.grows.drew ?_))))⟩
            case measure => simp [intOf]; omega
        · have hki : ¬ (J.dig t r : Int) = k := by omega
          have hq : Hid (J.seenB l r k t = false) := Lib.hid (by unfold Job.seenB; rw [decide_eq_false hk]; rfl)
          go_wp2
          (refine wp_region_calm (by kernel_rfl) (by kernel_rfl) ?_; (repeat (refine wpCalm_step (fun K hK => ?_); go_simp; first | (refine hK _ ?_; clear hK K) | (apply Exists.intro; refine ⟨fun n' x' => ?_, hK _ ?_⟩; (fail); clear hK K))); refine wpCalm_nil ?_; intro nq xq)
          go_wp2
          go_roundw
          case rel => exact ⟨t + 1, by omega, by go_num, Lib.hid (by rw [hsucc.out, hq.out]; simpa using hT.out.grow (by (repeat (first | exact World.grows.refl _ | assumption | refine World.grows.alloc ?_ _ | refine World.grows.plus ?_ _ _ | refine World.grows.drew ?_)))), Lib.hid (hg.out.trans (by (repeat (first | exact World.grows.refl _ | assumption | refine World.grows.alloc ?_ _ | refine World.grows.plus ?_ _ _ | refine World.grows.drew ?_))))⟩
          case measure => simp [intOf]; omega
      · have hte : t = J.size := by omega
        subst hte
        go_wp2
        (refine bodyPost_ret (v := .tuple #[.pointer (some ⟨p, 0, none⟩), .slice vo (filT (J.seenB l r k) J.size).length vc, .int .i64 0]) (by simp [results, Try.results70, go_sem]) rfl ?_)
        refine ⟨_, _, by rw [hE.out], Hgw.out.trans (HW.out.trans hg.out), fun _ => ⟨p, r, k, rfl, Hrk.out.1, Hrk.out.2, hrn, hkn, HP.out.mono (HW.out.trans hg.out), ?_⟩⟩
        exact hT.out.sliceAt fun i j hi hj => tableL_get _ hi hj
  · go_wp2_with (go_at_call 44; refine (open_bad _ _ J (Hv.out.mono (by (repeat (first | exact World.grows.refl _ | assumption | refine World.grows.alloc ?_ _ | refine World.grows.plus ?_ _ _ | refine World.grows.drew ?_)))) hc).mono ?_; rintro e w' ⟨rfl, hg⟩; obtain ⟨n2, x2, rfl⟩ := World.plus_of hg)
    have hE : J.seenErr l m R K = J.check := by unfold Job.seenErr; rw [if_pos hc]
    (refine bodyPost_ret (v := .tuple #[.pointer none, .slice none 0 0, .int .i64 J.check]) (by simp [results, Try.results70, go_sem]) rfl ?_)
    exact ⟨_, _, by rw [hE], by (repeat (first | exact World.grows.refl _ | assumption | refine World.grows.alloc ?_ _ | refine World.grows.plus ?_ _ _ | refine World.grows.drew ?_)), fun h => absurd (hE.symm.trans h) hc⟩

end Go.Proofs.Ytjpccfpmhmddjaa

/-
  What is proved: Must (34), Before (36).
-/
namespace Go.Proofs.Ytjpccfpmhmddjaa
open Go.RowKit
attribute [local irreducible] Go.wpCalm

theorem any_getD (L : List Nat) (q : Nat → Bool) : ((List.range L.length).any fun i => q (L.getD i 0)) = L.any q := by
  have e : L = (List.range L.length).map fun i => L.getD i 0 := by
    apply List.ext_getElem?
    intro i
    simp only [List.getElem?_map]
    rcases Nat.lt_or_ge i L.length with h | h
    · rw [List.getElem?_range h]; simp [h]
    · simp [h]
  conv => rhs; rw [e]
  rw [List.any_map]; rfl
def two (a b : Int) (i : Nat) : Int := if i = 0 then a else b
theorem names2 (w : World) (ra ka rb kb : Int) (t b : Nat) (hb : b = w.heap.size) :
    SliceAt (w.alloc (.cells #[.int .i64 ra, .int .i64 ka, .int .i64 rb, .int .i64 kb] t)) (.slice (some ⟨b, 0, none⟩) 2 2) 2 2 (nmV (two ra rb) (two ka kb)) := by
  subst hb
  refine ⟨_, _, rfl, by omega, by unfold maxLen; omega, fun i j hi hj => ⟨_, _, rfl, ?_⟩⟩
  rcases (by omega : i = 0 ∨ i = 1) with rfl | rfl <;> rcases (by omega : j = 0 ∨ j = 1) with rfl | rfl <;> simp [go_sem, nmV, two]
theorem names1 (w : World) (ra ka : Int) (t b : Nat) (hb : b = w.heap.size) :
    SliceAt (w.alloc (.cells #[.int .i64 ra, .int .i64 ka] t)) (.slice (some ⟨b, 0, none⟩) 1 1) 1 2 (nmV (fun _ => ra) (fun _ => ka)) := by
  subst hb
  refine ⟨_, _, rfl, by omega, by unfold maxLen; omega, fun i j hi hj => ⟨_, _, rfl, ?_⟩⟩
  rcases (by omega : i = 0) with rfl; rcases (by omega : j = 0 ∨ j = 1) with rfl | rfl <;> simp [go_sem, nmV]

theorem Job.seenErr_pass {J : Job} {l : Int} {m : Nat} {R K : Nat → Int} (h : J.seenErr l m R K = 0) : J.check = 0 ∧ (∀ i, i < m → J.noPass (R i) (K i) = false) ∧ 0 < J.waysN l J.last := by
  unfold Job.seenErr at h
  split at h
  · rename_i hc; exact absurd h hc
  · rename_i hc
    split at h
    · cases h
    · rename_i hb
      split at h
      · cases h
      · rename_i hz
        refine ⟨by simpa using hc, fun i hi => ?_, by omega⟩
        simp only [Bool.not_eq_true, List.any_eq_false, List.mem_range] at hb
        simpa using hb i hi

/-- must a pass come before another one? -/
def Job.mustB (J : Job) (l : Int) (ra ka rb kb : Int) : Bool := !(filT (J.seenB l rb.toNat kb.toNat) J.size).any fun t => decide ((J.dig t ra.toNat : Int) ≤ ka)
def Job.mustAns (J : Job) (l : Int) (ra ka rb kb : Int) : Bool := if J.seenErr l 2 (two ra rb) (two ka kb) = 0 then J.mustB l ra ka rb kb else false

set_option maxHeartbeats 2000000 in
theorem must_c (w : World) (v : Value) (J : Job) (hv : RawAt w v J) (l ra ka rb kb : Int) :
    Calls Try.prog 34 #[v, .int .i64 l, .agg #[.int .i64 ra, .int .i64 ka], .agg #[.int .i64 rb, .int .i64 kb]] w fun e w' =>
      e = .returned (.tuple #[.bool (J.mustAns l ra ka rb kb), .int .i64 (J.seenErr l 2 (two ra rb) (two ka kb))]) ∧ w.grows w' := by
  have Hv := Lib.hid hv
  obtain ⟨rv, row0, rfl, -, -⟩ := hv
  go_enter Try.func34, Try.ntmps34
  by_cases he : J.seenErr l 2 (two ra rb) (two ka kb) = 0
  · have HE := Lib.hid he
    go_wp2_with (go_at_call 70; go_loud (refine (seen_c _ _ J (Hv.out.mono (by (repeat (first | exact World.grows.refl _ | assumption | refine World.grows.alloc ?_ _ | refine World.grows.plus ?_ _ _ | refine World.grows.drew ?_)))) l _ 2 (two ra rb) (two ka kb) (names2 _ _ _ _ _ _ _ (by simp)) (by omega) (by omega)).mono ?_; rw [he]; rintro e w1 ⟨pv, sv, rfl, hg1, hs⟩; obtain ⟨P0, r, k, rfl, hr, hk, hrn, hkn, hP, hS⟩ := hs rfl))
    have hrb : rb = (r : Nat) := hr
    have hkb : kb = (k : Nat) := hk
    have hp0 := (Job.seenErr_pass HE.out).2.1 0 (by omega)
    simp only [two, if_true, Job.noPass, Bool.or_eq_false_iff, decide_eq_false_iff_not] at hp0
    obtain ⟨an, rfl⟩ := Int.eq_ofNat_of_zero_le (a := ra) (by omega)
    have han : an < 4 := by have := ((Job.Ok_iff J).2 (Job.seenErr_pass HE.out).1).n4; omega
    have x0 : w1.cell? ⟨w.heap.size + 1, 0, none⟩ = some (.int .i64 (an : Nat)) := hg1.cell_of (by simp [go_sem])
    have x1 : w1.cell? ⟨w.heap.size + 1, 1, none⟩ = some (.int .i64 ka) := hg1.cell_of (by simp [go_sem])
    have Hg1 := Lib.hid (show w.grows w1 from World.grows.trans (by (repeat (first | exact World.grows.refl _ | assumption | refine World.grows.alloc ?_ _ | refine World.grows.plus ?_ _ _ | refine World.grows.drew ?_))) hg1)
    have H72 : Hid (∀ i, ∀ W : World, w1.grows W → Calls Try.prog 72 (#[plc (J.dig ((filT (J.seenB l r k) J.size).getD i 0))] ++ #[.pointer (some ⟨w.heap.size + 1, 0, none⟩)]) W fun e W' => e = .returned (.bool (decide ((J.dig ((filT (J.seenB l r k) J.size).getD i 0) an : Int) ≤ ka))) ∧ W.grows W') :=
      Lib.hid fun i W hW => c72 W _ an ka _ (hW.cell_of x0) (hW.cell_of x1) han
    have hbd := fstIdx_bd (fun i => decide ((J.dig ((filT (J.seenB l r k) J.size).getD i 0) an : Int) ≤ ka)) (filT (J.seenB l r k) J.size).length
    have hany := fstIdx_any (fun i => decide ((J.dig ((filT (J.seenB l r k) J.size).getD i 0) an : Int) ≤ ka)) (filT (J.seenB l r k) J.size).length
    rw [any_getD _ (fun t => decide ((J.dig t an : Int) ≤ ka))] at hany
    have hans : Hid (decide (fstIdx (fun i => decide ((J.dig ((filT (J.seenB l r k) J.size).getD i 0) an : Int) ≤ ka)) (filT (J.seenB l r k) J.size).length < 0) = J.mustAns l an ka rb kb) := Lib.hid (by
      unfold Job.mustAns
      rw [if_pos HE.out]
      unfold Job.mustB
      subst hrb; subst hkb
      simp only [Int.toNat_natCast]
      rw [← hany, ← decide_not]
      simp only [Int.not_le])
    clear hs hp0 hany hbd hr hk hg1 x0 x1
    refine (first_c _ sv _ _ 72 #[.pointer (some ⟨w.heap.size + 1, 0, none⟩)] _ hS (fun args w => (by simp [go_sem])) (fun i hi W hW => H72.out i W hW)).mono ?_
    rintro e w2 ⟨rfl, hg2⟩
    have Hg2 := Lib.hid hg2
    clear hg2
    generalize fstIdx (fun i => decide ((J.dig ((filT (J.seenB l r k) J.size).getD i 0) an : Int) ≤ ka)) (filT (J.seenB l r k) J.size).length = F at hans
    go_wp2
    (refine bodyPost_ret (v := .tuple #[.bool (decide (F < 0)), .int .i64 0]) (by simp [results, Try.results34, go_sem]) rfl ?_)
    exact ⟨by rw [hans.out, HE.out], Hg1.out.trans Hg2.out⟩
  · have HE := Lib.hid he
    go_wp2_with (go_at_call 70; go_loud (refine (seen_c _ _ J (Hv.out.mono (by (repeat (first | exact World.grows.refl _ | assumption | refine World.grows.alloc ?_ _ | refine World.grows.plus ?_ _ _ | refine World.grows.drew ?_)))) l _ 2 (two ra rb) (two ka kb) (names2 _ _ _ _ _ _ _ (by simp)) (by omega) (by omega)).mono ?_; rintro e w1 ⟨pv, sv, rfl, hg1, -⟩))
    (refine bodyPost_ret (v := .tuple #[.bool false, .int .i64 (J.seenErr l 2 (two ra rb) (two ka kb))]) (by simp [results, Try.results34, go_sem]) rfl ?_)
    exact ⟨by unfold Job.mustAns; rw [if_neg HE.out], World.grows.trans (by (repeat (first | exact World.grows.refl _ | assumption | refine World.grows.alloc ?_ _ | refine World.grows.plus ?_ _ _ | refine World.grows.drew ?_))) hg1⟩

end Go.Proofs.Ytjpccfpmhmddjaa

