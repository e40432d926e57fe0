/-
  What is proved: how many pairs a list of mates has (plain).
-/
import Derived.Test.YteingahlmlndkaaM6
import Derived.Test.YteingahlmlndkaaM3
import Derived.Test.YteingahlmlndkaaM7
import Derived.Test.YteingahlmlndkaaM5
import Derived.Test.YteingahlmlndkaaM10
import Derived.Laws.CopyOwn
set_option linter.all false
namespace Go.Proofs.Yteingahlmlndkaa
open Go
/-- the mates as a matching -/
def mOf (f : Nat → Int) (n v : Nat) : Nat := if v < n ∧ 0 ≤ f v then (f v).toNat else v
def badR (s : Stk) (f : Nat → Int) (i : Nat) : Bool := !decide (f i = -1) && !s.isT (f i)
def okP (s : Stk) (f : Nat → Int) (i : Nat) : Bool := decide (f i = -1) || (decide (f (f i).toNat = (i : Nat)) && s.adj i (f i).toNat)
def pErr (s : Stk) (f : Nat → Int) (m : Nat) : Nat := if m ≠ s.nt then 15 else if (List.range m).any (badR s f) = true then 3 else if (List.range m).all (okP s f) = true then 0 else 16
def pNum (s : Stk) (f : Nat → Int) (m : Nat) : Nat := if pErr s f m = 0 then cov s.nt (mOf f s.nt) / 2 else 0
theorem range_vals {s : Stk} {f : Nat → Int} {m : Nat} (h : (List.range m).any (badR s f) = false) {i : Nat} (hi : i < m) : f i = -1 ∨ ∃ k : Nat, f i = (k : Nat) ∧ k < s.nt := by
  have h1 : badR s f i = false := by
    rw [← Bool.not_eq_true]
    intro h2
    rw [← Bool.not_eq_true] at h
    exact h (List.any_eq_true.2 ⟨i, List.mem_range.2 hi, h2⟩)
  unfold badR at h1
  by_cases e : f i = -1
  · exact .inl e
  · rw [decide_eq_false e] at h1
    have h2 : s.isT (f i) = true := by simpa using h1
    obtain ⟨k, h3, h4⟩ := Stk.isT_nat h2
    exact .inr ⟨k, h3, h4⟩
theorem mates_isM {s : Stk} {f : Nat → Int} (h1 : (List.range s.nt).any (badR s f) = false) (h2 : (List.range s.nt).all (okP s f) = true) : IsM s.adj (belowN s.nt) (mOf f s.nt) := by
  have key : ∀ v, v < s.nt → 0 ≤ f v → ∃ k : Nat, f v = (k : Nat) ∧ k < s.nt ∧ f k = (v : Nat) ∧ s.adj v k = true := fun v hv h0 => by
    rcases range_vals h1 hv with h | ⟨k, hk, hkn⟩
    · omega
    · have h3 := List.all_eq_true.1 h2 v (List.mem_range.2 hv)
      unfold okP at h3
      rw [hk, decide_eq_false (by omega), Bool.false_or, Bool.and_eq_true, decide_eq_true_eq] at h3
      exact ⟨k, hk, hkn, by simpa using h3.1, by simpa using h3.2⟩
  have mo : ∀ v k : Nat, v < s.nt → f v = (k : Nat) → mOf f s.nt v = k := fun v k hv h => by
    unfold mOf
    rw [if_pos ⟨hv, by omega⟩, h]
    rfl
  have mi : ∀ v, ¬ (v < s.nt ∧ 0 ≤ f v) → mOf f s.nt v = v := fun v h => if_neg h
  constructor
  · intro v
    by_cases h : v < s.nt ∧ 0 ≤ f v
    · obtain ⟨k, a1, a2, a3, a4⟩ := key v h.1 h.2
      rw [mo v k h.1 a1, mo k v a2 a3]
    · rw [mi v h, mi v h]
  · intro v hne
    by_cases h : v < s.nt ∧ 0 ≤ f v
    · obtain ⟨k, a1, a2, a3, a4⟩ := key v h.1 h.2
      rw [mo v k h.1 a1]
      exact ⟨by simpa [belowN] using h.1, a4⟩
    · exact absurd (mi v h) hne
theorem PM.put_len {K : Type} [DecidableEq K] (v : Int) (l : List (K × Int × Nat)) (k : K) : (PM.put l k v).length = l.length := by
  have := congrArg List.length (PM.put_keys v l k)
  simpa using this
theorem PM.set_len {K : Type} [DecidableEq K] (m : PM K) (k : K) (v : Int) : (m.set k v).l.length = m.l.length + if (m.get k).isSome then 0 else 1 := by
  unfold PM.set
  split
  · rename_i h
    simp [h, PM.put_len]
  · rename_i h
    simp [h]
def keyN (x y : Int) : Int × Int := (min x y, max x y)
/-- the map of the pairs of the first k -/
structure PairsIs (m : PM (Int × Int)) (s : Stk) (f : Nat → Int) (k : Nat) : Prop where
  len : m.l.length = cntB (fun t => decide (t < mOf f s.nt t)) k
  key : ∀ q, (m.get q).isSome = true ↔ ∃ t : Nat, t < k ∧ 0 ≤ f t ∧ q = keyN t (f t)
theorem PairsIs.start (s : Stk) (f : Nat → Int) : PairsIs (PM.empty _) s f 0 := ⟨rfl, fun q => by simp [PM.get_empty]⟩
theorem PairsIs.alone {m : PM (Int × Int)} {s : Stk} {f : Nat → Int} {k : Nat} (h : PairsIs m s f k) (hf : f k < 0) : PairsIs m s f (k + 1) := by
  have e : mOf f s.nt k = k := if_neg (by omega)
  refine ⟨?_, fun q => ?_⟩
  · show _ = cntB _ k + (if decide (k < mOf f s.nt k) = true then 1 else 0)
    rw [e, h.len]
    simp
  · rw [h.key]
    constructor
    · rintro ⟨t, h1, h2, h3⟩
      exact ⟨t, by omega, h2, h3⟩
    · rintro ⟨t, h1, h2, h3⟩
      refine ⟨t, ?_, h2, h3⟩
      by_cases e : t = k
      · subst e; omega
      · omega
theorem PairsIs.pair {m : PM (Int × Int)} {s : Stk} {f : Nat → Int} {k u : Nat} (h : PairsIs m s f k) (hk : k < s.nt) (hf : f k = (u : Nat)) (hu : f u = (k : Nat)) (hne : u ≠ k) : PairsIs (m.set (keyN k u) 1) s f (k + 1) := by
  have e : mOf f s.nt k = u := by unfold mOf; rw [if_pos ⟨hk, by omega⟩, hf]; rfl
  have hs : (m.get (keyN k u)).isSome = true ↔ u < k := by
    rw [h.key]
    constructor
    · rintro ⟨t, h1, h2, h3⟩
      unfold keyN at h3
      rw [Prod.mk.injEq] at h3
      omega
    · intro hlt
      exact ⟨u, hlt, by omega, by unfold keyN; rw [hu, Prod.mk.injEq]; omega⟩
  refine ⟨?_, fun q => ?_⟩
  · show _ = cntB _ k + (if decide (k < mOf f s.nt k) = true then 1 else 0)
    rw [e, PM.set_len, h.len]
    by_cases hlt : u < k
    · rw [if_pos (hs.2 hlt), if_neg (by simp; omega)]
    · rw [if_neg (fun h => hlt (hs.1 h)), if_pos (by simp; omega)]
  · rw [PM.get_set]
    by_cases hq : q = keyN k u
    · rw [if_pos hq]
      exact ⟨fun _ => ⟨k, by omega, by omega, by rw [hq, hf]⟩, fun _ => rfl⟩
    · rw [if_neg hq, h.key]
      constructor
      · rintro ⟨t, h1, h2, h3⟩
        exact ⟨t, by omega, h2, h3⟩
      · rintro ⟨t, h1, h2, h3⟩
        refine ⟨t, ?_, h2, h3⟩
        by_cases e : t = k
        · subst e
          rw [hf] at h3
          exact absurd h3 hq
        · omega
end Go.Proofs.Yteingahlmlndkaa

/-
  What is proved: whether a list of mates is right, and how many pairs it has (19).
-/
namespace Go.Proofs.Yteingahlmlndkaa
open Go.RowKit
attribute [local irreducible] Go.wpCalm rowV
attribute [local go_sem ↓] mk87
theorem c54 (w : World) (bx b n : Nat) (A : Nat → Nat → Bool) (x : Int) (h0 : w.cell? ⟨bx, 0, none⟩ = some (.pointer (some ⟨b, 0, none⟩))) (hB : BenchOf w b n A) :
    Calls Try.prog 54 #[.int .i64 x, .pointer (some ⟨bx, 0, none⟩)] w fun e w' => e = .returned (.bool (!decide (x = -1) && !(decide (0 ≤ x) && decide (x < n)))) ∧ w.grows w' := by
  have HB := Lib.hid hB
  clear hB
  go_enter Try.func54, Try.ntmps54
  by_cases hx : x = -1
  · subst hx
    go_wp2
    go_ret
    exact ⟨rfl, by (repeat (first | exact World.grows.refl _ | assumption | refine World.grows.alloc ?_ _ | refine World.grows.plus ?_ _ _ | refine World.grows.drew ?_))⟩
  · have hxB : (x == -1) = false := by rw [beq_eq_false_iff_ne]; exact hx
    go_wp2_with (go_at_call 99; fail)
    refine (is_c _ b n A (HB.out.grow (by (repeat (first | exact World.grows.refl _ | assumption | refine World.grows.alloc ?_ _ | refine World.grows.plus ?_ _ _ | refine World.grows.drew ?_)))) x).mono ?_
    rintro e W ⟨rfl, g⟩
    go_wp2
    go_ret
    have hxb : (x != -1) = true := by simp [hx]
    exact ⟨by show Ending.returned (Value.bool (x != -1 && (!decide (0 ≤ x) || !decide (x < (n : Nat))))) = _; rw [hxb, decide_eq_false hx]; simp, World.grows.trans (by (repeat (first | exact World.grows.refl _ | assumption | refine World.grows.alloc ?_ _ | refine World.grows.plus ?_ _ _ | refine World.grows.drew ?_))) (g.trans (by (repeat (first | exact World.grows.refl _ | assumption | refine World.grows.alloc ?_ _ | refine World.grows.plus ?_ _ _ | refine World.grows.drew ?_))))⟩
set_option maxRecDepth 100000 in
set_option maxHeartbeats 4000000 in
theorem pairing_ok (w : World) (v : Value) (s : Stk) (ht : StkAt w v s) (hok : s.Ok) (lv : Value) (m : Nat) (f : Nat → Int) (hl : IntsAt w lv m f) : Calls Try.prog 19 #[v, lv] w fun e w' => e = .returned (.tuple #[.int .i64 (pNum s f m : Nat), .int .i64 (pErr s f m : Nat)]) ∧ w.grows w' := by
  have Ht := Lib.hid ht
  have Hl := Lib.hid hl
  obtain ⟨tv, mv, rfl, ⟨sa, sc, rfl, s1, s2, -⟩, ⟨va, vc, rfl, -⟩⟩ := ht
  obtain ⟨la, lc, rfl, l1, l2, -⟩ := hl
  have h47 := fun W (g : w.grows W) => open_ok W _ s (Ht.out.mono g) hok
  have HAs := Lib.hid s.adj_symm
  have HAi := Lib.hid s.adj_irr
  have h16 := hok.n16
  unfold maxLen at l2
  clear hok
  go_enter Try.func19, Try.ntmps19
  go_wp2_with (go_at_call 99; fail)
  refine (h47 _ (by (repeat (first | exact World.grows.refl _ | assumption | refine World.grows.alloc ?_ _ | refine World.grows.plus ?_ _ _ | refine World.grows.drew ?_)))).mono ?_
  rintro e W1 ⟨b, rfl, g1, hlt, hB⟩
  have bx := g1.heap_of (World.heap_at w (.cells #[.slice sa s.nt sc, .slice va s.nm vc, .int .i64 s.wide] 25) _ rfl)
  have gW1 : w.grows W1 := World.grows.trans (by (repeat (first | exact World.grows.refl _ | assumption | refine World.grows.alloc ?_ _ | refine World.grows.plus ?_ _ _ | refine World.grows.drew ?_))) g1
  have c0 := cell_of_heap bx (i := 0) rfl
  clear h47 g1 hlt
  obtain ⟨x6, hx6⟩ : ∃ x, W1.heap.size = x := ⟨_, rfl⟩
  have HB := Lib.hid hB
  have HG := Lib.hid gW1
  clear hB gW1
  by_cases hm : m = s.nt
  · have hmI : (m : Int) = (s.nt : Nat) := by omega
    have hmB : (((m : Nat) : Int) == ((s.nt : Nat) : Int)) = true := by rw [beq_iff_eq]; omega
    subst hm
    go_wp2_with (go_at_call 99; fail)
    have k6 : KpS W1 [(x6, Obj.cells #[.pointer (some ⟨b, 0, none⟩)] 71)] (W1.alloc (Obj.cells #[.pointer (some ⟨b, 0, none⟩)] 71)) := (KpS.mk (by (repeat (first | exact World.grows.refl _ | assumption | refine World.grows.alloc ?_ _ | refine World.grows.plus ?_ _ _ | refine World.grows.drew ?_))) (fun y hy => absurd hy List.not_mem_nil)).add (World.heap_at _ _ _ hx6.symm)
    generalize W1.alloc (Obj.cells #[.pointer (some ⟨b, 0, none⟩)] 71) = W2 at k6 ⊢
    refine (has53 W2 _ s.nt (fun i _ => .int .i64 (f i)) 54 #[.pointer (some ⟨x6, 0, none⟩)] (badR s f) (IntsAt.mono Hl.out (HG.out.trans k6.g)) (fun args w => by simp [go_sem]) (fun i hi W' hW => c54 W' x6 b s.nt s.adj (f i) (hW.cell_of (cell_box k6.hd)) (HB.out.grow (k6.g.trans hW)))).mono ?_
    rintro e W3 ⟨rfl, g3⟩
    have k7 := k6.mono g3
    clear g3 k6 W2
    cases hbad : (List.range s.nt).any (badR s f) with
    | true =>
      have HE : Hid (pErr s f s.nt = 3) := Lib.hid (by unfold pErr; rw [if_neg (by simp), if_pos hbad])
      clear hbad
      have gW := HG.out.trans k7.g
      go_wp2
      (refine bodyPost_ret (v := .tuple #[.int .i64 0, .int .i64 3]) (by simp [results, Try.results19, go_sem]) rfl ?_)
      unfold pNum
      rw [HE.out, if_neg (by omega)]
      exact ⟨rfl, gW.trans (by (repeat (first | exact World.grows.refl _ | assumption | refine World.grows.alloc ?_ _ | refine World.grows.plus ?_ _ _ | refine World.grows.drew ?_)))⟩
    | false =>
      have HE : Hid (pErr s f s.nt = if (List.range s.nt).all (okP s f) = true then 0 else 16) := Lib.hid (by unfold pErr; rw [if_neg (by simp), if_neg (by rw [hbad]; exact Bool.false_ne_true)])
      have HR : Hid (∀ i, i < s.nt → f i = -1 ∨ ∃ k : Nat, f i = (k : Nat) ∧ k < s.nt) := Lib.hid fun i hi => range_vals hbad hi
      have HM : Hid ((List.range s.nt).all (okP s f) = true → IsM s.adj (belowN s.nt) (mOf f s.nt)) := Lib.hid fun h => mates_isM hbad h
      clear hbad
      have HK7 := Lib.hid k7
      clear k7
      go_wp2
      obtain ⟨mb, hmb⟩ : ∃ x, W3.heap.size = x := ⟨_, rfl⟩
      have hx6b : x6 < mb := by rw [← hmb]; exact World.lt_of_block HK7.out.hd
      have k8 : KpS W1 [(mb, (PM.empty (Int × Int)).obj eP), (x6, Obj.cells #[.pointer (some ⟨b, 0, none⟩)] 71)] (W3.alloc ((PM.empty (Int × Int)).obj eP)) := (HK7.out.mono (by (repeat (first | exact World.grows.refl _ | assumption | refine World.grows.alloc ?_ _ | refine World.grows.plus ?_ _ _ | refine World.grows.drew ?_)))).add (World.heap_at _ _ _ hmb.symm)
      simp only [hmb]
      generalize W3.alloc ((PM.empty (Int × Int)).obj eP) = W4 at k8 ⊢
      have HK8 := Lib.hid k8
      clear k8 HK7 hmb W3
      go_loopw [34] (fun i34 wr => ∃ (k : Nat) (mm : PM (Int × Int)), k ≤ s.nt ∧ i34 = .int .i64 (k : Nat) ∧ Hid (PairsIs mm s f k) ∧ Hid (∀ j, j < k → okP s f j = true) ∧ Hid (KpS W1 [(mb, mm.obj eP), (x6, Obj.cells #[.pointer (some ⟨b, 0, none⟩)] 71)] wr)) (fun i34 _ => s.nt - (intOf i34).toNat)
      case atStart => exact ⟨0, PM.empty _, by omega, rfl, Lib.hid (PairsIs.start s f), Lib.hid (fun j hj => by omega), HK8⟩
      case round =>
        obtain ⟨k, mm, hk, rfl, hP, hlo, hKp⟩ := hrel
        have gW := HG.out.trans hKp.out.g
        by_cases hlt : k < s.nt
        · have hltI : (k : Int) < s.nt := by omega
          have hk16 : (k : Int) < 16 := by omega
          obtain ⟨la', lc', he, -, -, hc⟩ := IntsAt.mono Hl.out gW
          cases he
          obtain ⟨lb, lo, rfl, cx⟩ := hc k 0 hlt (by omega)
          simp only [Nat.mul_one, Nat.add_zero] at cx
          have HBAD : Hid (okP s f k = false → pErr s f s.nt = 16) := Lib.hid fun he => by
            rw [HE.out, if_neg]
            intro h
            have := List.all_eq_true.1 h k (List.mem_range.2 hlt)
            rw [he] at this; cases this
          rcases HR.out k hlt with hfk | ⟨u, hfk, hu⟩
          · have HP2 := Lib.hid (hP.out.alone (by omega))
            have HX := Lib.hid (upto_succ hlo.out (show okP s f k = true by unfold okP; rw [decide_eq_true hfk]; rfl))
            rw [hfk] at cx
            clear hc HBAD hP hlo hfk
            go_wp2
            case roundEnd => exact ⟨⟨k + 1, mm, by omega, by go_num, HP2, HX, hKp⟩, by simp [intOf]; omega⟩
          · have huI : (u : Int) < s.nt := by omega
            obtain ⟨lb', lo', he', cu⟩ := hc u 0 hu (by omega)
            cases he'
            simp only [Nat.mul_one, Nat.add_zero] at cu
            obtain ⟨z, hz⟩ : ∃ z, f u = z := ⟨_, rfl⟩
            have HI : Hid (okP s f k = (decide (z = (k : Nat)) && s.adj k u)) := Lib.hid (by
              unfold okP
              rw [hfk, decide_eq_false (by omega), Bool.false_or]
              show (decide (f u = _) && s.adj k u) = _
              rw [hz])
            rw [hfk] at cx
            rw [hz] at cu
            have b6 := cell_box hKp.out.drop.hd
            obtain ⟨ta, tc, mv, wide, F, hb1, hb2, -, -⟩ := HB.out.grow hKp.out.g
            have c3 := hb1.row (i := k) (by omega)
            have hF := hb2.lt k
            have hFA : (F k).testBit u = s.adj k u := hb2.bit k u
            obtain ⟨Z, hZ⟩ : ∃ Z, F k = Z := ⟨_, rfl⟩
            rw [hZ] at c3 hF hFA
            have Hfk := Lib.hid hfk
            have Hz := Lib.hid hz
            clear hZ hb1 hb2 hc hfk hz
            go_wp2_with (go_at_call 99; fail)
            refine (has_c _ Z u hF (by omega)).mono ?_
            rintro e V ⟨rfl, gV⟩
            rw [hFA]
            cases ha : s.adj k u with
            | false =>
              have HX := Lib.hid (HBAD.out (by rw [HI.out, ha, Bool.and_false]))
              clear hFA ha HI HBAD
              go_wp2
              (refine bodyPost_ret (v := .tuple #[.int .i64 0, .int .i64 16]) (by simp [results, Try.results19, go_sem]) rfl ?_)
              unfold pNum
              rw [HX.out, if_neg (by omega)]
              exact ⟨rfl, gW.trans (gV.trans (by (repeat (first | exact World.grows.refl _ | assumption | refine World.grows.alloc ?_ _ | refine World.grows.plus ?_ _ _ | refine World.grows.drew ?_))))⟩
            | true =>
              have hne : u ≠ k := fun e => by
                subst e
                rw [HAi.out] at ha
                cases ha
              have cu' := gV.cell_of cu
              by_cases hzk : z = (k : Nat)
              · have HX := Lib.hid (upto_succ hlo.out (show okP s f k = true by rw [HI.out, ha, decide_eq_true hzk]; rfl))
                have HP2 := Lib.hid (hP.out.pair hlt Hfk.out (by rw [Hz.out, hzk]) hne)
                have hzB : (z == (k : Nat)) = true := by rw [beq_iff_eq]; exact hzk
                have kV := hKp.out.mono gV
                clear hFA ha HI HBAD hlo hP cx cu c3 b6
                subst hzk
                go_wp2_with (go_at_call 99; fail)
                refine (pairOf_c _ (k : Nat) (u : Nat)).mono ?_
                rintro e V2 ⟨rfl, gV2⟩
                have kV2 := kV.mono gV2
                have hup := up87 mm mb V2 kV2.hd (min (k : Int) u) (max (k : Int) u) 1
                have k9 : KpS W1 [(mb, (mm.set (keyN k u) 1).obj eP), (x6, Obj.cells #[.pointer (some ⟨b, 0, none⟩)] 71)] (V2.putObj mb ((mm.set (keyN k u) 1).obj eP)) := (kV2.drop.obj (by omega) (fun y hy => by
                  rw [List.mem_singleton] at hy
                  subst hy
                  simp only
                  omega)).add (World.putObj_heap_same (World.lt_of_block kV2.hd))
                have HK9 := Lib.hid k9
                clear kV gV gV2 kV2 k9 hKp gW
                go_wp2
                case roundEnd => exact ⟨⟨k + 1, _, by omega, by go_num, HP2, HX, HK9⟩, by simp [intOf]; omega⟩
              · have HX := Lib.hid (HBAD.out (by rw [HI.out, decide_eq_false hzk]; rfl))
                have hzB : (z == (k : Nat)) = false := by rw [beq_eq_false_iff_ne]; exact hzk
                clear hFA ha HI HBAD
                go_wp2
                (refine bodyPost_ret (v := .tuple #[.int .i64 0, .int .i64 16]) (by simp [results, Try.results19, go_sem]) rfl ?_)
                unfold pNum
                rw [HX.out, if_neg (by omega)]
                exact ⟨rfl, gW.trans (gV.trans (by (repeat (first | exact World.grows.refl _ | assumption | refine World.grows.alloc ?_ _ | refine World.grows.plus ?_ _ _ | refine World.grows.drew ?_))))⟩
        · have hke : k = s.nt := by omega
          have hltI : ¬ (k : Int) < s.nt := by omega
          have hall : (List.range s.nt).all (okP s f) = true := List.all_eq_true.2 fun j hj => hlo.out j (by have := List.mem_range.1 hj; omega)
          have h0 : pErr s f s.nt = 0 := by rw [HE.out, if_pos hall]
          have hlen := hP.out.len
          have h2 := pairs_cov (HM.out hall)
          rw [hke] at hlen
          have HN : Hid (pNum s f s.nt = mm.l.length) := Lib.hid (by unfold pNum; rw [if_pos h0, hlen]; omega)
          have HE0 := Lib.hid h0
          have hml : mm.l.length ≤ 16 := by rw [hlen]; exact Nat.le_trans (cntB_le _ _) h16
          have hlm := fun ty => run_len_map (P := Try.prog) (w := wr) 87 ty mb (PM.ents eP mm.l).toArray mm.clock (by kernel_rfl) hKp.out.hd
          have hsz : (PM.ents eP mm.l).toArray.size = mm.l.length := by simp [PM.ents]
          rw [hsz] at hlm
          obtain ⟨N, hN⟩ : ∃ N, mm.l.length = N := ⟨_, rfl⟩
          rw [hN] at hlm HN hml
          clear hall h0 hlen h2 hN hsz hP hlo hke
          go_wp2
          (refine bodyPost_ret (v := .tuple #[.int .i64 (N : Nat), .int .i64 0]) (by simp [results, Try.results19, go_sem]) rfl ?_)
          rw [HN.out, HE0.out]
          exact ⟨rfl, gW.trans (by (repeat (first | exact World.grows.refl _ | assumption | refine World.grows.alloc ?_ _ | refine World.grows.plus ?_ _ _ | refine World.grows.drew ?_)))⟩
  · have hmB : (((m : Nat) : Int) == ((s.nt : Nat) : Int)) = false := by rw [beq_eq_false_iff_ne]; omega
    have hmI : ¬ (m : Int) = (s.nt : Nat) := by omega
    have HE : Hid (pErr s f m = 15) := Lib.hid (if_pos hm)
    clear hm
    go_wp2
    (refine bodyPost_ret (v := .tuple #[.int .i64 0, .int .i64 15]) (by simp [results, Try.results19, go_sem]) rfl ?_)
    unfold pNum
    rw [HE.out, if_neg (by omega)]
    exact ⟨rfl, HG.out.trans (by (repeat (first | exact World.grows.refl _ | assumption | refine World.grows.alloc ?_ _ | refine World.grows.plus ?_ _ _ | refine World.grows.drew ?_)))⟩
end Go.Proofs.Yteingahlmlndkaa

/-
  What is proved: of what kind a pair is (33).
-/
namespace Go.Proofs.Yteingahlmlndkaa
open Go.RowKit
attribute [local irreducible] Go.wpCalm rowV
def pairN (A : Nat → Nat → Bool) (n x y : Nat) : Nat := if A x y = true ∧ nu A (less1 (less1 (belowN n) x) y) 16 + 1 = nu A (belowN n) 16 then (if nu (delE A x y) (belowN n) 16 < nu A (belowN n) 16 then 2 else 1) else 0
set_option maxRecDepth 100000 in
set_option maxHeartbeats 4000000 in
theorem pair_c (w : World) (v : Value) (s : Stk) (ht : StkAt w v s) (x y : Int) : Calls Try.prog 33 #[v, .int .i64 x, .int .i64 y] w fun e w' => e = .returned (.tuple #[.int .i64 (if twoE s x y = 0 then pairN s.adj s.nt x.toNat y.toNat else 0 : Nat), .int .i64 (twoE s x y : Nat)]) ∧ w.grows w' := by
  have Ht := Lib.hid ht
  obtain ⟨tv, mv, rfl, ⟨sa, sc, rfl, -⟩, ⟨va, vc, rfl, -⟩⟩ := ht
  have h45 := fun W (g : w.grows W) => two_c W _ s (Ht.out.mono g) x y
  have HE : Hid (twoE s x y = 0 → s.isT x = true ∧ s.isT y = true ∧ s.check = 0) := Lib.hid fun h => by
    unfold twoE at h
    by_cases hc : s.check = 0
    · rw [if_neg (by omega)] at h
      cases e : s.isT x && s.isT y with
      | false => rw [e] at h; cases h
      | true => simp only [Bool.and_eq_true] at e; exact ⟨e.1, e.2, hc⟩
    · rw [if_pos hc] at h; exact absurd h hc
  obtain ⟨R, hR⟩ : ∃ R : Nat, (if twoE s x y = 0 then pairN s.adj s.nt x.toNat y.toNat else 0) = R := ⟨_, rfl⟩
  have HR := Lib.hid hR
  rw [hR]
  obtain ⟨C, hC⟩ : ∃ C : Nat, twoE s x y = C := ⟨_, rfl⟩
  rw [hC] at HE HR ⊢
  simp only [hC] at h45
  clear hC hR
  go_enter Try.func33, Try.ntmps33
  go_wp2_with (go_at_call 99; fail)
  refine (h45 _ (by (repeat (first | exact World.grows.refl _ | assumption | refine World.grows.alloc ?_ _ | refine World.grows.plus ?_ _ _ | refine World.grows.drew ?_)))).mono ?_
  rintro e W1 ⟨g, h⟩
  have gW1 : w.grows W1 := World.grows.trans (by (repeat (first | exact World.grows.refl _ | assumption | refine World.grows.alloc ?_ _ | refine World.grows.plus ?_ _ _ | refine World.grows.drew ?_))) g
  clear g h45
  by_cases hc : C = 0
  · subst hc
    rw [if_pos rfl] at h
    obtain ⟨b, rfl, hlt, hB⟩ := h
    obtain ⟨h1, h2, h3⟩ := HE.out rfl
    obtain ⟨i, rfl, hi⟩ := Stk.isT_nat h1
    obtain ⟨k, rfl, hk⟩ := Stk.isT_nat h2
    have h16 := (s.ok_iff.1 h3).n16
    have hi16 : i < 16 := by omega
    have hk16 : k < 16 := by omega
    rw [if_pos rfl, show ((i : Nat) : Int).toNat = i from rfl, show ((k : Nat) : Int).toNat = k from rfl] at HR
    have HAs := Lib.hid s.adj_symm
    have HAi := Lib.hid s.adj_irr
    obtain ⟨NT, hNT⟩ : ∃ N, s.nt = N := ⟨_, rfl⟩
    obtain ⟨A, hA⟩ : ∃ A, s.adj = A := ⟨_, rfl⟩
    rw [hNT, hA] at hB HR
    rw [hNT] at h16
    rw [hA] at HAs HAi
    have hbw : w.heap.size ≤ b := by simp at hlt; omega
    clear h1 h2 h3 HE hi hk hlt Ht hA
    go_upto_region 4 with fail
    (iterate 7 go_step)
    refine wpList_step (fun K hK => ?_)
    go_simp
    refine (all_c _ b NT A (hB) h16).mono ?_
    rintro e V1 ⟨⟨L1, rfl, hLb1, hL1⟩, gV1⟩
    refine hK _ _ ?_
    clear hK K
    refine wpList_step (fun K hK => ?_)
    go_simp
    refine (best_nu _ b NT L1 A (belowN NT) (hB.grow gV1) hLb1 hL1 HAs.out (fun t h => by have := belowN_lt h; omega)).mono ?_
    rintro e X1 ⟨m1, rfl, -, gX1⟩
    refine hK _ _ ?_
    clear hK K
    iterate 4 (refine wpList_step (fun K hK => ?_); go_simp; refine hK _ _ ?_; clear hK K)
    rw [zero99]
    obtain ⟨z1, hz1⟩ : ∃ x, X1.heap.size = x := ⟨_, rfl⟩
    obtain ⟨Y1, hY1⟩ : ∃ Y, Y = X1.alloc (.cells (rowI 16 fun _ => 0) 99) := ⟨_, rfl⟩
    have e4 : Y1.heap[z1]? = some (.cells (rowI 16 fun _ => 0) 99) := by rw [hY1]; exact World.heap_at _ _ _ hz1.symm
    have g4 : W1.grows Y1 := by rw [hY1]; exact (gV1.trans gX1).trans (by (repeat (first | exact World.grows.refl _ | assumption | refine World.grows.alloc ?_ _ | refine World.grows.plus ?_ _ _ | refine World.grows.drew ?_)))
    rw [← hY1]
    simp only [hz1]
    obtain ⟨NU, hNU⟩ : ∃ N, nu A (belowN NT) 16 = N := ⟨_, rfl⟩
    have HNU := Lib.hid hNU
    simp only [hNU]
    refine wpList_store_row rfl 99 (.tmp 10) (.tmp 31) rfl z1 (rowI 16 fun _ => 0) (rowI 16 (mvI m1)) e4 (by rfl) (by rfl) (by rw [s99, rowI_size]) (by rw [rowI_size, rowI_size]) (rowI_one _ _) ?_
    have h13 : W1.heap.size ≤ z1 := by rw [← hz1]; exact (gV1.trans gX1).size
    have gW2 : W1.grows (Y1.putObj z1 (.cells (rowI 16 (mvI m1)) 99)) := World.putObj_grows g4 _ h13
    generalize Y1.putObj z1 (.cells (rowI 16 (mvI m1)) 99) = W2 at gW2 ⊢
    clear gX1 e4 g4 hY1 hNU h13 hz1
    go_upto_region 5 with fail
    (iterate 7 go_step)
    refine wpList_step (fun K hK => ?_)
    go_simp
    refine (all_c _ b NT A (hB.grow gW2) h16).mono ?_
    rintro e V2 ⟨⟨L2, rfl, hLb2, hL2⟩, gV2⟩
    refine hK _ _ ?_
    clear hK K
    (refine wpList_step (fun K hK => ?_); go_simp; refine hK _ _ ?_; clear hK K)
    refine wpList_step (fun K hK => ?_)
    go_simp
    refine (less_c _ L2 i hLb2 hi16).mono ?_
    rintro e V3 ⟨⟨L3, rfl, hLb3, hL3⟩, gV3⟩
    refine hK _ _ ?_
    clear hK K
    (refine wpList_step (fun K hK => ?_); go_simp; refine hK _ _ ?_; clear hK K)
    refine wpList_step (fun K hK => ?_)
    go_simp
    refine (less_c _ L3 k hLb3 hk16).mono ?_
    rintro e V4 ⟨⟨L4, rfl, hLb4, hL4⟩, gV4⟩
    refine hK _ _ ?_
    clear hK K
    rw [hL3, hL2] at hL4
    refine wpList_step (fun K hK => ?_)
    go_simp
    refine (best_nu _ b NT L4 A (less1 (less1 (belowN NT) i) k) ((hB.grow gW2).grow ((gV2.trans gV3).trans gV4)) hLb4 hL4 HAs.out (fun t h => by unfold less1 at h; simp only [Bool.and_eq_true] at h; have := belowN_lt h.1.1; omega)).mono ?_
    rintro e X4 ⟨m4, rfl, -, gX4⟩
    refine hK _ _ ?_
    clear hK K
    iterate 4 (refine wpList_step (fun K hK => ?_); go_simp; refine hK _ _ ?_; clear hK K)
    rw [zero99]
    obtain ⟨z4, hz4⟩ : ∃ x, X4.heap.size = x := ⟨_, rfl⟩
    obtain ⟨Y4, hY4⟩ : ∃ Y, Y = X4.alloc (.cells (rowI 16 fun _ => 0) 99) := ⟨_, rfl⟩
    have e4 : Y4.heap[z4]? = some (.cells (rowI 16 fun _ => 0) 99) := by rw [hY4]; exact World.heap_at _ _ _ hz4.symm
    have g4 : W2.grows Y4 := by rw [hY4]; exact (((gV2.trans gV3).trans gV4).trans gX4).trans (by (repeat (first | exact World.grows.refl _ | assumption | refine World.grows.alloc ?_ _ | refine World.grows.plus ?_ _ _ | refine World.grows.drew ?_)))
    rw [← hY4]
    simp only [hz4]
    obtain ⟨NL, hNL⟩ : ∃ N, nu A (less1 (less1 (belowN NT) i) k) 16 = N := ⟨_, rfl⟩
    have HNL := Lib.hid hNL
    simp only [hNL]
    refine wpList_store_row rfl 99 (.tmp 12) (.tmp 42) rfl z4 (rowI 16 fun _ => 0) (rowI 16 (mvI m4)) e4 (by rfl) (by rfl) (by rw [s99, rowI_size]) (by rw [rowI_size, rowI_size]) (rowI_one _ _) ?_
    have h13 : W2.heap.size ≤ z4 := by rw [← hz4]; exact (((gV2.trans gV3).trans gV4).trans gX4).size
    have gW3 : W2.grows (Y4.putObj z4 (.cells (rowI 16 (mvI m4)) 99)) := World.putObj_grows g4 _ h13
    generalize Y4.putObj z4 (.cells (rowI 16 (mvI m4)) 99) = W3 at gW3 ⊢
    clear gX4 e4 g4 hY4 hNL h13 hz4
    have HB3 := Lib.hid ((hB.grow gW2).grow gW3)
    have HW3 := Lib.hid ((gW1.trans gW2).trans gW3)
    clear gV1 gV2 gV3 gV4 gW1 gW2 gW3 hB hL1 hL2 hL3 hL4 hLb1 hLb2 hLb3 hLb4
    have hNU8 : 2 * NU ≤ 16 := by rw [← HNU.out]; exact nu_le HAs.out (fun t h => by have := belowN_lt h; omega)
    obtain ⟨ta, tc, mv', wide, F, hb1, hb2, hc1, hc2⟩ := HB3.out
    have hiI : (i : Int) < 16 := by omega
    have hkI : (k : Int) < 16 := by omega
    have cF := hb1.row hi16
    have h46 := fun W => has_c W (F i) k (hb2.lt i) hk16
    rw [hb2.bit i k] at h46
    cases hik : A i k with
    | false =>
      have HR0 : Hid (R = 0) := Lib.hid (by rw [← HR.out]; unfold pairN; rw [if_neg (by rw [hik]; simp)])
      rw [hik] at h46
      clear hb1 hb2 hik
      go_wp2_with (go_at_call 99; fail)
      refine (h46 _).mono ?_
      rintro e W4 ⟨rfl, g4⟩
      have HG := Lib.hid (HW3.out.trans g4)
      clear h46 g4 cF
      go_wp2
      (refine bodyPost_ret (v := .tuple #[.int .i64 0, .int .i64 0]) (by simp [results, Try.results33, go_sem]) rfl ?_)
      exact ⟨by rw [HR0.out]; rfl, HG.out.trans (by (repeat (first | exact World.grows.refl _ | assumption | refine World.grows.alloc ?_ _ | refine World.grows.plus ?_ _ _ | refine World.grows.drew ?_)))⟩
    | true =>
      have hik2 : i ≠ k := fun e => by rw [e, HAi.out] at hik; cases hik
      rw [hik] at h46
      by_cases hq : NL + 1 = NU
      · have hsub : (NU : Int) - 1 = ((NL : Nat) : Int) := by omega
        have hwr : IntKind.i64.wrap ((NL : Nat) : Int) = ((NL : Nat) : Int) := by rw [IntKind.wrap_i64]; omega
        have HR1 : Hid (R = if nu (delE A i k) (belowN NT) 16 < NU then 2 else 1) := Lib.hid (by rw [← HR.out]; unfold pairN; rw [if_pos ⟨hik, by rw [HNL.out, HNU.out]; exact hq⟩, HNU.out])
        have HB1 := Lib.hid hb1
        have HB2 := Lib.hid hb2
        have Hik := Lib.hid hik
        clear hik hq hb1 hb2
        go_wp2_with (go_at_call 99; fail)
        refine (h46 _).mono ?_
        rintro e W4 ⟨rfl, g4⟩
        have HG4 := Lib.hid (HW3.out.trans g4)
        have HBB4 := Lib.hid (HB1.out.grow g4)
        clear h46 g4 HB1 cF
        go_upto_region 8 with fail
        clear hsub hwr
        have cF := HBB4.out.row hi16
        have fz := HBB4.out.fz (3 + i)
        (refine wp_region_chain 12 [9] (by kernel_rfl) (by kernel_rfl) (by decide) ?_; simp only [without, only, withNo, List.take_succ_cons, List.take_zero, List.drop_succ_cons, List.drop_zero, List.take_nil, List.drop_nil, Nat.reduceAdd, Nat.reduceSub, List.filter, List.contains_cons, List.contains_nil, Nat.reduceBEq, Bool.or_false, Bool.false_or, Bool.true_or, Bool.or_true, Bool.or_self, Bool.not_true, Bool.not_false, List.map_cons, List.map_nil]; (repeat (refine wpCalm_step (fun K hK => ?_); go_simp; first | (refine hK _ ?_; clear hK K) | (apply Exists.intro; refine ⟨fun n' x' => ?_, hK _ ?_⟩; (fail); clear hK K))); refine wpCalm_nil ?_)
        (refine wpChain_step (fun K hK nc xc => ?_); go_simp)
        refine (less_c _ (F i) k (HB2.out.lt i) hk16).mono ?_
        rintro e W5 ⟨⟨Z1, rfl, l1, t1⟩, g5⟩
        refine ⟨_, rfl, g5, hK _ _ ?_⟩
        clear hK K
        (refine wpChain_nil (fun nc xc => ?_))
        have g6 : W4.grows (W5.plus nc xc) := World.grows.trans (World.grows_plus _ _ _) (g5.trans (World.grows_plus _ _ _))
        generalize W5.plus nc xc = W6 at g6 ⊢
        have hb6 := HBB4.out.grow g6
        have hs7 := hb6.set hi16 Z1
        have hg7 := (HG4.out.trans g6).setCell (p := ⟨b, 3 + i, none⟩) hbw (.int .u32 (Z1 : Nat))
        replace cF := hb6.row hi16
        replace fz := hb6.fz (3 + i)
        iterate 2 (refine wpList_step (fun K hK => ?_); go_simp; refine hK _ _ ?_; clear hK K)
        generalize W6.setCell ⟨b, 3 + i, none⟩ (.int .u32 (Z1 : Nat)) = W7 at hs7 hg7 ⊢
        clear g5 g6 hb6 cF fz HG4
        have HB7 := Lib.hid hs7
        have HG7 := Lib.hid hg7
        clear hs7 hg7
        have hFk : updN' F i Z1 k = F k := if_neg (Ne.symm hik2)
        go_upto_region 9 with fail
        have cF := HB7.out.row hk16
        have fz := HB7.out.fz (3 + k)
        rw [hFk] at cF
        (refine wp_region_chain 12 [9] (by kernel_rfl) (by kernel_rfl) (by decide) ?_; simp only [without, only, withNo, List.take_succ_cons, List.take_zero, List.drop_succ_cons, List.drop_zero, List.take_nil, List.drop_nil, Nat.reduceAdd, Nat.reduceSub, List.filter, List.contains_cons, List.contains_nil, Nat.reduceBEq, Bool.or_false, Bool.false_or, Bool.true_or, Bool.or_true, Bool.or_self, Bool.not_true, Bool.not_false, List.map_cons, List.map_nil]; (repeat (refine wpCalm_step (fun K hK => ?_); go_simp; first | (refine hK _ ?_; clear hK K) | (apply Exists.intro; refine ⟨fun n' x' => ?_, hK _ ?_⟩; (fail); clear hK K))); refine wpCalm_nil ?_)
        (refine wpChain_step (fun K hK nc xc => ?_); go_simp)
        refine (less_c _ (F k) i (HB2.out.lt k) hi16).mono ?_
        rintro e W8 ⟨⟨Z2, rfl, l2, t2⟩, g8⟩
        refine ⟨_, rfl, g8, hK _ _ ?_⟩
        clear hK K
        (refine wpChain_nil (fun nc xc => ?_))
        have g9 : W7.grows (W8.plus nc xc) := World.grows.trans (World.grows_plus _ _ _) (g8.trans (World.grows_plus _ _ _))
        generalize W8.plus nc xc = W9 at g9 ⊢
        have hb9 := HB7.out.grow g9
        have hs9 := hb9.set hk16 Z2
        have hg9 := (HG7.out.trans g9).setCell (p := ⟨b, 3 + k, none⟩) hbw (.int .u32 (Z2 : Nat))
        replace cF := hb9.row hk16
        replace fz := hb9.fz (3 + k)
        iterate 2 (refine wpList_step (fun K hK => ?_); go_simp; refine hK _ _ ?_; clear hK K)
        generalize W9.setCell ⟨b, 3 + k, none⟩ (.int .u32 (Z2 : Nat)) = W91 at hs9 hg9 ⊢
        clear g8 g9 hb9 cF fz HG7 HB7
        have HGD := Lib.hid hg9
        have HBD : Hid (BenchOf W91 b NT (delE A i k)) := Lib.hid ⟨ta, tc, mv', wide, _, hs9, ⟨fun a => by
          unfold updN'
          split
          · exact l2
          · split
            · exact l1
            · exact HB2.out.lt a, fun a c => by
          unfold updN' delE
          by_cases e1 : a = k
          · subst e1
            rw [if_pos rfl, t2]
            unfold less1
            rw [HB2.out.bit]
            have : (a == i) = false := by rw [beq_eq_false_iff_ne]; exact Ne.symm hik2
            simp [this]
          · rw [if_neg e1]
            by_cases e2 : a = i
            · subst e2
              rw [if_pos rfl, t1]
              unfold less1
              rw [HB2.out.bit]
              have : (a == k) = false := by rw [beq_eq_false_iff_ne]; exact hik2
              simp [this]
            · rw [if_neg e2, HB2.out.bit]
              simp [e1, e2]⟩, hc1, hc2⟩
        clear hs9 hg9 t1 t2
        go_upto_region 10 with fail
        (iterate 7 go_step)
        refine wpList_step (fun K hK => ?_)
        go_simp
        refine (all_c _ b NT (delE A i k) HBD.out h16).mono ?_
        rintro e V1 ⟨⟨L1, rfl, hLb1, hL1⟩, gV1⟩
        refine hK _ _ ?_
        clear hK K
        refine wpList_step (fun K hK => ?_)
        go_simp
        refine (best_nu _ b NT L1 (delE A i k) (belowN NT) (HBD.out.grow gV1) hLb1 hL1 (delE_symm HAs.out i k) (fun t h => by have := belowN_lt h; omega)).mono ?_
        rintro e X1 ⟨m1, rfl, -, gX1⟩
        refine hK _ _ ?_
        clear hK K
        iterate 4 (refine wpList_step (fun K hK => ?_); go_simp; refine hK _ _ ?_; clear hK K)
        rw [zero99]
        obtain ⟨z1, hz1⟩ : ∃ x, X1.heap.size = x := ⟨_, rfl⟩
        obtain ⟨Y1, hY1⟩ : ∃ Y, Y = X1.alloc (.cells (rowI 16 fun _ => 0) 99) := ⟨_, rfl⟩
        have e4 : Y1.heap[z1]? = some (.cells (rowI 16 fun _ => 0) 99) := by rw [hY1]; exact World.heap_at _ _ _ hz1.symm
        have g4 : w.grows Y1 := by rw [hY1]; exact ((HGD.out.trans gV1).trans gX1).trans (by (repeat (first | exact World.grows.refl _ | assumption | refine World.grows.alloc ?_ _ | refine World.grows.plus ?_ _ _ | refine World.grows.drew ?_)))
        rw [← hY1]
        simp only [hz1]
        obtain ⟨ND, hND⟩ : ∃ N, nu (delE A i k) (belowN NT) 16 = N := ⟨_, rfl⟩
        have HND := Lib.hid hND
        simp only [hND]
        refine wpList_store_row rfl 99 (.tmp 14) (.tmp 90) rfl z1 (rowI 16 fun _ => 0) (rowI 16 (mvI m1)) e4 (by rfl) (by rfl) (by rw [s99, rowI_size]) (by rw [rowI_size, rowI_size]) (rowI_one _ _) ?_
        have h13 : w.heap.size ≤ z1 := by rw [← hz1]; exact ((HGD.out.trans gV1).trans gX1).size
        have HGF := Lib.hid (World.putObj_grows g4 (.cells (rowI 16 (mvI m1)) 99) h13)
        generalize Y1.putObj z1 (.cells (rowI 16 (mvI m1)) 99) = W10 at HGF ⊢
        rw [hND] at HR1
        clear gX1 gV1 e4 g4 hY1 hND h13 hz1
        by_cases hlt : ND < NU
        · have hltI : ((ND : Nat) : Int) < ((NU : Nat) : Int) := by omega
          have HRF : Hid (R = 2) := Lib.hid (by rw [HR1.out, if_pos hlt])
          go_wp2
          (refine bodyPost_ret (v := .tuple #[.int .i64 2, .int .i64 0]) (by simp [results, Try.results33, go_sem]) rfl ?_)
          exact ⟨by rw [HRF.out]; rfl, HGF.out.trans (by (repeat (first | exact World.grows.refl _ | assumption | refine World.grows.alloc ?_ _ | refine World.grows.plus ?_ _ _ | refine World.grows.drew ?_)))⟩
        · have hltI : ¬ ((ND : Nat) : Int) < ((NU : Nat) : Int) := by omega
          have HRF : Hid (R = 1) := Lib.hid (by rw [HR1.out, if_neg hlt])
          go_wp2
          (refine bodyPost_ret (v := .tuple #[.int .i64 1, .int .i64 0]) (by simp [results, Try.results33, go_sem]) rfl ?_)
          exact ⟨by rw [HRF.out]; rfl, HGF.out.trans (by (repeat (first | exact World.grows.refl _ | assumption | refine World.grows.alloc ?_ _ | refine World.grows.plus ?_ _ _ | refine World.grows.drew ?_)))⟩
      · obtain ⟨DD, hDD⟩ : ∃ D : Int, (NU : Int) - 1 = D := ⟨_, rfl⟩
        have hwr : IntKind.i64.wrap DD = DD := by rw [IntKind.wrap_i64]; omega
        have hne : (((NL : Nat) : Int) == DD) = false := by rw [beq_eq_false_iff_ne]; omega
        have HR0 : Hid (R = 0) := Lib.hid (by rw [← HR.out]; unfold pairN; rw [if_neg (by rw [HNL.out, HNU.out]; exact fun h => hq h.2)])
        clear hb1 hb2 hik hq
        go_wp2_with (go_at_call 99; fail)
        refine (h46 _).mono ?_
        rintro e W4 ⟨rfl, g4⟩
        have HG := Lib.hid (HW3.out.trans g4)
        clear h46 g4 cF
        go_wp2
        (refine bodyPost_ret (v := .tuple #[.int .i64 0, .int .i64 0]) (by simp [results, Try.results33, go_sem]) rfl ?_)
        exact ⟨by rw [HR0.out]; rfl, HG.out.trans (by (repeat (first | exact World.grows.refl _ | assumption | refine World.grows.alloc ?_ _ | refine World.grows.plus ?_ _ _ | refine World.grows.drew ?_)))⟩
  · rw [if_neg hc] at h
    subst h
    have hc0 : ¬ (C : Int) = 0 := by omega
    rw [if_neg hc] at HR
    clear HE
    go_wp2
    (refine bodyPost_ret (v := .tuple #[.int .i64 0, .int .i64 (C : Nat)]) (by simp [results, Try.results33, go_sem]) rfl ?_)
    exact ⟨by rw [← HR.out]; rfl, gW1.trans (by (repeat (first | exact World.grows.refl _ | assumption | refine World.grows.alloc ?_ _ | refine World.grows.plus ?_ _ _ | refine World.grows.drew ?_)))⟩
end Go.Proofs.Yteingahlmlndkaa

/-
  What is proved: of what kind each thing is (32).
-/
namespace Go.Proofs.Yteingahlmlndkaa
open Go.RowKit
attribute [local irreducible] Go.wpCalm rowV
open Classical in
noncomputable def kindN (A : Nat → Nat → Bool) (n t : Nat) : Nat := if ∀ k, A t k = false then 0 else if Spare A (belowN n) 16 t then 1 else 2
theorem kindN_0 {A : Nat → Nat → Bool} {n t : Nat} (h : ∀ k, A t k = false) : kindN A n t = 0 := if_pos h
theorem kindN_1 {A : Nat → Nat → Bool} {n t : Nat} (h : ¬ ∀ k, A t k = false) (h1 : Spare A (belowN n) 16 t) : kindN A n t = 1 := by unfold kindN; rw [if_neg h, if_pos h1]
theorem kindN_2 {A : Nat → Nat → Bool} {n t : Nat} (h : ¬ ∀ k, A t k = false) (h1 : ¬ Spare A (belowN n) 16 t) : kindN A n t = 2 := by unfold kindN; rw [if_neg h, if_neg h1]
theorem bits_none {F : Nat} : F = 0 ↔ ∀ k, F.testBit k = false :=
  ⟨fun h k => by rw [h]; simp, fun h => Nat.eq_of_testBit_eq fun i => by rw [h i]; simp⟩
set_option maxRecDepth 100000 in
set_option maxHeartbeats 4000000 in
theorem kinds_ok (w : World) (v : Value) (s : Stk) (ht : StkAt w v s) (hok : s.Ok) : Calls Try.prog 32 #[v] w fun e w' => ∃ u, e = .returned (.tuple #[u, .int .i64 0]) ∧ ListAt w' u ((List.range s.nt).map (kindN s.adj s.nt)) ∧ w.grows w' := by
  have Ht := Lib.hid ht
  obtain ⟨tv, mv, rfl, ⟨sa, sc, rfl, s1, s2, -⟩, ⟨va, vc, rfl, -⟩⟩ := ht
  have h47 := fun W (g : w.grows W) => open_ok W _ s (Ht.out.mono g) hok
  have HAs := Lib.hid s.adj_symm
  have h16 := hok.n16
  obtain ⟨NT, hNT⟩ : ∃ N, s.nt = N := ⟨_, rfl⟩
  obtain ⟨A, hA⟩ : ∃ A, s.adj = A := ⟨_, rfl⟩
  obtain ⟨NM, hNM⟩ : ∃ N, s.nm = N := ⟨_, rfl⟩
  rw [hNT, hA, hNM] at h47
  rw [hNT, hA]
  rw [hNT] at h16 s1
  rw [hA] at HAs
  rw [hNT, hNM] at Ht
  clear hNT hA hok
  rw [hNM]
  clear hNM
  unfold maxLen at s2
  go_enter Try.func32, Try.ntmps32
  go_wp2_with (go_at_call 99; fail)
  refine (h47 _ (by (repeat (first | exact World.grows.refl _ | assumption | refine World.grows.alloc ?_ _ | refine World.grows.plus ?_ _ _ | refine World.grows.drew ?_)))).mono ?_
  rintro e W1 ⟨b, rfl, g1, hlt, hB⟩
  have gW1 : w.grows W1 := World.grows.trans (by (repeat (first | exact World.grows.refl _ | assumption | refine World.grows.alloc ?_ _ | refine World.grows.plus ?_ _ _ | refine World.grows.drew ?_))) g1
  have bx : W1.cell? ⟨w.heap.size, 0, none⟩ = some (.slice sa NT sc) := g1.cell_of (cell_of_heap (World.heap_at w _ _ rfl) rfl)
  clear h47
  go_wp2_with (go_at_call 99; fail)
  refine (spare_c _ b NT A (hB.grow (by (repeat (first | exact World.grows.refl _ | assumption | refine World.grows.alloc ?_ _ | refine World.grows.plus ?_ _ _ | refine World.grows.drew ?_)))) h16 HAs.out).mono ?_
  rintro e W2 ⟨Z, rfl, hZ, hZs, g2⟩
  have gW2 : W1.grows W2 := World.grows.trans (by (repeat (first | exact World.grows.refl _ | assumption | refine World.grows.alloc ?_ _ | refine World.grows.plus ?_ _ _ | refine World.grows.drew ?_))) g2
  have HB2 := Lib.hid (hB.grow gW2)
  have HW2 := Lib.hid (gW1.trans gW2)
  have HZs := Lib.hid hZs
  replace bx := gW2.cell_of bx
  clear g1 hB gW1 g2 gW2 hZs hlt
  go_wp2
  clear bx
  go_loopw [7, 23] (fun l i wr => ∃ k : Nat, k ≤ NT ∧ i = .int .i64 (k : Nat) ∧ Hid (wr.ownsRow W2.heap.size 3 1 l k (ilist ((List.range k).map (kindN A NT)))) ∧ Hid (W2.grows wr)) (fun _ i _ => NT - (intOf i).toNat)
  case atStart => exact ⟨0, by omega, rfl, Lib.hid (World.ownsRow_nil _ _ _ _), Lib.hid (World.grows.refl _)⟩
  case round =>
    obtain ⟨k, hk, rfl, ho, hg⟩ := hrel
    obtain ⟨la, lc, rfl, -, -⟩ := row_form ho.out
    by_cases hlt : k < NT
    · have hkI : (k : Int) < NT := by omega
      have hk16 : k < 16 := by omega
      have hk16I : (k : Int) < 16 := by omega
      obtain ⟨ta, tc, mv', wide, F, hb1, hb2, -, -⟩ := HB2.out.grow hg.out
      have cF := hb1.row hk16
      have hF := hb2.bit k
      have hF0 : F k = 0 ↔ ∀ j, A k j = false := by
        rw [bits_none]
        constructor
        · intro h j; rw [← hF]; exact h j
        · intro h j; rw [hF]; exact h j
      have HF0 := Lib.hid hF0
      have hsnoc : (List.range (k + 1)).map (kindN A NT) = (List.range k).map (kindN A NT) ++ [kindN A NT k] := by rw [List.range_succ, List.map_append]; rfl
      have HSN := Lib.hid hsnoc
      have hwr := hg.out.size
      clear hb1 hb2 hF hF0 hsnoc
      by_cases hz : F k = 0
      · have HK := Lib.hid (kindN_0 (n := NT) (HF0.out.1 hz))
        rw [hz] at cF
        clear hz HF0
        go_upto_region 14 with fail
        clear cF
        (iterate 10 go_step); have ho7 := World.ownsRow.grow ho.out (show World.grows wr (World.alloc wr (.cells #[.int .i64 0] 3)) by (repeat (first | exact World.grows.refl _ | assumption | refine World.grows.alloc ?_ _ | refine World.grows.plus ?_ _ _ | refine World.grows.drew ?_))); refine wpList_append_r _ rfl (.tmp 38) (.tmp 40) 26 (by rfl) W2.heap.size 3 (.int .i64 0) 1 8 Try.underlying26 el3 (by rfl) (by omega) (.slice la k lc) k _ (by rfl) ho7 (.slice (some ⟨(wr).heap.size, 0, none⟩) 1 1) (by rfl) 1 _ (SliceAt.src (by omega) (one_slice _ _ _ _ (by simp))) (one_cell _) (by unfold maxLen; omega) (by omega) (by simp; omega) ?_; intro v' w3 hown hgb; have hO3 := Lib.hid (World.grownBy.grows hgb ho7 (World.grows.trans hg.out (show World.grows wr (World.alloc wr (.cells #[.int .i64 0] 3)) by (repeat (first | exact World.grows.refl _ | assumption | refine World.grows.alloc ?_ _ | refine World.grows.plus ?_ _ _ | refine World.grows.drew ?_)))) (Nat.le_refl _)); have ho8 : Hid (w3.ownsRow W2.heap.size 3 1 v' (k + 1) (ilist ((List.range (k + 1)).map (kindN A NT)))) := Lib.hid (by rw [HSN.out, ilist_snoc, HK.out]; rw [tableL_one] at hown; exact hown); obtain ⟨la2, lc2, rfl, -, -⟩ := row_form hown; clear hown hgb ho7
        go_wp2
        case roundEnd => exact ⟨⟨k + 1, by omega, by go_num, ho8, hO3⟩, by simp [intOf]; omega⟩
      · have hzI : (((F k : Nat) : Int) == 0) = false := by rw [beq_eq_false_iff_ne]; omega
        have hzN : ¬ ∀ j, A k j = false := fun h => hz (HF0.out.2 h)
        have h46 := fun W => has_c W Z k hZ hk16
        by_cases hsp : Spare A (belowN NT) 16 k
        · rw [(HZs.out k).2 hsp] at h46
          have HK := Lib.hid (kindN_1 hzN hsp)
          clear hz hzN hsp HF0
          go_wp2_with (go_at_call 99; fail)
          refine (h46 _).mono ?_
          rintro e W3 ⟨rfl, g3⟩
          have ho3 := Lib.hid (ho.out.grow g3)
          have hg3 := Lib.hid (hg.out.trans g3)
          have hwr3 := g3.size
          clear h46 cF ho hg g3
          go_upto_region 14 with fail
          (iterate 10 go_step); have ho7 := World.ownsRow.grow ho3.out (show World.grows W3 (World.alloc W3 (.cells #[.int .i64 1] 3)) by (repeat (first | exact World.grows.refl _ | assumption | refine World.grows.alloc ?_ _ | refine World.grows.plus ?_ _ _ | refine World.grows.drew ?_))); refine wpList_append_r _ rfl (.tmp 38) (.tmp 40) 26 (by rfl) W2.heap.size 3 (.int .i64 0) 1 8 Try.underlying26 el3 (by rfl) (by omega) (.slice la k lc) k _ (by rfl) ho7 (.slice (some ⟨(W3).heap.size, 0, none⟩) 1 1) (by rfl) 1 _ (SliceAt.src (by omega) (one_slice _ _ _ _ (by simp))) (one_cell _) (by unfold maxLen; omega) (by omega) (by simp; omega) ?_; intro v' w3 hown hgb; have hO3 := Lib.hid (World.grownBy.grows hgb ho7 (World.grows.trans hg3.out (show World.grows W3 (World.alloc W3 (.cells #[.int .i64 1] 3)) by (repeat (first | exact World.grows.refl _ | assumption | refine World.grows.alloc ?_ _ | refine World.grows.plus ?_ _ _ | refine World.grows.drew ?_)))) (Nat.le_refl _)); have ho8 : Hid (w3.ownsRow W2.heap.size 3 1 v' (k + 1) (ilist ((List.range (k + 1)).map (kindN A NT)))) := Lib.hid (by rw [HSN.out, ilist_snoc, HK.out]; rw [tableL_one] at hown; exact hown); obtain ⟨la2, lc2, rfl, -, -⟩ := row_form hown; clear hown hgb ho7
          go_wp2
          case roundEnd => exact ⟨⟨k + 1, by omega, by go_num, ho8, hO3⟩, by simp [intOf]; omega⟩
        · rw [show Z.testBit k = false by cases e : Z.testBit k with | false => rfl | true => exact absurd ((HZs.out k).1 e) hsp] at h46
          have HK := Lib.hid (kindN_2 hzN hsp)
          clear hz hzN hsp HF0
          go_wp2_with (go_at_call 99; fail)
          refine (h46 _).mono ?_
          rintro e W3 ⟨rfl, g3⟩
          have ho3 := Lib.hid (ho.out.grow g3)
          have hg3 := Lib.hid (hg.out.trans g3)
          have hwr3 := g3.size
          clear h46 cF ho hg g3
          go_upto_region 14 with fail
          (iterate 10 go_step); have ho7 := World.ownsRow.grow ho3.out (show World.grows W3 (World.alloc W3 (.cells #[.int .i64 2] 3)) by (repeat (first | exact World.grows.refl _ | assumption | refine World.grows.alloc ?_ _ | refine World.grows.plus ?_ _ _ | refine World.grows.drew ?_))); refine wpList_append_r _ rfl (.tmp 38) (.tmp 40) 26 (by rfl) W2.heap.size 3 (.int .i64 0) 1 8 Try.underlying26 el3 (by rfl) (by omega) (.slice la k lc) k _ (by rfl) ho7 (.slice (some ⟨(W3).heap.size, 0, none⟩) 1 1) (by rfl) 1 _ (SliceAt.src (by omega) (one_slice _ _ _ _ (by simp))) (one_cell _) (by unfold maxLen; omega) (by omega) (by simp; omega) ?_; intro v' w3 hown hgb; have hO3 := Lib.hid (World.grownBy.grows hgb ho7 (World.grows.trans hg3.out (show World.grows W3 (World.alloc W3 (.cells #[.int .i64 2] 3)) by (repeat (first | exact World.grows.refl _ | assumption | refine World.grows.alloc ?_ _ | refine World.grows.plus ?_ _ _ | refine World.grows.drew ?_)))) (Nat.le_refl _)); have ho8 : Hid (w3.ownsRow W2.heap.size 3 1 v' (k + 1) (ilist ((List.range (k + 1)).map (kindN A NT)))) := Lib.hid (by rw [HSN.out, ilist_snoc, HK.out]; rw [tableL_one] at hown; exact hown); obtain ⟨la2, lc2, rfl, -, -⟩ := row_form hown; clear hown hgb ho7
          go_wp2
          case roundEnd => exact ⟨⟨k + 1, by omega, by go_num, ho8, hO3⟩, by simp [intOf]; omega⟩
    · have hke : k = NT := by omega
      subst hke
      have HL := Lib.hid (ho.out.listAt (by simp))
      have HG := Lib.hid (HW2.out.trans hg.out)
      clear ho hlt hk
      go_wp2
      (refine bodyPost_ret (v := .tuple #[.slice la k lc, .int .i64 0]) (by simp [results, Try.results32, go_sem]) rfl ?_)
      exact ⟨_, rfl, HL.out, HG.out⟩
end Go.Proofs.Yteingahlmlndkaa

/-
  What is proved: a best pairing (27).
-/
namespace Go.Proofs.Yteingahlmlndkaa
open Go.RowKit
attribute [local irreducible] Go.wpCalm rowV
set_option maxRecDepth 100000 in
set_option maxHeartbeats 4000000 in
theorem bestF_ok (w : World) (v : Value) (s : Stk) (ht : StkAt w v s) (hok : s.Ok) : Calls Try.prog 27 #[v] w fun e w' => ∃ u m, e = .returned (.tuple #[u, .int .i64 (nu s.adj (belowN s.nt) 16 : Nat), .int .i64 0]) ∧ Mx s.adj (belowN s.nt) 16 m ∧ IntsAt w' u s.nt (mvI m) ∧ w.grows w' := by
  have Ht := Lib.hid ht
  obtain ⟨tv, mv, rfl, ⟨sa, sc, rfl, s1, s2, -⟩, ⟨va, vc, rfl, -⟩⟩ := ht
  have h47 := fun W (g : w.grows W) => open_ok W _ s (Ht.out.mono g) hok
  have HAs := Lib.hid s.adj_symm
  have h16 := hok.n16
  obtain ⟨NT, hNT⟩ : ∃ N, s.nt = N := ⟨_, rfl⟩
  obtain ⟨A, hA⟩ : ∃ A, s.adj = A := ⟨_, rfl⟩
  obtain ⟨NM, hNM⟩ : ∃ N, s.nm = N := ⟨_, rfl⟩
  rw [hNT, hA, hNM] at h47
  rw [hNT, hA]
  rw [hNT] at h16 s1
  rw [hA] at HAs
  rw [hNT, hNM] at Ht
  clear hNT hA hok
  rw [hNM]
  clear hNM
  unfold maxLen at s2
  go_enter Try.func27, Try.ntmps27
  go_wp2_with (go_at_call 99; fail)
  refine (h47 _ (by (repeat (first | exact World.grows.refl _ | assumption | refine World.grows.alloc ?_ _ | refine World.grows.plus ?_ _ _ | refine World.grows.drew ?_)))).mono ?_
  rintro e W1 ⟨b, rfl, g1, hlt, hB⟩
  have gW1 : w.grows W1 := World.grows.trans (by (repeat (first | exact World.grows.refl _ | assumption | refine World.grows.alloc ?_ _ | refine World.grows.plus ?_ _ _ | refine World.grows.drew ?_))) g1
  have bx : W1.cell? ⟨w.heap.size, 0, none⟩ = some (.slice sa NT sc) := g1.cell_of (cell_of_heap (World.heap_at w _ _ rfl) rfl)
  clear h47
  go_upto_region 4 with fail
  (iterate 7 go_step)
  refine wpList_step (fun K hK => ?_)
  go_simp
  refine (all_c _ b NT A hB h16).mono ?_
  rintro e W2 ⟨⟨L, rfl, hLb, hL⟩, g2⟩
  refine hK _ _ ?_
  clear hK K
  refine wpList_step (fun K hK => ?_)
  go_simp
  refine (best_nu _ b NT L A (belowN NT) (hB.grow g2) hLb hL HAs.out (fun t h => by have := belowN_lt h; omega)).mono ?_
  rintro e W3 ⟨m, rfl, hM, g3⟩
  refine hK _ _ ?_
  clear hK K
  iterate 4 (refine wpList_step (fun K hK => ?_); go_simp; refine hK _ _ ?_; clear hK K)
  rw [zero99]
  obtain ⟨x7, hx7⟩ : ∃ x, W3.heap.size = x := ⟨_, rfl⟩
  obtain ⟨W4, hW4⟩ : ∃ W4, W4 = W3.alloc (.cells (rowI 16 fun _ => 0) 99) := ⟨_, rfl⟩
  have e4 : W4.heap[x7]? = some (.cells (rowI 16 fun _ => 0) 99) := by rw [hW4]; exact World.heap_at _ _ _ hx7.symm
  have g4 : W1.grows W4 := by rw [hW4]; exact (g2.trans g3).trans (by (repeat (first | exact World.grows.refl _ | assumption | refine World.grows.alloc ?_ _ | refine World.grows.plus ?_ _ _ | refine World.grows.drew ?_)))
  rw [← hW4]
  simp only [hx7]
  obtain ⟨NU, hNU⟩ : ∃ N, nu A (belowN NT) 16 = N := ⟨_, rfl⟩
  have HNU := Lib.hid hNU
  simp only [hNU]
  refine wpList_store_row rfl 99 (.tmp 7) (.tmp 23) rfl x7 (rowI 16 fun _ => 0) (rowI 16 (mvI m)) e4 (by rfl) (by rfl) (by rw [s99, rowI_size]) (by rw [rowI_size, rowI_size]) (rowI_one _ _) ?_
  have h13 : W1.heap.size ≤ x7 := by rw [← hx7]; exact (g2.trans g3).size
  have g5 : W1.grows (W4.putObj x7 (.cells (rowI 16 (mvI m)) 99)) := World.putObj_grows g4 _ h13
  have e5 : (W4.putObj x7 (.cells (rowI 16 (mvI m)) 99)).heap[x7]? = some (.cells (rowI 16 (mvI m)) 99) := World.putObj_heap_same (World.lt_of_block e4)
  generalize W4.putObj x7 (.cells (rowI 16 (mvI m)) 99) = W5 at g5 e5 ⊢
  have HW5 := Lib.hid (gW1.trans g5)
  have HE5 := Lib.hid e5
  have HM := Lib.hid hM
  replace bx := g5.cell_of bx
  have hmk := fun W => run_make_rowI (P := Try.prog) W 26 3 8 Try.underlying26 el3 NT (by omega) (by omega)
  clear g1 g2 g3 g4 g5 e4 e5 hW4 hM hNU h13 hlt hB gW1
  go_upto_region 6 with fail
  have hE7 : Hid ((W5.alloc (.cells (rowI NT fun _ => 0) 3)).heap[x7]? = some (.cells (rowI 16 (mvI m)) 99)) := Lib.hid (World.grows.heap_of (by (repeat (first | exact World.grows.refl _ | assumption | refine World.grows.alloc ?_ _ | refine World.grows.plus ?_ _ _ | refine World.grows.drew ?_))) HE5.out)
  have hE6 : Hid ((W5.alloc (.cells (rowI NT fun _ => 0) 3)).heap[W5.heap.size]? = some (.cells (rowI NT fun _ => 0) 3)) := Lib.hid (World.heap_at _ _ _ rfl)
  have HW6 : Hid (w.grows (W5.alloc (.cells (rowI NT fun _ => 0) 3))) := Lib.hid (World.grows.alloc HW5.out _)
  obtain ⟨x9, hx9⟩ : ∃ x, W5.heap.size = x := ⟨_, rfl⟩
  have hx9w : w.heap.size ≤ x9 := by rw [← hx9]; exact HW5.out.size
  simp only [hx9] at hE6 ⊢
  generalize W5.alloc (.cells (rowI NT fun _ => 0) 3) = W6 at hE7 hE6 HW6 ⊢
  clear bx hmk HW5 HE5
  obtain ⟨cs, hcs⟩ : ∃ cs, (List.range NT).map (fun i => Value.int .i64 (mvI m i)) = cs := ⟨_, rfl⟩
  have hcl : cs.length = NT := by rw [← hcs]; simp
  have hcr : cs.toArray = rowI NT (mvI m) := by rw [← hcs]; rfl
  (iterate 7 go_step)
  refine wpList_copy_own rfl (.tmp 29) (.tmp 30) 26 26 rfl 3 Try.underlying26 (by kernel_rfl) x9 0 NT NT ⟨x7, 0, none⟩ 16 16 (by rfl) (by rfl) (rowI NT fun _ => 0) 3 hE6.out cs (by rw [hcl]; exact (Nat.min_eq_right h16).symm) (fun j v hj => ?_) (by rw [hcl, rowI_size]; omega) (fun v hv => ?_) ?_
  · rw [← hcs, List.getElem?_map] at hj
    cases hr : (List.range NT)[j]? with
    | none => rw [hr] at hj; cases hj
    | some k =>
      obtain ⟨h1, h2⟩ := List.getElem?_eq_some_iff.1 hr
      rw [hr] at hj
      simp at h1 h2 hj
      subst h2
      rw [add_plain, Nat.zero_add, ← hj]
      exact rowI_cell hE7.out (by omega)
  · rw [← hcs] at hv
    obtain ⟨i, -, rfl⟩ := List.mem_map.1 hv
    rfl
  have e9 : (W6.setRow x9 ((rowI NT fun _ => 0).toList.take 0 ++ (cs ++ (rowI NT fun _ => 0).toList.drop (0 + cs.length))).toArray) = W6.putObj x9 (.cells (rowI NT (mvI m)) 3) := by
    rw [setRow_put hE6.out, ← hcr]
    congr 2
    simp [hcl, rowI_size]
  rw [e9]
  have HI : Hid (IntsAt (W6.putObj x9 (.cells (rowI NT (mvI m)) 3)) (.slice (some ⟨x9, 0, none⟩) NT NT) NT (mvI m)) := Lib.hid (rowI_ints (World.putObj_heap_same (World.lt_of_block hE6.out)) (by unfold maxLen; omega))
  have HG : Hid (w.grows (W6.putObj x9 (.cells (rowI NT (mvI m)) 3))) := Lib.hid (World.putObj_grows HW6.out _ hx9w)
  generalize W6.putObj x9 (.cells (rowI NT (mvI m)) 3) = W7 at HI HG ⊢
  clear e9 hE6 hE7 HW6 hcs hcr
  go_wp2
  (refine bodyPost_ret (v := .tuple #[.slice (some ⟨x9, 0, none⟩) NT NT, .int .i64 (NU : Nat), .int .i64 0]) (by simp [results, Try.results27, go_sem]) rfl ?_)
  exact ⟨_, m, by rw [HNU.out], HM.out, HI.out, HG.out⟩
end Go.Proofs.Yteingahlmlndkaa

/-
  What is proved: a best cut (28).
-/
namespace Go.Proofs.Yteingahlmlndkaa
open Go.RowKit
attribute [local irreducible] Go.wpCalm rowV
attribute [local go_sem] Oper.semAt_some
section
variable {w U U' : World} {sb x6 : Nat} {P : List (Nat × Obj)} {ds : List Deferred} {wt : List Nat} {wv : Value}
theorem WyS.app2 {wt' : List Nat} {wv' : Value} (h : WyS w sb x6 P ds wt wv U) (hq : QAt U' w.heap.size 3 wv' (ilist wt')) (g : U.grownBy U' (vblk wv)) (hv : vblk wv' = vblk wv ∨ vblk wv' = none ∨ ∃ b, vblk wv' = some b ∧ U.heap.size ≤ b) (hk : ∀ (k : Nat) (o : Obj), U.heap[k]? = some o → (∀ c fr, o ≠ Obj.cells c 3 fr) → U'.heap[k]? = some o) :
    WyS w sb x6 P ds wt' wv' (U'.setCell ⟨x6, 0, none⟩ wv') := by
  have h1 := World.lt_of_block h.x6h
  have h2 := h.sbb
  have h3 := h.x6b
  have hbl : ∀ b, vblk wv = some b → w.heap.size ≤ b := fun b hb => (h.qu.blk hb).1
  have keep : ∀ k o, U.heap[k]? = some o → vblk wv ≠ some k → U'.heap[k]? = some o := fun k o ho hne => by
    rw [g.block k (World.lt_of_block ho) (fun e => hne e.symm)]; exact ho
  have hne : ∀ k, k < U.heap.size → vblk wv ≠ some k → vblk wv' ≠ some k := fun k hk hn e => by
    rcases hv with hv | hv | ⟨b, hv, hb⟩
    · exact hn (hv.symm.trans e)
    · rw [hv] at e; cases e
    · rw [hv] at e
      have : b = k := Option.some.inj e
      omega
  have only' : Only sb w U' := ⟨Nat.le_trans h.only.size g.size, fun k o hks ho => keep k o (h.only.other k o hks ho) (fun e => by have := hbl k e; have := World.lt_of_block ho; omega), fun w0 g0 hw0 => by
    have g1 := h.only.grows w0 g0 hw0
    exact ⟨g.os.trans g1.os, g.tape.trans g1.tape, g.output.trans g1.output, Nat.le_trans g1.size g.size, fun k hk => by
      rw [g.block k (Nat.lt_of_lt_of_le hk g1.size) (fun e => by have := hbl k e.symm; omega)]; exact g1.block k hk⟩⟩
  have h6' := keep x6 _ h.x6h h.q6
  refine ⟨only'.setx h.x6b _, h.x6b, h.sbb, store_of_heap h6' 0 _, ?_, hne _ h1 h.q6, fun y hy => ?_, h.n1, fun y hy => hne _ (World.lt_of_block (h.at_ y hy)) (h.n2 y hy), Marks.setCell (h.ms.keep fun D hD => hk D _ hD (fun c fr e => by cases e))⟩
  · refine hq.keep (by simp) fun c hc _ => World.heap_setCell_map _ _ _ _ ?_
    have := hne _ h1 h.q6
    rw [hc] at this
    exact fun e => this (by rw [← e])
  · rw [World.heap_setCell_map _ _ _ _ (fun e => (h.n1 y hy).2 e.symm)]
    exact keep _ _ (h.at_ y hy) (h.n2 y hy)
theorem _root_.Go.QAt.listAt {W : World} {base : Nat} {v : Value} {L : List Nat} (h : QAt W base 3 v (ilist L)) : ListAt W v L := by
  obtain ⟨A, cap, rfl, h1, h2⟩ := h.form
  rw [ilist_len] at h h1 ⊢
  refine ⟨A, cap, rfl, h1, h2, fun i j hi hj => ?_⟩
  have hj0 : j = 0 := by omega
  subst hj0
  obtain ⟨b, o, e1, e2⟩ := h.get (ilist_get L hi)
  exact ⟨b, o, e1, by rw [Nat.mul_one, Nat.add_zero]; exact e2⟩
end
theorem ListAt.sub {w w' : World} {v : Value} {L : List Nat} (h : ListAt w v L) (g : w.cellsub w') : ListAt w' v L := by
  obtain ⟨a, cap, h1, h2, h3, h4⟩ := h
  exact ⟨a, cap, h1, h2, h3, fun i j hi hj => by
    obtain ⟨b, o, e1, e2⟩ := h4 i j hi hj
    exact ⟨b, o, e1, g _ _ e2⟩⟩
theorem andnot_bits {a b : Nat} (ha : a < 65536) (hb : b < 65536) : ∃ Z : Nat, bits .andNot .u32 (a : Int) (b : Int) = (Z : Int) ∧ Z < 65536 ∧ ∀ j, Z.testBit j = (a.testBit j && !b.testBit j) := by
  refine ⟨_, andnot_u32 a b ha hb, Nat.lt_of_le_of_lt Nat.and_le_left ha, fun j => ?_⟩
  rw [Nat.testBit_and, Nat.testBit_two_pow_sub_succ (by omega)]
  by_cases hj : j < 32
  · simp [hj]
  · have : a.testBit j = false := Nat.testBit_lt_two_pow (Nat.lt_of_lt_of_le ha (by have : 2 ^ 16 ≤ 2 ^ j := Nat.pow_le_pow_right (by omega) (by omega)
                                                                                    omega))
    simp [this]
set_option maxRecDepth 100000 in
set_option maxHeartbeats 4000000 in
theorem cut_ok (w : World) (v : Value) (s : Stk) (ht : StkAt w v s) (hok : s.Ok) : Calls Try.prog 28 #[v] w fun e w' => ∃ u X, e = .returned (.tuple #[u, .int .i64 0]) ∧ ListAt w' u (filtL X 16) ∧ (∀ t, X t = true ↔ (∃ a, Spare s.adj (belowN s.nt) 16 a ∧ s.adj a t = true) ∧ ¬ Spare s.adj (belowN s.nt) 16 t) ∧ w.grows w' := by
  have Ht := Lib.hid ht
  obtain ⟨tv, mv, rfl, ⟨sa, sc, rfl, s1, s2, -⟩, ⟨va, vc, rfl, -⟩⟩ := ht
  have h47 := fun W (g : w.grows W) => open_ok W _ s (Ht.out.mono g) hok
  have HAs := Lib.hid s.adj_symm
  have h16 := hok.n16
  obtain ⟨NT, hNT⟩ : ∃ N, s.nt = N := ⟨_, rfl⟩
  obtain ⟨A, hA⟩ : ∃ A, s.adj = A := ⟨_, rfl⟩
  obtain ⟨NM, hNM⟩ : ∃ N, s.nm = N := ⟨_, rfl⟩
  rw [hNT, hA, hNM] at h47
  rw [hNT, hA]
  rw [hNT] at h16 s1
  rw [hA] at HAs
  rw [hNT, hNM] at Ht
  clear hNT hA hok
  rw [hNM]
  clear hNM
  unfold maxLen at s2
  (refine (callsIn_wide (n := 0)).1 (callsIn_of_wp_marks Try.func28 rfl trivial ((wpIn_wide (n := 0)).2 ?_) rfl); simp only [Try.ntmps28, List.size_toArray, List.length_cons, List.length_nil, Nat.reduceAdd, Nat.reduceSub, Array.replicate_succ, Array.replicate_zero, List.push_toArray, List.append_toArray, List.nil_append, List.cons_append])
  go_wp2_with (go_at_call 99; fail)
  refine (h47 _ (by (repeat (first | exact World.grows.refl _ | assumption | refine World.grows.alloc ?_ _ | refine World.grows.plus ?_ _ _ | refine World.grows.drew ?_)))).mono ?_
  rintro e W1 ⟨b, rfl, g1, hlt, hB⟩
  have gW1 : w.grows W1 := World.grows.trans (by (repeat (first | exact World.grows.refl _ | assumption | refine World.grows.alloc ?_ _ | refine World.grows.plus ?_ _ _ | refine World.grows.drew ?_))) g1
  clear h47
  obtain ⟨x4, hx4⟩ : ∃ x, W1.heap.size = x := ⟨_, rfl⟩
  have e4 : (W1.alloc (.cells #[.pointer (some ⟨b, 0, none⟩)] 71)).heap[x4]? = some (.cells #[.pointer (some ⟨b, 0, none⟩)] 71) := World.heap_at _ _ _ hx4.symm
  have c4 : (W1.alloc (.cells #[.pointer (some ⟨b, 0, none⟩)] 71)).cell? ⟨W1.heap.size, 0, none⟩ = some (.pointer (some ⟨b, 0, none⟩)) := by rw [hx4]; exact cell_box e4
  go_wp2_with (go_at_call 99; fail)
  refine (spare_c _ b NT A (hB.grow (by (repeat (first | exact World.grows.refl _ | assumption | refine World.grows.alloc ?_ _ | refine World.grows.plus ?_ _ _ | refine World.grows.drew ?_)))) h16 HAs.out).mono ?_
  rintro e W2 ⟨Z, rfl, hZ, hZs, g2⟩
  have gW2 : W1.grows W2 := World.grows.trans (by (repeat (first | exact World.grows.refl _ | assumption | refine World.grows.alloc ?_ _ | refine World.grows.plus ?_ _ _ | refine World.grows.drew ?_))) g2
  have HB2 := Lib.hid (hB.grow gW2)
  have HW2 := Lib.hid (gW1.trans gW2)
  have HZs := Lib.hid hZs
  have He4 := Lib.hid (g2.heap_of e4)
  have hx4l := World.lt_of_block He4.out
  have hx4w : w.heap.size ≤ x4 := by rw [← hx4]; exact gW1.size
  simp only [hx4]
  clear g1 hB gW1 g2 gW2 hZs hlt c4 e4 hx4
  go_wp2_with (go_at_call 99; fail)
  refine (things_c _ Z).mono ?_
  rintro e W3 ⟨rfl, hW3⟩
  go_wp2
  obtain ⟨x7, hx7⟩ : ∃ x, W2.heap.size = x := ⟨_, rfl⟩
  obtain ⟨bx, hbx⟩ : ∃ b, x7 + 1 = b := ⟨_, rfl⟩
  have g3 : W2.grows W3 := by rw [hW3]; (repeat (first | exact World.grows.refl _ | assumption | refine World.grows.alloc ?_ _ | refine World.grows.plus ?_ _ _ | refine World.grows.drew ?_))
  have k3 : KpS W2 ((x7, .cells #[.int .u32 0] 75) :: (bx, .cells #[.int .u32 (Z : Nat)] 75) :: (x4, .cells #[.pointer (some ⟨b, 0, none⟩)] 71) :: []) W3 := ((((KpS.mk (World.grows.refl W2) (fun y hy => absurd hy List.not_mem_nil)).add He4.out).mono g3).add (b := bx) (o := .cells #[.int .u32 (Z : Nat)] 75) (by rw [hW3, ← hbx, ← hx7]; exact World.heap_at _ _ _ (by simp))).add (b := x7) (o := .cells #[.int .u32 0] 75) (by rw [hW3, ← hx7]; exact World.grows.heap_of (by (repeat (first | exact World.grows.refl _ | assumption | refine World.grows.alloc ?_ _ | refine World.grows.plus ?_ _ _ | refine World.grows.drew ?_))) (World.heap_at W2 _ _ rfl))
  rw [← hW3]
  simp only [hx7, hbx]
  obtain ⟨D, hD⟩ : ∃ D, W3.heap.size = D := ⟨_, rfl⟩
  have hDw : W2.heap.size ≤ D := by rw [← hD]; exact k3.g.size
  have h7D : x7 < D := by rw [← hD]; exact World.lt_of_block k3.hd
  have HK3 := Lib.hid k3
  clear hW3 g3 k3
  refine wp_rangeFunc_own (f := 79) (by rfl) (fun _ _ => rfl) (things_seq bx Z hZ) (fun x hx => by obtain ⟨r, _, rfl⟩ := List.mem_map.1 hx; rfl)
    (fun k U => ∃ Y : Nat, Hid (KpS W2 ((D, .deferred (some [])) :: (x7, .cells #[.int .u32 (Y : Nat)] 75) :: (bx, .cells #[.int .u32 (Z : Nat)] 75) :: (x4, .cells #[.pointer (some ⟨b, 0, none⟩)] 71) :: []) U) ∧ Y < 65536 ∧ Hid (∀ j, Y.testBit j = true ↔ ∃ a ∈ (filtL Z.testBit 16).take k, A a j = true))
    ?_ ?_ ?_ ?_ ?_ ?_
  · rintro k U U' ⟨Y, h1, h2, h3⟩ g
    exact ⟨Y, Lib.hid (h1.out.mono g), h2, h3⟩
  · rintro k U lo lo' hl ⟨Y, h1, h2, h3⟩
    rw [hD] at hl ⊢
    refine ⟨Y, Lib.hid (h1.out.putL hl (by omega) ?_), h2, h3⟩
    intro y hy l
    simp only [List.mem_cons, List.not_mem_nil, or_false] at hy
    rcases hy with rfl | rfl | rfl | rfl <;> exact fun e => by cases e
  · rintro k U ⟨Y, h1, h2, h3⟩
    exact cell_box h1.out.drop.drop.hd
  · intro lo
    have g : W3.grows ((W3.alloc (.deferred (some []))).alloc lo) := by (repeat (first | exact World.grows.refl _ | assumption | refine World.grows.alloc ?_ _ | refine World.grows.plus ?_ _ _ | refine World.grows.drew ?_))
    exact ⟨0, Lib.hid ((HK3.out.mono g).add (World.grows.heap_of (by (repeat (first | exact World.grows.refl _ | assumption | refine World.grows.alloc ?_ _ | refine World.grows.plus ?_ _ _ | refine World.grows.drew ?_))) (World.heap_at _ _ _ hD.symm))), by omega, Lib.hid fun j => by simp⟩
  · rintro k y U hy ⟨Y, h1, h2, h3⟩ hDf ⟨lo, hLo⟩ K0 hK0
    rw [hD] at hDf hLo hK0 ⊢
    obtain ⟨t, rfl, ht⟩ : ∃ t, y = stepV t ∧ (filtL Z.testBit 16)[k]? = some t := by
      rw [List.getElem?_map] at hy
      cases ht : (filtL Z.testBit 16)[k]? with
      | none => rw [ht] at hy; cases hy
      | some t => rw [ht] at hy; exact ⟨t, (Option.some.inj hy).symm, rfl⟩
    have htm := List.mem_of_getElem? ht
    simp only [filtL, List.mem_filter, List.mem_range] at htm
    obtain ⟨ht16, htL⟩ := htm
    have hLl := World.lt_of_block hLo
    dsimp only [stepV]
    rw [zip_one]
    simp only [List.setIfInBounds_toArray, List.set_cons_zero, List.set_cons_succ]
    gi_wp2
    refine hK0.out _ _ (by (repeat (first | exact World.grows.refl _ | assumption | refine World.grows.alloc ?_ _ | refine World.grows.plus ?_ _ _ | refine World.grows.drew ?_))) fun lo' K1 hK1 => ?_
    obtain ⟨U1, hU1⟩ : ∃ U1, U1 = U.putObj (D + 1) (.loop lo') := ⟨_, rfl⟩
    have y1 : KpS W2 ((D + 1, .loop lo') :: (D, .deferred (some [])) :: (x7, .cells #[.int .u32 (Y : Nat)] 75) :: (bx, .cells #[.int .u32 (Z : Nat)] 75) :: (x4, .cells #[.pointer (some ⟨b, 0, none⟩)] 71) :: []) U1 := by
      have := h1.out.putL (lo' := lo') hLo (by omega) (by
        intro y hy l
        simp only [List.mem_cons, List.not_mem_nil, or_false] at hy
        rcases hy with rfl | rfl | rfl | rfl <;> exact fun e => by cases e)
      rw [hU1]
      exact this.add (World.putObj_heap_same hLl)
    have htake : (filtL Z.testBit 16).take (k + 1) = (filtL Z.testBit 16).take k ++ [t] := by
      obtain ⟨hk, he⟩ := List.getElem?_eq_some_iff.1 ht
      rw [List.take_add_one, ht]; rfl
    have HFin : Hid (∀ (a' : Act) (U' : World) (Y' : Nat), KpS W2 ((D + 1, .loop lo') :: (D, .deferred (some [])) :: (x7, .cells #[.int .u32 (Y' : Nat)] 75) :: (bx, .cells #[.int .u32 (Z : Nat)] 75) :: (x4, .cells #[.pointer (some ⟨b, 0, none⟩)] 71) :: []) U' → Y' < 65536 → (∀ j, Y'.testBit j = (Y.testBit j || A t j)) → K1 .normal a' U') := Lib.hid fun a' U' Y' g1 g2 g3 => hK1.out a' U' ⟨Y', Lib.hid g1.drop, g2, Lib.hid fun j => by
      rw [g3, Bool.or_eq_true, h3.out, htake]
      constructor
      · rintro (⟨a, q1, q2⟩ | q2)
        · exact ⟨a, List.mem_append_left _ q1, q2⟩
        · exact ⟨t, by simp, q2⟩
      · rintro ⟨a, q1, q2⟩
        rcases List.mem_append.1 q1 with q1 | q1
        · exact .inl ⟨a, q1, q2⟩
        · rw [List.mem_singleton.1 q1] at q2; exact .inr q2⟩ g1.drop.hd g1.hd
    rw [← hU1]
    have HY := Lib.hid y1
    clear hK1 hK0 hU1 hDf hLo hLl h1 h3 hy ht y1 htake htL
    have htI : (t : Int) < 16 := by omega
    have b7 := cell_box HY.out.drop.drop.hd
    have b4 := cell_box HY.out.drop.drop.drop.drop.hd
    obtain ⟨ta, tc, mv', wide, F, hb1, hb2, -, -⟩ := HB2.out.grow HY.out.g
    have cF := hb1.row ht16
    have hFb := hb2.bit t
    have hor := or_u32 Y (F t) h2 (hb2.lt t)
    have hol : Y ||| F t < 65536 := Nat.or_lt_two_pow (n := 16) h2 (hb2.lt t)
    have hob : ∀ j, (Y ||| F t).testBit j = (Y.testBit j || A t j) := fun j => by rw [Nat.testBit_or, hFb]
    obtain ⟨Y2, hY2⟩ : ∃ Y2, Y ||| F t = Y2 := ⟨_, rfl⟩
    rw [hY2] at hor hol hob
    have Hob := Lib.hid hob
    clear hb1 hb2 hFb hY2 hob
    gi_wp2
    (refine wpIn_region_tail (Fence.free_round _ _) 8 (by kernel_rfl) (by kernel_rfl) (by kernel_rfl) (by decide) ?_; simp only [List.take_succ_cons, List.take_zero, List.drop_succ_cons, List.drop_zero, List.take_nil, List.drop_nil, List.append_nil, List.nil_append, List.cons_append, Nat.reduceAdd, Nat.reduceSub]; (repeat (refine wpCalm_step (fun K hK => ?_); go_simp; first | (refine hK _ ?_; clear hK K) | (apply Exists.intro; refine ⟨fun n' x' => ?_, hK _ ?_⟩; (fail); clear hK K))); refine wpCalm_nil ?_; intro nq xq)
    have gU : U1.grows (U1.plus nq xq) := by (repeat (first | exact World.grows.refl _ | assumption | refine World.grows.alloc ?_ _ | refine World.grows.plus ?_ _ _ | refine World.grows.drew ?_))
    generalize U1.plus nq xq = V2 at gU ⊢
    have y2 := HY.out.mono gU
    have c6 := cell_box y2.drop.drop.hd
    have f6 := frozen_of_heap y2.drop.drop.hd 0
    have ne1 : D ≠ x7 := by omega
    have ne2 : D + 1 ≠ x7 := by omega
    have y3 := y2.drop.drop.drop.put (b := x7) (by omega) (by
      intro y hy
      simp only [List.mem_cons, List.not_mem_nil, or_false] at hy
      rcases hy with rfl | rfl
      · show bx ≠ x7; omega
      · show x4 ≠ x7; omega) (.int .u32 (Y2 : Nat))
    have y4 := ((y3.add (store_of_heap y2.drop.drop.hd 0 (.int .u32 (Y2 : Nat)))).add (b := D) (o := .deferred (some [])) (by rw [World.heap_setCell_map _ _ _ _ (Ne.symm ne1)]; exact y2.drop.hd)).add (b := D + 1) (o := .loop lo') (by rw [World.heap_setCell_map _ _ _ _ (Ne.symm ne2)]; exact y2.hd)
    have HY4 := Lib.hid y4
    clear y3 y4 y2 gU b7 b4 cF
    gi_wp2
    exact HFin.out _ _ Y2 HY4.out hol Hob.out
  · rintro U ⟨Y, h1, h2, h3⟩ hDf
    rw [hD] at hDf ⊢
    have HMk : Hid (Marks W2.heap.size [{ target := .collected D, args := #[] }] U) := Lib.hid ⟨⟨D, rfl, hDw, hDf, fun d' hd => by simp at hd⟩, trivial⟩
    have b7 := cell_box h1.out.drop.hd
    have HG := Lib.hid h1.out.g
    obtain ⟨N, n1, n2, n3⟩ := andnot_bits h2 hZ
    have HX : Hid (∀ t, N.testBit t = true ↔ (∃ a, Spare A (belowN NT) 16 a ∧ A a t = true) ∧ ¬ Spare A (belowN NT) 16 t) := Lib.hid fun t => by
      rw [n3, Bool.and_eq_true, h3.out, List.length_map, List.take_of_length_le (Nat.le_refl _), Bool.not_eq_true']
      constructor
      · rintro ⟨⟨a, q1, q2⟩, q3⟩
        simp only [filtL, List.mem_filter, List.mem_range] at q1
        exact ⟨⟨a, (HZs.out a).1 q1.2, q2⟩, fun q => by rw [(HZs.out t).2 q] at q3; cases q3⟩
      · rintro ⟨⟨a, q1, q2⟩, q3⟩
        refine ⟨⟨a, ?_, q2⟩, ?_⟩
        · simp only [filtL, List.mem_filter, List.mem_range]
          exact ⟨by have := belowN_lt q1.1; omega, (HZs.out a).2 q1⟩
        · cases e : Z.testBit t with
          | false => rfl
          | true => exact absurd ((HZs.out t).1 e) q3
    clear h1 h3 hDf n3
    go_wp2_with (go_at_call 99; fail)
    refine (things_c _ N).mono ?_
    rintro e W5 ⟨rfl, hW5⟩
    go_wp2
    obtain ⟨x9, hx9⟩ : ∃ x, U.heap.size = x := ⟨_, rfl⟩
    obtain ⟨b2, hb2⟩ : ∃ x, x9 + 1 = x := ⟨_, rfl⟩
    have g5 : U.grows W5 := by rw [hW5]; (repeat (first | exact World.grows.refl _ | assumption | refine World.grows.alloc ?_ _ | refine World.grows.plus ?_ _ _ | refine World.grows.drew ?_))
    have e9 : W5.heap[x9]? = some (.cells #[.slice none 0 0] 26) := by rw [hW5, ← hx9]; exact World.grows.heap_of (by (repeat (first | exact World.grows.refl _ | assumption | refine World.grows.alloc ?_ _ | refine World.grows.plus ?_ _ _ | refine World.grows.drew ?_))) (World.heap_at U _ _ rfl)
    have eb : W5.heap[b2]? = some (.cells #[.int .u32 (N : Nat)] 75) := by rw [hW5, ← hb2, ← hx9]; exact World.heap_at _ _ _ (by simp)
    have h2x : W2.heap.size ≤ x9 := by rw [← hx9]; exact HG.out.size
    have y5 : WyS W2 x4 x9 [(b2, .cells #[.int .u32 (N : Nat)] 75)] [{ target := .collected D, args := #[] }] [] (.slice none 0 0) W5 :=
      (WyS.mk (Only.of (HG.out.trans g5)) h2x hx4l e9 (QAt.nil _ _ _) (fun e => by cases e) (fun y hy => absurd hy List.not_mem_nil) (fun y hy => absurd hy List.not_mem_nil) (fun y hy => absurd hy List.not_mem_nil) (HMk.out.mono g5)).add eb (by omega) (by omega) (fun e => by cases e)
    rw [← hW5]
    simp only [hx9, hb2]
    obtain ⟨D2, hD2⟩ : ∃ x, W5.heap.size = x := ⟨_, rfl⟩
    have hd2 : x9 < D2 := by rw [← hD2]; exact World.lt_of_block e9
    have HY5 := Lib.hid y5
    clear hW5 g5 e9 eb y5 b7 n1
    refine wp_rangeFunc_own (f := 79) (by rfl) (fun _ _ => rfl) (things_seq b2 N n2) (fun x hx => by obtain ⟨r, _, rfl⟩ := List.mem_map.1 hx; rfl)
      (fun k U => ∃ (wv : Value), Hid (WyS W2 x4 x9 ((D2, .deferred (some [])) :: (b2, .cells #[.int .u32 (N : Nat)] 75) :: []) [{ target := .collected D, args := #[] }] ((filtL N.testBit 16).take k) wv U) ∧ vblk wv ≠ some (D2 + 1))
      ?_ ?_ ?_ ?_ ?_ ?_
    · rintro k U U' ⟨wv, h1, h2⟩ g
      exact ⟨wv, Lib.hid (h1.out.mono g), h2⟩
    · rintro k U lo lo' hl ⟨wv, h1, h2⟩
      rw [hD2] at hl ⊢
      refine ⟨wv, Lib.hid (h1.out.putL hl (by omega) ?_), h2⟩
      intro y hy l
      simp only [List.mem_cons, List.not_mem_nil, or_false] at hy
      rcases hy with rfl | rfl <;> exact fun e => by cases e
    · rintro k U ⟨wv, h1, h2⟩
      exact cell_box h1.out.drop.hd
    · intro lo
      have g : W5.grows ((W5.alloc (.deferred (some []))).alloc lo) := by (repeat (first | exact World.grows.refl _ | assumption | refine World.grows.alloc ?_ _ | refine World.grows.plus ?_ _ _ | refine World.grows.drew ?_))
      exact ⟨_, Lib.hid (by rw [List.take_zero]; exact HY5.out.fresh g (World.grows.heap_of (by (repeat (first | exact World.grows.refl _ | assumption | refine World.grows.alloc ?_ _ | refine World.grows.plus ?_ _ _ | refine World.grows.drew ?_))) (World.heap_at _ _ _ hD2.symm)) (by omega)), fun e => by cases e⟩
    · rintro k y U3 hy ⟨wv, h1, h2⟩ hDf ⟨lo, hLo⟩ K0 hK0
      rw [hD2] at hDf hLo hK0 ⊢
      obtain ⟨t, rfl, ht⟩ : ∃ t, y = stepV t ∧ (filtL N.testBit 16)[k]? = some t := by
        rw [List.getElem?_map] at hy
        cases ht : (filtL N.testBit 16)[k]? with
        | none => rw [ht] at hy; cases hy
        | some t => rw [ht] at hy; exact ⟨t, (Option.some.inj hy).symm, rfl⟩
      have hLl := World.lt_of_block hLo
      dsimp only [stepV]
      rw [zip_one]
      simp only [List.setIfInBounds_toArray, List.set_cons_zero, List.set_cons_succ]
      gi_wp2
      refine hK0.out _ _ (by (repeat (first | exact World.grows.refl _ | assumption | refine World.grows.alloc ?_ _ | refine World.grows.plus ?_ _ _ | refine World.grows.drew ?_))) fun lo' K1 hK1 => ?_
      obtain ⟨U4, hU4⟩ : ∃ U4, U4 = U3.putObj (D2 + 1) (.loop lo') := ⟨_, rfl⟩
      have y1 : WyS W2 x4 x9 ((D2 + 1, .loop lo') :: (D2, .deferred (some [])) :: (b2, .cells #[.int .u32 (N : Nat)] 75) :: []) [{ target := .collected D, args := #[] }] ((filtL N.testBit 16).take k) wv U4 := by
        have := h1.out.putL (lo' := lo') hLo (by omega) (by
          intro y hy l
          simp only [List.mem_cons, List.not_mem_nil, or_false] at hy
          rcases hy with rfl | rfl <;> exact fun e => by cases e)
        rw [hU4]
        exact this.add (World.putObj_heap_same hLl) (by omega) (by omega) h2
      have htake : (filtL N.testBit 16).take (k + 1) = (filtL N.testBit 16).take k ++ [t] := by
        rw [List.take_add_one, ht]; rfl
      obtain ⟨wt, hwt⟩ : ∃ l, (filtL N.testBit 16).take k = l := ⟨_, rfl⟩
      have hwl : wt.length ≤ 16 := by
        rw [← hwt, List.length_take]
        have := filtL_len N.testBit 16
        omega
      rw [hwt] at y1 htake
      have HFin : Hid (∀ (a' : Act) (U' : World) (wv' : Value), WyS W2 x4 x9 ((D2 + 1, .loop lo') :: (D2, .deferred (some [])) :: (b2, .cells #[.int .u32 (N : Nat)] 75) :: []) [{ target := .collected D, args := #[] }] (wt ++ [t]) wv' U' → K1 .normal a' U') := Lib.hid fun a' U' wv' g1 => hK1.out a' U' ⟨wv', Lib.hid (by rw [htake]; exact g1.drop), g1.n2h⟩ g1.drop.hd g1.hd
      rw [← hU4]
      have HY := Lib.hid y1
      have b9 := cell_box y1.x6h
      obtain ⟨A9, c9, rfl, -, -⟩ := y1.qu.form
      rw [ilist_len] at HY b9
      clear hK1 hK0 hU4 hDf hLo hLl h1 h2 hy ht y1 htake hwt
      (iterate 11 gi_step)
      refine wpListIn_append_q _ rfl (.tmp 37) (.tmp 39) 26 (by rfl) W2.heap.size 3 (.int .i64 0) 8 Try.underlying26 el3 (by rfl) (.slice A9 wt.length c9) (ilist wt) (by rfl) (HY.out.mono (show U4.grows (U4.alloc (.cells #[.int .i64 (t : Nat)] 3)) by (repeat (first | exact World.grows.refl _ | assumption | refine World.grows.alloc ?_ _ | refine World.grows.plus ?_ _ _ | refine World.grows.drew ?_)))).qu ⟨U4.heap.size, 0, none⟩ 1 (.int .i64 (t : Nat)) (by rfl) (by simp [go_sem]) rfl (by rfl) (by rw [ilist_len]; unfold maxLen; omega) (by rw [ilist_len]; omega) (by have := HY.out.only.size; simp; omega) ?_
      intro v' V8 hq8 hg8 hv8 hk8
      have y4 := HY.out.mono (show U4.grows (U4.alloc (.cells #[.int .i64 (t : Nat)] 3)) by (repeat (first | exact World.grows.refl _ | assumption | refine World.grows.alloc ?_ _ | refine World.grows.plus ?_ _ _ | refine World.grows.drew ?_)))
      rw [← ilist_snoc] at hq8
      have y5 := Lib.hid (y4.app2 hq8 hg8 (hv8.elim .inl fun h => .inr (.inr h)) hk8)
      have x5 : V8.heap[x9]? = some (.cells #[.slice A9 wt.length c9] 26) := (hg8.block x9 (World.lt_of_block y4.x6h) (fun e => y4.q6 e.symm)).trans y4.x6h
      have c6 := cell_box x5
      have f6 := frozen_of_heap x5 0
      obtain ⟨A8, cap8, rfl, -, -⟩ := hq8.form
      clear y4 hg8 hv8 hk8 hq8 x5 b9
      gi_wp2
      exact HFin.out _ _ _ y5.out
    · rintro U2 ⟨wv, h1, h2⟩ hDf
      rw [hD2] at hDf ⊢
      have HMk2 : Hid (Marks W2.heap.size ({ target := .collected D2, args := #[] } :: [{ target := .collected D, args := #[] }]) U2) := Lib.hid ⟨⟨D2, rfl, by omega, hDf, fun d' hd e => by
        have := (HY5.out.ms).lt d' hd _ e
        omega⟩, h1.out.ms⟩
      have b9 := cell_box h1.out.x6h
      have HL : Hid (ListAt U2 wv (filtL N.testBit 16)) := Lib.hid (by
        have := h1.out.qu.listAt
        rwa [List.length_map, List.take_of_length_le (Nat.le_refl _)] at this)
      have HG2 : Hid (w.grows U2) := Lib.hid (h1.out.only.grows w HW2.out hx4w)
      obtain ⟨A9, c9, rfl, -, -⟩ := h1.out.qu.form
      clear h1 h2 hDf
      go_wp2
      try dsimp only [Exit.noGoto]
      refine Marks.leaves (B := W2.heap.size) (fun W' => w.grows W' ∧ ListAt W' (.slice A9 _ c9) (filtL N.testBit 16)) (fun W' D h hD hd => ⟨World.putObj_grows h.1 _ (Nat.le_trans HW2.out.size hD), h.2.sub (World.putObj_cellsub fun a v ha => World.no_cell_of_deferred hd a v ha)⟩) (fun W' h => ⟨_, by simp [results, Try.results28, go_sem] <;> rfl, _, _, rfl, h.2, HX.out, h.1⟩) _ _ HMk2.out ⟨HG2.out, HL.out⟩
end Go.Proofs.Yteingahlmlndkaa

/-
  What is proved: the law of a region that draws its order, by properties that speak of the values an operation leans on, and that a relation of worlds keeps.
-/
namespace Go
open Go.RowKit
variable {P : Program} {ops : Array Oper}

def depD (dl : List (Option Tmp)) (R : List (List Value → Value → World → Prop)) (W : World) (K : List Value → Act → Prop) : List Nat → List Value → Act → Prop
  | [], vs, a => K vs a
  | i :: l, vs, a => ∀ v, (∃ us, R.getD i (fun _ _ _ => True) us v W) → depD dl R W K l (vs ++ [v]) (a.put (dl.getD i none) v)
theorem depD_of {dl : List (Option Tmp)} {R : List (List Value → Value → World → Prop)} {W : World} {K : List Value → Act → Prop} {val : Nat → Value} : ∀ (l : List Nat) (vs : List Value) (a : Act), depD dl R W K l vs a → (∀ j ∈ l, ∃ us, R.getD j (fun _ _ _ => True) us (val j) W) → K (vs ++ l.map val) (putL dl val l a)
  | [], vs, _, h, _ => by rw [List.map_nil, List.append_nil]; exact h
  | i :: l, vs, a, h, hv => by
    have := depD_of l (vs ++ [val i]) _ (h (val i) (hv i (List.mem_cons_self ..))) fun j hj => hv j (List.mem_cons_of_mem _ hj)
    rw [List.append_assoc] at this
    exact this
/-- what is asked of the operations of the head -/
def oblD (P : Program) (dl : List (Option Tmp)) (R : List (List Value → Value → World → Prop)) (N : List (Value → World → Prop)) (G : World → World → Prop) (w0 : World) (a : Act) : List (Oper × List Nat × (List Value → Value → World → Prop) × (Value → World → Prop)) → Prop
  | [] => True
  | (o, D, r, N') :: l => (∀ n x, depD dl R (w0.plus n x) (fun vs a' => ∀ K : Value → World → Prop, (∀ v W', G (w0.plus n x) W' → r vs v W' → N' v (w0.plus n x) → K v W') → o.goesO P a' w0 (w0.plus n x) K) D [] a) ∧ oblD P dl R N G w0 a l
theorem depD_mono {dl : List (Option Tmp)} {R : List (List Value → Value → World → Prop)} {W : World} {K K' : List Value → Act → Prop} (h : ∀ vs a, K vs a → K' vs a) : ∀ (l : List Nat) (vs : List Value) (a : Act), depD dl R W K l vs a → depD dl R W K' l vs a
  | [], vs, a, h1 => h vs a h1
  | _ :: l, vs, _, h1 => fun v hv => depD_mono h l _ _ (h1 v hv)
theorem oblD_at {dl : List (Option Tmp)} {R : List (List Value → Value → World → Prop)} {N : List (Value → World → Prop)} {G : World → World → Prop} {w0 : World} {a : Act} : ∀ (l : List (Oper × List Nat × (List Value → Value → World → Prop) × (Value → World → Prop))), oblD P dl R N G w0 a l → ∀ (i : Nat) (o : Oper) (D : List Nat) (r : List Value → Value → World → Prop) (N' : Value → World → Prop), l[i]? = some (o, D, r, N') →
    ∀ W, w0.grows W → depD dl R W (fun vs a' => Oper.goesO P o a' w0 W (fun v W' => G W W' ∧ r vs v W' ∧ N' v W)) D [] a
  | [], _, i, o, D, r, N', h => by simp at h
  | _ :: l, hl, 0, o, D, r, N', h => by
    cases Option.some.inj h
    intro W hg
    obtain ⟨n, x, rfl⟩ := World.plus_of hg
    exact depD_mono (fun vs a' hk => hk _ (fun _ _ h1 h2 h3 => ⟨h1, h2, h3⟩)) _ _ _ (hl.1 n x)
  | _ :: l, hl, i + 1, o, D, r, N', h => oblD_at l hl.2 i o D r N' (by simpa using h)
def zipD : List Oper → List (List Nat) → List (List Value → Value → World → Prop) → List (Value → World → Prop) → List (Oper × List Nat × (List Value → Value → World → Prop) × (Value → World → Prop))
  | o :: l, D :: ds, r :: R, m :: N => (o, D, r, m) :: zipD l ds R N
  | _, _, _, _ => []
theorem zipD_at : ∀ (l : List Oper) (ds : List (List Nat)) (R : List (List Value → Value → World → Prop)) (N : List (Value → World → Prop)), l.length ≤ ds.length → l.length ≤ R.length → l.length ≤ N.length → ∀ i o, l[i]? = some o → (zipD l ds R N)[i]? = some (o, ds.getD i [], R.getD i (fun _ _ _ => True), N.getD i (fun _ _ => True))
  | [], _, _, _, _, _, _, i, o, h => by simp at h
  | _ :: _, [], _, _, h1, _, _, _, _, _ => by simp at h1
  | _ :: _, _ :: _, [], _, _, h2, _, _, _, _ => by simp at h2
  | _ :: _, _ :: _, _ :: _, [], _, _, h3, _, _, _ => by simp at h3
  | x :: l, D :: ds, r :: R, m :: N, _, _, _, 0, o, h => by cases Option.some.inj h; rfl
  | x :: l, D :: ds, r :: R, m :: N, h1, h2, h3, i + 1, o, h => by
    have := zipD_at l ds R N (by simpa using h1) (by simpa using h2) (by simpa using h3) i o (by simpa using h)
    simpa [zipD] using this
theorem wpAny_of_invD {w0 : World} {a : Act} {R : List (List Value → Value → World → Prop)} {Q : Exit → Act → World → Prop} {n : Nat} {ds : List (List Nat)} {dl : List (Option Tmp)} (hB : Region.invB ops n ds dl = true)
    (hheads0 : ∀ (listed : Array Bool) (i0 : Nat), HeadInv .any ops n listed → i0 < n → listed.getD i0 true = false → ∀ t ∈ Region.ready .any ops listed, t < n)
    {G : World → World → Prop} (hR : ∀ i vs v W W', R.getD i (fun _ _ _ => True) vs v W → G W W' → R.getD i (fun _ _ _ => True) vs v W')
    {N : Nat → Value → World → Prop} {D : Nat → Nat → Value → Value → Prop} (hD : ∀ i j, i < n → j < n → i ≠ j → ∀ us v u W, N i v W → R.getD j (fun _ _ _ => True) us u W → D i j v u ∧ D j i u v)
    (hop : ∀ i o, i < n → ops[i]? = some o → ∀ W, w0.grows W → depD dl R W (fun vs a' => o.goesO P a' w0 W (fun v W' => G W W' ∧ R.getD i (fun _ _ _ => True) vs v W' ∧ N i v W)) (ds.getD i []) [] a)
    (hK : ∀ val W, w0.grows W → (∀ i, i < n → R.getD i (fun _ _ _ => True) ((ds.getD i []).map val) (val i) W) → (∀ i j, i < n → j < n → i ≠ j → D i j (val i) (val j)) → ∀ listed, HeadInv .any ops n listed → (∀ i, i < n → listed.getD i false = true) → wpAny P .any ops Q (ops.size - n) listed (putL dl val (List.range n) a) W) :
    ∀ (cnt : Nat) (L U : List Nat) (listed : Array Bool) (val : Nat → Value) (W : World), U.length = cnt → L.Nodup → U.Nodup → (∀ i, i ∈ L ↔ i < n ∧ listed.getD i false = true) → (∀ i, i ∈ U ↔ i < n ∧ listed.getD i false = false) →
      HeadInv .any ops n listed → w0.grows W → (∀ i ∈ L, R.getD i (fun _ _ _ => True) ((ds.getD i []).map val) (val i) W) → (∀ i ∈ L, ∀ j ∈ ds.getD i [], j ∈ L) → (∀ i ∈ L, ∀ j ∈ L, i ≠ j → D i j (val i) (val j)) → wpAny P .any ops Q (cnt + (ops.size - n)) listed (putL dl val L a) W := by
  simp only [Region.invB, Bool.and_eq_true, decide_eq_true_eq] at hB
  obtain ⟨⟨hmix, hnle⟩, hall⟩ := hB
  simp only [Region.mixB, Bool.and_eq_true, decide_eq_true_eq] at hmix
  obtain ⟨⟨⟨hsel, _⟩, _⟩, hedge⟩ := hmix
  have hsp := Region.noSelect_spec hsel
  have spec : ∀ i o, i < n → ops[i]? = some o → o.guard = none ∧ dl.getD i none = o.dst ∧ (∀ j ∈ ds.getD i [], j < n ∧ Region.waitsFor .any ops i j = true) ∧ (ds.getD i []).Nodup ∧
      ∀ j, j < n → j ≠ i → (∀ d, dl.getD i none = some d → dl.getD j none ≠ some d) ∧ (j ∉ ds.getD i [] → ∀ d, dl.getD j none = some d → d ∉ o.looksAt ops) := by
    intro i o hi ho
    have h1 := List.all_eq_true.1 hall i (List.mem_range.2 hi)
    simp only [ho, Bool.and_eq_true, decide_eq_true_eq] at h1
    obtain ⟨⟨⟨⟨g1, g2⟩, g3⟩, g4⟩, g5⟩ := h1
    refine ⟨by simpa using g1, g2, fun j hj => ?_, g4, fun j hj hji => ?_⟩
    · have := List.all_eq_true.1 g3 j hj
      simpa using this
    · have h2 := List.all_eq_true.1 g5 j (List.mem_range.2 hj)
      simp only [Bool.or_eq_true, Bool.and_eq_true, decide_eq_true_eq] at h2
      rcases h2 with h2 | ⟨h2, h3⟩
      · exact absurd h2 hji
      · refine ⟨fun d hd hj' => ?_, fun hnd d hd => ?_⟩
        · rcases h2 with h2 | h2
          · rw [hd] at h2; cases h2
          · exact h2 (hj'.trans hd.symm)
        · rcases h3 with h3 | h3
          · exact absurd (by simpa using h3) hnd
          · rw [hd] at h3
            simpa using h3
  have edgeOf : ∀ i o, i < n → ops[i]? = some o → ∀ e ∈ o.after, Region.binds .any e = true → e.on < i := by
    intro i o hi ho e he hb
    have h1 := List.all_eq_true.1 hedge i (List.mem_range.2 hi)
    simp only [ho, Bool.and_eq_true] at h1
    have h2 := Array.all_eq_true_iff_forall_mem.1 h1.1 e he
    simpa only [hb, Bool.not_true, Bool.false_or, decide_eq_true_eq] using h2
  have unwait : ∀ (listed : Array Bool) (i j : Nat), i ∈ Region.ready .any ops listed → Region.waitsFor .any ops i j = true → listed.getD j false = true := by
    intro listed i j hi hw
    obtain ⟨oi, hoi, e, he, hb, hon⟩ := Region.waitsFor_spec hw
    obtain ⟨_, o', ho', hall⟩ := mem_ready.1 hi
    rw [hoi] at ho'; cases ho'
    have := hall e he hb
    rwa [hon] at this
  have at_lt : ∀ i, i < n → ∃ o, ops[i]? = some o := fun i hi => ⟨ops[i]'(by omega), Array.getElem?_eq_getElem (by omega)⟩
  have dst_ne : ∀ i, i < n → ∀ j, j < n → i ≠ j → ∀ d, dl.getD i none = some d → dl.getD j none ≠ some d := fun i hi j hj hij => by
    obtain ⟨o, ho⟩ := at_lt i hi
    exact ((spec i o hi ho).2.2.2.2 j hj (Ne.symm hij)).1
  intro cnt
  induction cnt with
  | zero =>
    intro L U listed val W hc hL hU hLm hUm inv hg hv hdp hdd
    have he : U = [] := List.eq_nil_of_length_eq_zero hc
    have hl : ∀ i, i < n → listed.getD i false = true := fun i hi => by
      cases h : listed.getD i false with
      | true => rfl
      | false =>
        have := (hUm i).2 ⟨hi, h⟩
        rw [he] at this
        cases this
    have hp : L.Perm (List.range n) := (List.perm_ext_iff_of_nodup hL List.nodup_range).2 fun i => by
      rw [hLm, List.mem_range]
      exact ⟨fun h => h.1, fun h => ⟨h, hl i h⟩⟩
    rw [Nat.zero_add, putL_perm hp (fun i hi j hj hij => dst_ne i ((hLm i).1 hi).1 j ((hLm j).1 hj).1 hij)]
    exact hK val W hg (fun i hi => hv i ((hLm i).2 ⟨hi, hl i hi⟩)) (fun i j hi hj hij => hdd i ((hLm i).2 ⟨hi, hl i hi⟩) j ((hLm j).2 ⟨hj, hl j hj⟩) hij) listed inv hl
  | succ cnt ih =>
    intro L U listed val W hc hL hU hLm hUm inv hg hv hdp hdd
    rw [show cnt + 1 + (ops.size - n) = (cnt + (ops.size - n)) + 1 by omega]
    obtain ⟨i0, hi0⟩ : ∃ i, i ∈ U := by
      cases U with
      | nil => simp at hc
      | cons x _ => exact ⟨x, List.mem_cons_self ..⟩
    have hi0' := (hUm i0).1 hi0
    have hheads := hheads0 listed i0 inv hi0'.1 (getD_in (by rw [inv.size]; omega) hi0'.2)
    have least : ∀ i, i < n → listed.getD i false = false → ∃ t, t ∈ Region.ready .any ops listed := by
      intro i
      induction i using Nat.strongRecOn with
      | _ i ih2 =>
        intro hi hl
        obtain ⟨o, ho⟩ := at_lt i hi
        by_cases h : ∃ e ∈ o.after, Region.binds .any e = true ∧ listed.getD e.on false = false
        · obtain ⟨e, he, hb, hel⟩ := h
          have := edgeOf i o hi ho e he hb
          exact ih2 e.on this (by omega) hel
        · refine ⟨i, mem_ready.2 ⟨getD_in (by rw [inv.size]; omega) hl, o, ho, fun e he hb => ?_⟩⟩
          cases hq : listed.getD e.on false with
          | true => rfl
          | false => exact absurd ⟨e, he, hb, hq⟩ h
    refine ⟨fun hnil => ?_, fun i hi => ?_⟩
    · exfalso
      obtain ⟨t, ht⟩ := least i0 hi0'.1 hi0'.2
      rw [hnil] at ht
      cases ht
    · have hin := hheads i hi
      have hl : listed.getD i false = false := getD_both (mem_ready.1 hi).1
      have inv' := inv.set hi hin
      obtain ⟨o, ho⟩ := at_lt i hin
      obtain ⟨sg, sd, sw, snd, sl⟩ := spec i o hin ho
      have set_ne : ∀ j, j ≠ i → (listed.setIfInBounds i true).getD j false = listed.getD j false := fun j hji => getD_set_ne false (Ne.symm hji)
      have set_self : (listed.setIfInBounds i true).getD i false = true := by
        have : i < listed.size := by rw [inv.size]; omega
        simp [this]
      have hiL : i ∉ L := fun h => by
        have := ((hLm i).1 h).2
        rw [hl] at this; cases this
      have hDL : ∀ j ∈ ds.getD i [], j ∈ L := fun j hj => (hLm j).2 ⟨(sw j hj).1, unwait listed i j hi (sw j hj).2⟩
      have hexec : execOp (putL dl val L a).eval o = execOp (putL dl val (ds.getD i []) a).eval o := by
        have hp : L.Perm (ds.getD i [] ++ L.filter fun j => !(ds.getD i []).contains j) := by
          refine (List.perm_ext_iff_of_nodup hL (List.nodup_append.2 ⟨snd, hL.filter _, fun x hx y hy e => ?_⟩)).2 fun j => ?_
          · subst e
            have h3 : (ds.getD i []).contains x = true := List.contains_iff_mem.2 hx
            have h4 := (List.mem_filter.1 hy).2
            simp only [h3] at h4
            cases h4
          · rw [List.mem_append, List.mem_filter]
            constructor
            · intro hj
              by_cases h : j ∈ ds.getD i []
              · exact .inl h
              · exact .inr ⟨hj, by simpa using h⟩
            · rintro (h | h)
              · exact hDL j h
              · exact h.1
        rw [putL_perm hp (fun i hi j hj hij => dst_ne i ((hLm i).1 hi).1 j ((hLm j).1 hj).1 hij), putL_append]
        refine execOp_putL (ops := ops) (fun cs b => hsp i o cs b ho) _ _ fun j hj d hd => ?_
        obtain ⟨h1, h2⟩ := List.mem_filter.1 hj
        refine (sl j ((hLm j).1 h1).1 (fun e => hiL (e ▸ h1))).2 (by simpa using h2) d hd
      have hgo := depD_of (val := val) _ _ _ (hop i o hin ho W hg) (fun j hj => ⟨_, hv j (hDL j hj)⟩)
      rw [List.nil_append] at hgo
      have hrest : ∀ v W', w0.grows W' → G W W' ∧ R.getD i (fun _ _ _ => True) ((ds.getD i []).map val) v W' ∧ N i v W → wpAny P .any ops Q (cnt + (ops.size - n)) (listed.setIfInBounds i true) ((putL dl val L a).put o.dst v) W' := by
        intro v W' g ⟨hG1, hr, hnw⟩
        have e : (putL dl val L a).put o.dst v = putL dl (fun k => if k = i then v else val k) (L ++ [i]) a := by
          rw [putL_append, putL_congr (val' := fun k => if k = i then v else val k) L a (fun j hj => (if_neg (fun h => hiL (by rw [← h]; exact hj))).symm)]
          simp only [putL, if_true, sd]
        rw [e]
        refine ih (L ++ [i]) (U.erase i) _ _ W' ?_ ?_ (hU.erase _) (fun j => ?_) (fun j => ?_) inv' g (fun j hj => ?_) (fun j hj k hk => ?_) (fun j hj k hk hjk => ?_)
        · have := List.length_erase_of_mem ((hUm i).2 ⟨hin, hl⟩)
          omega
        · rw [List.nodup_append]
          refine ⟨hL, List.nodup_cons.2 ⟨by simp, List.nodup_nil⟩, fun x hx y hy e => ?_⟩
          rw [List.mem_singleton] at hy
          exact hiL (by rw [← hy, ← e]; exact hx)
        · rw [List.mem_append, List.mem_singleton, hLm]
          by_cases hji : j = i
          · subst hji
            simp [set_self, hin]
          · rw [set_ne j hji]
            simp [hji]
        · rw [hU.mem_erase_iff, hUm]
          by_cases hji : j = i
          · subst hji
            simp [set_self]
          · rw [set_ne j hji]
            simp [hji]
        · rcases List.mem_append.1 hj with hj | hj
          · have : j ≠ i := fun h => hiL (by rw [← h]; exact hj)
            show R.getD j _ ((ds.getD j []).map fun k => if k = i then v else val k) (if j = i then v else val j) W'
            rw [if_neg this, List.map_congr_left (g := val) (fun k hk => if_neg (fun h : k = i => hiL (h ▸ hdp j hj k hk)))]
            exact hR j _ _ _ _ (hv j hj) hG1
          · rw [List.mem_singleton] at hj
            subst hj
            show R.getD j _ ((ds.getD j []).map fun k => if k = j then v else val k) (if j = j then v else val j) W'
            rw [if_pos rfl, List.map_congr_left (g := val) (fun k hk => if_neg (fun h : k = j => hiL (h ▸ hDL k hk)))]
            exact hr
        · rcases List.mem_append.1 hj with hj | hj
          · exact List.mem_append_left _ (hdp j hj k hk)
          · rw [List.mem_singleton] at hj
            subst hj
            exact List.mem_append_left _ (hDL k hk)
        · show D j k (if j = i then v else val j) (if k = i then v else val k)
          rcases List.mem_append.1 hj with hj1 | hj1 <;> rcases List.mem_append.1 hk with hk1 | hk1
          · rw [if_neg (fun h => hiL (by rw [← h]; exact hj1)), if_neg (fun h => hiL (by rw [← h]; exact hk1))]
            exact hdd j hj1 k hk1 hjk
          · rw [List.mem_singleton] at hk1
            subst hk1
            rw [if_neg hjk, if_pos rfl]
            exact (hD k j hin ((hLm j).1 hj1).1 (Ne.symm hjk) _ v (val j) W hnw (hv j hj1)).2
          · rw [List.mem_singleton] at hj1
            subst hj1
            rw [if_pos rfl, if_neg (Ne.symm hjk)]
            exact (hD j k hin ((hLm k).1 hk1).1 hjk _ v (val k) W hnw (hv k hk1)).1
          · rw [List.mem_singleton] at hj1 hk1
            exact absurd (hj1.trans hk1.symm) hjk
      unfold wpOp
      simp only [ho]
      rw [if_pos (by simp [Region.wanted, sg])]
      refine .inl ?_
      unfold Oper.wp
      unfold Oper.goesO at hgo
      rw [hexec]
      generalize (execOp (putL dl val (ds.getD i []) a).eval o).run P W = r at *
      cases r with
      | halt z w' => simp only [goesUponO] at hgo
      | ok nx w' =>
        cases nx <;> simp only [goesUponO] at hgo <;> simp only [Oper.upon]
        case value u => exact hrest _ _ hgo.1 hgo.2
        case skip => exact hrest _ _ hgo.1 hgo.2
        case enter f args =>
          obtain ⟨rfl, hcall⟩ := hgo
          refine hcall.mono fun e w'' ⟨v, he, g, hp⟩ => ?_
          subst he
          exact hrest _ _ g hp

theorem wp_region_invD {id : Nat} {Q : Exit → Act → World → Prop} {a : Act} {w : World} {l : List Oper} (n : Nat) (ds : List (List Nat)) (dl : List (Option Tmp)) (R : List (List Value → Value → World → Prop)) (N : List (Value → World → Prop)) (D : Nat → Nat → Value → Value → Prop) (G : World → World → Prop) (hm : P.follows .mixedOrders = true)
    (hB : (Region.invTailB l.toArray n ds dl && decide (n ≤ ds.length)) = true) (hn : n ≤ l.length) (hRn : n ≤ R.length) (hNn : n ≤ N.length) (hR : ∀ r ∈ R, ∀ vs v W W', r vs v W → G W W' → r vs v W')
    (hD : ∀ i j, i < n → j < n → i ≠ j → ∀ us v u W, N.getD i (fun _ _ => True) v W → R.getD j (fun _ _ _ => True) us u W → D i j v u ∧ D j i u v)
    (hop : oblD P dl R N G w a (zipD (l.take n) ds R N))
    (h : ∀ (val : Nat → Value) W, w.grows W → (∀ i, i < n → R.getD i (fun _ _ _ => True) ((ds.getD i []).map val) (val i) W) → (∀ i j, i < n → j < n → i ≠ j → D i j (val i) (val j)) → wpList P l.toArray Q (l.drop n) (putL dl val (List.range n) a) W) : (Code.region id l.toArray true).wp P Q a w := by
  simp only [Region.invTailB, Bool.and_eq_true, Bool.or_eq_true, decide_eq_true_eq] at hB
  obtain ⟨⟨⟨hinv, hplan⟩, hseq⟩, hds⟩ := hB
  have hnle : n ≤ l.toArray.size := by simpa using hn
  refine wp_region_any hm ?_
  obtain ⟨n0, x0, h0⟩ := World.more_drew w
  rw [h0]
  have key := wpAny_of_invD (P := P) (ops := l.toArray) (w0 := w) (a := a) (R := R) (Q := Q) (n := n) (ds := ds) (dl := dl) (N := fun i => N.getD i (fun _ _ => True)) (D := D) hinv
    (fun listed i0 inv hi0 hun0 => by
      rcases hplan with h | ⟨⟨h1, h2⟩, h3⟩
      · subst h; exact heads_of_all listed
      · exact heads_of_tail h1 h2 h3 listed i0 inv hi0 hun0)
    (G := G) (fun i => by
      rw [List.getD_eq_getElem?_getD]
      cases hi : R[i]? with
      | none => exact fun _ _ _ _ _ _ => trivial
      | some r => exact hR r (List.mem_of_getElem? hi))
    hD
    (fun i o hi ho W hg => oblD_at _ hop i o _ _ _ (zipD_at (l.take n) ds R N (by simp; omega) (by simp; omega) (by simp; omega) i o (by rw [List.getElem?_take, if_pos hi]; simpa using ho)) W hg)
    (fun val W hg hv hdd listed inv hall => by
      have hl := seq_listed inv hnle hall
      subst hl
      have hd : (l.drop n).length = l.toArray.size - n := by simp
      have := wpAny_of_seq (Q' := Q) (l.drop n) n _ (putL dl val (List.range n) a) W (fun j => by simp [List.getElem?_drop]) (by rw [hd]; exact hseq) (h val W hg hv hdd)
      rwa [hd] at this)
    n [] (List.range n) (Array.replicate l.toArray.size false) (fun _ => undef) (w.plus n0 x0) (by simp) List.nodup_nil List.nodup_range
    (fun i => ⟨fun h => absurd h List.not_mem_nil, fun h => by rw [getD_replicate_false] at h; exact absurd h.2 (by decide)⟩)
    (fun i => by rw [List.mem_range, getD_replicate_false]; exact ⟨fun h => ⟨h, rfl⟩, fun h => h.1⟩)
    (headInv_start n) (World.grows_plus _ _ _) (fun i hi => by cases hi) (fun i hi => by cases hi) (fun i hi => by cases hi)
  rw [show n + (l.toArray.size - n) = l.toArray.size by omega] at key
  exact key
end Go

/-
  What is proved: which stocks are valid, by the definition (24).
-/
namespace Go.Proofs.Yteingahlmlndkaa
open Go.RowKit
attribute [local irreducible] Go.wpCalm
set_option maxRecDepth 100000 in
set_option maxHeartbeats 4000000 in
theorem rcheck_c (w : World) (v : Value) (s : Stk) (ht : StkAt w v s) : Calls Try.prog 24 #[v] w fun e w' => e = .returned (.int .i64 (s.check : Int)) ∧ w.grows w' := by
  obtain ⟨tv, mv, rfl, hs, hv⟩ := ht
  have Hs := Lib.hid hs
  have Hv := Lib.hid hv
  obtain ⟨sa, sc, rfl, s1, s2, -⟩ := hs
  obtain ⟨va, vc, rfl, v1, v2, -⟩ := hv
  unfold maxLen at s2 v2
  have HC : Hid (s.check = if 16 < s.nt ∨ 20 < s.nm then 6 else if (List.range s.nt).any s.badT = true then 3 else if ((List.range s.nm).any s.badM || outB 0 10000 s.wide) = true then 2 else 0) := Lib.hid rfl
  go_enter Try.func24, Try.ntmps24
  have HB : Hid ((w.alloc (.cells #[.slice sa s.nt sc, .slice va s.nm vc, .int .i64 s.wide] 25)).heap[w.heap.size]? = some (.cells #[.slice sa s.nt sc, .slice va s.nm vc, .int .i64 s.wide] 25)) := Lib.hid (World.heap_at _ _ _ rfl)
  have HW : Hid (w.grows (w.alloc (.cells #[.slice sa s.nt sc, .slice va s.nm vc, .int .i64 s.wide] 25))) := Lib.hid (by (repeat (first | exact World.grows.refl _ | assumption | refine World.grows.alloc ?_ _ | refine World.grows.plus ?_ _ _ | refine World.grows.drew ?_)))
  have q0 := cell_of_heap (i := 0) HB.out rfl
  have q1 := cell_of_heap (i := 1) HB.out rfl
  by_cases hm : 16 < s.nt ∨ 20 < s.nm
  · have HR : Hid (s.check = 6) := Lib.hid (by rw [HC.out, if_pos hm])
    clear HC
    by_cases h1 : 16 < s.nt
    · have h' : (16 : Int) < s.nt := by omega
      go_wp2; (refine bodyPost_ret (v := .int .i64 6) (by simp [results, Try.results24, go_sem]) rfl ?_); exact ⟨ret_int (by rw [HR.out]; rfl), HW.out.trans (by (repeat (first | exact World.grows.refl _ | assumption | refine World.grows.alloc ?_ _ | refine World.grows.plus ?_ _ _ | refine World.grows.drew ?_)))⟩
    · have h1' : ¬ (16 : Int) < s.nt := by omega
      have h' : (20 : Int) < s.nm := by omega
      go_wp2; (refine bodyPost_ret (v := .int .i64 6) (by simp [results, Try.results24, go_sem]) rfl ?_); exact ⟨ret_int (by rw [HR.out]; rfl), HW.out.trans (by (repeat (first | exact World.grows.refl _ | assumption | refine World.grows.alloc ?_ _ | refine World.grows.plus ?_ _ _ | refine World.grows.drew ?_)))⟩
  have h3 : ¬ (16 : Int) < s.nt := by omega
  have h4 : ¬ (20 : Int) < s.nm := by omega
  have h3' : s.nt ≤ 16 := by omega
  have h4' : s.nm ≤ 20 := by omega
  rw [if_neg hm] at HC
  clear hm
  go_wp2
  clear q0 q1
  go_loopw [3] (fun i wr => ∃ k : Nat, k ≤ s.nt ∧ i = .int .i64 k ∧ Hid (∀ j, j < k → s.badT j = false) ∧ Hid (wr.heap[w.heap.size]? = some (.cells #[.slice sa s.nt sc, .slice va s.nm vc, .int .i64 s.wide] 25)) ∧ Hid (w.grows wr)) (fun i _ => s.nt - (intOf i).toNat)
  case atStart => exact ⟨0, by omega, rfl, Lib.hid (fun j hj => by omega), HB, HW⟩
  case round =>
    clear HB HW
    obtain ⟨k, hk, rfl, hq, HB, HW⟩ := hrel
    have q0 := cell_of_heap (i := 0) HB.out rfl
    by_cases hlt : k < s.nt
    · have hkI : (k : Int) < s.nt := by omega
      obtain ⟨a4, c4, e4, -, -, hh⟩ := Hs.out
      obtain rfl := (Value.slice.inj e4).1
      obtain ⟨b, o, rfl, c0⟩ := hh k 0 hlt (by omega)
      obtain ⟨_, _, e5, c1⟩ := hh k 1 hlt (by omega); cases e5
      obtain ⟨_, _, e5, c2⟩ := hh k 2 hlt (by omega); cases e5
      replace c0 : wr.cell? ⟨b, o + k * 3, none⟩ = some (.int .i64 (s.tk k)) := HW.out.cell_of c0
      replace c1 : wr.cell? ⟨b, o + k * 3 + 1, none⟩ = some (.int .i64 (s.tw k)) := HW.out.cell_of c1
      replace c2 : wr.cell? ⟨b, o + k * 3 + 2, none⟩ = some (.int .i64 (s.tg k)) := HW.out.cell_of c2
      have HT : Hid (s.badT k = (outB 0 9 (s.tk k) || outB 0 9 (s.tg k) || outB 0 10000 (s.tw k))) := Lib.hid rfl
      clear hh e4
      go_wp2_with (go_at_call 99; fail)
      refine (c63 _ _ _).mono ?_; rintro e U ⟨rfl, hg⟩; obtain ⟨n1, x1, rfl⟩ := World.plus_of hg; clear hg
      cases r1 : outB 0 9 (s.tk k) with
      | true =>
        have HR : Hid (s.check = 3) := Lib.hid (by rw [HC.out, if_pos (any_true_of hlt (by rw [HT.out, r1]; rfl))])
        clear HC HT r1
        go_wp2
        (refine bodyPost_ret (v := .int .i64 3) (by simp [results, Try.results24, go_sem]) rfl ?_)
        exact ⟨ret_int (by rw [HR.out]; rfl), HW.out.trans (by (repeat (first | exact World.grows.refl _ | assumption | refine World.grows.alloc ?_ _ | refine World.grows.plus ?_ _ _ | refine World.grows.drew ?_)))⟩
      | false =>
      rw [r1, Bool.false_or] at HT
      clear r1
      go_wp2_with (go_at_call 99; fail)
      refine (c63 _ _ _).mono ?_; rintro e U ⟨rfl, hg⟩; obtain ⟨n2, x2, rfl⟩ := World.plus_of hg; clear hg
      cases r2 : outB 0 9 (s.tg k) with
      | true =>
        have HR : Hid (s.check = 3) := Lib.hid (by rw [HC.out, if_pos (any_true_of hlt (by rw [HT.out, r2]; rfl))])
        clear HC HT r2
        go_wp2
        (refine bodyPost_ret (v := .int .i64 3) (by simp [results, Try.results24, go_sem]) rfl ?_)
        exact ⟨ret_int (by rw [HR.out]; rfl), HW.out.trans (by (repeat (first | exact World.grows.refl _ | assumption | refine World.grows.alloc ?_ _ | refine World.grows.plus ?_ _ _ | refine World.grows.drew ?_)))⟩
      | false =>
      rw [r2, Bool.false_or] at HT
      clear r2
      go_wp2_with (go_at_call 99; fail)
      refine (c63 _ _ _).mono ?_; rintro e U ⟨rfl, hg⟩; obtain ⟨n3, x3, rfl⟩ := World.plus_of hg; clear hg
      cases r3 : outB 0 10000 (s.tw k) with
      | true =>
        have HR : Hid (s.check = 3) := Lib.hid (by rw [HC.out, if_pos (any_true_of hlt (by rw [HT.out, r3]))])
        clear HC HT r3
        go_wp2
        (refine bodyPost_ret (v := .int .i64 3) (by simp [results, Try.results24, go_sem]) rfl ?_)
        exact ⟨ret_int (by rw [HR.out]; rfl), HW.out.trans (by (repeat (first | exact World.grows.refl _ | assumption | refine World.grows.alloc ?_ _ | refine World.grows.plus ?_ _ _ | refine World.grows.drew ?_)))⟩
      | false =>
      rw [r3] at HT
      clear r3
      have HQ := Lib.hid (upto_succ hq.out HT.out)
      have g9 : w.grows ((((wr.alloc (.cells #[.int .i64 (s.tk k), .int .i64 (s.tw k), .int .i64 (s.tg k)] 62)).plus n1 x1).plus n2 x2).plus n3 x3) := HW.out.trans (by (repeat (first | exact World.grows.refl _ | assumption | refine World.grows.alloc ?_ _ | refine World.grows.plus ?_ _ _ | refine World.grows.drew ?_)))
      have HB9 := Lib.hid (World.grows.heap_of (show wr.grows ((((wr.alloc (.cells #[.int .i64 (s.tk k), .int .i64 (s.tw k), .int .i64 (s.tg k)] 62)).plus n1 x1).plus n2 x2).plus n3 x3) by (repeat (first | exact World.grows.refl _ | assumption | refine World.grows.alloc ?_ _ | refine World.grows.plus ?_ _ _ | refine World.grows.drew ?_))) HB.out)
      go_wp2
      case roundEnd => exact ⟨⟨k + 1, by omega, by go_num, HQ, HB9, Lib.hid g9⟩, by simp [intOf]; omega⟩
    · have hke : k = s.nt := by omega
      have hkI : ¬ (k : Int) < s.nt := by omega
      have HN : Hid ((List.range s.nt).any s.badT = false) := Lib.hid (any_false_of (by rw [← hke]; exact hq.out))
      rw [HN.out, if_neg Bool.false_ne_true] at HC
      clear HN hke hq hlt hk
      go_wp2
      clear q0
      go_loopw [5] (fun i wr => ∃ k : Nat, k ≤ s.nm ∧ i = .int .i64 k ∧ Hid (∀ j, j < k → s.badM j = false) ∧ Hid (wr.heap[w.heap.size]? = some (.cells #[.slice sa s.nt sc, .slice va s.nm vc, .int .i64 s.wide] 25)) ∧ Hid (w.grows wr)) (fun i _ => s.nm - (intOf i).toNat)
      case atStart => exact ⟨0, by omega, rfl, Lib.hid (fun j hj => by omega), HB, HW⟩
      case round =>
        clear HB HW
        obtain ⟨k2, hk, rfl, hq, HB, HW⟩ := hrel
        have q1 := cell_of_heap (i := 1) HB.out rfl
        by_cases hlt : k2 < s.nm
        · have hk2I : (k2 : Int) < s.nm := by omega
          obtain ⟨a4, c4, e4, -, -, hh⟩ := Hv.out
          obtain rfl := (Value.slice.inj e4).1
          obtain ⟨b, o, rfl, c0⟩ := hh k2 0 hlt (by omega)
          obtain ⟨_, _, e5, c1⟩ := hh k2 1 hlt (by omega); cases e5
          replace c0 : wr.cell? ⟨b, o + k2 * 2, none⟩ = some (.int .i64 (s.ma k2)) := HW.out.cell_of c0
          replace c1 : wr.cell? ⟨b, o + k2 * 2 + 1, none⟩ = some (.int .i64 (s.mb k2)) := HW.out.cell_of c1
          have HT : Hid (s.badM k2 = (outB 0 9 (s.ma k2) || outB 0 9 (s.mb k2))) := Lib.hid rfl
          clear hh e4
          go_wp2_with (go_at_call 99; fail)
          refine (c63 _ _ _).mono ?_; rintro e U ⟨rfl, hg⟩; obtain ⟨n1, x1, rfl⟩ := World.plus_of hg; clear hg
          cases r1 : outB 0 9 (s.ma k2) with
          | true =>
            have HR : Hid (s.check = 2) := Lib.hid (by rw [HC.out, any_true_of hlt (show s.badM k2 = true by rw [HT.out, r1]; rfl)]; rfl)
            clear HC HT r1
            go_wp2
            (refine bodyPost_ret (v := .int .i64 2) (by simp [results, Try.results24, go_sem]) rfl ?_)
            exact ⟨ret_int (by rw [HR.out]; rfl), HW.out.trans (by (repeat (first | exact World.grows.refl _ | assumption | refine World.grows.alloc ?_ _ | refine World.grows.plus ?_ _ _ | refine World.grows.drew ?_)))⟩
          | false =>
          rw [r1, Bool.false_or] at HT
          clear r1
          go_wp2_with (go_at_call 99; fail)
          refine (c63 _ _ _).mono ?_; rintro e U ⟨rfl, hg⟩; obtain ⟨n2, x2, rfl⟩ := World.plus_of hg; clear hg
          cases r2 : outB 0 9 (s.mb k2) with
          | true =>
            have HR : Hid (s.check = 2) := Lib.hid (by rw [HC.out, any_true_of hlt (show s.badM k2 = true by rw [HT.out, r2])]; rfl)
            clear HC HT r2
            go_wp2
            (refine bodyPost_ret (v := .int .i64 2) (by simp [results, Try.results24, go_sem]) rfl ?_)
            exact ⟨ret_int (by rw [HR.out]; rfl), HW.out.trans (by (repeat (first | exact World.grows.refl _ | assumption | refine World.grows.alloc ?_ _ | refine World.grows.plus ?_ _ _ | refine World.grows.drew ?_)))⟩
          | false =>
          rw [r2] at HT
          clear r2
          have HQ := Lib.hid (upto_succ hq.out HT.out)
          have g9 : w.grows ((wr.plus n1 x1).plus n2 x2) := HW.out.trans (by (repeat (first | exact World.grows.refl _ | assumption | refine World.grows.alloc ?_ _ | refine World.grows.plus ?_ _ _ | refine World.grows.drew ?_)))
          have HB9 := Lib.hid (World.grows.heap_of (show wr.grows ((wr.plus n1 x1).plus n2 x2) by (repeat (first | exact World.grows.refl _ | assumption | refine World.grows.alloc ?_ _ | refine World.grows.plus ?_ _ _ | refine World.grows.drew ?_))) HB.out)
          go_wp2
          case roundEnd => exact ⟨⟨k2 + 1, by omega, by go_num, HQ, HB9, Lib.hid g9⟩, by simp [intOf]; omega⟩
        · have hke : k2 = s.nm := by omega
          have hk2I : ¬ (k2 : Int) < s.nm := by omega
          have HN : Hid ((List.range s.nm).any s.badM = false) := Lib.hid (any_false_of (by rw [← hke]; exact hq.out))
          rw [HN.out, Bool.false_or] at HC
          clear HN hke hq hlt hk
          have q2 := cell_of_heap (i := 2) HB.out rfl
          go_wp2_with (go_at_call 99; fail)
          refine (c63 _ _ _).mono ?_; rintro e U ⟨rfl, hg⟩; obtain ⟨n1, x1, rfl⟩ := World.plus_of hg; clear hg
          cases q5 : outB 0 10000 s.wide with
          | true =>
            have HR : Hid (s.check = 2) := Lib.hid (by rw [HC.out, q5]; rfl)
            clear HC
            go_wp2
            (refine bodyPost_ret (v := .int .i64 2) (by simp [results, Try.results24, go_sem]) rfl ?_)
            exact ⟨ret_int (by rw [HR.out]; rfl), HW.out.trans (by (repeat (first | exact World.grows.refl _ | assumption | refine World.grows.alloc ?_ _ | refine World.grows.plus ?_ _ _ | refine World.grows.drew ?_)))⟩
          | false =>
            have HR : Hid (s.check = 0) := Lib.hid (by rw [HC.out, q5]; rfl)
            clear HC
            go_wp2
            (refine bodyPost_ret (v := .int .i64 0) (by simp [results, Try.results24, go_sem]) rfl ?_)
            exact ⟨ret_int (by rw [HR.out]; rfl), HW.out.trans (by (repeat (first | exact World.grows.refl _ | assumption | refine World.grows.alloc ?_ _ | refine World.grows.plus ?_ _ _ | refine World.grows.drew ?_)))⟩
end Go.Proofs.Yteingahlmlndkaa

