/-
  What is proved: what the laws of layer 11 are handed: towns, plans, lists, streets, arrays of bytes.
-/
import Derived.Test.YtaanbdjmibjcbaaM14
import Derived.Test.YtaanbdjmibjcbaaM11
import Derived.Test.YtaanbdjmibjcbaaM12
set_option linter.all false
namespace Go.Proofs.Ytaanbdjmibjcbaa
open Go.ChangeShapes Go.WideShapes Go.ChangeAt Go.RowKit Go.Deep Go.Joins

theorem own_c : ownKnob Try.prog.godebug = none := by kernel_rfl
theorem laid_c : laidOutB Try.prog = true := by kernel_rfl
theorem kcs2 : Try.prog.cellsOf 2 = 1 := by kernel_rfl
theorem kcs3 : Try.prog.cellsOf 3 = 1 := by kernel_rfl
theorem kcs5 : Try.prog.cellsOf 5 = 1 := by kernel_rfl
theorem kcs22 : Try.prog.cellsOf 22 = 1 := by kernel_rfl
theorem kcs23 : Try.prog.cellsOf 23 = 1 := by kernel_rfl
theorem kcs25 : Try.prog.cellsOf 25 = 3 := by kernel_rfl
theorem kcs35 : Try.prog.cellsOf 35 = 1 := by kernel_rfl
theorem kcs52 : Try.prog.cellsOf 52 = 3 := by kernel_rfl
theorem kcs54 : Try.prog.cellsOf 54 = 2 := by kernel_rfl
theorem kcs60 : Try.prog.cellsOf 60 = 2 := by kernel_rfl
theorem kcs62 : Try.prog.cellsOf 62 = 4 := by kernel_rfl
theorem kcs71 : Try.prog.cellsOf 71 = 3 := by kernel_rfl
theorem cellsOfRow_three (c : Nat → Value) : cellsOfRow c 3 = [c 0, c 1, c 2] := rfl
theorem cellsOfRow_four (c : Nat → Value) : cellsOfRow c 4 = [c 0, c 1, c 2, c 3] := rfl
theorem arr3 {cs : Array Value} (h : cs.size = 3) : ∃ a b c, cs = #[a, b, c] := by
  obtain ⟨l⟩ := cs
  match l, h with
  | [a, b, c], _ => exact ⟨a, b, c, rfl⟩
theorem arr4 {cs : Array Value} (h : cs.size = 4) : ∃ a b c d, cs = #[a, b, c, d] := by
  obtain ⟨l⟩ := cs
  match l, h with
  | [a, b, c, d], _ => exact ⟨a, b, c, d, rfl⟩

section
variable {H : Type} {enc : TypeId × Value → H} {w : World} {base : Nat} {held : Bool}

set_option maxRecDepth 100000 in
theorem ints_of {v : Value} {d : DataW H} {p : List MemPlace} (hv : Value.okWide Try.prog w .any base 35 v) (h : DataW.Trod enc Try.prog w 0 (fun _ => true) held 35 v d p) :
    ∃ m f, IntsAt w v m f ∧ ∀ i, i < m → -9223372036854775808 ≤ f i ∧ f i ≤ 9223372036854775807 := by
  obtain ⟨a, len, cap, rfl⟩ := okWide_slice Try.underlying35 hv
  obtain ⟨fuel, hf⟩ := h
  obtain ⟨m, f, h1, h2⟩ := nums_open Try.underlying35 Try.underlying3 kcs3 hf
  exact ⟨m, f, h1, fun i hi => lit_i64 (h2 i hi)⟩
/-- the cells of a street -/
theorem street_cells {fuel : Nat} {c0 c1 c2 c3 : Value} {x : DataW H × List MemPlace} (h : DataW.trod enc Try.prog w 0 (fun _ => true) held fuel 62 [c0, c1, c2, c3] = some x) :
    ∃ a b lo hi : Int, c0 = .int .i64 a ∧ c1 = .int .i64 b ∧ c2 = .int .i64 lo ∧ c3 = .int .i64 hi := by
  obtain ⟨n, hf⟩ := struct_open Try.underlying62 h
  have h0 := hf 0 _ rfl
  change ∃ y, DataW.trod enc Try.prog w 0 (fun _ => true) held n 3 ((List.drop 0 _).take (Try.prog.cellsOf 3)) = some y at h0
  rw [kcs3] at h0
  obtain ⟨y0, h0⟩ := h0
  have h1 := hf 1 _ rfl
  change ∃ y, DataW.trod enc Try.prog w 0 (fun _ => true) held n 3 ((List.drop 1 _).take (Try.prog.cellsOf 3)) = some y at h1
  rw [kcs3] at h1
  obtain ⟨y1, h1⟩ := h1
  have h2 := hf 2 _ rfl
  change ∃ y, DataW.trod enc Try.prog w 0 (fun _ => true) held n 60 ((List.drop 2 _).take (Try.prog.cellsOf 60)) = some y at h2
  rw [kcs60] at h2
  obtain ⟨y2, h2⟩ := h2
  obtain ⟨n2, hg⟩ := struct_open Try.underlying60 h2
  have h3 := hg 0 _ rfl
  change ∃ y, DataW.trod enc Try.prog w 0 (fun _ => true) held n2 2 ((List.drop 0 _).take (Try.prog.cellsOf 2)) = some y at h3
  rw [kcs2] at h3
  obtain ⟨y3, h3⟩ := h3
  have h4 := hg 1 _ rfl
  change ∃ y, DataW.trod enc Try.prog w 0 (fun _ => true) held n2 2 ((List.drop 1 _).take (Try.prog.cellsOf 2)) = some y at h4
  rw [kcs2] at h4
  obtain ⟨y4, h4⟩ := h4
  obtain ⟨a, e0, _, _⟩ := DataW.trod_int Try.underlying3 h0
  obtain ⟨b, e1, _, _⟩ := DataW.trod_int Try.underlying3 h1
  obtain ⟨lo, e3, _, _⟩ := DataW.trod_int Try.underlying2 h3
  obtain ⟨hi, e4, _, _⟩ := DataW.trod_int Try.underlying2 h4
  exact ⟨a, b, lo, hi, by simpa using e0, by simpa using e1, by simpa using e3, by simpa using e4⟩
theorem visit_cells {fuel : Nat} {c0 c1 c2 : Value} {x : DataW H × List MemPlace} (h : DataW.trod enc Try.prog w 0 (fun _ => true) held fuel 71 [c0, c1, c2] = some x) :
    ∃ p f b : Int, c0 = .int .i64 p ∧ c1 = .int .i64 f ∧ c2 = .int .i64 b := by
  obtain ⟨n, hf⟩ := struct_open Try.underlying71 h
  have h0 := hf 0 _ rfl
  change ∃ y, DataW.trod enc Try.prog w 0 (fun _ => true) held n 3 ((List.drop 0 _).take (Try.prog.cellsOf 3)) = some y at h0
  rw [kcs3] at h0
  obtain ⟨y0, h0⟩ := h0
  have h1 := hf 1 _ rfl
  change ∃ y, DataW.trod enc Try.prog w 0 (fun _ => true) held n 2 ((List.drop 1 _).take (Try.prog.cellsOf 2)) = some y at h1
  rw [kcs2] at h1
  obtain ⟨y1, h1⟩ := h1
  have h2 := hf 2 _ rfl
  change ∃ y, DataW.trod enc Try.prog w 0 (fun _ => true) held n 2 ((List.drop 2 _).take (Try.prog.cellsOf 2)) = some y at h2
  rw [kcs2] at h2
  obtain ⟨y2, h2⟩ := h2
  obtain ⟨a, e0, _, _⟩ := DataW.trod_int Try.underlying3 h0
  obtain ⟨b, e1, _, _⟩ := DataW.trod_int Try.underlying2 h1
  obtain ⟨c, e2, _, _⟩ := DataW.trod_int Try.underlying2 h2
  exact ⟨a, b, c, by simpa using e0, by simpa using e1, by simpa using e2⟩
set_option maxRecDepth 100000 in
theorem town_of {v : Value} {d : DataW H} {p : List MemPlace} (hv : Value.okWide Try.prog w .any base 25 v) (h : DataW.Trod enc Try.prog w 0 (fun _ => true) held 25 v d p) :
    ∃ t, TownAt w v t := by
  obtain ⟨cs, rfl, hsz⟩ := okWide_struct Try.underlying25 hv
  rw [kcs25] at hsz
  obtain ⟨c0, c1, c2, rfl⟩ := arr3 hsz
  obtain ⟨fuel, hf⟩ := h
  obtain ⟨n, hf⟩ := struct_open Try.underlying25 hf
  have h0 := hf 0 _ rfl
  change ∃ y, DataW.trod enc Try.prog w 0 (fun _ => true) held n 3 ((List.drop 0 _).take (Try.prog.cellsOf 3)) = some y at h0
  rw [kcs3] at h0
  obtain ⟨y0, h0⟩ := h0
  have h1 := hf 1 _ rfl
  change ∃ y, DataW.trod enc Try.prog w 0 (fun _ => true) held n 22 ((List.drop 1 _).take (Try.prog.cellsOf 22)) = some y at h1
  rw [kcs22] at h1
  obtain ⟨y1, h1⟩ := h1
  have h2 := hf 2 _ rfl
  change ∃ y, DataW.trod enc Try.prog w 0 (fun _ => true) held n 23 ((List.drop 2 _).take (Try.prog.cellsOf 23)) = some y at h2
  rw [kcs23] at h2
  obtain ⟨y2, h2⟩ := h2
  simp only [Value.cells, List.drop_zero, List.take_succ_cons, List.take_zero, List.drop_succ_cons] at h0 h1 h2
  obtain ⟨pl, e0, _, _⟩ := DataW.trod_int Try.underlying3 h0
  obtain rfl : c0 = .int .i64 pl := by simpa using e0
  obtain ⟨ns, n2, c, g1, g2⟩ := sliceAt_open Try.underlying22 kcs62 h1
  have g3 : ∀ i, i < ns → ∃ q : Int × Int × Int × Int, c i 0 = .int .i64 q.1 ∧ c i 1 = .int .i64 q.2.1 ∧ c i 2 = .int .i64 q.2.2.1 ∧ c i 3 = .int .i64 q.2.2.2 := fun i hi => by
    obtain ⟨y, hy⟩ := g2 i hi
    rw [cellsOfRow_four] at hy
    obtain ⟨a, b, lo, hi, r⟩ := street_cells hy
    exact ⟨(a, b, lo, hi), r⟩
  obtain ⟨q, hq⟩ := choose_lt g3
  obtain ⟨nv, n3, c', k1, k2⟩ := sliceAt_open Try.underlying23 kcs71 h2
  have k3 : ∀ i, i < nv → ∃ q : Int × Int × Int, c' i 0 = .int .i64 q.1 ∧ c' i 1 = .int .i64 q.2.1 ∧ c' i 2 = .int .i64 q.2.2 := fun i hi => by
    obtain ⟨y, hy⟩ := k2 i hi
    rw [cellsOfRow_three] at hy
    obtain ⟨a, b, c, r⟩ := visit_cells hy
    exact ⟨(a, b, c), r⟩
  obtain ⟨r, hr⟩ := choose_lt k3
  refine ⟨{ pl := pl, ns := ns, sa := fun i => (q i).1, sb := fun i => (q i).2.1, slo := fun i => (q i).2.2.1, shi := fun i => (q i).2.2.2, nv := nv, vp := fun i => (r i).1, vf := fun i => (r i).2.1, vb := fun i => (r i).2.2 }, c1, c2, rfl, g1.congr fun i j hi hj => ?_, k1.congr fun i j hi hj => ?_⟩
  · obtain ⟨z0, z1, z2, z3⟩ := hq i hi
    rcases (show j = 0 ∨ j = 1 ∨ j = 2 ∨ j = 3 by omega) with rfl | rfl | rfl | rfl
    · exact z0
    · exact z1
    · exact z2
    · exact z3
  · obtain ⟨z0, z1, z2⟩ := hr i hi
    rcases (show j = 0 ∨ j = 1 ∨ j = 2 by omega) with rfl | rfl | rfl
    · exact z0
    · exact z1
    · exact z2
set_option maxRecDepth 100000 in
theorem plan_of {v : Value} {d : DataW H} {p : List MemPlace} (hv : Value.okWide Try.prog w .any base 39 v) (h : DataW.Trod enc Try.prog w 0 (fun _ => true) held 39 v d p) :
    ∃ P, PlanAt w v P := by
  obtain ⟨a, len, cap, rfl⟩ := okWide_slice Try.underlying39 hv
  obtain ⟨fuel, hf⟩ := h
  obtain ⟨m, n2, c, h1, h2⟩ := sliceAt_open Try.underlying39 kcs35 hf
  have h3 : ∀ i, i < m → ∃ q : List Int, RowAt w (c i 0) q := fun i hi => by
    obtain ⟨y, hy⟩ := h2 i hi
    rw [cellsOfRow_one] at hy
    obtain ⟨m', f, h4, _⟩ := nums_open Try.underlying35 Try.underlying3 kcs3 hy
    refine ⟨(List.range m').map f, ?_⟩
    unfold RowAt
    rw [List.length_map, List.length_range]
    refine SliceAt.congr h4 fun i j hi hj => ?_
    show _ = Value.int .i64 (((List.range m').map f).getD i 0)
    rw [List.getD_eq_getElem?_getD, List.getElem?_map, List.getElem?_range hi]
    rfl
  obtain ⟨q, hq⟩ := choose_lt h3
  refine ⟨(List.range m).map q, fun i => c i 0, ?_, fun i hi => ?_⟩
  · rw [List.length_map, List.length_range]
    refine h1.congr fun i j hi hj => ?_
    obtain rfl : j = 0 := by omega
    rfl
  · rw [List.length_map, List.length_range] at hi
    rw [List.getD_eq_getElem?_getD, List.getElem?_map, List.getElem?_range hi]
    exact hq i hi
set_option maxRecDepth 100000 in
theorem street_of {v : Value} {d : DataW H} {p : List MemPlace} (hv : Value.okWide Try.prog w .any base 62 v) (h : DataW.Trod enc Try.prog w 0 (fun _ => true) held 62 v d p) :
    ∃ a b lo hi : Int, v = .agg #[.int .i64 a, .int .i64 b, .int .i64 lo, .int .i64 hi] := by
  obtain ⟨cs, rfl, hsz⟩ := okWide_struct Try.underlying62 hv
  rw [kcs62] at hsz
  obtain ⟨c0, c1, c2, c3, rfl⟩ := arr4 hsz
  obtain ⟨fuel, hf⟩ := h
  obtain ⟨a, b, lo, hi, rfl, rfl, rfl, rfl⟩ := street_cells hf
  exact ⟨a, b, lo, hi, rfl⟩
set_option maxRecDepth 100000 in
theorem bytes_arr {n : Nat} {t : TypeId} (ht : Try.prog.underlying t = some (.array n 5)) (hn : Try.prog.cellsOf t = n) {v : Value} {d : DataW H} {p : List MemPlace} (hv : Value.okWide Try.prog w .any base t v) (h : DataW.Trod enc Try.prog w 0 (fun _ => true) held t v d p) :
    ∃ f : Nat → Nat, v = .agg ((List.range n).map fun i => Value.int .u8 (f i : Nat)).toArray ∧ ∀ i, i < n → f i ≤ 255 := by
  obtain ⟨cs, rfl, hsz⟩ := okWide_array ht hv
  obtain ⟨fuel, hf⟩ := h
  obtain ⟨hl, hx⟩ := array_nums ht Try.underlying5 kcs5 hn hf
  obtain ⟨f, hf⟩ := choose_lt hx
  refine ⟨fun i => (f i).toNat, ?_, fun i hi => by have := lit_u8 (hf i hi).2; show (f i).toNat ≤ 255; omega⟩
  congr 1
  apply Array.ext'
  rw [List.toList_toArray]
  apply List.ext_getElem?
  intro i
  by_cases hi : i < n
  · rw [List.getElem?_map, List.getElem?_range hi]
    have h1 := (hf i hi).1
    have h2 := lit_u8 (hf i hi).2
    have h3 : ((f i).toNat : Int) = f i := by omega
    simp only [Option.map_some, h3]
    simpa [Value.cells] using h1
  · rw [List.getElem?_eq_none (by simp; omega), List.getElem?_eq_none (by simp; omega)]
set_option maxRecDepth 100000 in
theorem two_of {v : Value} {d : DataW H} {p : List MemPlace} (hv : Value.okWide Try.prog w .any base 54 v) (h : DataW.Trod enc Try.prog w 0 (fun _ => true) held 54 v d p) :
    ∃ a b : Nat, v = .agg #[.int .u8 (a : Nat), .int .u8 (b : Nat)] ∧ a ≤ 255 ∧ b ≤ 255 := by
  obtain ⟨f, rfl, hb⟩ := bytes_arr Try.underlying54 kcs54 hv h
  exact ⟨f 0, f 1, by rw [show List.range 2 = [0, 1] from rfl]; rfl, hb 0 (by omega), hb 1 (by omega)⟩
set_option maxRecDepth 100000 in
theorem three_of {v : Value} {d : DataW H} {p : List MemPlace} (hv : Value.okWide Try.prog w .any base 52 v) (h : DataW.Trod enc Try.prog w 0 (fun _ => true) held 52 v d p) :
    ∃ a b c : Nat, v = .agg #[.int .u8 (a : Nat), .int .u8 (b : Nat), .int .u8 (c : Nat)] ∧ a ≤ 255 ∧ b ≤ 255 ∧ c ≤ 255 := by
  obtain ⟨f, rfl, hb⟩ := bytes_arr Try.underlying52 kcs52 hv h
  exact ⟨f 0, f 1, f 2, by rw [show List.range 3 = [0, 1, 2] from rfl]; rfl, hb 0 (by omega), hb 1 (by omega), hb 2 (by omega)⟩
end
end Go.Proofs.Ytaanbdjmibjcbaa

/-
  What is proved: nothing: this text names those that are built before the library's sort is imported.
-/
namespace Go.Proofs.Ytaanbdjmibjcbaa
end Go.Proofs.Ytaanbdjmibjcbaa

