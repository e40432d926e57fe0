/-
  What is proved: the arrays of bytes that MarkMore is handed.
-/
import Derived.Test.YtdminglglapnlaaM15
import Derived.Test.YtdminglglapnlaaM17
set_option linter.all false
namespace Go.Proofs.Ytdminglglapnlaa
open Go.ChangeShapes Go.WideShapes Go.ChangeAt Go.RowKit Go.Deep Go.Joins

theorem kcs73 : Try.prog.cellsOf 73 = 2 := by kernel_rfl
theorem kcs74 : Try.prog.cellsOf 74 = 10 := by kernel_rfl
section
variable {H : Type} {enc : TypeId × Value → H} {w : World} {base : Nat} {held : Bool}
set_option maxRecDepth 100000 in
theorem arr_of {n : Nat} {t : TypeId} (ht : Try.prog.underlying t = some (.array n 5)) (hn : Try.prog.cellsOf t = n) {v : Value} {d : DataW H} {p : List MemPlace} (hv : Value.okWide Try.prog w .any base t v) (h : DataW.Trod enc Try.prog w 0 (fun _ => true) held t v d p) :
    ∃ f : Nat → Int, v = .agg ((List.range n).map fun i => Value.int .u8 (f i)).toArray ∧ ∀ i, i < n → 0 ≤ f i ∧ f i ≤ 255 := by
  obtain ⟨cs, rfl, hsz⟩ := okWide_array ht hv
  obtain ⟨fuel, hf⟩ := h
  obtain ⟨hl, hx⟩ := array_nums ht Try.underlying5 kcs5 hn hf
  obtain ⟨f, hf⟩ := choose_lt hx
  refine ⟨f, ?_, fun i hi => lit_u8 (hf i hi).2⟩
  congr 1
  apply Array.ext'
  rw [List.toList_toArray]
  apply List.ext_getElem?
  intro i
  by_cases hi : i < n
  · rw [List.getElem?_map, List.getElem?_range hi]
    have := (hf i hi).1
    simpa [Value.cells] using this
  · rw [List.getElem?_eq_none (by simp; omega), List.getElem?_eq_none (by simp; omega)]
set_option maxRecDepth 100000 in
theorem pair_of {v : Value} {d : DataW H} {p : List MemPlace} (hv : Value.okWide Try.prog w .any base 73 v) (h : DataW.Trod enc Try.prog w 0 (fun _ => true) held 73 v d p) :
    ∃ a b : Nat, v = .agg #[.int .u8 (a : Nat), .int .u8 (b : Nat)] ∧ a ≤ 255 ∧ b ≤ 255 := by
  obtain ⟨f, rfl, hb⟩ := arr_of Try.underlying73 kcs73 hv h
  have h0 := hb 0 (by omega)
  have h1 := hb 1 (by omega)
  obtain ⟨a, ha⟩ : ∃ a : Nat, f 0 = a := ⟨(f 0).toNat, by omega⟩
  obtain ⟨b, hb⟩ : ∃ a : Nat, f 1 = a := ⟨(f 1).toNat, by omega⟩
  refine ⟨a, b, ?_, by omega, by omega⟩
  rw [← ha, ← hb]
  rfl
set_option maxRecDepth 100000 in
theorem ten_of {v : Value} {d : DataW H} {p : List MemPlace} (hv : Value.okWide Try.prog w .any base 74 v) (h : DataW.Trod enc Try.prog w 0 (fun _ => true) held 74 v d p) :
    ∃ f : Nat → Int, v = .agg ((List.range 10).map fun i => Value.int .u8 (f i)).toArray ∧ ∀ i, i < 10 → 0 ≤ f i ∧ f i ≤ 255 := arr_of Try.underlying74 kcs74 hv h
end
end Go.Proofs.Ytdminglglapnlaa

/-
  What is proved: the statement MarkMore, at every input.
-/
namespace Go.Proofs.Ytdminglglapnlaa
open Go.ChangeShapes Go.WideShapes Go.ChangeAt Go.RowKit

set_option maxRecDepth 100000 in
theorem markMore_lifted (os : Os) (started : os.Started) (H : Type) (enc : TypeId × Value → H) :
    ReturnsInHanded {} Try.checked os 9 .any (Rows.markMoreSpec.pre6 enc Try.prog Try.f9 Rows.markMoreRow.domain false) (Rows.markMoreSpec.post enc Try.prog Try.f9 false true false false) := by
  refine law_lifted (C := Try.checked) (tb := 4) started own_c laid_c (by kernel_rfl) Try.func9 (of_decide_eq_true (by kernel_rfl))
    (ChangeSpec.witness6 (enc := enc) (C := Try.checked) false ⟨#[], #[.agg #[.slice none 0 0, .slice none 0 0], .int .u8 0, .int .u8 0, .int .u16 0, .agg #[.int .u8 0, .int .u8 0], .int .u16 0, .agg #[.int .u8 0, .int .u8 0, .int .u8 0, .int .u8 0, .int .u8 0, .int .u8 0, .int .u8 0, .int .u8 0, .int .u8 0, .int .u8 0]], []⟩ 8 (by kernel_rfl) (by kernel_rfl) (by kernel_rfl) (by kernel_rfl))
    rfl Try.underlying4 rfl (fun ds hl => ?_) (fun W base args ds ps hval hA => ?_)
  · match ds, hl with
    | [d1, d2, d3, d4, d5, d6, d7], _ => exact ⟨rfl, rfl, rfl⟩
  · have hA' : DataW.TrodAll enc Try.prog W 0 (fun _ => true) true Try.f9.params.toList args.toList ds ps := hA
    have hval' : ∀ (j : Nat) t v, Try.f9.params[j]? = some t → args[j]? = some v → Value.okWide Try.prog W .any base t v := hval
    rw [Try.params9] at hA' hval'
    obtain ⟨v1, v2, v3, v4, v5, v6, v7, d1, d2, d3, d4, d5, d6, d7, p1, p2, p3, p4, p5, p6, p7, rfl, rfl, rfl, h1, h2, h3, h4, h5, h6, h7⟩ := trodAll_7 hA'
    obtain ⟨r1, hr1⟩ := reg_of (hval' 0 25 v1 rfl rfl) h1
    obtain ⟨z2, rfl, -, -, hw2⟩ := open_int Try.underlying5 (hval' 1 5 v2 rfl rfl) h2; have hz2 := lit_u8 hw2
    obtain ⟨z3, rfl, -, -, hw3⟩ := open_int Try.underlying5 (hval' 2 5 v3 rfl rfl) h3; have hz3 := lit_u8 hw3
    obtain ⟨z4, rfl, -, -, hw4⟩ := open_int Try.underlying72 (hval' 3 72 v4 rfl rfl) h4; have hz4 := lit_u16 hw4
    obtain ⟨m5a, m5b, rfl, hm5a, hm5b⟩ := pair_of (hval' 4 73 v5 rfl rfl) h5
    obtain ⟨z6, rfl, -, -, hw6⟩ := open_int Try.underlying72 (hval' 5 72 v6 rfl rfl) h6; have hz6 := lit_u16 hw6
    obtain ⟨f7, rfl, hf7⟩ := ten_of (hval' 6 74 v7 rfl rfl) h7
    obtain ⟨n2, rfl⟩ : ∃ n : Nat, z2 = (n : Int) := ⟨z2.toNat, by omega⟩
    obtain ⟨n3, rfl⟩ : ∃ n : Nat, z3 = (n : Int) := ⟨z3.toNat, by omega⟩
    obtain ⟨n4, rfl⟩ : ∃ n : Nat, z4 = (n : Int) := ⟨z4.toNat, by omega⟩
    obtain ⟨n6, rfl⟩ : ∃ n : Nat, z6 = (n : Int) := ⟨z6.toNat, by omega⟩
    exact more_w W v1 r1 hr1 n2 n3 n4 (by omega) (by omega) (by omega) m5a m5b hm5a hm5b n6 (by omega) f7 hf7

theorem markMore_holds : Rows.MarkMoreSaid :=
  OpenClaim.holds_of_wide 9 Try.f9 rfl rfl rfl rfl rfl rfl rfl ⟨rfl, rfl, rfl, rfl, rfl⟩ rfl rfl rfl rfl rfl (by kernel_rfl) Try.func9 (by kernel_rfl)
    (of_decide_eq_true (by kernel_rfl)) (by unfold Func.isWrapper; first | (rw [if_pos (by decide +kernel)]; kernel_rfl) | (rw [if_neg (by decide +kernel)]; exact ⟨rfl, rfl⟩))
    (fun os started H enc _ => markMore_lifted os started H enc)
end Go.Proofs.Ytdminglglapnlaa

