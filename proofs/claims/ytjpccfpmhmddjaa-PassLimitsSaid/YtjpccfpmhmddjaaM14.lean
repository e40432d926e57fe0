/-
  What is proved: names of passes and lists of bytes that a law of layer 4 is handed.
-/
import Derived.Test.YtjpccfpmhmddjaaM10
set_option linter.all false
namespace Go.Proofs.Ytjpccfpmhmddjaa
open Go.ChangeShapes Go.WideShapes Go.ChangeAt Go.RowKit Go.Deep Go.Joins

theorem cells5 : Try.prog.cellsOf 5 = 1 := by kernel_rfl
theorem cells47 : Try.prog.cellsOf 47 = 2 := by kernel_rfl

section
variable {H : Type} {enc : TypeId × Value → H} {w : World} {base : Nat} {held : Bool}
set_option maxRecDepth 100000 in
theorem name_of {v : Value} {d : DataW H} {p : List MemPlace} (hv : Value.okWide Try.prog w .any base 47 v) (h : DataW.Trod enc Try.prog w 0 (fun _ => true) held 47 v d p) :
    ∃ a b : Int, v = .agg #[.int .i64 a, .int .i64 b] ∧ (-9223372036854775808 ≤ a ∧ a ≤ 9223372036854775807) ∧ (-9223372036854775808 ≤ b ∧ b ≤ 9223372036854775807) := by
  obtain ⟨cs, rfl, hsz⟩ := okWide_struct Try.underlying47 hv
  rw [cells47] at hsz
  obtain ⟨c0, c1, rfl⟩ := array2 hsz
  obtain ⟨fuel, hf⟩ := h
  obtain ⟨y0, y1, n, -, -, hy0, hy1⟩ := trod_struct2 Try.underlying47 hf
  simp only [Value.cells, cells3, List.drop_zero, List.take_succ_cons, List.take_zero, List.drop_succ_cons] at hy0 hy1
  obtain ⟨a, e0, _, b0⟩ := DataW.trod_int Try.underlying3 hy0
  obtain ⟨b, e1, _, b1⟩ := DataW.trod_int Try.underlying3 hy1
  obtain rfl : c0 = .int .i64 a := by simpa using e0
  obtain rfl : c1 = .int .i64 b := by simpa using e1
  exact ⟨a, b, rfl, lit_i64 b0, lit_i64 b1⟩
set_option maxRecDepth 100000 in
theorem bytes_of {v : Value} {d : DataW H} {p : List MemPlace} (hv : Value.okWide Try.prog w .any base 55 v) (h : DataW.Trod enc Try.prog w 0 (fun _ => true) held 55 v d p) :
    ∃ m f, NumsAt .u8 w v m f ∧ ∀ i, i < m → 0 ≤ f i ∧ f i ≤ 255 := by
  obtain ⟨a, len, cap, rfl⟩ := okWide_slice Try.underlying55 hv
  obtain ⟨fuel, hf⟩ := h
  obtain ⟨m, f, h1, h2⟩ := nums_open Try.underlying55 Try.underlying5 cells5 hf
  exact ⟨m, f, h1, fun i hi => lit_u8 (h2 i hi)⟩
end
end Go.Proofs.Ytjpccfpmhmddjaa

