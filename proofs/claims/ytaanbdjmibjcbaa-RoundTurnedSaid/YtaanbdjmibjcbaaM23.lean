/-
  What is proved: one visit in memory.
-/
import Derived.Test.YtaanbdjmibjcbaaM18
set_option linter.all false
namespace Go.Proofs.Ytaanbdjmibjcbaa
open Go.RowKit
theorem one3 (w : World) (x y z : Value) (t b : Nat) (hb : b = w.heap.size) : SliceAt (w.alloc (.cells #[x, y, z] t)) (.slice (some ⟨b, 0, none⟩) 1 1) 1 3 (fun _ j => if j = 0 then x else if j = 1 then y else z) := by
  subst hb
  refine ⟨_, _, rfl, by omega, by unfold maxLen; omega, fun i j hi hj => ⟨_, _, rfl, ?_⟩⟩
  have hi0 : i = 0 := by omega
  subst hi0
  rcases (show j = 0 ∨ j = 1 ∨ j = 2 by omega) with rfl | rfl | rfl <;> simp [go_sem]
theorem one3_cells (a b c : Int) : ∀ u ∈ tableL 1 3 (fun _ j => if j = 0 then Value.int .i64 a else if j = 1 then .int .i64 b else .int .i64 c), u.oneCell' = true := by
  intro u hu
  have e : tableL 1 3 (fun _ j => if j = 0 then Value.int .i64 a else if j = 1 then .int .i64 b else .int .i64 c) = [.int .i64 a, .int .i64 b, .int .i64 c] := rfl
  rw [e] at hu
  simp at hu
  rcases hu with rfl | rfl | rfl <;> rfl
end Go.Proofs.Ytaanbdjmibjcbaa

