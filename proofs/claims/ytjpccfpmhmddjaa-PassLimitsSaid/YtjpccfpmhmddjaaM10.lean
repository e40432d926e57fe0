/-
  What is proved: what the laws of layer 4 are handed: jobs, lists, lists of lists, numbers.
-/
import Derived.Test.YtjpccfpmhmddjaaM9
import Derived.Test.YtjpccfpmhmddjaaM3
import Derived.Test.YtjpccfpmhmddjaaM8
set_option linter.all false
namespace Go.Proofs.Ytjpccfpmhmddjaa
open Go.ChangeShapes Go.WideShapes Go.ChangeAt Go.RowKit Go.Deep Go.Joins

theorem own_c : ownKnob Try.prog.godebug = none := by kernel_rfl
theorem laid_c : laidOutB Try.prog = true := by kernel_rfl
theorem cells2 : Try.prog.cellsOf 2 = 1 := by kernel_rfl
theorem cells3 : Try.prog.cellsOf 3 = 1 := by kernel_rfl
theorem cells22 : Try.prog.cellsOf 22 = 1 := by kernel_rfl
theorem cells24 : Try.prog.cellsOf 24 = 2 := by kernel_rfl
theorem cells25 : Try.prog.cellsOf 25 = 1 := by kernel_rfl
theorem cells62 : Try.prog.cellsOf 62 = 1 := by kernel_rfl
theorem cells65 : Try.prog.cellsOf 65 = 2 := by kernel_rfl

section
variable {H : Type} {enc : TypeId × Value → H} {w : World} {base : Nat} {held : Bool}

set_option maxRecDepth 100000 in
theorem ints_of {v : Value} {d : DataW H} {p : List MemPlace} (hv : Value.okWide Try.prog w .any base 25 v) (h : DataW.Trod enc Try.prog w 0 (fun _ => true) held 25 v d p) :
    ∃ m f, IntsAt w v m f ∧ ∀ i, i < m → -9223372036854775808 ≤ f i ∧ f i ≤ 9223372036854775807 := by
  obtain ⟨a, len, cap, rfl⟩ := okWide_slice Try.underlying25 hv
  obtain ⟨fuel, hf⟩ := h
  obtain ⟨m, f, h1, h2⟩ := nums_open Try.underlying25 Try.underlying3 cells3 hf
  exact ⟨m, f, h1, fun i hi => lit_i64 (h2 i hi)⟩

set_option maxRecDepth 100000 in
theorem rows_of {v : Value} {d : DataW H} {p : List MemPlace} (hv : Value.okWide Try.prog w .any base 40 v) (h : DataW.Trod enc Try.prog w 0 (fun _ => true) held 40 v d p) :
    ∃ m ln f, RowsOf w v m ln f := by
  obtain ⟨a, len, cap, rfl⟩ := okWide_slice Try.underlying40 hv
  obtain ⟨fuel, hf⟩ := h
  obtain ⟨m, n, c, h1, h2⟩ := sliceAt_open Try.underlying40 cells25 hf
  have h3 : ∀ i, i < m → ∃ q : Nat × (Nat → Int), IntsAt w (c i 0) q.1 q.2 := fun i hi => by
    obtain ⟨y, hy⟩ := h2 i hi
    rw [cellsOfRow_one] at hy
    obtain ⟨m', f, h4, _⟩ := nums_open Try.underlying25 Try.underlying3 cells3 hy
    exact ⟨(m', f), h4⟩
  obtain ⟨q, hq⟩ := choose_lt h3
  refine ⟨m, fun i => (q i).1, fun i => (q i).2, fun i => c i 0, h1.congr fun i j hi hj => ?_, hq⟩
  obtain rfl : j = 0 := by omega
  rfl

set_option maxRecDepth 100000 in
theorem passes_of {n fuel : Nat} {v : Value} {x : DataW H × List MemPlace} (h : DataW.trod enc Try.prog w 0 (fun _ => true) held fuel 62 [v] = some x) :
    ∃ (m : Nat) (pk lv : Nat → Int), SliceAt w v m 2 (fun k j => if j = 0 then .int .i64 (pk k) else .int .i64 (lv k)) ∧
      ∀ k, k < m → (-9223372036854775808 ≤ pk k ∧ pk k ≤ 9223372036854775807) ∧ (-9223372036854775808 ≤ lv k ∧ lv k ≤ 9223372036854775807) := by
  obtain ⟨m, n, c, h1, h2⟩ := sliceAt_open Try.underlying62 cells65 h
  have h3 : ∀ k, k < m → ∃ z : Int × Int, c k 0 = .int .i64 z.1 ∧ c k 1 = .int .i64 z.2 ∧ (Lit.int .i64 z.1).wf = true ∧ (Lit.int .i64 z.2).wf = true := fun k hk => by
    obtain ⟨y, hy⟩ := h2 k hk
    rw [cellsOfRow_two] at hy
    obtain ⟨y0, y1, n2, -, -, hy0, hy1⟩ := trod_struct2 Try.underlying65 hy
    simp only [cells2, List.drop_zero, List.take_succ_cons, List.take_zero, List.drop_succ_cons] at hy0 hy1
    obtain ⟨z0, e0, _, b0⟩ := DataW.trod_int Try.underlying2 hy0
    obtain ⟨z1, e1, _, b1⟩ := DataW.trod_int Try.underlying2 hy1
    exact ⟨(z0, z1), by simpa using e0, by simpa using e1, b0, b1⟩
  obtain ⟨z, hz⟩ := choose_lt h3
  refine ⟨m, fun k => (z k).1, fun k => (z k).2, h1.congr fun k j hk hj => ?_, fun k hk => ⟨lit_i64 (hz k hk).2.2.1, lit_i64 (hz k hk).2.2.2⟩⟩
  by_cases h0 : j = 0
  · subst h0; exact (hz k hk).1
  · obtain rfl : j = 1 := by omega
    exact (hz k hk).2.1

/-- all numbers of a job fit -/
structure Job.Fits (J : Job) : Prop where
  start : -9223372036854775808 ≤ J.start ∧ J.start ≤ 9223372036854775807
  pk : ∀ i k, i < J.n → k < J.len i → -9223372036854775808 ≤ J.pk i k ∧ J.pk i k ≤ 9223372036854775807
  lv : ∀ i k, i < J.n → k < J.len i → -9223372036854775808 ≤ J.lv i k ∧ J.lv i k ≤ 9223372036854775807

set_option maxRecDepth 100000 in
theorem job_of {v : Value} {d : DataW H} {p : List MemPlace} (hv : Value.okWide Try.prog w .any base 24 v) (h : DataW.Trod enc Try.prog w 0 (fun _ => true) held 24 v d p) :
    ∃ J, RawAt w v J ∧ J.Fits := by
  obtain ⟨cs, rfl, hsz⟩ := okWide_struct Try.underlying24 hv
  rw [cells24] at hsz
  obtain ⟨c0, c1, rfl⟩ := array2 hsz
  obtain ⟨fuel, hf⟩ := h
  obtain ⟨y0, y1, n, -, -, hy0, hy1⟩ := trod_struct2 Try.underlying24 hf
  simp only [Value.cells, cells2, cells22, List.drop_zero, List.take_succ_cons, List.take_zero, List.drop_succ_cons] at hy0 hy1
  obtain ⟨s, e0, _, b0⟩ := DataW.trod_int Try.underlying2 hy0
  obtain rfl : c0 = .int .i64 s := by simpa using e0
  obtain ⟨m, n2, c, h1, h2⟩ := sliceAt_open Try.underlying22 cells62 hy1
  have h3 : ∀ i, i < m → ∃ q : Nat × (Nat → Int) × (Nat → Int), SliceAt w (c i 0) q.1 2 (fun k j => if j = 0 then .int .i64 (q.2.1 k) else .int .i64 (q.2.2 k)) ∧
      ∀ k, k < q.1 → (-9223372036854775808 ≤ q.2.1 k ∧ q.2.1 k ≤ 9223372036854775807) ∧ (-9223372036854775808 ≤ q.2.2 k ∧ q.2.2 k ≤ 9223372036854775807) := fun i hi => by
    obtain ⟨y, hy⟩ := h2 i hi
    rw [cellsOfRow_one] at hy
    obtain ⟨m', pk, lv, h4, h5⟩ := passes_of (n := 0) hy
    exact ⟨(m', pk, lv), h4, h5⟩
  obtain ⟨q, hq⟩ := choose_lt h3
  refine ⟨⟨s, m, fun i => (q i).1, fun i => (q i).2.1, fun i => (q i).2.2⟩, ⟨c1, fun i => c i 0, rfl, h1.congr fun i j hi hj => ?_, fun i hi => (hq i hi).1⟩, ⟨lit_i64 b0, fun i k hi hk => ((hq i hi).2 k hk).1, fun i k hi hk => ((hq i hi).2 k hk).2⟩⟩
  obtain rfl : j = 0 := by omega
  rfl
end
end Go.Proofs.Ytjpccfpmhmddjaa

/-
  What is proved: the statement PassJobs, at every input.
-/
namespace Go.Proofs.Ytjpccfpmhmddjaa
open Go.ChangeShapes Go.WideShapes Go.ChangeAt Go.RowKit

set_option maxRecDepth 100000 in
theorem jobs_lifted (os : Os) (started : os.Started) (H : Type) (enc : TypeId × Value → H) :
    ReturnsInHanded {} Try.checked os 3 .any (Rows.passJobsSpec.pre6 enc Try.prog Try.f3 Rows.passJobsRow.domain false) (Rows.passJobsSpec.post enc Try.prog Try.f3 false true false false) := by
  refine law_lifted (C := Try.checked) (tb := 4) started own_c laid_c (by kernel_rfl) Try.func3 (of_decide_eq_true (by kernel_rfl))
    (ChangeSpec.witness6 (enc := enc) (C := Try.checked) false ⟨#[], #[.agg #[.int .i64 0, .slice none 0 0], .slice none 0 0, .slice none 0 0, .int .i64 0], []⟩ 8 (by kernel_rfl) (by kernel_rfl) (by kernel_rfl) (by kernel_rfl))
    rfl Try.underlying4 rfl (fun ds hl => ?_) (fun W base args ds ps hval hA => ?_)
  · match ds, hl with
    | [d1, d2, d3, d4], _ => exact ⟨rfl, rfl, rfl⟩
  · have hA' : DataW.TrodAll enc Try.prog W 0 (fun _ => true) true Try.f3.params.toList args.toList ds ps := hA
    have hval' : ∀ (j : Nat) t v, Try.f3.params[j]? = some t → args[j]? = some v → Value.okWide Try.prog W .any base t v := hval
    rw [Try.params3] at hA' hval'
    obtain ⟨v1, v2, v3, v4, d1, d2, d3, d4, p1, p2, p3, p4, rfl, rfl, rfl, h1, h2, h3, h4⟩ := trodAll_four hA'
    obtain ⟨J, hJ, -⟩ := job_of (hval' 0 24 v1 rfl rfl) h1
    obtain ⟨m, f, hf, -⟩ := ints_of (hval' 1 25 v2 rfl rfl) h2
    obtain ⟨m2, f2, hf2, -⟩ := ints_of (hval' 2 25 v3 rfl rfl) h3
    obtain ⟨l, rfl, -, -, -⟩ := open_int Try.underlying2 (hval' 3 2 v4 rfl rfl) h4
    exact jobs_w W v1 J hJ v2 m f hf v3 m2 f2 hf2 l

theorem passJobs_holds : Rows.PassJobsSaid :=
  OpenClaim.holds_of_wide 3 Try.f3 rfl rfl rfl rfl rfl rfl rfl ⟨rfl, rfl, rfl, rfl, rfl⟩ rfl rfl rfl rfl rfl (by kernel_rfl) Try.func3 (by kernel_rfl)
    (of_decide_eq_true (by kernel_rfl)) (by unfold Func.isWrapper; first | (rw [if_pos (by decide +kernel)]; kernel_rfl) | (rw [if_neg (by decide +kernel)]; exact ⟨rfl, rfl⟩))
    (fun os started H enc _ => jobs_lifted os started H enc)
end Go.Proofs.Ytjpccfpmhmddjaa

