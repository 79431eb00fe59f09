/- Proved here: what an automaton reads as return true at every input that their statements speak of, and leave what was handed in as it read; conditions: none beyond those of the statements. -/
import Derived.Test.YtoeockpkkmgieaaOp1
import Derived.Test.YtoeockpkkmgieaaDfr
import Derived.Test.YtoeockpkkmgieaaRows
namespace Go.Proofs.Ytoeockpkkmgieaa
open Go Go.Sx Go.ChangeShapes Go.WideShapes Go.ChangeAt Go.RowKit
set_option linter.unusedVariables false
theorem el25 {H : Type} {enc : TypeId × Value → H} {W : World} : El enc Try.prog W 25 tyDfaS (fun a d => ∃ ys, d = .agg ys ∧ (∃ y, ys[0]? = some y ∧ ∃ xs, RdT (tyI .i64) W (.slice a.cls.a a.cls.n a.cls.c) xs ∧ (DSl (fun n _ => (Lit.int .i64 n).wf = true) xs y ∧ xs.length * 8 ≤ reachBytes ∧ xs.length ≤ a.cls.c) ∧ a.cls.n = xs.length) ∧ (∃ y, ys[1]? = some y ∧ (Lit.int .i64 a.width).wf = true) ∧ (∃ y, ys[2]? = some y ∧ (Lit.int .i64 a.start).wf = true) ∧ (∃ y, ys[3]? = some y ∧ ∃ xs, RdT (tyI .i64) W (.slice a.next.a a.next.n a.next.c) xs ∧ (DSl (fun n _ => (Lit.int .i64 n).wf = true) xs y ∧ xs.length * 8 ≤ reachBytes ∧ xs.length ≤ a.next.c) ∧ a.next.n = xs.length) ∧ (∃ y, ys[4]? = some y ∧ ∃ xs, RdT tyB W (.slice a.acc.a a.acc.n a.acc.c) xs ∧ (DSl (fun _ _ => True) xs y ∧ xs.length * 1 ≤ reachBytes ∧ xs.length ≤ a.acc.c) ∧ a.acc.n = xs.length)) := fun fuel cs x h hw0 => by
  obtain ⟨xs, n, rfl, hx, hl, hn, hf⟩ := DataW.trod_struct Try.underlying25 h
  have hw : Wt Try.prog 25 (.agg (xs.map (·.1))) := by have h9 := hw0; rw [hx] at h9; exact h9
  obtain ⟨a0, e0, y0⟩ := El.field (o := 0) (c := 1) (hf 0 _ rfl) (by rw [hn]; decide) Try.underlying25 rfl hw rfl (by kernel_rfl) (El.slice (T := tyI .i64) (b := 8) Try.underlying22 (by kernel_rfl) (by kernel_rfl) (El.int Try.underlying3))
  obtain ⟨a1, e1, y1⟩ := El.field (o := 1) (c := 1) (hf 1 _ rfl) (by rw [hn]; decide) Try.underlying25 rfl hw rfl (by kernel_rfl) (El.int Try.underlying3)
  obtain ⟨a2, e2, y2⟩ := El.field (o := 2) (c := 1) (hf 2 _ rfl) (by rw [hn]; decide) Try.underlying25 rfl hw rfl (by kernel_rfl) (El.int Try.underlying3)
  obtain ⟨a3, e3, y3⟩ := El.field (o := 3) (c := 1) (hf 3 _ rfl) (by rw [hn]; decide) Try.underlying25 rfl hw rfl (by kernel_rfl) (El.slice (T := tyI .i64) (b := 8) Try.underlying22 (by kernel_rfl) (by kernel_rfl) (El.int Try.underlying3))
  obtain ⟨a4, e4, y4⟩ := El.field (o := 4) (c := 1) (hf 4 _ rfl) (by rw [hn]; decide) Try.underlying25 rfl hw rfl (by kernel_rfl) (El.slice (T := tyB) (b := 1) Try.underlying23 (by kernel_rfl) (by kernel_rfl) (El.bool Try.underlying4))
  exact ⟨⟨a0, a1, a2, a3, a4⟩, (part_cons (o := 0) (c := 1) e0 (part_cons (o := 1) (c := 1) e1 (part_cons (o := 2) (c := 1) e2 (part_cons (o := 3) (c := 1) e3 (part_cons (o := 4) (c := 1) e4 (part_end (hl.trans (by kernel_rfl)))))))), _, congrArg Prod.fst hx, y0, y1, y2, y3, y4⟩
end Go.Proofs.Ytoeockpkkmgieaa
