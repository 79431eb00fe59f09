/- Proved here: what an element reads as return true at every input that their statements speak of, and leave what was handed in as it read; conditions: none beyond those of the statements. -/
import Derived.Test.YtoeockpkkmgieaaOp1
import Derived.Test.YtoeockpkkmgieaaMon1
import Derived.Test.YtoeockpkkmgieaaRows
namespace Go.Proofs.Ytoeockpkkmgieaa
open Go Go.Sx Go.ChangeShapes Go.WideShapes Go.ChangeAt Go.RowKit
set_option linter.unusedVariables false
def tyELS : Ty (Sl × ByteArray) := ⟨2, fun x => [.slice x.1.a x.1.n x.1.c, .string x.2], fun _ => rfl, fun x u h => by
  simp only [List.mem_cons, List.not_mem_nil, or_false] at h; rcases h with rfl | rfl <;> rfl, by omega⟩
theorem el45 {H : Type} {enc : TypeId × Value → H} {W : World} : El enc Try.prog W 45 tyELS (fun a d => ∃ ys, d = .agg ys ∧ (∃ y, ys[0]? = some y ∧ ∃ xs, RdT (tyI .i64) W (.slice a.1.a a.1.n a.1.c) xs ∧ (DSl (fun n _ => (Lit.int .i64 n).wf = true) xs y ∧ xs.length * 8 ≤ reachBytes ∧ xs.length ≤ a.1.c) ∧ a.1.n = xs.length) ∧ (∃ y, ys[1]? = some y ∧ y = .lit (.string a.2.data.toList) ∧ a.2.size ≤ reachBytes)) := fun fuel cs x h hw0 => by
  obtain ⟨xs, n, rfl, hx, hl, hn, hf⟩ := DataW.trod_struct Try.underlying45 h
  have hw : Wt Try.prog 45 (.agg (xs.map (·.1))) := by have h9 := hw0; rw [hx] at h9; exact h9
  obtain ⟨a0, e0, y0⟩ := El.field (o := 0) (c := 1) (hf 0 _ rfl) (by rw [hn]; decide) Try.underlying45 rfl hw rfl (by kernel_rfl) (El.slice (T := tyI .i64) (b := 8) Try.underlying22 (by kernel_rfl) (by kernel_rfl) (El.int Try.underlying3))
  obtain ⟨a1, e1, y1⟩ := El.field (o := 1) (c := 1) (hf 1 _ rfl) (by rw [hn]; decide) Try.underlying45 rfl hw rfl (by kernel_rfl) (El.str Try.underlying9)
  exact ⟨(a0, a1), (part_cons (o := 0) (c := 1) e0 (part_cons (o := 1) (c := 1) e1 (part_end (hl.trans (by kernel_rfl))))), _, congrArg Prod.fst hx, y0, y1⟩
theorem el45P {H : Type} {enc : TypeId × Value → H} {W : World} : El enc Try.prog W 45 tyEL (fun p _ => RdT (tyI .i64) W (.slice p.a p.n p.c) p.to ∧ p.to.length * 8 ≤ 140737488355328) := fun fuel cs x h hw => by
  obtain ⟨⟨⟨sa, sn, sc⟩, st⟩, e, ys, _, ⟨y0, _, xs, rd, ⟨_, sz, _⟩, hn⟩, _⟩ := el45 fuel cs x h hw
  simp only at rd hn
  subst hn
  exact ⟨⟨sa, xs.length, sc, xs, st⟩, e, rd, Nat.le_trans sz (by decide)⟩
end Go.Proofs.Ytoeockpkkmgieaa
