/- Arrays of two, as what reads as a datum. -/
import Derived.Test.YtoeockpkkmgieaaOp1
namespace Go.Sx
set_option linter.unusedVariables false
set_option linter.unusedSimpArgs false
open Go.ChangeShapes Go.WideShapes Go.ChangeAt Go.RowKit
section
variable {H : Type} {enc : TypeId × Value → H} {P : Program} {W : World} {α : Type} {t e : TypeId}
def tyTwo (T : Ty α) : Ty (α × α) := ⟨T.sz + T.sz, fun p => T.enc p.1 ++ T.enc p.2, fun p => by simp [T.len], fun p u h => by
  rcases List.mem_append.1 h with h | h
  · exact T.one _ u h
  · exact T.one _ u h, by have := T.pos; omega⟩
theorem okWide_array {n : Nat} {r : Reach} {base : Nat} {v : Value} {w : World} (ht : P.underlying t = some (.array n e)) (h : Value.okWide P w r base t v) : ∃ cs, v = .agg cs ∧ cs.size = P.cellsOf t := by
  simp only [Value.okWide, ht] at h
  obtain ⟨cs, h1, h2, _⟩ := h
  exact ⟨cs, h1, h2⟩
theorem El.two {T : Ty α} {inv : α → DataW H → Prop} {s : Nat} (ht : P.underlying t = some (.array 2 e)) (hc : P.cellsOf e = s) (hs : T.sz = s) (hct : P.cellsOf t = s + s) (he : El enc P W e T inv) :
    El enc P W t (tyTwo T) (fun p d => ∃ y0 y1, d = .agg [y0, y1] ∧ inv p.1 y0 ∧ inv p.2 y1) := fun fuel cs x h hw => by
  obtain ⟨xs, m, _, rfl, hl, hn, hf⟩ := DataW.trod_array ht h
  have e0 := hf 0 (by omega)
  have e1 := hf 1 (by omega)
  match xs, hn with
  | [x0, x1], _ =>
    have w0 : Wt P e x0.1 := fun n hn => hw n (by simp only [DataW.weights, ht]; exact weights_mem_all (d := x0.1) (by simp) hn)
    have w1 : Wt P e x1.1 := fun n hn => hw n (by simp only [DataW.weights, ht]; exact weights_mem_all (d := x1.1) (by simp) hn)
    obtain ⟨a0, h0, i0⟩ := he _ _ _ e0 w0
    obtain ⟨a1, h1, i1⟩ := he _ _ _ e1 w1
    refine ⟨(a0, a1), ?_, x0.1, x1.1, rfl, i0, i1⟩
    show cs = T.enc a0 ++ T.enc a1
    rw [← h0, ← h1, hc]
    rw [hct] at hl
    simp only [Nat.zero_mul, List.drop_zero, Nat.one_mul]
    have h3 : (cs.drop s).take s = cs.drop s := List.take_of_length_le (by simp; omega)
    rw [h3, List.take_append_drop]
end
end Go.Sx
