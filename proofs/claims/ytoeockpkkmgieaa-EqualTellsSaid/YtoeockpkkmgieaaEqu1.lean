/- Proved here: when an automaton accepts nothing, as the program says it; the law's own two small automata. Conditions: those of each theorem. -/
import Derived.Test.YtoeockpkkmgieaaEqu0
import Derived.Test.YtoeockpkkmgieaaDfa3
namespace Go.Proofs.Ytoeockpkkmgieaa
open Go Go.Sx
set_option linter.unusedVariables false
def someB (d : DfaD) : Prop := ∃ f : Nat, f < d.acc.length ∧ d.acc.getD f false = true ∧ To d d.start f
noncomputable def emptyB (d : DfaD) : Bool := if rightB d = true then @decide (¬ someB d) (Classical.propDecidable _) else false
def emptyE (d : DfaD) : Int := if rightB d = true then 0 else 3
theorem empty_of {d : DfaD} {o : List Bool} (hr : rightB d = true) (h : LiveP d o) : (!(o.getD d.start.toNat false)) = emptyB d := by
  have hs := (rightB_iff.1 hr).1.2.2.2.2.2.2
  have h2 := (h.2 hr).2 d.start.toNat (by omega)
  rw [Int.toNat_of_nonneg hs.1] at h2
  rw [emptyB, if_pos hr]
  by_cases e : o.getD d.start.toNat false = true
  · rw [e]
    exact (@decide_eq_false _ (Classical.propDecidable _) (fun hn => hn (h2.1 e))).symm
  · rw [Bool.eq_false_iff.2 e]
    exact (@decide_eq_true _ (Classical.propDecidable _) (fun hn => e (h2.2 hn))).symm
theorem apartE_ok {a b : DfaD} (h : ¬ apartE a b ≠ 0) : rightB a = true ∧ rightB b = true := by
  unfold apartE at h
  split at h
  · assumption
  · exact absurd (by decide : (3 : Int) ≠ 0) h
def flatD (is : Bool) : DfaD := ⟨List.replicate 259 0, 1, 0, [0], [is]⟩
theorem flat_apart : apartW (flatD true) (flatD false) = [] ∧ apartI (flatD true) (flatD false) = true ∧ apartE (flatD true) (flatD false) = 0 := by
  have h1 : rightB (flatD true) = true := by decide +kernel
  have h2 : rightB (flatD false) = true := by decide +kernel
  have h3 : apartO (flatD true) (flatD false) = some [] := by
    unfold apartO
    rw [apLoop, if_pos (by decide), if_pos (by decide)]
    rfl
  refine ⟨?_, ?_, ?_⟩
  · rw [apartW, if_pos ⟨h1, h2⟩, h3]; rfl
  · rw [apartI, if_pos ⟨h1, h2⟩, h3]; rfl
  · rw [apartE, if_pos ⟨h1, h2⟩]
theorem flat_empty : emptyB (flatD false) = true ∧ emptyE (flatD false) = 0 := by
  have h2 : rightB (flatD false) = true := by decide +kernel
  constructor
  · rw [emptyB, if_pos h2]
    refine @decide_eq_true _ (Classical.propDecidable _) ?_
    rintro ⟨f, hf, ha, _⟩
    have : f = 0 := by have h3 : f < 1 := hf
                       omega
    subst this
    exact absurd ha (by decide)
  · rw [emptyE, if_pos h2]
end Go.Proofs.Ytoeockpkkmgieaa
