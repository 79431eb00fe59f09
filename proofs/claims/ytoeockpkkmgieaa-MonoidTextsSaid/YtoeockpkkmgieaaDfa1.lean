/- Automata as data, more. -/
import Derived.Test.YtoeockpkkmgieaaDfa0
import Derived.Test.YtoeockpkkmgieaaSx12
namespace Go.Sx
set_option linter.unusedVariables false
set_option linter.unusedSimpArgs false
theorem within_of {l : List Int} {n : Int} (h : ∀ i, i < l.length → 0 ≤ l.getD i 0 ∧ l.getD i 0 < n) : withinB l n = true := by
  unfold withinB
  rw [List.all_eq_true]
  intro x hx
  obtain ⟨i, hi, rfl⟩ := List.mem_iff_getElem.1 hx
  have := h i hi
  simp only [List.getD_eq_getElem?_getD, List.getElem?_eq_getElem hi, Option.getD_some] at this
  simpa using this
theorem all_step {p : Nat → Prop} {k : Nat} (h : ∀ i, i < k → p i) (hk : p k) : ∀ i, i < k + 1 → p i := fun i hi => by
  rcases Nat.lt_or_ge i k with h1 | h1
  · exact h i h1
  · have : i = k := by omega
    subst this; exact hk
def smallB (d : DfaD) : Bool := decide (d.acc.length ≤ 12 ∧ d.next.length ≤ 4000 ∧ d.cls.length ≤ 300)
def wordOk (s : ByteArray) (i j : Int) : Bool := decide (0 ≤ i ∧ i ≤ j ∧ j ≤ (s.size : Int))
def wordD (s : ByteArray) (i j : Int) : List Int :=
  if wordOk s i j = false then [] else if s = ⟨#[]⟩ then [258] else
    (if i = 0 then [256] else []) ++ bytesL (s.extract i.toNat j.toNat) ++ (if j = (s.size : Int) then [257] else [])
theorem wordD_no {s : ByteArray} {i j : Int} (h : i < 0 ∨ j < i ∨ (s.size : Int) < j) : wordD s i j = [] ∧ wordOk s i j = false := by
  have : wordOk s i j = false := by simp only [wordOk, decide_eq_false_iff_not]; omega
  exact ⟨by rw [wordD, if_pos this], this⟩
theorem wordD_yes {s : ByteArray} {i j : Int} (h : 0 ≤ i ∧ i ≤ j ∧ j ≤ (s.size : Int)) : wordOk s i j = true := by simp only [wordOk, decide_eq_true_eq]; exact h
theorem take_getD_step {l : List Int} {k : Nat} (h : k < l.length) : l.take k ++ [l.getD k 0] = l.take (k + 1) := by
  rw [List.take_add_one, List.getElem?_eq_getElem h]; simp [List.getD_eq_getElem?_getD, List.getElem?_eq_getElem h]
end Go.Sx
