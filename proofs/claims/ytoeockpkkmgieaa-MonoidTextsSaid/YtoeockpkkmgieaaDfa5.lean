/- Proved here: when two automata are the same; the bytes of a part of a text. Conditions: those of each theorem. -/
import Derived.Test.YtoeockpkkmgieaaDfa1
namespace Go.Sx
set_option linter.unusedVariables false
set_option linter.unusedSimpArgs false
theorem list_eq_of {α : Type} {a b : List α} {d : α} (hl : a.length = b.length) (h : ∀ i, i < a.length → a.getD i d = b.getD i d) : a = b := by
  apply List.ext_getElem hl
  intro i h1 h2
  have := h i h1
  simpa [List.getD_eq_getElem?_getD, List.getElem?_eq_getElem h1, List.getElem?_eq_getElem h2] using this
theorem size_nil {s : ByteArray} (h : s.size = 0) : s = ⟨#[]⟩ := by
  cases s with
  | mk d => have h1 : d.size = 0 := h
            rw [Array.eq_empty_of_size_eq_zero h1]
def sameD (a b : DfaD) : Bool := decide (a.cls = b.cls ∧ a.width = b.width ∧ a.start = b.start ∧ a.next = b.next ∧ a.acc = b.acc)
theorem sameD_self (a : DfaD) : sameD a a = true := by simp [sameD]
theorem sameD_iff {a b : DfaD} : sameD a b = true ↔ a = b := by
  simp only [sameD, decide_eq_true_eq]
  constructor
  · rintro ⟨h1, h2, h3, h4, h5⟩
    cases a; cases b; simp_all
  · rintro rfl; simp
def partL (s : ByteArray) (i n : Nat) : List Int := (List.range n).map fun q => bt s (i + q)
theorem partL_step (s : ByteArray) (i n : Nat) : partL s i n ++ [bt s (i + n)] = partL s i (n + 1) := by simp [partL, List.range_succ]
theorem partL_len (s : ByteArray) (i n : Nat) : (partL s i n).length = n := by simp [partL]
theorem bt_extract {s : ByteArray} {i j q : Nat} (hj : j ≤ s.size) (hq : i + q < j) : bt (s.extract i j) q = bt s (i + q) := by
  have h1 : j ≤ s.data.size := hj
  unfold bt
  congr 2
  simp only [List.getD_eq_getElem?_getD, ByteArray.data_extract, Array.getElem?_toList, Array.getElem?_extract]
  rw [if_pos (by omega)]
theorem bytesL_extract {s : ByteArray} {i j : Nat} (hi : i ≤ j) (hj : j ≤ s.size) : bytesL (s.extract i j) = partL s i (j - i) := by
  have h1 : j ≤ s.data.size := hj
  have hsz : (s.extract i j).size = j - i := by
    show (s.extract i j).data.size = _
    rw [ByteArray.data_extract, Array.size_extract]; omega
  unfold bytesL partL
  rw [hsz]
  apply List.map_congr_left
  intro q hq
  rw [List.mem_range] at hq
  exact bt_extract hj (by omega)
end Go.Sx
