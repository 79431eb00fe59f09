/- Automata as data; small searches. -/
import Derived.Test.YtoeockpkkmgieaaSx7
namespace Go.Sx
set_option linter.unusedVariables false
set_option linter.unusedSimpArgs false
structure DfaD where
  cls : List Int
  width : Int
  start : Int
  next : List Int
  acc : List Bool

/-- The first place from k on at which p holds. -/
def findFrom {α : Type} (p : α → Bool) (l : List α) (k : Nat) : Int := if h : k < l.length then (if p l[k] then (k : Int) else findFrom p l (k + 1)) else -1
termination_by l.length - k
def findI {α : Type} (p : α → Bool) (l : List α) : Int := findFrom p l 0
theorem findFrom_no {α : Type} (p : α → Bool) (l : List α) (k : Nat) {d : α} (h : k < l.length) (hp : ¬ p (l.getD k d) = true) : findFrom p l k = findFrom p l (k + 1) := by
  have : l.getD k d = l[k] := by simp [List.getD_eq_getElem?_getD, h]
  rw [this] at hp
  rw [findFrom, dif_pos h, if_neg hp]
theorem findFrom_yes {α : Type} (p : α → Bool) (l : List α) (k : Nat) {d : α} (h : k < l.length) (hp : p (l.getD k d) = true) : findFrom p l k = (k : Int) := by
  have : l.getD k d = l[k] := by simp [List.getD_eq_getElem?_getD, h]
  rw [this] at hp
  rw [findFrom, dif_pos h, if_pos hp]
theorem findFrom_end {α : Type} (p : α → Bool) (l : List α) (k : Nat) (h : l.length ≤ k) : findFrom p l k = -1 := by
  rw [findFrom, dif_neg (by omega)]
/-- A function value that tells a bool of a number, and only reads what is there. -/
def ClosB (P : Program) (f : FuncId) (fc : List Value) (p : Int → Bool) (w : World) : Prop :=
  ∀ w' : World, Keep [] w w' → ∀ x : Int, Calls P f (#[.int .i64 x] ++ fc.toArray) w' (Ret fun v w'' => v = .bool (p x) ∧ Upd w' [] w'' [])
end Go.Sx
namespace Go.Sx
set_option linter.unusedVariables false
set_option linter.unusedSimpArgs false
theorem ClosB.keep {P : Program} {f : FuncId} {fc : List Value} {p : Int → Bool} {w w' : World} (h : ClosB P f fc p w) (k : Keep [] w w') : ClosB P f fc p w' := fun w2 k2 x => h w2 (k.trans k2) x
theorem findFrom_ge {α : Type} (p : α → Bool) (l : List α) (k : Nat) : findFrom p l k = -1 ∨ ∃ j : Nat, findFrom p l k = (j : Int) ∧ k ≤ j ∧ j < l.length := by
  rw [findFrom]
  split
  · rename_i h
    split
    · exact .inr ⟨k, rfl, Nat.le_refl _, h⟩
    · rcases findFrom_ge p l (k + 1) with h1 | ⟨j, h1, h2, h3⟩
      · exact .inl h1
      · exact .inr ⟨j, h1, by omega, h3⟩
  · exact .inl rfl
termination_by l.length - k
theorem findFrom_any {α : Type} (p : α → Bool) (l : List α) (k : Nat) : decide (findFrom p l k ≥ 0) = (l.drop k).any p := by
  rw [findFrom]
  split
  · rename_i h
    rw [List.drop_eq_getElem_cons h, List.any_cons]
    split
    · rename_i hp; simp [hp]
    · rename_i hp; rw [findFrom_any p l (k + 1)]; simp [hp]
  · rename_i h
    rw [List.drop_eq_nil_of_le (by omega)]; simp
termination_by l.length - k
theorem findI_any {α : Type} (p : α → Bool) (l : List α) : decide (findI p l ≥ 0) = l.any p := by
  unfold findI; rw [findFrom_any]; simp
def withinB (l : List Int) (n : Int) : Bool := l.all fun x => decide (0 ≤ x ∧ x < n)
theorem within_eq (l : List Int) (n : Int) : (!l.any fun x => decide (x < 0 ∨ n ≤ x)) = withinB l n := by
  unfold withinB
  rw [List.not_any_eq_all_not]
  congr 1
  funext x
  by_cases h : 0 ≤ x ∧ x < n
  · have h2 : ¬ (x < 0 ∨ n ≤ x) := by omega
    rw [decide_eq_true h, decide_eq_false h2]; rfl
  · have h2 : x < 0 ∨ n ≤ x := by omega
    rw [decide_eq_false h, decide_eq_true h2]; rfl
theorem within_at {l : List Int} {n : Int} (h : withinB l n = true) (i : Nat) (hi : i < l.length) : 0 ≤ l.getD i 0 ∧ l.getD i 0 < n := by
  unfold withinB at h
  rw [List.all_eq_true] at h
  have := h (l.getD i 0) (by rw [List.getD_eq_getElem?_getD, List.getElem?_eq_getElem hi]; exact List.getElem_mem hi)
  simpa using this
def rightB (d : DfaD) : Bool :=
  decide (d.cls.length = 259 ∧ 1 ≤ d.width ∧ d.width ≤ 259 ∧ 1 ≤ d.acc.length ∧ d.acc.length ≤ 4096 ∧ (d.next.length : Int) = (d.acc.length : Int) * d.width ∧ 0 ≤ d.start ∧ d.start < (d.acc.length : Int)) &&
  withinB d.cls d.width && withinB d.next (d.acc.length : Int)
theorem mul_bd {a b A B : Int} (h0 : 0 ≤ a) (h1 : a ≤ A) (h2 : 0 ≤ b) (h3 : b ≤ B) : 0 ≤ a * b ∧ a * b ≤ A * B :=
  ⟨Int.mul_nonneg h0 h2, Int.mul_le_mul h1 h3 h2 (by omega)⟩
theorem decide_true' {p : Prop} [Decidable p] (h : p) : true = decide p := by simp [h]
theorem decide_false' {p : Prop} [Decidable p] (h : ¬ p) : false = decide p := by simp [h]
end Go.Sx
namespace Go.Sx
set_option linter.unusedVariables false
set_option linter.unusedSimpArgs false
/-- One step, of what is right. -/
def stepD (d : DfaD) (q : Int) (sym : Int) : Int := d.next.getD (q * d.width + d.cls.getD sym.toNat 0).toNat 0
def runFrom (d : DfaD) (word : List Int) (k : Nat) (q : Int) : Int :=
  if h : k < word.length then (if 0 ≤ word[k] ∧ word[k] < 259 then runFrom d word (k + 1) (stepD d q word[k]) else -1) else q
termination_by word.length - k
def runF (d : DfaD) (s : Int) (word : List Int) : Int := if rightB d = true ∧ 0 ≤ s ∧ s < (d.acc.length : Int) then runFrom d word 0 s else -1
end Go.Sx
namespace Go.Sx
set_option linter.unusedVariables false
set_option linter.unusedSimpArgs false
theorem rightB_iff {d : DfaD} : rightB d = true ↔ (d.cls.length = 259 ∧ 1 ≤ d.width ∧ d.width ≤ 259 ∧ 1 ≤ d.acc.length ∧ d.acc.length ≤ 4096 ∧ (d.next.length : Int) = (d.acc.length : Int) * d.width ∧ 0 ≤ d.start ∧ d.start < (d.acc.length : Int)) ∧
    withinB d.cls d.width = true ∧ withinB d.next (d.acc.length : Int) = true := by
  unfold rightB
  simp only [Bool.and_eq_true, decide_eq_true_eq, and_assoc]
theorem right_idx {d : DfaD} (hr : rightB d = true) {q x : Int} (h0 : 0 ≤ q) (h1 : q < (d.acc.length : Int)) (h2 : 0 ≤ x) (h3 : x < d.width) :
    0 ≤ q * d.width ∧ q * d.width + x < (d.next.length : Int) ∧ (d.next.length : Int) ≤ 1060864 ∧ 0 ≤ d.next.getD (q * d.width + x).toNat 0 ∧ d.next.getD (q * d.width + x).toNat 0 < (d.acc.length : Int) := by
  obtain ⟨⟨a1, a2, a3, a4, a5, a6, a7, a8⟩, b1, b2⟩ := rightB_iff.1 hr
  have e1 : 0 ≤ q * d.width := Int.mul_nonneg h0 (by omega)
  have e2 : (q + 1) * d.width ≤ (d.acc.length : Int) * d.width := Int.mul_le_mul_of_nonneg_right (by omega) (by omega)
  have e3 : (q + 1) * d.width = q * d.width + d.width := by rw [Int.add_mul, Int.one_mul]
  have e4 := (mul_bd (a := (d.acc.length : Int)) (b := d.width) (A := 4096) (B := 259) (by omega) (by omega) (by omega) (by omega)).2
  have e5 : q * d.width + x < (d.next.length : Int) := by omega
  have e6 := within_at b2 (q * d.width + x).toNat (by omega)
  exact ⟨e1, e5, by omega, e6.1, e6.2⟩
theorem right_sym {d : DfaD} (hr : rightB d = true) {c : Int} (h0 : 0 ≤ c) (h1 : c < 259) : c.toNat < d.cls.length ∧ 0 ≤ d.cls.getD c.toNat 0 ∧ d.cls.getD c.toNat 0 < d.width ∧ d.width ≤ 259 := by
  obtain ⟨⟨a1, a2, a3, a4, a5, a6, a7, a8⟩, b1, b2⟩ := rightB_iff.1 hr
  have := within_at b1 c.toNat (by omega)
  exact ⟨by omega, this.1, this.2, a3⟩
theorem runF_go {d : DfaD} {s : Int} {word : List Int} (h : ¬ (!rightB d) = true) (h0 : 0 ≤ s) (h1 : s < (d.acc.length : Int)) : runF d s word = runFrom d word 0 s := by
  have : rightB d = true := by simpa using h
  unfold runF; rw [if_pos ⟨this, h0, h1⟩]
theorem runF_no {d : DfaD} {s : Int} {word : List Int} (h : (!rightB d) = true ∨ s < 0 ∨ (d.acc.length : Int) ≤ s) : runF d s word = -1 := by
  unfold runF
  rw [if_neg]
  rintro ⟨a, b, c⟩
  rcases h with h | h | h
  · simp [a] at h
  · omega
  · omega
theorem runFrom_step {d : DfaD} {word : List Int} {k : Nat} {q : Int} (h : k < word.length) (h0 : 0 ≤ word.getD k 0) (h1 : word.getD k 0 < 259) : runFrom d word k q = runFrom d word (k + 1) (d.next.getD (q * d.width + d.cls.getD (word.getD k 0).toNat 0).toNat 0) := by
  have e : word.getD k 0 = word[k] := by simp [List.getD_eq_getElem?_getD, h]
  rw [e] at h0 h1 ⊢
  rw [runFrom, dif_pos h, if_pos ⟨h0, h1⟩]; rfl
theorem runFrom_bad {d : DfaD} {word : List Int} {k : Nat} {q : Int} (h : k < word.length) (h0 : ¬ (0 ≤ word.getD k 0 ∧ word.getD k 0 < 259)) : runFrom d word k q = -1 := by
  have e : word.getD k 0 = word[k] := by simp [List.getD_eq_getElem?_getD, h]
  rw [e] at h0
  rw [runFrom, dif_pos h, if_neg h0]
theorem runFrom_end {d : DfaD} {word : List Int} {k : Nat} {q : Int} (h : word.length ≤ k) : runFrom d word k q = q := by
  rw [runFrom, dif_neg (by omega)]
end Go.Sx
namespace Go.Sx
set_option linter.unusedVariables false
set_option linter.unusedSimpArgs false
theorem runFrom_lt {d : DfaD} (hr : rightB d = true) (word : List Int) (k : Nat) (q : Int) (h0 : 0 ≤ q) (h1 : q < (d.acc.length : Int)) : runFrom d word k q = -1 ∨ 0 ≤ runFrom d word k q ∧ runFrom d word k q < (d.acc.length : Int) := by
  rw [runFrom]
  split
  · split
    · rename_i h
      have hs := right_sym hr h.1 h.2
      have hi := right_idx hr h0 h1 hs.2.1 hs.2.2.1
      exact runFrom_lt hr word (k + 1) _ hi.2.2.2.1 hi.2.2.2.2
    · exact .inl rfl
  · exact .inr ⟨h0, h1⟩
termination_by word.length - k
theorem runF_lt (d : DfaD) (s : Int) (word : List Int) : runF d s word = -1 ∨ 0 ≤ runF d s word ∧ runF d s word < (d.acc.length : Int) := by
  unfold runF
  split
  · rename_i h; exact runFrom_lt h.1 word 0 s h.2.1 h.2.2
  · exact .inl rfl
def acceptsB (d : DfaD) (word : List Int) : Bool := if 0 ≤ runF d d.start word then d.acc.getD (runF d d.start word).toNat false else false
theorem acceptsB_no {d : DfaD} {word : List Int} (h : ¬ runF d d.start word ≥ 0) : acceptsB d word = false := by unfold acceptsB; rw [if_neg (by omega)]
theorem acceptsB_yes {d : DfaD} {word : List Int} (h : runF d d.start word ≥ 0) : acceptsB d word = d.acc.getD (runF d d.start word).toNat false := by unfold acceptsB; rw [if_pos (by omega)]
end Go.Sx
