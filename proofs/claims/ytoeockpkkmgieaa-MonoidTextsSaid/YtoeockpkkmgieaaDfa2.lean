/- Spreading over states: plain data. -/
import Derived.Test.YtoeockpkkmgieaaDfa1
namespace Go.Sx
set_option linter.unusedVariables false
set_option linter.unusedSimpArgs false
def cf (o : List Bool) : Nat := (o.filter (!·)).length
theorem cf_set (o : List Bool) : ∀ (i : Nat), i < o.length → o.getD i false = false → cf (o.set i true) + 1 = cf o := by
  induction o with
  | nil => intro i h; simp at h
  | cons x xs ih =>
    intro i hi hx
    cases i with
    | zero => simp at hx; subst hx; simp [cf]
    | succ i =>
      have := ih i (by simpa using hi) (by simpa using hx)
      cases x <;> simp [cf] at * <;> omega
theorem getD_set_same {o : List Bool} {i : Nat} (h : i < o.length) : (o.set i true).getD i false = true := by simp [List.getD_eq_getElem?_getD, h]
theorem getD_set_keep {o : List Bool} {i j : Nat} (h : o.getD j false = true) : (o.set i true).getD j false = true := by
  by_cases e : i = j
  · subst e
    have : i < o.length := by
      rcases Nat.lt_or_ge i o.length with h1 | h1
      · exact h1
      · simp [List.getD_eq_getElem?_getD, List.getElem?_eq_none h1] at h
    exact getD_set_same this
  · simp [List.getD_eq_getElem?_getD, List.getElem?_set_ne e] at h ⊢; exact h
theorem getD_set_or {o : List Bool} {i j : Nat} (h : (o.set i true).getD j false = true) : i = j ∨ o.getD j false = true := by
  by_cases e : i = j
  · exact .inl e
  · simp [List.getD_eq_getElem?_getD, List.getElem?_set_ne e] at h ⊢; exact .inr h
/-- what is marked behind a spread -/
structure SprF (nx : Int → List Int) (n : Nat) (t0 : List Int) (o : List Bool) : Prop where
  len : o.length = n
  init : ∀ t, t ∈ t0 → o.getD t.toNat false = true
  clo : ∀ s : Nat, o.getD s false = true → ∀ t, t ∈ nx s → o.getD t.toNat false = true
  min : ∀ Q : Int → Prop, (∀ t, t ∈ t0 → Q t) → (∀ s, Q s → ∀ t, t ∈ nx s → Q t) → ∀ s : Nat, o.getD s false = true → Q s
/-- the first loop -/
structure SprA (n : Nat) (t0 : List Int) (o : List Bool) (k : Nat) : Prop where
  len : o.length = n
  init : ∀ i, i < k → o.getD (t0.getD i 0).toNat false = true
  only : ∀ s : Nat, o.getD s false = true → (s : Int) ∈ t0
/-- within: s is in hand, k of its next ones are done -/
structure SprJ (nx : Int → List Int) (n : Nat) (t0 : List Int) (o : List Bool) (todo : List Int) (s : Int) (k : Nat) : Prop where
  len : o.length = n
  init : ∀ t, t ∈ t0 → o.getD t.toNat false = true
  inT : ∀ t, t ∈ todo → (0 ≤ t ∧ t < (n : Int)) ∧ o.getD t.toNat false = true
  clo : ∀ r : Nat, o.getD r false = true → (r : Int) ∈ todo ∨ (r : Int) = s ∨ ∀ t, t ∈ nx r → o.getD t.toNat false = true
  now : 0 ≤ s ∧ s < (n : Int) ∧ o.getD s.toNat false = true
  part : ∀ i, i < k → o.getD ((nx s).getD i 0).toNat false = true
  min : ∀ Q : Int → Prop, (∀ t, t ∈ t0 → Q t) → (∀ s, Q s → ∀ t, t ∈ nx s → Q t) → ∀ s : Nat, o.getD s false = true → Q s
structure SprI (nx : Int → List Int) (n : Nat) (t0 : List Int) (o : List Bool) (todo : List Int) : Prop where
  len : o.length = n
  init : ∀ t, t ∈ t0 → o.getD t.toNat false = true
  inT : ∀ t, t ∈ todo → (0 ≤ t ∧ t < (n : Int)) ∧ o.getD t.toNat false = true
  clo : ∀ r : Nat, o.getD r false = true → (r : Int) ∈ todo ∨ ∀ t, t ∈ nx r → o.getD t.toNat false = true
  min : ∀ Q : Int → Prop, (∀ t, t ∈ t0 → Q t) → (∀ s, Q s → ∀ t, t ∈ nx s → Q t) → ∀ s : Nat, o.getD s false = true → Q s
section
variable {nx : Int → List Int} {n : Nat} {t0 todo : List Int} {o : List Bool} {s : Int} {k : Nat}
theorem SprA.start (n : Nat) (t0 : List Int) : SprA n t0 (List.replicate n false) 0 := ⟨by simp, fun i h => by omega, fun s h => by
  simp only [List.getD_eq_getElem?_getD, List.getElem?_replicate] at h
  split at h <;> simp at h⟩
theorem SprA.step (h : SprA n t0 o k) (hk : k < t0.length) (hr : ∀ t, t ∈ t0 → 0 ≤ t ∧ t < (n : Int)) : SprA n t0 (o.set (t0.getD k 0).toNat true) (k + 1) := by
  have hm : t0.getD k 0 ∈ t0 := by simp [List.getD_eq_getElem?_getD, hk]
  have hb := hr _ hm
  refine ⟨by simp [h.len], all_step (fun i hi => getD_set_keep (h.init i hi)) (getD_set_same (by rw [h.len]; omega)), fun r hr' => ?_⟩
  rcases getD_set_or hr' with e | e
  · rw [← e, Int.toNat_of_nonneg hb.1]; exact hm
  · exact h.only r e
theorem SprA.done (h : SprA n t0 o k) (hk : ¬ k < t0.length) (hr : ∀ t, t ∈ t0 → 0 ≤ t ∧ t < (n : Int)) : SprI nx n t0 o t0 := by
  have hi : ∀ t, t ∈ t0 → o.getD t.toNat false = true := fun t ht => by
    obtain ⟨i, hi, rfl⟩ := List.mem_iff_getElem.1 ht
    have := h.init i (by omega)
    simpa [List.getD_eq_getElem?_getD, hi] using this
  exact ⟨h.len, hi, fun t ht => ⟨hr t ht, hi t ht⟩, fun r hr' => .inl (h.only r hr'), fun Q hQ _ s hs => hQ _ (h.only s hs)⟩
theorem SprI.pop (h : SprI nx n t0 o todo) (ht : 0 < todo.length) : SprJ nx n t0 o (todo.take (todo.length - 1)) (todo.getD (todo.length - 1) 0) 0 := by
  have hl : todo.length - 1 < todo.length := by omega
  have hm : todo.getD (todo.length - 1) 0 ∈ todo := by simp [List.getD_eq_getElem?_getD, hl]
  obtain ⟨⟨b1, b2⟩, b3⟩ := h.inT _ hm
  refine ⟨h.len, h.init, fun t ht => h.inT t (List.mem_of_mem_take ht), fun r hr => ?_, ⟨b1, b2, b3⟩, fun i hi => by omega, h.min⟩
  rcases h.clo r hr with c | c
  · obtain ⟨i, hi, e⟩ := List.mem_iff_getElem.1 c
    by_cases hh : i = todo.length - 1
    · right; left; subst hh; rw [← e]; simp [List.getD_eq_getElem?_getD, hl]
    · left; rw [← e]; exact List.mem_iff_getElem.2 ⟨i, by simp; omega, by simp⟩
  · exact .inr (.inr c)
theorem SprJ.old (h : SprJ nx n t0 o todo s k) (hk : k < (nx s).length) (hm : o.getD ((nx s).getD k 0).toNat false = true) : SprJ nx n t0 o todo s (k + 1) :=
  ⟨h.len, h.init, h.inT, h.clo, h.now, all_step h.part hm, h.min⟩
theorem SprJ.new (h : SprJ nx n t0 o todo s k) (hk : k < (nx s).length) (hb : 0 ≤ (nx s).getD k 0 ∧ (nx s).getD k 0 < (n : Int)) : SprJ nx n t0 (o.set ((nx s).getD k 0).toNat true) (todo ++ [(nx s).getD k 0]) s (k + 1) := by
  have hin : (nx s).getD k 0 ∈ nx s := by simp [List.getD_eq_getElem?_getD, hk]
  have hsame := getD_set_same (o := o) (i := ((nx s).getD k 0).toNat) (by rw [h.len]; omega)
  refine ⟨by simp [h.len], fun t ht => getD_set_keep (h.init t ht), fun t ht => ?_, fun r hr => ?_, ⟨h.now.1, h.now.2.1, getD_set_keep h.now.2.2⟩, all_step (fun i hi => getD_set_keep (h.part i hi)) hsame, fun Q q1 q2 r hr => ?_⟩
  · rcases List.mem_append.1 ht with c | c
    · exact ⟨(h.inT t c).1, getD_set_keep (h.inT t c).2⟩
    · simp only [List.mem_singleton] at c; subst c; exact ⟨hb, hsame⟩
  · rcases getD_set_or hr with e | e
    · left; rw [← e, Int.toNat_of_nonneg hb.1]; simp
    · rcases h.clo r e with c | c | c
      · left; exact List.mem_append_left _ c
      · exact .inr (.inl c)
      · exact .inr (.inr fun t ht => getD_set_keep (c t ht))
  · rcases getD_set_or hr with e | e
    · rw [← e, Int.toNat_of_nonneg hb.1]
      have := h.min Q q1 q2 s.toNat h.now.2.2
      rw [Int.toNat_of_nonneg h.now.1] at this
      exact q2 s this _ hin
    · exact h.min Q q1 q2 r e
theorem SprJ.done (h : SprJ nx n t0 o todo s k) (hk : ¬ k < (nx s).length) : SprI nx n t0 o todo := by
  refine ⟨h.len, h.init, h.inT, fun r hr => ?_, h.min⟩
  rcases h.clo r hr with c | c | c
  · exact .inl c
  · right; intro t ht
    rw [c] at ht
    obtain ⟨i, hi, rfl⟩ := List.mem_iff_getElem.1 ht
    have := h.part i (by omega)
    simpa [List.getD_eq_getElem?_getD, hi] using this
  · exact .inr c
theorem SprI.fin (h : SprI nx n t0 o todo) (ht : ¬ 0 < todo.length) : SprF nx n t0 o :=
  ⟨h.len, h.init, fun r hr => (h.clo r hr).resolve_left (by
    have h0 : todo = [] := List.length_eq_zero_iff.1 (by omega)
    rw [h0]; simp), h.min⟩
end
theorem cf_le (o : List Bool) : cf o ≤ o.length := List.length_filter_le _ _
/-- A function value that gives a new row for a state. -/
def ClosR (P : Program) (f : FuncId) (fc : List Value) (nx : Int → List Int) (n : Nat) (S : List Nat) (w : World) : Prop :=
  ∀ w' : World, Keep S w w' → ∀ x : Int, 0 ≤ x → x < (n : Int) → Calls P f (#[.int .i64 x] ++ fc.toArray) w' (Ret fun v w'' => ∃ a c, v = .slice a (nx x).length c ∧ Upd w' [] w'' [rowT (tyI .i64) (.slice a (nx x).length c) 3 (nx x)])
/-- A function value that gives a row that is there for a state. -/
def ClosO (P : Program) (f : FuncId) (fc : List Value) (nx : Int → List Int) (n : Nat) (S : List Nat) (w : World) : Prop :=
  ∀ w' : World, Keep S w w' → ∀ x : Int, 0 ≤ x → x < (n : Int) → Calls P f (#[.int .i64 x] ++ fc.toArray) w' (Ret fun v w'' => ∃ a c, v = .slice a (nx x).length c ∧ Upd w' [] w'' [] ∧ ∀ w3, Keep S w w3 → RdT (tyI .i64) w3 (.slice a (nx x).length c) (nx x))
end Go.Sx
