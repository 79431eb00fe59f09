/- Ways in which states go, as data: keys, one behind another, settling. Conditions: those of each theorem. -/
import Derived.Test.YtoeockpkkmgieaaAlp0
namespace Go.Sx
set_option linter.unusedVariables false
set_option linter.unusedSimpArgs false
def keyB (s : Int) : List Int := [IntKind.u8.wrap (s.fdiv (2 ^ (min (8 : Int).toNat 64))), IntKind.u8.wrap s]
def keyL (to : List Int) : List Int := to.flatMap keyB
def keyS (to : List Int) : ByteArray := strOfNums (keyL to)
theorem keyL_step {to : List Int} {k : Nat} (h : k < to.length) : keyL (to.take k) ++ keyB (to.getD k 0) = keyL (to.take (k + 1)) := by
  rw [take_succ_getD 0 h]; simp [keyL]
theorem keyL_len (to : List Int) : (keyL to).length = 2 * to.length := by
  induction to with
  | nil => rfl
  | cons x to ih => simp only [keyL, List.flatMap_cons, List.length_append, keyB, List.length_cons, List.length_nil] at *; omega
theorem keyB_val {s : Int} (h : 0 ≤ s ∧ s < 65536) : keyB s = [s / 256, s % 256] := by
  have e1 : (2 : Int) ^ (min (8 : Int).toNat 64) = 256 := by decide
  have e2 : s.fdiv 256 = s / 256 := Int.fdiv_eq_ediv_of_nonneg _ (by decide)
  have e3 : IntKind.u8.wrap (s / 256) = s / 256 := by
    show (s / 256) % (2 ^ 8 : Int) = _
    have : (2 : Int) ^ 8 = 256 := by decide
    rw [this]; omega
  have e4 : IntKind.u8.wrap s = s % 256 := by
    show s % (2 ^ 8 : Int) = _
    have : (2 : Int) ^ 8 = 256 := by decide
    rw [this]
  unfold keyB
  rw [e1, e2, e3, e4]
theorem strOfNums_inj {a b : List Int} (ha : ∀ x, x ∈ a → 0 ≤ x ∧ x < 256) (hb : ∀ x, x ∈ b → 0 ≤ x ∧ x < 256) (h : strOfNums a = strOfNums b) : a = b := by
  have h1 : a.map (fun n => UInt8.ofNat n.toNat) = b.map (fun n => UInt8.ofNat n.toNat) := by
    have := congrArg (fun s : ByteArray => s.data.toList) h
    simpa [strOfNums] using this
  have hl : a.length = b.length := by have := congrArg List.length h1; simpa using this
  refine list_eq_of (d := 0) hl fun i hi => ?_
  have e := congrArg (fun l : List UInt8 => (l[i]?).map UInt8.toNat) h1
  simp only [List.getElem?_map, List.getElem?_eq_getElem hi, List.getElem?_eq_getElem (hl ▸ hi), Option.map_some, Option.some.injEq] at e
  have xa := ha _ (List.getElem_mem hi)
  have xb := hb _ (List.getElem_mem (hl ▸ hi))
  simp only [UInt8.toNat_ofNat'] at e
  simp only [List.getD_eq_getElem?_getD, List.getElem?_eq_getElem hi, List.getElem?_eq_getElem (hl ▸ hi), Option.getD_some]
  omega
def stOk (to : List Int) : Prop := ∀ x, x ∈ to → 0 ≤ x ∧ x < 65536
theorem keyS_inj {a b : List Int} (ha : stOk a) (hb : stOk b) (h : keyS a = keyS b) : a = b := by
  have bd : ∀ {l : List Int}, stOk l → ∀ x, x ∈ keyL l → 0 ≤ x ∧ x < 256 := by
    intro l hl x hx
    simp only [keyL, List.mem_flatMap] at hx
    obtain ⟨s, hs, hx⟩ := hx
    have hb := hl s hs
    rw [keyB_val hb] at hx
    simp only [List.mem_cons, List.not_mem_nil, or_false] at hx
    rcases hx with rfl | rfl <;> omega
  have h1 : keyL a = keyL b := strOfNums_inj (bd ha) (bd hb) h
  clear h
  induction a generalizing b with
  | nil =>
    cases b with
    | nil => rfl
    | cons y b => simp [keyL, keyB] at h1
  | cons x a ih =>
    cases b with
    | nil => simp [keyL, keyB] at h1
    | cons y b =>
      have hx := ha x (by simp)
      have hy := hb y (by simp)
      simp only [keyL, List.flatMap_cons, keyB_val hx, keyB_val hy, List.cons_append, List.nil_append, List.cons.injEq] at h1
      have e : x = y := by omega
      rw [e, ih (fun z hz => ha z (by simp [hz])) (fun z hz => hb z (by simp [hz])) h1.2.2]

/-! ### One way behind another -/
def thenB (a b : List Int) : Bool := a.all fun x => decide (0 ≤ x ∧ x < (b.length : Int))
def thenL (a b : List Int) : List Int := a.map fun x => b.getD x.toNat 0
def thenX (a b : List Int) : List Int := if thenB a b = true then thenL a b else []
theorem thenB_no {a b : List Int} {k : Nat} (h : k < a.length) (hx : a.getD k 0 < 0 ∨ (b.length : Int) ≤ a.getD k 0) : thenB a b = false := by
  unfold thenB
  rw [List.all_eq_false]
  exact ⟨a.getD k 0, by simp [List.getD_eq_getElem?_getD, List.getElem?_eq_getElem h], by intro h2; have h3 := of_decide_eq_true h2; omega⟩
theorem thenB_of {a b : List Int} (h : ∀ i, i < a.length → 0 ≤ a.getD i 0 ∧ a.getD i 0 < (b.length : Int)) : thenB a b = true := by
  unfold thenB
  rw [List.all_eq_true]
  intro x hx
  obtain ⟨i, hi, rfl⟩ := List.mem_iff_getElem.1 hx
  have := h i hi
  simp only [List.getD_eq_getElem?_getD, List.getElem?_eq_getElem hi, Option.getD_some] at this
  simpa using this
theorem thenB_at {a b : List Int} (h : thenB a b = true) {i : Nat} (hi : i < a.length) : 0 ≤ a.getD i 0 ∧ a.getD i 0 < (b.length : Int) := by
  have := List.all_eq_true.1 h (a.getD i 0) (by simp [List.getD_eq_getElem?_getD, List.getElem?_eq_getElem hi])
  simpa using this
theorem thenL_len (a b : List Int) : (thenL a b).length = a.length := by simp [thenL]
theorem thenL_get {a b : List Int} {i : Nat} (hi : i < a.length) : (thenL a b).getD i 0 = b.getD (a.getD i 0).toNat 0 := by simp [thenL, List.getD_eq_getElem?_getD, List.getElem?_eq_getElem hi]
theorem thenX_no {a b : List Int} (h : thenB a b = false) : thenX a b = [] := by rw [thenX, h]; rfl
theorem thenX_yes {a b : List Int} (h : thenB a b = true) : thenX a b = thenL a b := by rw [thenX, if_pos h]
structure ThI (a b q : List Int) (k : Nat) : Prop where
  len : q.length = a.length
  val : ∀ i, i < k → q.getD i 0 = b.getD (a.getD i 0).toNat 0
  rng : ∀ i, i < k → 0 ≤ a.getD i 0 ∧ a.getD i 0 < (b.length : Int)
theorem ThI.start (a b : List Int) : ThI a b (List.replicate a.length 0) 0 := ⟨by simp, fun i h => by omega, fun i h => by omega⟩
theorem ThI.step {a b q : List Int} {k : Nat} (h : ThI a b q k) (hk : k < a.length) (h0 : 0 ≤ a.getD k 0 ∧ a.getD k 0 < (b.length : Int)) : ThI a b (q.set k (b.getD (a.getD k 0).toNat 0)) (k + 1) := by
  refine ⟨by simp [h.len], fun i hi => ?_, all_step h.rng h0⟩
  rw [getD_setI (by rw [h.len]; exact hk)]
  split
  · rename_i e; subst e; rfl
  · exact h.val i (by omega)
theorem ThI.fin {a b q : List Int} {k : Nat} (h : ThI a b q k) (hk : a.length ≤ k) : thenX a b = q ∧ thenB a b = true := by
  have hb : thenB a b = true := thenB_of fun i hi => h.rng i (by omega)
  refine ⟨?_, hb⟩
  rw [thenX_yes hb]
  refine list_eq_of (d := 0) (by rw [thenL_len, h.len]) fun i hi => ?_
  rw [thenL_len] at hi
  rw [thenL_get hi, h.val i (by omega)]
theorem thenL_step {a b : List Int} {k : Nat} (h : k < a.length) : thenL (a.take k) b ++ [b.getD (a.getD k 0).toNat 0] = thenL (a.take (k + 1)) b := by
  rw [take_succ_getD 0 h]; simp [thenL]

/-! ### Settling -/
def atN (to : List Int) : Nat → List Int
  | 0 => to
  | n + 1 => thenX (atN to n) to
theorem thenB_atN {to : List Int} (h : thenB to to = true) : ∀ n, (atN to n).length = to.length ∧ thenB (atN to n) to = true
  | 0 => ⟨rfl, h⟩
  | n + 1 => by
    obtain ⟨h1, h2⟩ := thenB_atN h n
    refine ⟨by rw [atN, thenX_yes h2, thenL_len, h1], ?_⟩
    rw [atN, thenX_yes h2]
    refine thenB_of fun i hi => ?_
    rw [thenL_len] at hi
    rw [thenL_get hi]
    have h3 := thenB_at h2 hi
    exact thenB_at h (by omega)
def settlesB (to : List Int) : Bool := decide (atN to to.length = atN to (to.length + 1))
theorem atN_fix {to : List Int} {n : Nat} (h : atN to n = atN to (n + 1)) : ∀ m, n ≤ m → atN to m = atN to n
  | m, hm => by
    induction m with
    | zero => have : n = 0 := by omega
              subst this; rfl
    | succ m ih =>
      by_cases e : n = m + 1
      · rw [e]
      · have := ih (by omega)
        show thenX (atN to m) to = _
        rw [this]; exact h.symm
theorem settles_yes {to : List Int} {n : Nat} (hn : n ≤ to.length) (h : atN to n = atN to (n + 1)) : settlesB to = true := by
  unfold settlesB
  rw [decide_eq_true_eq, atN_fix h to.length hn, atN_fix h (to.length + 1) (by omega)]
theorem settles_no {to : List Int} (h : ∀ n, n ≤ to.length → atN to n ≠ atN to (n + 1)) : settlesB to = false := by
  unfold settlesB
  rw [decide_eq_false_iff_not]; exact h to.length (Nat.le_refl _)
end Go.Sx
