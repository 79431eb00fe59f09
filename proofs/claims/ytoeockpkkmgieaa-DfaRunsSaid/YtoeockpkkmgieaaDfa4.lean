/- Proved here: the document's table of who comes where, as data: what its loops keep, and that it is 'one comes there'. Conditions: those of each theorem. -/
import Derived.Test.YtoeockpkkmgieaaDfa3
namespace Go.Proofs.Ytoeockpkkmgieaa
open Go Go.Sx
set_option linter.unusedVariables false
set_option linter.unusedSimpArgs false
def cellB (X : List (LR Bool)) (r c : Nat) : Bool := (X.getD r lr0).xs.getD c false
theorem nxR_mem {d : DfaD} {s t : Int} : t ∈ nxR d s ↔ ∃ i, i < d.cls.length ∧ d.next.getD (s * d.width + d.cls.getD i 0).toNat 0 = t := by
  simp only [nxR, List.mem_map, used_mem]
  constructor
  · rintro ⟨c, hc, rfl⟩
    obtain ⟨i, hi, rfl⟩ := List.mem_iff_getElem.1 hc
    exact ⟨i, hi, by simp [List.getD_eq_getElem?_getD, hi]⟩
  · rintro ⟨i, hi, rfl⟩
    exact ⟨d.cls.getD i 0, by simp [List.getD_eq_getElem?_getD, hi], rfl⟩
/-- One row, behind some symbols. -/
structure RwI (d : DfaD) (s : Nat) (q : List Bool) (k : Nat) : Prop where
  len : q.length = d.acc.length
  val : ∀ c : Nat, c < d.acc.length → (q.getD c false = true ↔ c = s ∨ ∃ i, i < k ∧ d.next.getD ((s : Int) * d.width + d.cls.getD i 0).toNat 0 = (c : Int))
theorem getD_setB {q : List Bool} {i j : Nat} {b : Bool} (hi : i < q.length) : (q.set i b).getD j false = if i = j then b else q.getD j false := by
  simp only [List.getD_eq_getElem?_getD, List.getElem?_set]
  split
  · rename_i e; subst e; simp [hi]
  · rfl
theorem RwI.start {d : DfaD} {s : Nat} (hs : s < d.acc.length) : RwI d s ((List.replicate d.acc.length false).set s true) 0 := by
  refine ⟨by simp, fun c hc => ?_⟩
  rw [getD_setB (by simpa using hs)]
  split
  · rename_i e; simp [e]
  · rename_i e
    have : (List.replicate d.acc.length false).getD c false = false := by simp [List.getD_eq_getElem?_getD, hc]
    rw [this]
    constructor
    · intro h; cases h
    · rintro (h | ⟨i, h, _⟩)
      · exact absurd h.symm e
      · omega
theorem RwI.step {d : DfaD} {s k x : Nat} {q : List Bool} (h : RwI d s q k) (hx : d.next.getD ((s : Int) * d.width + d.cls.getD k 0).toNat 0 = (x : Int)) (hxn : x < d.acc.length) : RwI d s (q.set x true) (k + 1) := by
  refine ⟨by simp [h.len], fun c hc => ?_⟩
  rw [getD_setB (by rw [h.len]; exact hxn)]
  split
  · rename_i e; subst e
    exact ⟨fun _ => .inr ⟨k, by omega, hx⟩, fun _ => rfl⟩
  · rename_i e
    rw [h.val c hc]
    constructor
    · rintro (h1 | ⟨i, h1, h2⟩)
      · exact .inl h1
      · exact .inr ⟨i, by omega, h2⟩
    · rintro (h1 | ⟨i, h1, h2⟩)
      · exact .inl h1
      · by_cases hi : i = k
        · subst hi; rw [hx] at h2; omega
        · exact .inr ⟨i, by omega, h2⟩
/-- Who comes where over states below m alone. -/
def WM (d : DfaD) : Nat → Nat → Nat → Prop
  | 0, i, k => k = i ∨ (k : Int) ∈ nxR d i
  | m + 1, i, k => WM d m i k ∨ (WM d m i m ∧ WM d m m k)
theorem WM.up {d : DfaD} {i k : Nat} : ∀ {m n : Nat}, m ≤ n → WM d m i k → WM d n i k
  | m, 0, h, w => by have : m = 0 := by omega
                     subst this; exact w
  | m, n + 1, h, w => by
    by_cases e : m = n + 1
    · subst e; exact w
    · exact .inl (WM.up (by omega) w)
theorem WM.to {d : DfaD} : ∀ {m i k : Nat}, WM d m i k → To d i k
  | 0, i, k, h => by
    rcases h with rfl | h
    · exact .refl _
    · exact .step h (.refl _)
  | m + 1, i, k, h => by
    rcases h with h | ⟨h1, h2⟩
    · exact WM.to h
    · exact (WM.to h1).trans (WM.to h2)
theorem WM.trans {d : DfaD} : ∀ {m i j k : Nat}, j < m → WM d m i j → WM d m j k → WM d m i k
  | m + 1, i, j, k, hj, h1, h2 => by
    by_cases e : j = m
    · subst e
      have a : WM d j i j := by rcases h1 with h | ⟨h, _⟩ <;> exact h
      have b : WM d j j k := by rcases h2 with h | ⟨_, h⟩ <;> exact h
      exact .inr ⟨a, b⟩
    · have hj' : j < m := by omega
      rcases h1 with a | ⟨a, a2⟩ <;> rcases h2 with b | ⟨b, b2⟩
      · exact .inl (WM.trans hj' a b)
      · exact .inr ⟨WM.trans hj' a b, b2⟩
      · exact .inr ⟨a, WM.trans hj' a2 b⟩
      · exact .inr ⟨a, b2⟩
theorem WM.iff {d : DfaD} (hr : rightB d = true) {i k : Nat} (hi : i < d.acc.length) : WM d d.acc.length i k ↔ To d i k := by
  refine ⟨WM.to, fun h => ?_⟩
  have key : ∀ a b : Int, To d a b → 0 ≤ a ∧ a < (d.acc.length : Int) → WM d d.acc.length a.toNat b.toNat := by
    intro a b hab
    induction hab with
    | refl s => intro _; exact WM.up (Nat.zero_le _) (.inl rfl)
    | @step a u t hu _ ih =>
      intro ha
      have hub := nxR_bd hr ha.1 ha.2 hu
      refine WM.trans (j := u.toNat) (by omega) (WM.up (Nat.zero_le _) (.inr ?_)) (ih hub)
      rw [Int.toNat_of_nonneg ha.1, Int.toNat_of_nonneg hub.1]; exact hu
  have := key _ _ h ⟨by omega, by omega⟩
  simpa using this
/-- The table's first form, the first s rows. -/
structure CmS (d : DfaD) (X : List (LR Bool)) (s : Nat) : Prop where
  len : X.length = s
  row : ∀ r, r < s → (X.getD r lr0).xs.length = d.acc.length
  val : ∀ r c, r < s → c < d.acc.length → (cellB X r c = true ↔ WM d 0 r c)
theorem CmS.start (d : DfaD) : CmS d [] 0 := ⟨rfl, fun r h => by omega, fun r c h => by omega⟩
theorem getD_append_LR {X : List (LR Bool)} {p : LR Bool} {r : Nat} : (X ++ [p]).getD r lr0 = if r < X.length then X.getD r lr0 else if r = X.length then p else lr0 := by
  simp only [List.getD_eq_getElem?_getD, List.getElem?_append]
  split
  · rfl
  · split
    · rename_i h1 h2; subst h2; simp
    · rename_i h1 h2; rw [List.getElem?_eq_none (by simp; omega)]; rfl
theorem CmS.step {d : DfaD} {X : List (LR Bool)} {s n c k : Nat} {a : Option Addr} {q : List Bool} (h : CmS d X s) (hq : RwI d s q k) (hk : k = d.cls.length) : CmS d (X ++ [⟨a, n, c, q⟩]) (s + 1) := by
  subst hk
  refine ⟨by simp [h.len], fun r hr => ?_, fun r c hr hc => ?_⟩
  · rw [getD_append_LR, h.len]
    split
    · rename_i h1; exact h.row r h1
    · rw [if_pos (by omega)]; exact hq.len
  · unfold cellB
    rw [getD_append_LR, h.len]
    split
    · rename_i h1; exact h.val r c h1 hc
    · have e : r = s := by omega
      subst e
      rw [if_pos rfl]
      show q.getD c false = true ↔ _
      rw [hq.val c hc]
      simp only [WM, nxR_mem]
/-- Within the table's turning. -/
structure CmI (d : DfaD) (X : List (LR Bool)) (m i k : Nat) : Prop where
  len : X.length = d.acc.length
  row : ∀ r, r < d.acc.length → (X.getD r lr0).xs.length = d.acc.length
  val : ∀ r c, r < d.acc.length → c < d.acc.length → (cellB X r c = true ↔ if r < i ∨ r = i ∧ c < k then WM d (m + 1) r c else WM d m r c)
  act : k = 0 ∨ WM d m i m
theorem CmS.done {d : DfaD} {X : List (LR Bool)} {s : Nat} (h : CmS d X s) (hs : s = d.acc.length) : CmI d X 0 0 0 := by
  subst hs
  exact ⟨h.len, h.row, fun r c hr hc => by rw [if_neg (by omega)]; exact h.val r c hr hc, .inl rfl⟩
theorem CmI.col {d : DfaD} {X : List (LR Bool)} {m i k : Nat} (h : CmI d X m i k) (hi : i < d.acc.length) (hm : m < d.acc.length) : cellB X i m = true ↔ WM d m i m := by
  rw [h.val i m hi hm]
  split
  · exact ⟨fun h => by rcases h with h | ⟨h, _⟩ <;> exact h, .inl⟩
  · rfl
theorem CmI.mid {d : DfaD} {X : List (LR Bool)} {m i k c : Nat} (h : CmI d X m i k) (hm : m < d.acc.length) (hc : c < d.acc.length) : cellB X m c = true ↔ WM d m m c := by
  rw [h.val m c hm hc]
  split
  · exact ⟨fun h => by rcases h with h | ⟨_, h⟩ <;> exact h, .inl⟩
  · rfl
theorem CmI.step {d : DfaD} {X : List (LR Bool)} {m i k : Nat} {b : Bool} (h : CmI d X m i k) (hm : m < d.acc.length) (hi : i < d.acc.length) (hk : k < d.acc.length) (ha : cellB X i m = true) (hb : b = (cellB X i k || cellB X m k)) :
    CmI d (X.set i ⟨(X.getD i lr0).a, (X.getD i lr0).n, (X.getD i lr0).c, (X.getD i lr0).xs.set k b⟩) m i (k + 1) := by
  have hil : i < X.length := by rw [h.len]; exact hi
  have hg : ∀ r, (X.set i ⟨(X.getD i lr0).a, (X.getD i lr0).n, (X.getD i lr0).c, (X.getD i lr0).xs.set k b⟩).getD r lr0 = if i = r then ⟨(X.getD i lr0).a, (X.getD i lr0).n, (X.getD i lr0).c, (X.getD i lr0).xs.set k b⟩ else X.getD r lr0 := fun r => by
    simp only [List.getD_eq_getElem?_getD, List.getElem?_set]
    split
    · rename_i e; subst e; simp [hil]
    · rfl
  have ha' := (h.col hi hm).1 ha
  refine ⟨by simp [h.len], fun r hr => ?_, fun r c hr hc => ?_, .inr ha'⟩
  · rw [hg]
    split
    · rename_i e; subst e; show ((X.getD i lr0).xs.set k b).length = _; rw [List.length_set]; exact h.row i hr
    · exact h.row r hr
  · unfold cellB
    rw [hg]
    split
    · rename_i e; subst e
      show ((X.getD i lr0).xs.set k b).getD c false = true ↔ _
      rw [getD_setB (by rw [h.row i hi]; exact hk)]
      have hv := h.val i c hi hc
      split
      · rename_i e; subst e
        rw [if_pos (by omega), hb, Bool.or_eq_true, h.mid hm hc, hv, if_neg (by omega)]
        show _ ↔ WM d m i k ∨ _ ∧ _
        constructor
        · rintro (h1 | h1)
          · exact .inl h1
          · exact .inr ⟨ha', h1⟩
        · rintro (h1 | ⟨_, h1⟩)
          · exact .inl h1
          · exact .inr h1
      · rename_i e
        show cellB X i c = true ↔ _
        rw [hv]
        by_cases hck : c < k
        · rw [if_pos (by omega), if_pos (by omega)]
        · rw [if_neg (by omega), if_neg (by omega)]
    · rename_i e
      show cellB X r c = true ↔ _
      rw [h.val r c hr hc]
      by_cases hck : r < i
      · rw [if_pos (by omega), if_pos (by omega)]
      · rw [if_neg (by omega), if_neg (by omega)]
theorem CmI.rowDone {d : DfaD} {X : List (LR Bool)} {m i k : Nat} (h : CmI d X m i k) (hm : m < d.acc.length) (hi : i < d.acc.length) (hk : ¬ (k < d.acc.length) ∨ ¬ cellB X i m = true) : CmI d X m (i + 1) 0 := by
  refine ⟨h.len, h.row, fun r c hr hc => ?_, .inl rfl⟩
  have hv := h.val r c hr hc
  by_cases e : r = i
  · subst e
    rw [if_pos (by omega), hv]
    split
    · rfl
    · rename_i hn
      have hna : ¬ WM d m r m := fun hw => by
        rcases hk with hk | hk
        · exact hn (.inr ⟨rfl, by omega⟩)
        · exact hk ((h.col hr hm).2 hw)
      exact ⟨.inl, fun h => by rcases h with h | ⟨h, _⟩; exact h; exact absurd h hna⟩
  · rw [hv]
    by_cases hri : r < i
    · rw [if_pos (by omega), if_pos (by omega)]
    · rw [if_neg (by omega), if_neg (by omega)]
theorem CmI.allDone {d : DfaD} {X : List (LR Bool)} {m i : Nat} (h : CmI d X m i 0) (hi : ¬ i < d.acc.length) : CmI d X (m + 1) 0 0 := by
  refine ⟨h.len, h.row, fun r c hr hc => ?_, .inl rfl⟩
  rw [h.val r c hr hc, if_pos (by omega), if_neg (by omega)]
/-- The table. -/
structure ComesP (d : DfaD) (X : List (LR Bool)) : Prop where
  len : X.length = d.acc.length
  row : ∀ r, r < d.acc.length → (X.getD r lr0).xs.length = d.acc.length
  val : ∀ r c, r < d.acc.length → c < d.acc.length → (cellB X r c = true ↔ To d r c)
theorem CmI.fin {d : DfaD} {X : List (LR Bool)} {m : Nat} (hr : rightB d = true) (h : CmI d X m 0 0) (hm : m = d.acc.length) : ComesP d X := by
  subst hm
  exact ⟨h.len, h.row, fun r c h1 h2 => by rw [h.val r c h1 h2, if_neg (by omega), WM.iff hr h1]⟩
/-- The law's look: is one of the first k states accepting, and come to? -/
def liveK (d : DfaD) (X : List (LR Bool)) (s k : Nat) : Bool := (List.range k).any fun j => cellB X s j && d.acc.getD j false
theorem liveK_step {d : DfaD} {X : List (LR Bool)} {s k : Nat} : liveK d X s (k + 1) = (liveK d X s k || cellB X s k && d.acc.getD k false) := by
  simp [liveK, List.range_succ]
theorem live_agrees {d : DfaD} {X : List (LR Bool)} {o : List Bool} {s k : Nat} (hr : rightB d = true) (hx : ComesP d X) (ho : LiveP d o) (hs : s < d.acc.length) (hk : k = d.acc.length) : o.getD s false = liveK d X s k := by
  subst hk
  rw [Bool.eq_iff_iff, (ho.2 hr).2 s hs]
  simp only [liveK, List.any_eq_true, List.mem_range, Bool.and_eq_true]
  constructor
  · rintro ⟨f, h1, h2, h3⟩; exact ⟨f, h1, (hx.val s f hs h1).2 h3, h2⟩
  · rintro ⟨f, h1, h2, h3⟩; exact ⟨f, h1, h3, (hx.val s f hs h1).1 h2⟩
theorem reach_agrees {d : DfaD} {X : List (LR Bool)} {o : List Bool} {s : Nat} (hr : rightB d = true) (hx : ComesP d X) (ho : ReachP d o) (hs : s < d.acc.length) : o.getD s false = cellB X d.start.toNat s := by
  have hri := rightB_iff.1 hr
  rw [Bool.eq_iff_iff, (ho.2 hr).2 s hs, hx.val d.start.toNat s (by omega) hs, Int.toNat_of_nonneg hri.1.2.2.2.2.2.2.1]
end Go.Proofs.Ytoeockpkkmgieaa
