/- Products, what is the same twice, settling, over lists of ways; the law's small automaton. Conditions: those of each theorem. -/
import Derived.Test.YtoeockpkkmgieaaMon3
namespace Go.Sx
set_option linter.unusedVariables false
set_option linter.unusedSimpArgs false
def timesT (tos : List (List Int)) (i j : Int) : Int := if 0 ≤ i ∧ i < (tos.length : Int) ∧ 0 ≤ j ∧ j < (tos.length : Int) ∧ thenB (tos.getD i.toNat []) (tos.getD j.toNat []) = true then findTo tos (thenL (tos.getD i.toNat []) (tos.getD j.toNat [])) else -1
def idemB (t : List Int) : Bool := thenB t t && decide (thenL t t = t)
def idemK (tos : List (List Int)) (k : Nat) : List Int := List.map (fun i : Nat => (i : Int)) (List.filter (fun i : Nat => idemB (tos.getD i [])) (List.range k))
def idemT (tos : List (List Int)) : List Int := idemK tos tos.length
theorem idemK_yes {tos : List (List Int)} {k : Nat} (h : idemB (tos.getD k []) = true) : idemK tos k ++ [(k : Int)] = idemK tos (k + 1) := by
  rw [List.getD_eq_getElem?_getD] at h; simp [idemK, List.range_succ, List.filter_append, h]
theorem idemK_no {tos : List (List Int)} {k : Nat} (h : ¬ idemB (tos.getD k []) = true) : idemK tos k = idemK tos (k + 1) := by
  rw [List.getD_eq_getElem?_getD] at h; simp [idemK, List.range_succ, List.filter_append, h]
theorem idemK_len (tos : List (List Int)) (k : Nat) : (idemK tos k).length ≤ k := by
  simp only [idemK, List.length_map]; exact Nat.le_trans (List.length_filter_le _ _) (by simp)
theorem idem_yes {t : List Int} (h1 : thenB t t = true) (h2 : thenX t t = t) : idemB t = true := by rw [idemB, h1, decide_eq_true (by rw [← thenX_yes h1]; exact h2)]; rfl
theorem idem_no1 {t : List Int} (h1 : ¬ thenB t t = true) : ¬ idemB t = true := by rw [idemB, Bool.eq_false_iff.2 h1]; simp
theorem idem_no2 {t : List Int} (h1 : thenB t t = true) (h2 : ¬ thenX t t = t) : ¬ idemB t = true := by rw [idemB, h1, decide_eq_false (by rw [← thenX_yes h1]; exact h2)]; simp
theorem idem_no3 {t : List Int} (h1 : thenB t t = true) (h2 : ¬ thenL t t = t) : ¬ idemB t = true := by rw [idemB, h1, decide_eq_false h2]; simp
theorem idem_yes3 {t : List Int} (h1 : thenB t t = true) (h2 : thenL t t = t) : idemB t = true := by rw [idemB, h1, decide_eq_true h2]; rfl
theorem findI_to (l : List EL) (to : List Int) : findI (fun x : EL => decide (x.to = to)) l = findTo (l.map EL.to) to := by
  have key : ∀ (n k : Nat), l.length - k = n → (∀ i, i < k → (l.getD i el0).to ≠ to) → k ≤ l.length → findFrom (fun x : EL => decide (x.to = to)) l k = findTo (l.map EL.to) to := by
    intro n
    induction n with
    | zero =>
      intro k hn hno hk
      rw [findFrom_end _ _ _ (by omega), findTo_no (fun i hi => hno i (by omega))]
    | succ n ih =>
      intro k hn hno hk
      have hk' : k < l.length := by omega
      by_cases h : (l.getD k el0).to = to
      · rw [findFrom_yes (d := el0) _ _ _ hk' (by simpa using h), findTo_at hk' h hno]
      · rw [findFrom_no (d := el0) _ _ _ hk' (by simpa using h)]
        refine ih (k + 1) (by omega) (fun i hi => ?_) hk'
        by_cases e : i = k
        · subst e; exact h
        · exact hno i (by omega)
  exact key _ 0 rfl (fun i hi => by omega) (by omega)
/-- A function value that tells a bool of an element that is there. -/
def ClosE (P : Program) (f : FuncId) (fc : List Value) (p : EL → Bool) (l : List EL) (w : World) : Prop :=
  ∀ w' : World, Keep [] w w' → ∀ x : EL, x ∈ l → Calls P f (#[.agg #[.slice x.a x.n x.c, .string x.text]] ++ fc.toArray) w' (Ret fun v w'' => v = .bool (p x) ∧ Upd w' [] w'' [])
theorem ClosE.keep {P : Program} {f : FuncId} {fc : List Value} {p : EL → Bool} {l : List EL} {w w' : World} (h : ClosE P f fc p l w) (k : Keep [] w w') : ClosE P f fc p l w' := fun w2 k2 x hx => h w2 (k.trans k2) x hx
/-- The first place from k on. -/
def fT (tos : List (List Int)) (to : List Int) (k : Nat) : Int := if to ∈ tos.drop k then ((k + ix to (tos.drop k) : Nat) : Int) else -1
theorem fT_yes {tos : List (List Int)} {to : List Int} {k : Nat} (hk : k < tos.length) (h : tos.getD k [] = to) : fT tos to k = (k : Int) := by
  have e : tos.drop k = tos[k] :: tos.drop (k + 1) := List.drop_eq_getElem_cons hk
  have e2 : tos[k] = to := by rw [← h]; simp [List.getD_eq_getElem?_getD, hk]
  unfold fT
  rw [e, e2, if_pos (by simp)]; simp [ix]
theorem fT_no {tos : List (List Int)} {to : List Int} {k : Nat} (hk : k < tos.length) (h : tos.getD k [] ≠ to) : fT tos to k = fT tos to (k + 1) := by
  have e : tos.drop k = tos[k] :: tos.drop (k + 1) := List.drop_eq_getElem_cons hk
  have e2 : to ≠ tos[k] := by intro e3; apply h; rw [e3]; simp [List.getD_eq_getElem?_getD, hk]
  unfold fT
  rw [e]
  simp only [List.mem_cons, e2, false_or, ix, if_neg e2]
  split
  · simp only [Int.natCast_inj, if_false, ↓reduceIte]; omega
  · rfl
theorem fT_end (tos : List (List Int)) (to : List Int) {k : Nat} (hk : tos.length ≤ k) : fT tos to k = -1 := by
  unfold fT; rw [List.drop_eq_nil_of_le hk]; simp
theorem fT_yesI {tos : List (List Int)} {to : List Int} {y : Int} (h0 : 0 ≤ y) (hk : y.toNat < tos.length) (h : tos.getD y.toNat [] = to) : y = fT tos to (y - 1 + 1).toNat := by
  rw [show (y - 1 + 1).toNat = y.toNat by omega, fT_yes hk h]; omega
theorem fT_noI {tos : List (List Int)} {to : List Int} {y : Int} (h0 : 0 ≤ y) (hk : y.toNat < tos.length) (h : tos.getD y.toNat [] ≠ to) : fT tos to (y + 1).toNat = fT tos to (y - 1 + 1).toNat := by
  rw [show (y - 1 + 1).toNat = y.toNat by omega, show (y + 1).toNat = y.toNat + 1 by omega]; exact (fT_no hk h).symm
theorem fT_zero (tos : List (List Int)) (to : List Int) : fT tos to 0 = findTo tos to := by unfold fT findTo; simp
def aperE (d : DfaD) (most : Int) : Int := if rightB d = true then (if ((elsOut d (lettersB d) most).length : Int) ≤ most then 0 else 5) else 3
def aperB (d : DfaD) (most : Int) : Bool := if rightB d = true ∧ ((elsOut d (lettersB d) most).length : Int) ≤ most then (elsOut d (lettersB d) most).all (fun e => settlesB e.1) else false
theorem ElsP.err {d : DfaD} {most : Int} {xs : List EL} {e : Int} (h : ElsP d most xs e) : e = aperE d most := by
  unfold aperE
  by_cases hr : rightB d = true
  · rw [if_pos hr]
    by_cases hl : ((elsOut d (lettersB d) most).length : Int) ≤ most
    · rw [if_pos hl]; exact (h.2.1 hr hl).1
    · rw [if_neg hl]; exact (h.2.2 hr hl).1
  · rw [if_neg hr]; exact (h.1 (Bool.eq_false_iff.2 hr)).2
theorem ElsP.good {d : DfaD} {most : Int} {xs : List EL} {e : Int} (h : ElsP d most xs e) (he : e = 0) : rightB d = true ∧ ((elsOut d (lettersB d) most).length : Int) ≤ most ∧ xs.map EL.dat = elsOut d (lettersB d) most ∧ ElI d xs := by
  by_cases hr : rightB d = true
  · by_cases hl : ((elsOut d (lettersB d) most).length : Int) ≤ most
    · exact ⟨hr, hl, (h.2.1 hr hl).2⟩
    · have := (h.2.2 hr hl).1; omega
  · have := (h.1 (Bool.eq_false_iff.2 hr)).2; omega
theorem aper_bad {d : DfaD} {most : Int} (h : aperE d most ≠ 0) : aperB d most = false := by
  unfold aperE at h
  unfold aperB
  rw [if_neg]
  rintro ⟨h1, h2⟩
  rw [if_pos h1, if_pos h2] at h; exact h rfl
theorem aper_good {d : DfaD} {most : Int} {xs : List EL} (hr : rightB d = true) (hl : ((elsOut d (lettersB d) most).length : Int) ≤ most) (hx : xs.map EL.dat = elsOut d (lettersB d) most) : (!xs.any fun x => !settlesB x.to) = aperB d most := by
  unfold aperB
  rw [if_pos ⟨hr, hl⟩, ← hx, List.all_map, List.not_any_eq_all_not]
  congr 1
  funext x
  simp [EL.dat]
theorem ElI.then_ok {d : DfaD} (hr : rightB d = true) {xs : List EL} (h : ElI d xs) {x y : EL} (hx : x ∈ xs) (hy : y ∈ xs) : thenB x.to y.to = true := by
  obtain ⟨i, hi, rfl⟩ := List.mem_iff_getElem.1 hx
  obtain ⟨j, hj, rfl⟩ := List.mem_iff_getElem.1 hy
  have h1 := h.go i hi
  have h2 := h.go j hj
  simp only [List.getD_eq_getElem?_getD, List.getElem?_eq_getElem hi, List.getElem?_eq_getElem hj, Option.getD_some] at h1 h2
  rw [h1, h2]; exact goL_then hr _ _
theorem ElI.to_len {d : DfaD} {xs : List EL} (h : ElI d xs) {x : EL} (hx : x ∈ xs) : x.to.length = d.acc.length := by
  obtain ⟨i, hi, rfl⟩ := List.mem_iff_getElem.1 hx
  have h1 := h.go i hi
  simp only [List.getD_eq_getElem?_getD, List.getElem?_eq_getElem hi, Option.getD_some] at h1
  rw [h1, goL_len]
def swapD : DfaD := ⟨List.replicate 259 0, 1, 0, [1, 0], [true, false]⟩
theorem swap_right : rightB swapD = true := by decide +kernel
theorem swap_els : elsOut swapD (lettersB swapD) 2 = [([0, 1], ⟨#[]⟩), ([1, 0], ⟨#[0]⟩)] := by decide +kernel
theorem swap_aper : aperB swapD 2 = false ∧ aperE swapD 2 = 0 := by
  constructor
  · unfold aperB; rw [swap_els, if_pos ⟨swap_right, by decide⟩]; decide +kernel
  · unfold aperE; rw [swap_els, if_pos swap_right, if_pos (by decide)]
theorem swap_get {xs : List EL} {e : Int} (h : ElsP swapD 2 xs e) : e = 0 ∧ xs.length = 2 ∧ (xs.getD 1 el0).text = ⟨#[0]⟩ ∧ (xs.getD 1 el0).to = [1, 0] ∧ xs.map EL.to = [[0, 1], [1, 0]] := by
  have h1 := h.2.1 swap_right (by rw [swap_els]; decide)
  rw [swap_els] at h1
  obtain ⟨h1, h2, _⟩ := h1
  have hl : xs.length = 2 := by have := congrArg List.length h2; simpa using this
  obtain ⟨x, xs1, rfl⟩ := List.exists_cons_of_length_eq_add_one hl
  obtain ⟨y, xs2, rfl⟩ := List.exists_cons_of_length_eq_add_one (n := 0) (by simpa using hl)
  obtain rfl : xs2 = [] := by cases xs2 with | nil => rfl | cons a b => simp at hl
  simp only [List.map_cons, List.map_nil, EL.dat, List.cons.injEq, Prod.mk.injEq, and_true] at h2
  exact ⟨h1, rfl, h2.2.2, h2.2.1, by simp [h2.1.1, h2.2.1]⟩
theorem swap_times : timesT [[0, 1], [1, 0]] 1 1 = 0 := by decide +kernel
theorem swap_idem : (idemT [[0, 1], [1, 0]]).length = 1 := by decide +kernel
theorem mapTo_getD (l : List EL) (k : Nat) : (l.map EL.to).getD k [] = (l.getD k el0).to := by
  simp only [List.getD_eq_getElem?_getD, List.getElem?_map]; cases l[k]? <;> rfl
theorem timesT_out {l : List EL} {i j : Int} (h : ¬ (0 ≤ i ∧ i < (l.length : Int) ∧ 0 ≤ j ∧ j < (l.length : Int))) : timesT (l.map EL.to) i j = -1 := by
  unfold timesT; rw [if_neg]; rintro ⟨h1, h2, h3, h4, _⟩; rw [List.length_map] at h2 h4; exact h ⟨h1, h2, h3, h4⟩
theorem timesT_unfit {l : List EL} {i j : Int} (h : ¬ thenB (l.getD i.toNat el0).to (l.getD j.toNat el0).to = true) : timesT (l.map EL.to) i j = -1 := by
  unfold timesT; rw [if_neg]; rintro ⟨_, _, _, _, h5⟩; rw [mapTo_getD, mapTo_getD] at h5; exact h h5
theorem timesT_in {l : List EL} {i j : Int} (hi : 0 ≤ i ∧ i < (l.length : Int)) (hj : 0 ≤ j ∧ j < (l.length : Int)) (h : thenB (l.getD i.toNat el0).to (l.getD j.toNat el0).to = true) :
    timesT (l.map EL.to) i j = findTo (l.map EL.to) (thenL (l.getD i.toNat el0).to (l.getD j.toNat el0).to) := by
  unfold timesT; rw [mapTo_getD, mapTo_getD, if_pos]; rw [List.length_map]; exact ⟨hi.1, hi.2, hj.1, hj.2, h⟩
theorem swap_aper1 : aperB ⟨List.replicate 259 0, 1, 0, [1, 0], [true, false]⟩ 2 = false := swap_aper.1
theorem swap_aper2 : aperE ⟨List.replicate 259 0, 1, 0, [1, 0], [true, false]⟩ 2 = 0 := swap_aper.2
end Go.Sx
