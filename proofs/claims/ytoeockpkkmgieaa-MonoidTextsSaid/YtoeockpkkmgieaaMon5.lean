/- Over elements: what two lists of the same data have alike. Conditions: those of each theorem. -/
import Derived.Test.YtoeockpkkmgieaaMon4
namespace Go.Sx
theorem els_to {xs : List EL} {E : List ED} (h : xs.map EL.dat = E) : xs.map EL.to = E.map Prod.fst := by rw [← h, dat_fst]
theorem els_same {xs ys : List EL} {E : List ED} (h : xs.map EL.dat = E) (g : ys.map EL.dat = E) : xs.map EL.to = ys.map EL.to := by rw [els_to h, els_to g]
theorem els_len {xs : List EL} {E : List ED} (h : xs.map EL.dat = E) : xs.length = E.length := by rw [← h, List.length_map]
theorem els_at {xs ys : List EL} {E : List ED} (h : xs.map EL.dat = E) (g : ys.map EL.dat = E) {k : Nat} (hk : k < xs.length) : (xs.getD k el0).text = (ys.getD k el0).text ∧ (xs.getD k el0).to = (ys.getD k el0).to := by
  have h1 := dat_getD hk
  have h2 := dat_getD (os := ys) (i := k) (by rw [els_len g, ← els_len h]; exact hk)
  rw [h] at h1; rw [g, h1] at h2
  simp only [EL.dat, Prod.mk.injEq] at h2
  exact ⟨h2.2, h2.1⟩
def allTo (xs : List EL) (k : Nat) : Bool := (xs.take k).all fun x => settlesB x.to
theorem allTo_step {xs : List EL} {k : Nat} (hk : k < xs.length) : allTo xs (k + 1) = (allTo xs k && settlesB (xs.getD k el0).to) := by
  unfold allTo
  rw [List.take_succ_eq_append_getElem hk, List.all_append]
  simp [List.getD_eq_getElem?_getD, hk]
theorem aper_all {d : DfaD} {most : Int} {xs : List EL} (hr : rightB d = true) (hl : ((elsOut d (lettersB d) most).length : Int) ≤ most) (hx : xs.map EL.dat = elsOut d (lettersB d) most) : aperB d most = allTo xs xs.length := by
  unfold aperB allTo
  rw [if_pos ⟨hr, hl⟩, ← hx, List.all_map, List.take_length]
  rfl
theorem aper_wrong {d : DfaD} {most : Int} (h : ¬ rightB d = true) : aperB d most = false ∧ aperE d most = 3 := by
  constructor
  · unfold aperB; rw [if_neg (fun h9 => h h9.1)]
  · unfold aperE; rw [if_neg h]
theorem aper_many {d : DfaD} {most : Int} (hr : rightB d = true) (h : ¬ ((elsOut d (lettersB d) most).length : Int) ≤ most) : aperB d most = false ∧ aperE d most = 5 := by
  constructor
  · unfold aperB; rw [if_neg (fun h9 => h h9.2)]
  · unfold aperE; rw [if_pos hr, if_neg h]
end Go.Sx
