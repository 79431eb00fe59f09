/- Proved here: what slices.Sort and slices.Compact of whole numbers do to a row of one's own; conditions: those of each theorem. -/
import Derived.Test.YtoeockpkkmgieaaShelf
import Derived.Test.YtoeockpkkmgieaaF2
import Derived.Test.YtoeockpkkmgieaaSx11
import Derived.Test.YtoeockpkkmgieaaDfa1
import Derived.Test.YtoeockpkkmgieaaDfa2
namespace Go.Proofs.Ytoeockpkkmgieaa
open Go Go.Sx
set_option linter.unusedVariables false
set_option linter.unusedSimpArgs false
def sortI (xs : List Int) : List Int := xs.mergeSort fun x y => decide (x ≤ y)
theorem sortI_mem (xs : List Int) (x : Int) : x ∈ sortI xs ↔ x ∈ xs := by simp [sortI]
theorem sortI_len (xs : List Int) : (sortI xs).length = xs.length := by simp [sortI]
theorem sort_any (a : Option Addr) (xs : List Int) (c : Nat) (n : Nat) (w : World) (hp : Hp w [rowT (tyI .i64) (.slice a n c) 3 xs]) (hn : n = xs.length) (hsz : xs.length ≤ 1000000000) :
    Calls Try.prog 90 #[.slice a n c] w (Ret fun v w' => v = .tuple #[] ∧ Upd w [rowT (tyI .i64) (.slice a n c) 3 xs] w' [rowT (tyI .i64) (.slice a n c) 3 (sortI xs)]) := by
  subst hn
  have ho := row_own (hp.holds _ (List.mem_singleton.2 rfl))
  cases a with
  | none =>
    have h0 : xs = [] := by
      rcases ho.2 with ⟨_, h⟩ | ⟨g, cap, cur, h, _⟩
      · exact List.length_eq_zero_iff.1 h
      · cases h
    subst h0
    refine (Try.slices_Sort_int_none none c w).mono ?_
    rintro e w' ⟨rfl, rfl⟩
    have e0 : sortI [] = [] := by simp [sortI]
    rw [e0]
    exact ⟨_, rfl, rfl, Upd.refl hp⟩
  | some ad =>
    obtain ⟨g, hg⟩ : ∃ g, ad = ⟨g, 0, none⟩ := by
      rcases ho.2 with ⟨h, _⟩ | ⟨g, cap, cur, h, _⟩
      · cases h
      · cases h; exact ⟨g, rfl⟩
    subst hg
    obtain ⟨hh, hlt⟩ := holds_own ho
    refine (Try.slices_Sort_int g 0 c xs w hh hlt (by omega)).mono ?_
    rintro e w' ⟨rfl, q, os, rfl⟩
    exact ⟨_, rfl, rfl, upd_put ho (sortI_len xs)⟩
theorem compact_le (xs : List Int) : (Lib.compact xs).length ≤ xs.length := by
  simp only [Lib.compact, Lib.compactUpTo, List.length_map]
  exact Nat.le_trans (List.length_filter_le _ _) (by simp)
theorem compact_any (a : Option Addr) (xs : List Int) (c : Nat) (n : Nat) (w : World) (hp : Hp w [rowT (tyI .i64) (.slice a n c) 3 xs]) (hn : n = xs.length) (hsz : xs.length ≤ 1000000000) :
    Calls Try.prog 91 #[.slice a n c] w (Ret fun v w' => v = .slice a (Lib.compact xs).length c ∧ Upd w [rowT (tyI .i64) (.slice a n c) 3 xs] w' [rowT (tyI .i64) (.slice a (Lib.compact xs).length c) 3 (Lib.compact xs)]) := by
  subst hn
  have ho := row_own (hp.holds _ (List.mem_singleton.2 rfl))
  cases a with
  | none =>
    have h0 : xs = [] := by
      rcases ho.2 with ⟨_, h⟩ | ⟨g, cap, cur, h, _⟩
      · exact List.length_eq_zero_iff.1 h
      · cases h
    subst h0
    refine (Try.slices_Compact_int_empty none c w).mono ?_
    rintro e w' ⟨rfl, rfl⟩
    have e0 : Lib.compact ([] : List Int) = [] := by simp [Lib.compact, Lib.compactUpTo]
    rw [e0]
    exact ⟨_, rfl, rfl, Upd.refl hp⟩
  | some ad =>
    obtain ⟨g, hg⟩ : ∃ g, ad = ⟨g, 0, none⟩ := by
      rcases ho.2 with ⟨h, _⟩ | ⟨g, cap, cur, h, _⟩
      · cases h
      · cases h; exact ⟨g, rfl⟩
    subst hg
    obtain ⟨hh, hlt⟩ := holds_own ho
    refine (Try.slices_Compact_int g 0 c xs w hh (by omega) (own_capN ho)).mono ?_
    rintro e w' ⟨rfl, q, rfl⟩
    have hle := compact_le xs
    have hu := upd_put (q := q) (os := #[]) (ys := Lib.compact xs ++ List.replicate (xs.length - (Lib.compact xs).length) 0) ho (by simp; omega)
    rw [Go.Sort.grow_empty] at hu
    exact ⟨_, rfl, rfl, upd_take (j := (Lib.compact xs).length) hu (by simp) (by simp)⟩
theorem compact_mem (l : List Int) (x : Int) : x ∈ Lib.compact l ↔ x ∈ l := by
  have hat : ∀ i (h : i < l.length), l.toArray[i]! = l[i] := fun i h => by simp [h]
  simp only [Lib.compact, Lib.compactUpTo, List.mem_map, List.mem_filter, List.mem_range]
  constructor
  · rintro ⟨i, ⟨hi, _⟩, rfl⟩
    rw [hat i hi]; exact List.getElem_mem hi
  · intro hx
    obtain ⟨i, hi, rfl⟩ := List.mem_iff_getElem.1 hx
    induction i with
    | zero => exact ⟨0, ⟨hi, by simp [Lib.keeps]⟩, hat 0 hi⟩
    | succ i ih =>
      by_cases hk : Lib.keeps l.toArray (i + 1) = true
      · exact ⟨i + 1, ⟨hi, hk⟩, hat (i + 1) hi⟩
      · have hi' : i < l.length := by omega
        have he : l[i + 1] = l[i] := by
          simp only [Lib.keeps, decide_eq_true_eq, not_or, ne_eq, Classical.not_not] at hk
          have h2 := hk.2
          rw [Nat.add_sub_cancel, hat (i + 1) hi, hat i hi'] at h2
          exact h2
        rw [he]
        exact ih hi' (List.getElem_mem hi')
def usedI (d : DfaD) : List Int := Lib.compact (sortI d.cls)
theorem used_mem (d : DfaD) (x : Int) : x ∈ usedI d ↔ x ∈ d.cls := by rw [usedI, compact_mem, sortI_mem]
theorem used_bd {d : DfaD} (h : rightB d = true) {x : Int} (hx : x ∈ usedI d) : 0 ≤ x ∧ x < d.width := by
  obtain ⟨i, hi, rfl⟩ := List.mem_iff_getElem.1 ((used_mem d x).1 hx)
  have := within_at (rightB_iff.1 h).2.1 i hi
  simpa [List.getD_eq_getElem?_getD, hi] using this
def nxR (d : DfaD) (s : Int) : List Int := (usedI d).map fun c => d.next.getD (s * d.width + c).toNat 0
theorem used_len (d : DfaD) : (usedI d).length ≤ d.cls.length := by have := compact_le (sortI d.cls); rw [sortI_len] at this; exact this
theorem nxR_step {d : DfaD} {s : Int} {k : Nat} (h : k < (usedI d).length) : ((usedI d).take k).map (fun c => d.next.getD (s * d.width + c).toNat 0) ++ [d.next.getD (s * d.width + (usedI d).getD k 0).toNat 0] = ((usedI d).take (k + 1)).map (fun c => d.next.getD (s * d.width + c).toNat 0) := by
  rw [List.take_add_one, List.getElem?_eq_getElem h, List.map_append]; simp [List.getD_eq_getElem?_getD, List.getElem?_eq_getElem h]
theorem nxR_bd {d : DfaD} (h : rightB d = true) {s t : Int} (h0 : 0 ≤ s) (h1 : s < (d.acc.length : Int)) (ht : t ∈ nxR d s) : 0 ≤ t ∧ t < (d.acc.length : Int) := by
  obtain ⟨c, hc, rfl⟩ := List.mem_map.1 ht
  have hb := used_bd h hc
  have hix := right_idx h h0 h1 hb.1 hb.2
  exact within_at (rightB_iff.1 h).2.2 _ (by omega)
theorem nxR_len (d : DfaD) (s : Int) : (nxR d s).length ≤ d.cls.length := by have := used_len d; simp [nxR]; omega
end Go.Proofs.Ytoeockpkkmgieaa
