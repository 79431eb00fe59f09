/- Proved here: what slices.Reverse of whole numbers does to a row of one's own; conditions: those of the theorem. -/
import Derived.Test.YtoeockpkkmgieaaL2
namespace Go.Proofs.Ytoeockpkkmgieaa
open Go Go.Sx
set_option linter.unusedVariables false
set_option linter.unusedSimpArgs false
theorem reverse_any (a : Option Addr) (xs : List Int) (c : Nat) (n : Nat) (w : World) (hp : Hp w [rowT (tyI .i64) (.slice a n c) 3 xs]) (hn : n = xs.length) (hsz : xs.length ≤ 1000000000) :
    Calls Try.prog 95 #[.slice a n c] w (Ret fun v w' => v = .tuple #[] ∧ Upd w [rowT (tyI .i64) (.slice a n c) 3 xs] w' [rowT (tyI .i64) (.slice a n c) 3 xs.reverse]) := by
  subst hn
  have ho := row_own (hp.holds _ (List.mem_singleton.2 rfl))
  cases a with
  | none =>
    have h0 : xs = [] := by
      rcases ho.2 with ⟨_, h⟩ | ⟨g, cap, cur, h, _⟩
      · exact List.length_eq_zero_iff.1 h
      · cases h
    subst h0
    refine (Try.slices_Reverse_int_empty none c w).mono ?_
    rintro e w' ⟨rfl, rfl⟩
    exact ⟨_, rfl, rfl, Upd.refl hp⟩
  | some ad =>
    obtain ⟨g, hg⟩ : ∃ g, ad = ⟨g, 0, none⟩ := by
      rcases ho.2 with ⟨h, _⟩ | ⟨g, cap, cur, h, _⟩
      · cases h
      · cases h; exact ⟨g, rfl⟩
    subst hg
    obtain ⟨hh, hlt⟩ := holds_own ho
    refine (Try.slices_Reverse_int g 0 c xs w hh (by omega)).mono ?_
    rintro e w' ⟨rfl, q, rfl⟩
    have hu := upd_put (q := q) (os := #[]) (ys := xs.reverse) ho (by simp)
    rw [Go.Sort.grow_empty] at hu
    exact ⟨_, rfl, rfl, hu⟩
end Go.Proofs.Ytoeockpkkmgieaa
