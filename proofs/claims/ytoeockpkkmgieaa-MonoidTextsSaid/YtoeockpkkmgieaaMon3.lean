/- The program's search for elements: its ends. Conditions: those of each theorem. -/
import Derived.Test.YtoeockpkkmgieaaMon2
namespace Go.Sx
set_option linter.unusedVariables false
set_option linter.unusedSimpArgs false
theorem mapE_no {m : List (ByteArray × Int)} {os : List EL} {t : List Int} (h : MapE m os) (ht : stOk t) (hn : ¬ (getM m (keyS t)).isSome = true) : t ∉ os.map EL.to := by
  rw [h t ht] at hn; exact fun e => hn (decide_eq_true e)
theorem mapE_yes {m : List (ByteArray × Int)} {os : List EL} {t : List Int} (h : MapE m os) (ht : stOk t) (hn : (getM m (keyS t)).isSome = true) : t ∈ os.map EL.to := by
  rw [h t ht] at hn; exact of_decide_eq_true hn
theorem lettersB_len (d : DfaD) : (lettersB d).length ≤ 256 := by
  simp only [lettersB, List.length_map]
  exact Nat.le_trans (List.length_filter_le _ _) (by simp)
theorem ElsP.bad {d : DfaD} {most : Int} (h : rightB d = false) : ElsP d most [] 3 := ⟨fun _ => ⟨rfl, rfl⟩, fun h2 => (by rw [h] at h2; cases h2), fun h2 => (by rw [h] at h2; cases h2)⟩
theorem ElsP.many {d : DfaD} {most : Int} {os : List EL} (hr : rightB d = true) (hf : elsOut d (lettersB d) most = os.map EL.dat) (h : ¬ (os.length : Int) ≤ most) : ElsP d most [] 5 := by
  have e : ((elsOut d (lettersB d) most).length : Int) = os.length := by rw [hf, List.length_map]
  exact ⟨fun h2 => (by rw [hr] at h2; cases h2), fun _ h2 => absurd h2 (by omega), fun _ _ => ⟨rfl, rfl⟩⟩
theorem ElsP.ok {d : DfaD} {most : Int} {os : List EL} (hr : rightB d = true) (hf : elsOut d (lettersB d) most = os.map EL.dat) (h : (os.length : Int) ≤ most) (hI : ElI d os) : ElsP d most os 0 := by
  have e : ((elsOut d (lettersB d) most).length : Int) = os.length := by rw [hf, List.length_map]
  exact ⟨fun h2 => (by rw [hr] at h2; cases h2), fun _ _ => ⟨rfl, hf.symm, hI⟩, fun _ h2 => absurd h (by omega)⟩
theorem foldL_step {d : DfaD} {e : ED} {acc : List ED} {L : List Int} {j : Nat} {r : List ED} (hj : j < L.length) (h : r = addE d e ((L.take j).foldl (addE d e) acc) (L.getD j 0)) : r = (L.take (j + 1)).foldl (addE d e) acc := by
  rw [take_succ_getD 0 hj, List.foldl_append, h]; rfl
end Go.Sx
