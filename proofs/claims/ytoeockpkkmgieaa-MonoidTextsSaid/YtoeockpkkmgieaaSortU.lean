/- The sort's steps, on lists: each loop's round. Conditions: those of each theorem. -/
import Derived.Test.YtoeockpkkmgieaaSx15
import Derived.Sort.AssemblyPlain
namespace Go.Sx
set_option linter.unusedVariables false
set_option linter.unusedSimpArgs false
open Go.Sort
def sw (xs : List Int) (i j : Nat) : List Int := (xs.set i (xs.getD j 0)).set j (xs.getD i 0)
theorem gA (xs : List Int) (i : Nat) : xs.toArray[i]! = xs.getD i 0 := by
  simp only [List.getElem!_toArray, List.getElem!_eq_getElem?_getD, List.getD_eq_getElem?_getD]; rfl
theorem sw_arr (xs : List Int) (i j : Nat) : swp xs.toArray i j = (sw xs i j).toArray := by
  unfold swp sw
  rw [gA, gA]; simp
theorem sw_len (xs : List Int) (i j : Nat) : (sw xs i j).length = xs.length := by simp [sw]
theorem lt_iff (x y : Int) : ltInt x y = decide (x < y) := rfl
section
variable {xs : List Int} {a b : Nat}
/-! ### insertion -/
theorem ins_go {j : Int} (h : (a : Int) < j) (hl : xs.getD j.toNat 0 < xs.getD (j - 1).toNat 0) : insInner ltInt a j.toNat xs.toArray = insInner ltInt a (j - 1).toNat (sw xs j.toNat (j - 1).toNat).toArray := by
  obtain ⟨k, hk⟩ : ∃ k : Nat, j = (k : Int) + 1 := ⟨(j - 1).toNat, by omega⟩
  subst hk
  have e1 : ((k : Int) + 1).toNat = k + 1 := by omega
  have e2 : ((k : Int) + 1 - 1).toNat = k := by omega
  rw [e1, e2] at hl ⊢
  rw [insInner, if_pos (by rw [gA, gA, lt_iff]; simp only [Bool.and_eq_true, decide_eq_true_eq]; exact ⟨by omega, hl⟩), sw_arr]
theorem ins_stop {j : Int} (h0 : 0 ≤ j) (h : ¬ ((a : Int) < j ∧ xs.getD j.toNat 0 < xs.getD (j - 1).toNat 0)) : insInner ltInt a j.toNat xs.toArray = xs.toArray := by
  rcases Int.lt_or_le 0 j with hj | hj
  · obtain ⟨k, hk⟩ : ∃ k : Nat, j = (k : Int) + 1 := ⟨(j - 1).toNat, by omega⟩
    subst hk
    have e1 : ((k : Int) + 1).toNat = k + 1 := by omega
    have e2 : ((k : Int) + 1 - 1).toNat = k := by omega
    rw [e1, e2] at h
    rw [e1, insInner, if_neg (by rw [gA, gA, lt_iff]; simp only [Bool.and_eq_true, decide_eq_true_eq]; exact fun h2 => h ⟨by omega, h2.2⟩)]
  · have : j.toNat = 0 := by omega
    rw [this, insInner]
theorem insO_go {i : Nat} (h : i < b) {ys : List Int} (hi : insInner ltInt a i xs.toArray = ys.toArray) : insOuter ltInt a b i xs.toArray = insOuter ltInt a b (i + 1) ys.toArray := by rw [insOuter, if_pos h, hi]
theorem insO_end {i : Nat} (h : ¬ i < b) : insOuter ltInt a b i xs.toArray = xs.toArray := by rw [insOuter, if_neg h]
/-! ### heap -/
theorem sift_end {hi first root : Nat} (h : hi ≤ 2 * root + 1) : siftDown ltInt hi first root xs.toArray = xs.toArray := by rw [siftDown, dif_pos h]
theorem siftR_end {hi first root : Nat} (h : ¬ hi ≤ 2 * root + 1) (h1 : 2 * root + 1 + 1 < hi) (h2 : xs.getD (first + (2 * root + 1)) 0 < xs.getD (first + (2 * root + 1) + 1) 0) (h3 : ¬ xs.getD (first + root) 0 < xs.getD (first + (2 * root + 1 + 1)) 0) : siftDown ltInt hi first root xs.toArray = xs.toArray := by
  rw [siftDown, dif_neg h, if_pos (by rw [gA, gA, lt_iff]; simp only [Bool.and_eq_true, decide_eq_true_eq]; exact ⟨h1, h2⟩), if_pos (by rw [gA, gA, lt_iff, decide_eq_false h3]; rfl)]
theorem siftR_go {hi first root : Nat} (h : ¬ hi ≤ 2 * root + 1) (h1 : 2 * root + 1 + 1 < hi) (h2 : xs.getD (first + (2 * root + 1)) 0 < xs.getD (first + (2 * root + 1) + 1) 0) (h3 : xs.getD (first + root) 0 < xs.getD (first + (2 * root + 1 + 1)) 0) :
    siftDown ltInt hi first root xs.toArray = siftDown ltInt hi first (2 * root + 1 + 1) (sw xs (first + root) (first + (2 * root + 1 + 1))).toArray := by
  rw [siftDown, dif_neg h, if_pos (by rw [gA, gA, lt_iff]; simp only [Bool.and_eq_true, decide_eq_true_eq]; exact ⟨h1, h2⟩), if_neg (by rw [gA, gA, lt_iff, decide_eq_true h3]; simp), dif_pos (by omega), sw_arr]
theorem siftL_end {hi first root : Nat} (h : ¬ hi ≤ 2 * root + 1) (h2 : ¬ (2 * root + 1 + 1 < hi ∧ xs.getD (first + (2 * root + 1)) 0 < xs.getD (first + (2 * root + 1) + 1) 0)) (h3 : ¬ xs.getD (first + root) 0 < xs.getD (first + (2 * root + 1)) 0) : siftDown ltInt hi first root xs.toArray = xs.toArray := by
  rw [siftDown, dif_neg h, if_neg (by rw [gA, gA, lt_iff]; simp only [Bool.and_eq_true, decide_eq_true_eq]; exact h2), if_pos (by rw [gA, gA, lt_iff, decide_eq_false h3]; rfl)]
theorem siftL_go {hi first root : Nat} (h : ¬ hi ≤ 2 * root + 1) (h2 : ¬ (2 * root + 1 + 1 < hi ∧ xs.getD (first + (2 * root + 1)) 0 < xs.getD (first + (2 * root + 1) + 1) 0)) (h3 : xs.getD (first + root) 0 < xs.getD (first + (2 * root + 1)) 0) :
    siftDown ltInt hi first root xs.toArray = siftDown ltInt hi first (2 * root + 1) (sw xs (first + root) (first + (2 * root + 1))).toArray := by
  rw [siftDown, dif_neg h, if_neg (by rw [gA, gA, lt_iff]; simp only [Bool.and_eq_true, decide_eq_true_eq]; exact h2), if_neg (by rw [gA, gA, lt_iff, decide_eq_true h3]; simp), sw_arr]
theorem hb_go {hi first : Nat} {i : Int} {ys : List Int} (h : 0 ≤ i) (hs : siftDown ltInt hi first i.toNat xs.toArray = ys.toArray) : heapBuild ltInt hi first (i + 1).toNat xs.toArray = heapBuild ltInt hi first (i - 1 + 1).toNat ys.toArray := by
  have e : (i + 1).toNat = i.toNat + 1 := by omega
  have e2 : (i - 1 + 1).toNat = i.toNat := by omega
  rw [e, e2, heapBuild, hs]
theorem hb_end {hi first : Nat} {i : Int} (h : ¬ 0 ≤ i) : heapBuild ltInt hi first (i + 1).toNat xs.toArray = xs.toArray := by
  have e : (i + 1).toNat = 0 := by omega
  rw [e, heapBuild]
theorem hp_go {first : Nat} {i : Int} {ys : List Int} (h : 0 ≤ i) (hs : siftDown ltInt i.toNat first 0 (sw xs first (first + i.toNat)).toArray = ys.toArray) : heapPop ltInt first (i + 1).toNat xs.toArray = heapPop ltInt first (i - 1 + 1).toNat ys.toArray := by
  have e : (i + 1).toNat = i.toNat + 1 := by omega
  have e2 : (i - 1 + 1).toNat = i.toNat := by omega
  rw [e, e2, heapPop, sw_arr, hs]
theorem hp_end {first : Nat} {i : Int} (h : ¬ 0 ≤ i) : heapPop ltInt first (i + 1).toNat xs.toArray = xs.toArray := by
  have e : (i + 1).toNat = 0 := by omega
  rw [e, heapPop]
theorem arr_list (d : Array Int) : d.toList.toArray = d := by simp
theorem bn_not {p : Prop} [Decidable p] (h : (!decide p) = true) : ¬ p := by simpa using h
theorem bn_yes {p : Prop} [Decidable p] (h : ¬ (!decide p) = true) : p := by simpa using h
theorem sift_size (hi first : Nat) : ∀ (n root : Nat) (d : Array Int), hi - root ≤ n → (siftDown ltInt hi first root d).size = d.size
  | n, root, d, hn => by
    rw [siftDown]
    split
    · rfl
    · rename_i h0
      split
      · split
        · rfl
        · split
          · rename_i h1
            cases n with
            | zero => omega
            | succ n => rw [sift_size hi first n _ _ (by omega), size_swp]
          · rfl
      · split
        · rfl
        · cases n with
          | zero => omega
          | succ n => rw [sift_size hi first n _ _ (by omega), size_swp]
theorem sift_len {hi first root : Nat} {xs : List Int} : (siftDown ltInt hi first root xs.toArray).toList.length = xs.length := by
  rw [Array.length_toList, sift_size hi first _ root _ (Nat.le_refl _)]; simp
theorem sw_len' {xs : List Int} {i j : Nat} {u v : Int} : ((xs.set i u).set j v).length = xs.length := by simp
theorem swp_perm {a b i j : Nat} {xs ys zs : List Int} (h : PermIn a b xs.toArray ys.toArray) (h1 : a ≤ i) (h2 : i < b) (h3 : a ≤ j) (h4 : j < b) (h5 : b ≤ ys.length) (hz : zs = sw ys i j) : PermIn a b xs.toArray zs.toArray := by
  subst hz
  rw [← sw_arr]
  exact permIn_trans _ _ _ _ _ h (swp_permIn _ _ _ _ _ h1 h2 h3 h4 (by simpa using h5))
/-! ### scans -/
theorem su_go {p : Int → Bool} {i j : Nat} (h : i ≤ j) (hp : p (xs.getD i 0) = true) : scanUp p xs.toArray j i = scanUp p xs.toArray j (i + 1) := by
  rw [scanUp, if_pos (by rw [gA]; simp only [Bool.and_eq_true, decide_eq_true_eq]; exact ⟨h, hp⟩)]
theorem su_end {p : Int → Bool} {i j : Nat} (h : ¬ (i ≤ j ∧ p (xs.getD i 0) = true)) : scanUp p xs.toArray j i = i := by
  rw [scanUp, if_neg (by rw [gA]; simpa using h)]
theorem sd_go {p : Int → Bool} {i : Nat} {j : Int} (hi : 1 ≤ i) (h : (i : Int) ≤ j) (hp : p (xs.getD j.toNat 0) = true) : scanDown p xs.toArray i j.toNat = scanDown p xs.toArray i (j - 1).toNat := by
  obtain ⟨k, hk⟩ : ∃ k : Nat, j = (k : Int) + 1 := ⟨(j - 1).toNat, by omega⟩
  subst hk
  have e1 : ((k : Int) + 1).toNat = k + 1 := by omega
  have e2 : ((k : Int) + 1 - 1).toNat = k := by omega
  rw [e1] at hp
  rw [e1, e2, scanDown, if_pos (by rw [gA]; simp only [Bool.and_eq_true, decide_eq_true_eq]; exact ⟨by omega, hp⟩)]
theorem sd_end {p : Int → Bool} {i : Nat} {j : Int} (h0 : 0 ≤ j) (h : ¬ ((i : Int) ≤ j ∧ p (xs.getD j.toNat 0) = true)) : scanDown p xs.toArray i j.toNat = j.toNat := by
  rcases Int.lt_or_le 0 j with hj | hj
  · obtain ⟨k, hk⟩ : ∃ k : Nat, j = (k : Int) + 1 := ⟨(j - 1).toNat, by omega⟩
    subst hk
    have e1 : ((k : Int) + 1).toNat = k + 1 := by omega
    rw [e1] at h
    rw [e1, scanDown, if_neg (by rw [gA]; simp only [Bool.and_eq_true, decide_eq_true_eq]; exact fun h2 => h ⟨by omega, h2.2⟩)]
  · have : j.toNat = 0 := by omega
    rw [this, scanDown]
abbrev pU (v : Int) : Int → Bool := fun x => ltInt x v
abbrev pD (v : Int) : Int → Bool := fun x => !ltInt x v
abbrev qU (v : Int) : Int → Bool := fun x => !ltInt v x
abbrev qD (v : Int) : Int → Bool := fun x => ltInt v x
theorem pl_end {i i2 : Nat} {j j2 : Int} (h1 : scanUp (pU (xs.getD a 0)) xs.toArray j.toNat i = i2) (h2 : scanDown (pD (xs.getD a 0)) xs.toArray i2 j.toNat = j2.toNat) (h0 : 0 ≤ j2) (h : (i2 : Int) > j2) : partLoop ltInt a i j.toNat xs.toArray = (j2.toNat, xs.toArray) := by
  rw [partLoop_eq, gA]
  show (if scanUp (pU (xs.getD a 0)) xs.toArray j.toNat i > scanDown (pD (xs.getD a 0)) xs.toArray (scanUp (pU (xs.getD a 0)) xs.toArray j.toNat i) j.toNat then _ else _) = _
  rw [h1, h2, if_pos (by omega)]
theorem pl_go {i i2 : Nat} {j j2 : Int} (h1 : scanUp (pU (xs.getD a 0)) xs.toArray j.toNat i = i2) (h2 : scanDown (pD (xs.getD a 0)) xs.toArray i2 j.toNat = j2.toNat) (h0 : 0 ≤ j2) (h : ¬ (i2 : Int) > j2) : partLoop ltInt a i j.toNat xs.toArray = partLoop ltInt a (i2 + 1) (j2 - 1).toNat (sw xs i2 j2.toNat).toArray := by
  have e : (j2 - 1).toNat = j2.toNat - 1 := by omega
  conv => lhs; rw [partLoop_eq, gA]
  show (if scanUp (pU (xs.getD a 0)) xs.toArray j.toNat i > scanDown (pD (xs.getD a 0)) xs.toArray (scanUp (pU (xs.getD a 0)) xs.toArray j.toNat i) j.toNat then _ else partLoop ltInt a (scanUp (pU (xs.getD a 0)) xs.toArray j.toNat i + 1) (scanDown (pD (xs.getD a 0)) xs.toArray (scanUp (pU (xs.getD a 0)) xs.toArray j.toNat i) j.toNat - 1) (swp xs.toArray (scanUp (pU (xs.getD a 0)) xs.toArray j.toNat i) (scanDown (pD (xs.getD a 0)) xs.toArray (scanUp (pU (xs.getD a 0)) xs.toArray j.toNat i) j.toNat))) = _
  rw [h1, h2, if_neg (by omega), sw_arr, e]
theorem pe_end {i i2 : Nat} {j j2 : Int} (h1 : scanUp (qU (xs.getD a 0)) xs.toArray j.toNat i = i2) (h2 : scanDown (qD (xs.getD a 0)) xs.toArray i2 j.toNat = j2.toNat) (h0 : 0 ≤ j2) (h : (i2 : Int) > j2) : partEqLoop ltInt a i j.toNat xs.toArray = (i2, xs.toArray) := by
  rw [partEqLoop_eq, gA]
  show (if scanUp (qU (xs.getD a 0)) xs.toArray j.toNat i > scanDown (qD (xs.getD a 0)) xs.toArray (scanUp (qU (xs.getD a 0)) xs.toArray j.toNat i) j.toNat then (scanUp (qU (xs.getD a 0)) xs.toArray j.toNat i, xs.toArray) else _) = _
  rw [h1, h2, if_pos (by omega)]
theorem pe_go {i i2 : Nat} {j j2 : Int} (h1 : scanUp (qU (xs.getD a 0)) xs.toArray j.toNat i = i2) (h2 : scanDown (qD (xs.getD a 0)) xs.toArray i2 j.toNat = j2.toNat) (h0 : 0 ≤ j2) (h : ¬ (i2 : Int) > j2) : partEqLoop ltInt a i j.toNat xs.toArray = partEqLoop ltInt a (i2 + 1) (j2 - 1).toNat (sw xs i2 j2.toNat).toArray := by
  have e : (j2 - 1).toNat = j2.toNat - 1 := by omega
  conv => lhs; rw [partEqLoop_eq, gA]
  show (if scanUp (qU (xs.getD a 0)) xs.toArray j.toNat i > scanDown (qD (xs.getD a 0)) xs.toArray (scanUp (qU (xs.getD a 0)) xs.toArray j.toNat i) j.toNat then _ else partEqLoop ltInt a (scanUp (qU (xs.getD a 0)) xs.toArray j.toNat i + 1) (scanDown (qD (xs.getD a 0)) xs.toArray (scanUp (qU (xs.getD a 0)) xs.toArray j.toNat i) j.toNat - 1) (swp xs.toArray (scanUp (qU (xs.getD a 0)) xs.toArray j.toNat i) (scanDown (qD (xs.getD a 0)) xs.toArray (scanUp (qU (xs.getD a 0)) xs.toArray j.toNat i) j.toNat))) = _
  rw [h1, h2, if_neg (by omega), sw_arr, e]
theorem part_one {p i : Nat} {j : Int} (hab : a < b) (h0 : 0 ≤ j) (h1 : scanUp (pU ((sw xs a p).getD a 0)) (sw xs a p).toArray (b - 1) (a + 1) = i) (h2 : scanDown (pD ((sw xs a p).getD a 0)) (sw xs a p).toArray i (b - 1) = j.toNat) (h : (i : Int) > j) :
    partition ltInt xs.toArray a b p = (j.toNat, true, (sw (sw xs a p) j.toNat a).toArray) := by
  unfold partition
  simp only [sw_arr, gA]
  show (if scanUp (pU ((sw xs a p).getD a 0)) (sw xs a p).toArray (b - 1) (a + 1) > scanDown (pD ((sw xs a p).getD a 0)) (sw xs a p).toArray (scanUp (pU ((sw xs a p).getD a 0)) (sw xs a p).toArray (b - 1) (a + 1)) (b - 1) then (scanDown (pD ((sw xs a p).getD a 0)) (sw xs a p).toArray (scanUp (pU ((sw xs a p).getD a 0)) (sw xs a p).toArray (b - 1) (a + 1)) (b - 1), true, (sw (sw xs a p) (scanDown (pD ((sw xs a p).getD a 0)) (sw xs a p).toArray (scanUp (pU ((sw xs a p).getD a 0)) (sw xs a p).toArray (b - 1) (a + 1)) (b - 1)) a).toArray) else _) = _
  rw [h1, h2, if_pos (by omega)]
theorem part_two {p i : Nat} {j j3 : Int} {ys : List Int} (hab : a < b) (h0 : 0 ≤ j) (h1 : scanUp (pU ((sw xs a p).getD a 0)) (sw xs a p).toArray (b - 1) (a + 1) = i) (h2 : scanDown (pD ((sw xs a p).getD a 0)) (sw xs a p).toArray i (b - 1) = j.toNat) (h : ¬ (i : Int) > j)
    (hl : partLoop ltInt a (i + 1) (j - 1).toNat (sw (sw xs a p) i j.toNat).toArray = (j3.toNat, ys.toArray)) :
    partition ltInt xs.toArray a b p = (j3.toNat, false, (sw ys j3.toNat a).toArray) := by
  have e : (j - 1).toNat = j.toNat - 1 := by omega
  rw [e] at hl
  unfold partition
  simp only [sw_arr, gA]
  show (if scanUp (pU ((sw xs a p).getD a 0)) (sw xs a p).toArray (b - 1) (a + 1) > scanDown (pD ((sw xs a p).getD a 0)) (sw xs a p).toArray (scanUp (pU ((sw xs a p).getD a 0)) (sw xs a p).toArray (b - 1) (a + 1)) (b - 1) then _ else
    ((partLoop ltInt a (scanUp (pU ((sw xs a p).getD a 0)) (sw xs a p).toArray (b - 1) (a + 1) + 1) (scanDown (pD ((sw xs a p).getD a 0)) (sw xs a p).toArray (scanUp (pU ((sw xs a p).getD a 0)) (sw xs a p).toArray (b - 1) (a + 1)) (b - 1) - 1) (sw (sw xs a p) (scanUp (pU ((sw xs a p).getD a 0)) (sw xs a p).toArray (b - 1) (a + 1)) (scanDown (pD ((sw xs a p).getD a 0)) (sw xs a p).toArray (scanUp (pU ((sw xs a p).getD a 0)) (sw xs a p).toArray (b - 1) (a + 1)) (b - 1))).toArray).1, false, swp (partLoop ltInt a (scanUp (pU ((sw xs a p).getD a 0)) (sw xs a p).toArray (b - 1) (a + 1) + 1) (scanDown (pD ((sw xs a p).getD a 0)) (sw xs a p).toArray (scanUp (pU ((sw xs a p).getD a 0)) (sw xs a p).toArray (b - 1) (a + 1)) (b - 1) - 1) (sw (sw xs a p) (scanUp (pU ((sw xs a p).getD a 0)) (sw xs a p).toArray (b - 1) (a + 1)) (scanDown (pD ((sw xs a p).getD a 0)) (sw xs a p).toArray (scanUp (pU ((sw xs a p).getD a 0)) (sw xs a p).toArray (b - 1) (a + 1)) (b - 1))).toArray).2 (partLoop ltInt a (scanUp (pU ((sw xs a p).getD a 0)) (sw xs a p).toArray (b - 1) (a + 1) + 1) (scanDown (pD ((sw xs a p).getD a 0)) (sw xs a p).toArray (scanUp (pU ((sw xs a p).getD a 0)) (sw xs a p).toArray (b - 1) (a + 1)) (b - 1) - 1) (sw (sw xs a p) (scanUp (pU ((sw xs a p).getD a 0)) (sw xs a p).toArray (b - 1) (a + 1)) (scanDown (pD ((sw xs a p).getD a 0)) (sw xs a p).toArray (scanUp (pU ((sw xs a p).getD a 0)) (sw xs a p).toArray (b - 1) (a + 1)) (b - 1))).toArray).1 a)) = _
  rw [h1, h2, if_neg (by omega), hl]
  simp only [sw_arr]
/-! ### partial insertion -/
theorem ss_go {i : Nat} (h : i < b) (hl : ¬ xs.getD i 0 < xs.getD (i - 1) 0) : scanSorted ltInt xs.toArray b i = scanSorted ltInt xs.toArray b (i + 1) := by
  rw [scanSorted, if_pos (by rw [gA, gA, lt_iff, decide_eq_false hl]; simp [h])]
theorem ss_end {i : Nat} (h : ¬ (i < b ∧ ¬ xs.getD i 0 < xs.getD (i - 1) 0)) : scanSorted ltInt xs.toArray b i = i := by
  rw [scanSorted, if_neg (by rw [gA, gA, lt_iff]; simp only [Bool.and_eq_true, decide_eq_true_eq, Bool.not_eq_true', decide_eq_false_iff_not]; exact h)]
theorem shd_go {j : Int} (h : 1 ≤ j) (hl : xs.getD j.toNat 0 < xs.getD (j - 1).toNat 0) : shiftDown ltInt j.toNat xs.toArray = shiftDown ltInt (j - 1).toNat (sw xs j.toNat (j - 1).toNat).toArray := by
  obtain ⟨k, hk⟩ : ∃ k : Nat, j = (k : Int) + 1 := ⟨(j - 1).toNat, by omega⟩
  subst hk
  have e1 : ((k : Int) + 1).toNat = k + 1 := by omega
  have e2 : ((k : Int) + 1 - 1).toNat = k := by omega
  rw [e1, e2] at hl ⊢
  rw [shiftDown, if_neg (by rw [gA, gA, lt_iff, decide_eq_true hl]; simp), sw_arr]
theorem shd_end {j : Int} (h0 : 0 ≤ j) (h : ¬ (1 ≤ j ∧ xs.getD j.toNat 0 < xs.getD (j - 1).toNat 0)) : shiftDown ltInt j.toNat xs.toArray = xs.toArray := by
  rcases Int.lt_or_le 0 j with hj | hj
  · obtain ⟨k, hk⟩ : ∃ k : Nat, j = (k : Int) + 1 := ⟨(j - 1).toNat, by omega⟩
    subst hk
    have e1 : ((k : Int) + 1).toNat = k + 1 := by omega
    have e2 : ((k : Int) + 1 - 1).toNat = k := by omega
    rw [e1, e2] at h
    rw [e1, shiftDown, if_pos (by rw [gA, gA, lt_iff, decide_eq_false (fun h2 => h ⟨by omega, h2⟩)]; rfl)]
  · have : j.toNat = 0 := by omega
    rw [this, shiftDown]
theorem shu_go {j : Nat} (h : j < b) (hl : xs.getD j 0 < xs.getD (j - 1) 0) : shiftUp ltInt b j xs.toArray = shiftUp ltInt b (j + 1) (sw xs j (j - 1)).toArray := by
  rw [shiftUp, if_pos h, if_neg (by rw [gA, gA, lt_iff, decide_eq_true hl]; simp), sw_arr]
theorem shu_end {j : Nat} (h : ¬ (j < b ∧ xs.getD j 0 < xs.getD (j - 1) 0)) : shiftUp ltInt b j xs.toArray = xs.toArray := by
  rw [shiftUp]
  split
  · rename_i hj
    rw [if_pos (by rw [gA, gA, lt_iff, decide_eq_false (fun h2 => h ⟨hj, h2⟩)]; rfl)]
  · rfl
theorem pins_yes {k i i2 : Nat} (hk : k < 5) (hs : scanSorted ltInt xs.toArray b i = i2) (h : i2 = b) : partialIns ltInt a b (5 - k) i xs.toArray = (xs.toArray, true) := by
  have e : 5 - k = (5 - (k + 1)) + 1 := by omega
  rw [e, partialIns_succ, hs, if_pos h]
theorem pins_no {k i i2 : Nat} (hk : k < 5) (hs : scanSorted ltInt xs.toArray b i = i2) (h : ¬ i2 = b) (h2 : b - a < 50) : partialIns ltInt a b (5 - k) i xs.toArray = (xs.toArray, false) := by
  have e : 5 - k = (5 - (k + 1)) + 1 := by omega
  rw [e, partialIns_succ, hs, if_neg h, if_pos h2]
theorem pins_go {k i i2 : Nat} {zs ws : List Int} (hk : k < 5) (hs : scanSorted ltInt xs.toArray b i = i2) (h : ¬ i2 = b) (h2 : ¬ b - a < 50)
    (hZ : zs.toArray = (if i2 - a ≥ 2 then shiftDown ltInt (i2 - 1) (sw xs i2 (i2 - 1)).toArray else (sw xs i2 (i2 - 1)).toArray)) (hW : ws.toArray = (if b - i2 ≥ 2 then shiftUp ltInt b (i2 + 1) zs.toArray else zs.toArray)) :
    partialIns ltInt a b (5 - (k + 1)) i2 ws.toArray = partialIns ltInt a b (5 - k) i xs.toArray := by
  have e : 5 - k = (5 - (k + 1)) + 1 := by omega
  conv => rhs; rw [e, partialIns_succ, hs, if_neg h, if_neg h2]
  congr 1
  rw [hW, hZ, sw_arr]
  rfl
/-! ### turning -/
theorem rv_go {i : Nat} {j : Int} (h : (i : Int) < j) : reverseLoop i j.toNat xs.toArray = reverseLoop (i + 1) (j - 1).toNat (sw xs i j.toNat).toArray := by
  have e : (j - 1).toNat = j.toNat - 1 := by omega
  rw [reverseLoop, if_pos (by omega), sw_arr, e]
theorem rv_end {i : Nat} {j : Int} (h : ¬ (i : Int) < j) : reverseLoop i j.toNat xs.toArray = xs.toArray := by rw [reverseLoop, if_neg (by omega)]
end
end Go.Sx
