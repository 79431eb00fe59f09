/- The sort's recursion, as what is still to be done. Conditions: those of each theorem. -/
import Derived.Test.YtoeockpkkmgieaaSortU
namespace Go.Sx
set_option linter.unusedVariables false
open Go.Sort
/-- Whatever sorts [la, lb) of ys sorts [a, b) of xs. -/
def KK (xs : List Int) (a b : Nat) (ys : List Int) (la lb : Nat) : Prop := ∀ R : Array Int, PermIn la lb ys.toArray R → SortedIn ltInt la lb R → PermIn a b xs.toArray R ∧ SortedIn ltInt a b R
theorem KK.start (xs : List Int) (a b : Nat) : KK xs a b xs a b := fun R p s => ⟨p, s⟩
theorem KK.perm {xs ys ds : List Int} {a b la lb : Nat} (h : KK xs a b ys la lb) (p : PermIn la lb ys.toArray ds.toArray) : KK xs a b ds la lb := fun R q s => h R (permIn_trans _ _ _ _ _ p q) s
theorem PermIn.len {ys ds : List Int} {la lb : Nat} (p : PermIn la lb ys.toArray ds.toArray) : ds.length = ys.length := by have := p.1; simpa using this
theorem KK.ins {xs ys : List Int} {a b la lb : Nat} (h : KK xs a b ys la lb) (hab : la ≤ lb) (hb : lb ≤ ys.length) : PermIn a b xs.toArray (insertionSort ltInt ys.toArray la lb).toList.toArray ∧ SortedIn ltInt a b (insertionSort ltInt ys.toArray la lb).toList.toArray := by
  rw [arr_list]
  obtain ⟨p, s⟩ := insertionSort_holds swo_ltInt ys.toArray la lb hab (by simpa using hb)
  exact h _ p s
theorem KK.heap {xs ys : List Int} {a b la lb : Nat} (h : KK xs a b ys la lb) (hab : la ≤ lb) (hb : lb ≤ ys.length) : PermIn a b xs.toArray (heapSort ltInt ys.toArray la lb).toList.toArray ∧ SortedIn ltInt a b (heapSort ltInt ys.toArray la lb).toList.toArray := by
  rw [arr_list]
  obtain ⟨p, s⟩ := heapSort_holds swo_ltInt ys.toArray la lb hab (by simpa using hb)
  exact h _ p s
theorem rev_perm {ys : List Int} {la lb : Nat} (hab : la ≤ lb) (hb : lb ≤ ys.length) : PermIn la lb ys.toArray (reverseRange ys.toArray la lb).toList.toArray := by
  rw [arr_list]; exact reverseRange_holds ys.toArray la lb hab (by simpa using hb)
theorem pins_perm {ys : List Int} {la lb : Nat} (hab : la < lb) (hb : lb ≤ ys.length) (hB : Below ltInt la lb ys.toArray) : PermIn la lb ys.toArray (partialInsertionSort ltInt ys.toArray la lb).1.toList.toArray := by
  rw [arr_list]; exact (partialInsertionSort_holds swo_ltInt ys.toArray la lb hab (by simpa using hb) hB).1
theorem KK.pins {xs ys : List Int} {a b la lb : Nat} (h : KK xs a b ys la lb) (hab : la < lb) (hb : lb ≤ ys.length) (hB : Below ltInt la lb ys.toArray) (ht : (partialInsertionSort ltInt ys.toArray la lb).2 = true) :
    PermIn a b xs.toArray (partialInsertionSort ltInt ys.toArray la lb).1.toList.toArray ∧ SortedIn ltInt a b (partialInsertionSort ltInt ys.toArray la lb).1.toList.toArray := by
  rw [arr_list]
  obtain ⟨p, s⟩ := partialInsertionSort_holds swo_ltInt ys.toArray la lb hab (by simpa using hb) hB
  exact h _ p (s ht)
theorem below_perm {ys ds : List Int} {la lb : Nat} (h : Below ltInt la lb ys.toArray) (hb : lb ≤ ys.length) (p : PermIn la lb ys.toArray ds.toArray) : Below ltInt la lb ds.toArray := h.perm (by simpa using hb) p
theorem KK.eq {xs ys : List Int} {a b la lb p : Nat} (h : KK xs a b ys la lb) (h0 : 0 < la) (hp1 : la ≤ p) (hp2 : p < lb) (hb : lb ≤ ys.length) (hB : Below ltInt la lb ys.toArray) (hn : ¬ ys.getD (la - 1) 0 < ys.getD p 0) :
    la < (partitionEqual ltInt ys.toArray la lb p).1 ∧ (partitionEqual ltInt ys.toArray la lb p).1 ≤ lb ∧ (partitionEqual ltInt ys.toArray la lb p).2.toList.length = ys.length ∧
    Below ltInt (partitionEqual ltInt ys.toArray la lb p).1 lb (partitionEqual ltInt ys.toArray la lb p).2.toList.toArray ∧ KK xs a b (partitionEqual ltInt ys.toArray la lb p).2.toList (partitionEqual ltInt ys.toArray la lb p).1 lb := by
  obtain ⟨r1, r2, r3, r4, r5⟩ := round_eq (lt := ltInt) (d3 := ys.toArray) (d4 := (partitionEqual ltInt ys.toArray la lb p).2) (mid := (partitionEqual ltInt ys.toArray la lb p).1) swo_ltInt (partitionEqual_holds _) h0 hp1 hp2 (by simpa using hb) hB (by rw [gA, gA, lt_iff, decide_eq_false hn]) rfl
  refine ⟨r1, r2, by rw [Array.length_toList, r3]; simp, by rw [arr_list]; exact r4, fun R q s => ?_⟩
  rw [arr_list] at q
  obtain ⟨p1, s1⟩ := r5 R q s
  exact h R p1 s1
theorem KK.part {xs ys : List Int} {a b la lb p : Nat} (h : KK xs a b ys la lb) (hp1 : la ≤ p) (hp2 : p < lb) (hb : lb ≤ ys.length) (hB : Below ltInt la lb ys.toArray) :
    la ≤ (partition ltInt ys.toArray la lb p).1 ∧ (partition ltInt ys.toArray la lb p).1 < lb ∧ (partition ltInt ys.toArray la lb p).2.2.toList.length = ys.length ∧
    Below ltInt la (partition ltInt ys.toArray la lb p).1 (partition ltInt ys.toArray la lb p).2.2.toList.toArray ∧ Below ltInt ((partition ltInt ys.toArray la lb p).1 + 1) lb (partition ltInt ys.toArray la lb p).2.2.toList.toArray ∧
    (∀ zs : List Int, PermIn la (partition ltInt ys.toArray la lb p).1 (partition ltInt ys.toArray la lb p).2.2.toList.toArray zs.toArray → SortedIn ltInt la (partition ltInt ys.toArray la lb p).1 zs.toArray → Below ltInt ((partition ltInt ys.toArray la lb p).1 + 1) lb zs.toArray ∧ KK xs a b zs ((partition ltInt ys.toArray la lb p).1 + 1) lb) ∧
    (∀ zs : List Int, PermIn ((partition ltInt ys.toArray la lb p).1 + 1) lb (partition ltInt ys.toArray la lb p).2.2.toList.toArray zs.toArray → SortedIn ltInt ((partition ltInt ys.toArray la lb p).1 + 1) lb zs.toArray → Below ltInt la (partition ltInt ys.toArray la lb p).1 zs.toArray ∧ KK xs a b zs la (partition ltInt ys.toArray la lb p).1) := by
  obtain ⟨r1, r2, r3, r4, r5, r6, r7⟩ := round_part (lt := ltInt) (d3 := ys.toArray) (d4 := (partition ltInt ys.toArray la lb p).2.2) (ap := (partition ltInt ys.toArray la lb p).2.1) (mid := (partition ltInt ys.toArray la lb p).1) swo_ltInt (partition_holds _) hp1 hp2 (by simpa using hb) hB rfl
  rw [arr_list]
  refine ⟨r1, r2, by rw [Array.length_toList, r3]; simp, r4, r5, fun zs q s => ?_, fun zs q s => ?_⟩
  · obtain ⟨b1, k1⟩ := r6 zs.toArray q s
    exact ⟨b1, fun R q2 s2 => h R (k1 R q2 s2).1 (k1 R q2 s2).2⟩
  · obtain ⟨b1, k1⟩ := r7 zs.toArray q s
    exact ⟨b1, fun R q2 s2 => h R (k1 R q2 s2).1 (k1 R q2 s2).2⟩
/-- All of it sorted. -/
theorem sorted_all {xs ys : List Int} (p : PermIn 0 xs.length xs.toArray ys.toArray) (s : SortedIn ltInt 0 xs.length ys.toArray) : ys = xs.mergeSort fun x y => decide (x ≤ y) := by
  have h := sorted_unique_holds (lt := ltInt) swo_ltInt (fun x y h1 h2 => by simp only [ltInt, decide_eq_false_iff_not] at h1 h2; omega) xs.toArray ys.toArray (by simpa using p) (by simpa using s)
  have e : (fun x y => !ltInt y x) = fun x y : Int => decide (x ≤ y) := by
    funext x y
    simp only [ltInt]
    by_cases h : x ≤ y
    · rw [decide_eq_true h, decide_eq_false (by omega)]; rfl
    · rw [decide_eq_false h, decide_eq_true (by omega)]; rfl
  rw [e] at h
  simpa using h
end Go.Sx
