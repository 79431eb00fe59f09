/- Classes of symbols: their first places, and two lists joined, as data. Conditions: those of each theorem. -/
import Derived.Test.YtoeockpkkmgieaaSx15
import Derived.Test.YtoeockpkkmgieaaDfa1
namespace Go.Sx
set_option linter.unusedVariables false
set_option linter.unusedSimpArgs false
def firstI (c : Int) (l : List Int) : Int := if c ∈ l then ((ix c l : Nat) : Int) else -1
def firstsI (l : List Int) (width : Int) : List Int := List.map (fun c : Nat => firstI (c : Int) l) (List.range (min width 259).toNat)
theorem ix_snoc {α : Type} [DecidableEq α] {x : α} : ∀ {l : List α}, x ∉ l → ix x (l ++ [x]) = l.length
  | [], _ => by simp [ix]
  | y :: l, h => by
    simp only [List.mem_cons, not_or] at h
    simp only [List.cons_append, ix, if_neg h.1, ix_snoc h.2, List.length_cons]
theorem firstsI_len (l : List Int) (width : Int) : (firstsI l width).length = (min width 259).toNat := by simp [firstsI]
theorem firstI_snoc (c : Int) (l : List Int) (x : Int) : firstI c (l ++ [x]) = if c ∈ l then firstI c l else if x = c then (l.length : Int) else -1 := by
  unfold firstI
  by_cases h : c ∈ l
  · rw [if_pos (by simp [h]), if_pos h, if_pos h, ix_app _ h]
  · rw [if_neg h]
    by_cases e : x = c
    · subst e
      rw [if_pos (by simp), if_pos rfl]
      have := ix_snoc h
      rw [this]
    · rw [if_neg (by simp [h]; exact fun e' => e e'.symm), if_neg e]
theorem firstI_neg {c : Int} {l : List Int} : firstI c l < 0 ↔ c ∉ l := by
  unfold firstI; split <;> rename_i h <;> simp [h]
/-- Behind k places. -/
structure FsI (l : List Int) (n : Nat) (q : List Int) (k : Nat) : Prop where
  len : q.length = n
  val : ∀ c : Nat, c < n → q.getD c 0 = firstI (c : Int) (l.take k)
theorem FsI.start (l : List Int) (n : Nat) : FsI l n (List.replicate n (-1)) 0 := ⟨by simp, fun c hc => by simp [List.getD_eq_getElem?_getD, hc, firstI]⟩
theorem take_succ_getD {α : Type} {l : List α} {k : Nat} (d : α) (h : k < l.length) : l.take (k + 1) = l.take k ++ [l.getD k d] := by
  rw [List.take_add_one, List.getElem?_eq_getElem h]; simp [List.getD_eq_getElem?_getD, List.getElem?_eq_getElem h]
theorem getD_setI {q : List Int} {i j : Nat} {b : Int} (hi : i < q.length) : (q.set i b).getD j 0 = if i = j then b else q.getD j 0 := by
  simp only [List.getD_eq_getElem?_getD, List.getElem?_set]
  split
  · rename_i e; subst e; simp [hi]
  · rfl
theorem FsI.skip {l : List Int} {n : Nat} {q : List Int} {k : Nat} (h : FsI l n q k) (hk : k < l.length) (hc : ¬ (0 ≤ l.getD k 0 ∧ l.getD k 0 < (n : Int) ∧ q.getD (l.getD k 0).toNat 0 < 0)) : FsI l n q (k + 1) := by
  refine ⟨h.len, fun c hcn => ?_⟩
  rw [take_succ_getD 0 hk, firstI_snoc, h.val c hcn]
  split
  · rfl
  · rename_i hn
    rw [if_neg (fun e => hc ⟨by omega, by omega, ?_⟩)]
    · unfold firstI; rw [if_neg hn]
    · rw [e, Int.toNat_natCast, h.val c hcn, firstI_neg]; exact hn
theorem FsI.put {l : List Int} {n : Nat} {q : List Int} {k : Nat} (h : FsI l n q k) (hk : k < l.length) (h0 : 0 ≤ l.getD k 0) (h1 : l.getD k 0 < (n : Int)) (h2 : q.getD (l.getD k 0).toNat 0 < 0) : FsI l n (q.set (l.getD k 0).toNat (k : Int)) (k + 1) := by
  have hl : (l.getD k 0).toNat < q.length := by rw [h.len]; omega
  have hx : l.getD k 0 ∉ l.take k := by
    have := h.val (l.getD k 0).toNat (by omega)
    rw [this, Int.toNat_of_nonneg h0, firstI_neg] at h2; exact h2
  refine ⟨by simp [h.len], fun c hcn => ?_⟩
  rw [getD_setI hl, take_succ_getD 0 hk, firstI_snoc]
  split
  · rename_i e
    have e' : l.getD k 0 = (c : Int) := by omega
    rw [← e', if_neg hx, if_pos rfl, List.length_take]
    congr 1; omega
  · rename_i e
    rw [h.val c hcn]
    split
    · rfl
    · rename_i hn
      rw [if_neg (by omega)]
      unfold firstI; rw [if_neg hn]
theorem FsI.fin {l : List Int} {width : Int} {q : List Int} {k : Nat} (h : FsI l (min width 259).toNat q k) (hk : l.length ≤ k) : firstsI l width = q := by
  refine list_eq_of (d := 0) (by rw [firstsI_len, h.len]) fun i hi => ?_
  rw [firstsI_len] at hi
  rw [h.val i hi, List.take_of_length_le hk]
  simp [firstsI, List.getD_eq_getElem?_getD, hi]
theorem firstsI_get {l : List Int} {width : Int} {c : Nat} (h : c < (min width 259).toNat) : (firstsI l width).getD c 0 = firstI (c : Int) l := by simp [firstsI, List.getD_eq_getElem?_getD, h]

/-! ### Two lists joined -/
def joinL (a b : List Int) : List Int := if a.length = b.length then numL (a.zip b) else []
def joinN (a b : List Int) : Int := if a.length = b.length then (((dd (a.zip b)).length : Nat) : Int) else 0
theorem joinL_len {a b : List Int} (h : a.length = b.length) : (joinL a b).length = a.length := by rw [joinL, if_pos h]; simp [numL, h]
theorem zip_getD {a b : List Int} {k : Nat} (ha : k < a.length) (hb : k < b.length) : (a.zip b).getD k (0, 0) = (a.getD k 0, b.getD k 0) := by
  simp [List.getD_eq_getElem?_getD, ha, hb, List.getElem?_eq_getElem (show k < (a.zip b).length by simp; omega)]
structure JnI (z : List (Int × Int)) (q : List Int) (m : List ((Int × Int) × Int)) (k : Nat) : Prop where
  len : q.length = z.length
  val : ∀ j, j < k → q.getD j 0 = ((ix (z.getD j (0, 0)) (dd z) : Nat) : Int)
  map : m = nmap (z.take k)
theorem JnI.start (z : List (Int × Int)) : JnI z (List.replicate z.length 0) [] 0 := ⟨by simp, fun j h => by omega, by simp [nmap, dd]⟩
theorem mem_dd_take {z : List (Int × Int)} {k : Nat} {p : Int × Int} (h : p ∈ dd (z.take k)) : ix p (dd z) = ix p (dd (z.take k)) := by
  have := dd_idx (z.take k) (z.drop k) h
  rwa [List.take_append_drop] at this
theorem JnI.old {z : List (Int × Int)} {q : List Int} {m : List ((Int × Int) × Int)} {k : Nat} {p : Int × Int} (h : JnI z q m k) (hk : k < z.length) (hp : z.getD k (0, 0) = p) (hs : (getM m p).isSome = true) : JnI z (q.set k ((getM m p).getD 0)) m (k + 1) := by
  have hl : k < q.length := by rw [h.len]; exact hk
  rw [h.map, nmap_get] at hs
  have hm : p ∈ z.take k := by
    by_cases e : p ∈ z.take k
    · exact e
    · rw [if_neg e] at hs; cases hs
  refine ⟨by simp [h.len], fun j hj => ?_, ?_⟩
  · rw [getD_setI hl]
    split
    · rename_i e; subst e
      rw [h.map, nmap_get, if_pos hm, hp, mem_dd_take ((dd_mem _ _).2 hm)]; rfl
    · exact h.val j (by omega)
  · rw [take_succ_getD (0, 0) hk, hp, nmap_old hm, h.map]
theorem JnI.new {z : List (Int × Int)} {q : List Int} {m : List ((Int × Int) × Int)} {k : Nat} {p : Int × Int} (h : JnI z q m k) (hk : k < z.length) (hp : z.getD k (0, 0) = p) (hs : ¬ (getM m p).isSome = true) : JnI z (q.set k ((m.length : Nat) : Int)) (putM m p ((m.length : Nat) : Int)) (k + 1) := by
  have hl : k < q.length := by rw [h.len]; exact hk
  rw [h.map, nmap_get] at hs
  have hm : p ∉ z.take k := fun e => by rw [if_pos e] at hs; exact hs rfl
  have hmd : p ∉ dd (z.take k) := fun e => hm ((dd_mem _ _).1 e)
  refine ⟨by simp [h.len], fun j hj => ?_, ?_⟩
  · rw [getD_setI hl]
    split
    · rename_i e; subst e
      have e1 : dd (z.take (k + 1)) = dd (z.take k) ++ [p] := by rw [take_succ_getD (0, 0) hk, hp, dd_snoc, if_neg hmd]
      have e2 : p ∈ dd (z.take (k + 1)) := by rw [e1]; simp
      rw [hp, mem_dd_take e2, e1, h.map, nmap_len]
      rw [ix_snoc hmd]
    · exact h.val j (by omega)
  · rw [take_succ_getD (0, 0) hk, hp, h.map, nmap_new hm]
theorem JnI.fin {a b q : List Int} {m : List ((Int × Int) × Int)} {k : Nat} (h : JnI (a.zip b) q m k) (hab : a.length = b.length) (hk : k = a.length) : joinL a b = q ∧ joinN a b = ((m.length : Nat) : Int) := by
  have hzl : (a.zip b).length = a.length := by simp [hab]
  constructor
  · rw [joinL, if_pos hab]
    refine list_eq_of (d := 0) (by simp [numL, h.len]) fun i hi => ?_
    have hi' : i < (a.zip b).length := by simpa [numL] using hi
    rw [h.val i (by omega)]
    simp only [numL, List.getD_eq_getElem?_getD, List.getElem?_map, List.getElem?_eq_getElem hi', Option.map_some, Option.getD_some]
  · rw [joinN, if_pos hab, h.map, nmap_len, List.take_of_length_le (by omega)]
end Go.Sx
