/- The shelf's words on rows of whole numbers, in those of chunks. -/
import Derived.Test.YtoeockpkkmgieaaSx10
import Derived.Sort.Row
import Derived.Sort.Grow
namespace Go.Sx
set_option linter.unusedVariables false
set_option linter.unusedSimpArgs false
open Go.Sort
section
variable {w : World} {k : IntKind} {e : TypeId}
theorem all_int (xs : List Int) : (tyI k).all xs = xs.map (Value.int k) := by
  induction xs with
  | nil => rfl
  | cons x xs ih => simp only [Ty.all, tyI, List.flatMap_cons, List.map_cons, List.singleton_append] at *; rw [ih]
theorem holds_own {g n c : Nat} {xs : List Int} (ho : w.ownsRow 0 e (tyI k).sz (.slice (some ⟨g, 0, none⟩) n c) xs.length ((tyI k).all xs)) : Holds (Value.int k) w g 0 xs.toArray ∧ g < w.heap.size := by
  have hrd := own_rd ho
  obtain ⟨h1, h2⟩ := ho
  rcases h2 with ⟨h, _⟩ | ⟨g', cap, cur, hv, h2, h3, h4, h5, h6, h7⟩
  · cases h
  · cases hv
    refine ⟨fun j hj => ?_, lt_of_obj h3⟩
    have hj' : j < xs.length := by simpa using hj
    obtain ⟨A, cap', he, _, _, hr⟩ := hrd
    cases he
    obtain ⟨ad, ha, hc⟩ := hr j (.int k xs[j]) (by rw [all_int]; simp [hj'])
    cases ha
    refine ⟨?_, by simp [World.frozen?, h3]⟩
    rw [add_off] at hc
    simp only [Nat.zero_add] at hc ⊢
    rw [hc]
    simp [hj']
theorem upd_put {g n c q : Nat} {os : Array Obj} {xs ys : List Int} (ho : w.ownsRow 0 e (tyI k).sz (.slice (some ⟨g, 0, none⟩) n c) xs.length ((tyI k).all xs)) (hl : ys.length = xs.length) :
    Upd w [rowT (tyI k) (.slice (some ⟨g, 0, none⟩) n c) e xs] (grow (putRow (Value.int k) (Sort.ahead w q) g 0 ys.toArray) os) [rowT (tyI k) (.slice (some ⟨g, 0, none⟩) n c) e ys] := by
  obtain ⟨h1, h2⟩ := ho
  rcases h2 with ⟨h, _⟩ | ⟨g', cap, cur, hv, h2, h3, h4, h5, h6, h7⟩
  · cases h
  · cases hv
    have hlt := lt_of_obj h3
    have hg : (grow (putRow (Value.int k) (Sort.ahead w q) g 0 ys.toArray) os).heap[g]? = some (.cells (putCells (Value.int k) 0 ys.toArray cur) e (0, 0)) := by
      simp only [grow, putRow, mapBlock, Sort.ahead]
      rw [Array.getElem?_append_left (by simpa using hlt), Array.getElem?_modify, if_pos rfl, h3]
      rfl
    have hsz : xs.length ≤ cur.size := by rw [h6]; simp only [tyI, Nat.mul_one]; exact h4
    refine ⟨⟨fun c' hc => ?_, by simp [ats, rowT, row, Value.ownBlock]⟩, ⟨rfl, rfl, rfl, by simp [grow, putRow, mapBlock, Sort.ahead], fun i hi hs => ?_⟩, fun g' hg' => .inl (by simpa [ats, rowT, row, Value.ownBlock] using hg')⟩
    · simp only [List.mem_singleton] at hc; subst hc
      show World.ownsRow _ 0 e (tyI k).sz _ ys.length ((tyI k).all ys)
      refine ⟨(tyI k).all_length ys, .inr ⟨g, c, putCells (Value.int k) 0 ys.toArray cur, by rw [hl], Nat.zero_le _, hg, by omega, h5, by simp [putCells, h6], ?_⟩⟩
      rw [all_int]
      simp only [tyI, Nat.mul_one]
      apply List.ext_getElem?
      intro j
      simp only [List.getElem?_take, putCells, Array.getElem?_toList, Array.getElem?_mapIdx, List.getElem?_map]
      by_cases hj : j < ys.length
      · have hj2 : j < cur.size := by omega
        simp [hj, hj2]
      · simp [hj, List.getElem?_eq_none (by omega : ys.length ≤ j)]
    · have hne : g ≠ i := by intro e'; subst e'; simp [ats, rowT, row, Value.ownBlock] at hs
      simp only [grow, putRow, mapBlock, Sort.ahead]
      rw [Array.getElem?_append_left (by simpa using hi), Array.getElem?_modify, if_neg hne]
theorem upd_take {α : Type} {T : Ty α} {L : List Chunk} {w' : World} {g n c j : Nat} {ys zs : List α} (h : Upd w L w' [rowT T (.slice (some ⟨g, 0, none⟩) n c) e ys]) (hj : j ≤ ys.length) (hz : ys.take j = zs) : Upd w L w' [rowT T (.slice (some ⟨g, 0, none⟩) zs.length c) e zs] := by
  subst hz
  have hlen : (ys.take j).length = j := by simp; omega
  have ho := row_own (h.hp.holds _ (List.mem_singleton.2 rfl))
  refine ⟨⟨fun c' hc => ?_, by simp [ats, rowT, row, Value.ownBlock]⟩, h.keep, fun g' hg => h.fresh g' (by simpa [ats, rowT, row, Value.ownBlock] using hg)⟩
  simp only [List.mem_singleton] at hc; subst hc
  show World.ownsRow _ 0 e T.sz _ (ys.take j).length (T.all (ys.take j))
  rcases ho.2 with ⟨h1, _⟩ | ⟨g', cap, cur, hv, h2, h3, h4, h5, h6, h7⟩
  · cases h1
  · cases hv
    refine ⟨T.all_length _, .inr ⟨g, c, cur, rfl, Nat.zero_le _, h3, by omega, h5, h6, ?_⟩⟩
    have e3 : T.all ys = T.all (ys.take j) ++ T.all (ys.drop j) := by rw [← T.all_append, List.take_append_drop]
    have e4 : (T.all (ys.take j)).length = (ys.take j).length * T.sz := T.all_length _
    have e5 : cur.toList.take ((ys.take j).length * T.sz) = (cur.toList.take (ys.length * T.sz)).take ((ys.take j).length * T.sz) := by rw [List.take_take, Nat.min_eq_left (Nat.mul_le_mul_right _ (by omega))]
    rw [e5, h7, e3, ← e4, List.take_left]
end
end Go.Sx
