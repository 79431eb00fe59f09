/- One of many rows taken in hand, and put back. -/
import Derived.Test.YtoeockpkkmgieaaSx12
namespace Go.Sx
set_option linter.unusedVariables false
set_option linter.unusedSimpArgs false
section
variable {β : Type} {f : β → Chunk} {l : List β} {w w' : World} {L : List Chunk} {G : List (List Chunk)} {p : β} {i : Nat}
theorem erase_perm (hi : i < l.length) : (l[i] :: l.eraseIdx i).Perm l := by
  rw [List.eraseIdx_eq_take_drop_succ]
  have e : l = l.take i ++ l[i] :: l.drop (i + 1) := by rw [← List.drop_eq_getElem_cons hi, List.take_append_drop]
  refine List.perm_middle.symm.trans ?_
  rw [← e]
theorem set_perm (hi : i < l.length) (p : β) : (l.set i p).Perm (p :: l.eraseIdx i) := by
  rw [List.eraseIdx_eq_take_drop_succ, List.set_eq_take_append_cons_drop, if_pos hi]
  exact List.perm_middle
theorem many_out (d : β) (hi : i < l.length) (h : Hp w [manyF f l]) : Upd w [manyF f l] w [manyF f (l.eraseIdx i), f (l.getD i d)] := by
  have e : l.getD i d = l[i] := by simp [List.getD_eq_getElem?_getD, List.getElem?_eq_getElem hi]
  have hperm : (l.map f).Perm ((l.eraseIdx i).map f ++ [f l[i]]) := by
    have h1 := (erase_perm hi).symm.map f
    rw [List.map_cons] at h1
    exact h1.trans (List.perm_append_singleton _ _).symm
  have h1 : Hp w (l.map f ++ []) := hp_many.1 h
  rw [List.append_nil] at h1
  rw [e]
  refine ⟨hp_many.2 (h1.perm hperm), Keep.refl _ _, fun g hg => .inl ?_⟩
  have h2 : g ∈ ats ((l.eraseIdx i).map f ++ [f l[i]]) := by rw [← ats_many]; exact hg
  have h3 : g ∈ ats (l.map f) := (hperm.flatMap_right _).mem_iff.2 h2
  have h4 : ats [manyF f l] = ats (l.map f ++ []) := ats_many _ _
  rw [h4, List.append_nil]; exact h3
theorem many_in (hi : i < l.length) (h : Hp w [manyF f (l.eraseIdx i), f p]) : Upd w [manyF f (l.eraseIdx i), f p] w [manyF f (l.set i p)] := by
  have hperm : ((l.eraseIdx i).map f ++ [f p]).Perm ((l.set i p).map f) := by
    have h1 := (set_perm hi p).map f
    rw [List.map_cons] at h1
    exact (List.perm_append_singleton _ _).trans h1.symm
  have h1 := (hp_many.1 h).perm hperm
  refine ⟨?_, Keep.refl _ _, fun g hg => .inl ?_⟩
  · refine hp_many.2 ?_
    rw [List.append_nil]; exact h1
  · have h4 : ats [manyF f (l.set i p)] = ats ((l.set i p).map f ++ []) := ats_many _ _
    rw [h4, List.append_nil] at hg
    have h5 : g ∈ ats ((l.eraseIdx i).map f ++ [f p]) := (hperm.flatMap_right _).mem_iff.2 hg
    have h6 : ats [manyF f (l.eraseIdx i), f p] = ats ((l.eraseIdx i).map f ++ [f p]) := ats_many _ _
    rw [h6]; exact h5
theorem UpG.takeOut (d : β) (h : UpG w L w' G) (j i : Nat) (hj : G[j]? = some [manyF f l]) (hi : i < l.length) : UpG w L w' (G.set j [manyF f (l.eraseIdx i)] ++ [[f (l.getD i d)]]) :=
  h.onX (B := [manyF f (l.eraseIdx i)]) (C := [f (l.getD i d)]) j hj (many_out d hi (h.hpOf j hj))
theorem UpG.putBack (p : β) (h : UpG w L w' G) (j k i : Nat) (hjk : Nat.beq j k = false) (hj : G[j]? = some [manyF f (l.eraseIdx i)]) (hk : G[k]? = some [f p]) (hi : i < l.length) : UpG w L w' ((G.set j [manyF f (l.set i p)]).set k [] ++ [[]]) :=
  h.on2 (A' := [manyF f (l.set i p)]) (B' := []) (C := []) j k hjk hj hk (many_in hi (h.hp2 j k hjk hj hk))
end
/-- A row within a row: its header, and what it holds. -/
structure LR (α : Type) where
  a : Option Addr
  n : Nat
  c : Nat
  xs : List α
def tyLR {α : Type} : Ty (LR α) := ⟨1, fun p => [.slice p.a p.n p.c], fun _ => rfl, fun d u hu => by simp at hu; subst hu; rfl, by omega⟩
def lr0 {α : Type} : LR α := ⟨none, 0, 0, []⟩
def inLR {α : Type} (T : Ty α) (e : TypeId) : Inn (LR α) α := ⟨T, e, LR.a, LR.c, LR.xs, LR.n⟩
theorem Upd.manyRep {α : Type} (T : Ty α) (e : TypeId) (n : Nat) (w : World) : Upd w [] w [manyF (inLR T e).row (List.replicate n lr0)] := by
  have hats : ats ((List.replicate n lr0).map (inLR T e).row) = [] := by
    induction n with
    | zero => rfl
    | succ n ih => rw [List.replicate_succ, List.map_cons]; simp only [ats, List.flatMap_cons] at ih ⊢; rw [ih]; rfl
  have hh : Hp w ((List.replicate n lr0).map (inLR T e).row) := by
    refine ⟨fun c hc => ?_, by rw [hats]; simp⟩
    obtain ⟨p, hp, rfl⟩ := List.mem_map.1 hc
    have := List.eq_of_mem_replicate hp
    subst this
    exact ⟨by simp [Ty.all, inLR, lr0], .inl ⟨rfl, rfl⟩⟩
  have h2 : ats [manyF (inLR T e).row (List.replicate n lr0)] = [] := by
    have := ats_many ((List.replicate n lr0).map (inLR T e).row) []
    rw [List.append_nil, hats] at this; exact this
  exact ⟨hp_many.2 (by rw [List.append_nil]; exact hh), Keep.refl _ _, fun g hg => by rw [h2] at hg; simp at hg⟩
/-- An inner row turned: the outer one is as it was. -/
theorem rowT_recast {α : Type} {X : List (LR α)} {i : Nat} (hi : i < X.length) (v : Value) (e : TypeId) (ys : List α) :
    rowT tyLR v e (X.set i ⟨(X.getD i lr0).a, (X.getD i lr0).n, (X.getD i lr0).c, ys⟩) = rowT tyLR v e X := by
  have h1 : (tyLR : Ty (LR α)).all (X.set i ⟨(X.getD i lr0).a, (X.getD i lr0).n, (X.getD i lr0).c, ys⟩) = tyLR.all X := by
    have h2 := (tyLR : Ty (LR α)).all_set (X.getD i lr0) X i 0 ⟨(X.getD i lr0).a, (X.getD i lr0).n, (X.getD i lr0).c, ys⟩ (.slice (X.getD i lr0).a (X.getD i lr0).n (X.getD i lr0).c) hi (Nat.zero_lt_one) rfl
    rw [← h2]
    apply List.ext_getElem?
    intro m
    rw [List.getElem?_set]
    split
    · rename_i hm
      subst hm
      have h3 := (tyLR : Ty (LR α)).all_at lr0 X i 0 hi (Nat.zero_lt_one)
      rw [h3]
      split
      · rfl
      · rename_i h4; exact absurd (by rw [Ty.all_length]; show i * 1 + 0 < X.length * 1; omega) h4
    · rfl
  unfold rowT
  rw [h1, List.length_set]
theorem UpG.recast {α : Type} {w w' : World} {L : List Chunk} {G : List (List Chunk)} {X : List (LR α)} {v : Value} {e : TypeId} (ys : List α) (h : UpG w L w' G) (k i : Nat) (hk : G[k]? = some [rowT tyLR v e X]) (hi : i < X.length) :
    UpG w L w' (G.set k [rowT tyLR v e (X.set i ⟨(X.getD i lr0).a, (X.getD i lr0).n, (X.getD i lr0).c, ys⟩)]) := by
  rw [rowT_recast hi]
  have : G.set k [rowT tyLR v e X] = G := by
    apply List.ext_getElem?
    intro m
    rw [List.getElem?_set]
    split
    · rename_i hm; subst hm
      split
      · exact hk.symm
      · rename_i h4; rw [List.getElem?_eq_none (by omega)]
    · rfl
  rw [this]; exact h
end Go.Sx
