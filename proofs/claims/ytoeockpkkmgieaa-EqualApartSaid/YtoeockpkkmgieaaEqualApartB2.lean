/- Structs stored into rows of one's own; rows cleared from a place on. -/
import Derived.Test.YtoeockpkkmgieaaEqualApartB1
import Derived.Lib.SliceRun
import Derived.Sort.Row
import Derived.Sort.Grow
import Derived.Lib.ConvBytes
import Derived.MapKept
import Derived.WideKeyRuns
import Derived.Carry
import Derived.Laws.StructEq
import Derived.Laws.BytesArg
import Derived.Test.YtoeockpkkmgieaaShelf
namespace Go.Sx
set_option linter.unusedVariables false
set_option linter.unusedSimpArgs false
section
variable {P : Program} {Γ : Env} {w : World} {ty : TypeId} {K : Value → World → Prop} {α : Type} {T : Ty α}
theorem all_split (xs : List α) (j : Nat) (x' : α) (hj : j < xs.length) : T.all (xs.set j x') = (T.all xs).take (j * T.sz) ++ T.enc x' ++ (T.all xs).drop (j * T.sz + T.sz) := by
  have e1 : xs.set j x' = xs.take j ++ [x'] ++ xs.drop (j + 1) := by rw [List.set_eq_take_append_cons_drop, if_pos hj]; simp
  have e2 : T.all (xs.take j) = (T.all xs).take (j * T.sz) := by
    have e3 : T.all xs = T.all (xs.take j) ++ T.all (xs.drop j) := by rw [← T.all_append, List.take_append_drop]
    have e4 : (T.all (xs.take j)).length = j * T.sz := by rw [T.all_length, List.length_take, Nat.min_eq_left (by omega)]
    rw [e3, ← e4, List.take_left]
  have e5 : T.all (xs.drop (j + 1)) = (T.all xs).drop (j * T.sz + T.sz) := by
    have e3 : T.all xs = T.all (xs.take (j + 1)) ++ T.all (xs.drop (j + 1)) := by rw [← T.all_append, List.take_append_drop]
    have e4 : (T.all (xs.take (j + 1))).length = j * T.sz + T.sz := by rw [T.all_length]; simp only [List.length_take]; rw [Nat.min_eq_left (by omega), Nat.add_mul, Nat.one_mul]
    rw [e3, ← e4, List.drop_left]
  rw [e1, T.all_append, T.all_append, e2, e5]; simp [Ty.all]
/-- Cells stored into a row of one's own. -/
theorem own_setN {v : Value} {e : TypeId} {xs ys : List α} {us : List Value} {o : Nat} (ho : w.ownsRow 0 e T.sz v xs.length (T.all xs)) (h1 : us.all (·.oneCell') = true) (hlt : o + us.length ≤ xs.length * T.sz) (hpos : 0 < us.length)
    (hl : ys.length = xs.length) (hys : T.all ys = (T.all xs).take o ++ us ++ (T.all xs).drop (o + us.length)) :
    ∃ g cs cap, v = .slice (some ⟨g, 0, none⟩) xs.length cap ∧ w.heap[g]? = some (.cells cs e (0, 0)) ∧ o + us.length ≤ cs.size ∧
      Upd w [rowT T v e xs] (w.setRow g (cs.toList.take o ++ us ++ cs.toList.drop (o + us.length)).toArray) [rowT T v e ys] := by
  obtain ⟨k1, k2⟩ := ho
  rcases k2 with ⟨rfl, h0⟩ | ⟨g, cap, cur, rfl, _, h3, h4, h5, h6, h7⟩
  · rw [h0, Nat.zero_mul] at hlt; omega
  · have hsz : xs.length * T.sz ≤ cur.size := by rw [h6]; exact Nat.mul_le_mul_right _ h4
    have hos : o + us.length ≤ cur.size := Nat.le_trans hlt hsz
    refine ⟨g, cur, cap, rfl, h3, hos, ?_⟩
    have hu := Upd.setRow (cs' := (cur.toList.take o ++ us ++ cur.toList.drop (o + us.length)).toArray) h3
    have hbk := hu.hp.blk (g := g) (cs := (cur.toList.take o ++ us ++ cur.toList.drop (o + us.length)).toArray) (e := e) (by simp)
    refine ⟨⟨fun c hc => ?_, by simp [ats, rowT, row, Value.ownBlock]⟩, ?_, fun g' hg => .inl ?_⟩
    · simp only [List.mem_singleton] at hc; subst hc
      show World.ownsRow _ 0 e T.sz _ ys.length (T.all ys)
      rw [hl]
      refine ⟨by rw [T.all_length, hl], .inr ⟨g, cap, _, rfl, Nat.zero_le _, hbk, h4, h5, ?_, ?_⟩⟩
      · simp [← h6]; omega
      · rw [hys, ← h7]
        have a1 : (cur.toList.take (xs.length * T.sz)).take o = cur.toList.take o := by rw [List.take_take, Nat.min_eq_left (by omega)]
        have l1 : (cur.toList.take o).length = o := by simp; omega
        have a2 : (cur.toList.take (xs.length * T.sz)).drop (o + us.length) = (cur.toList.drop (o + us.length)).take (xs.length * T.sz - (o + us.length)) := by rw [List.drop_take]
        rw [a1, a2]
        simp only [List.toList_toArray]
        have l2 : (cur.toList.take o ++ us).length = o + us.length := by rw [List.length_append, l1]
        rw [List.take_append, List.take_of_length_le (by rw [l2]; exact hlt), l2]
    · have := hu.keep; simpa [ats, rowT, row, blk, Value.ownBlock] using this
    · simpa [ats, rowT, row, Value.ownBlock] using hg
theorem elemAt (g n cap k : Nat) : elemPtr (.slice (some ⟨g, 0, none⟩) n cap) k = .pointer (some ⟨g, k, none⟩) := by simp [elemPtr, add_off]
/-- A whole element stored into a row of one's own. -/
theorem t_storeN {t e : TypeId} {x y : Operand} {v : Value} {s b : Nat} {z : Option Value} {xs : List α} {us : List Value} (j : Nat) (x' : α) (hT : T.sz = s) (hs : szOf P t = some (s, b, z)) (hx : ev Γ x = some (elemPtr v (j * s))) (hy : ev Γ y = some (.agg us.toArray))
    (he : T.enc x' = us) (ho : w.ownsRow 0 e T.sz v xs.length (T.all xs)) (hj : j < xs.length) (k : ∀ w', Upd w [rowT T v e xs] w' [rowT T v e (xs.set j x')] → K undef w') : Does P Γ w (.store t x y) ty K := by
  subst hT he
  have hul : (T.enc x').length = T.sz := T.len x'
  have hone : (T.enc x').all (·.oneCell') = true := by rw [List.all_eq_true]; exact fun u hu => T.one x' u hu
  obtain ⟨g, cs, cap, rfl, hb, hle, hu⟩ := own_setN (ys := xs.set j x') (us := T.enc x') (o := j * T.sz) ho hone (by rw [hul, ← Nat.succ_mul]; exact Nat.mul_le_mul_right _ hj) (by rw [hul]; exact T.pos) (by simp) (by rw [hul]; exact all_split xs j x' hj)
  rw [elemAt] at hx
  refine Does.of_skip (w' := w.setRow g (cs.toList.take (j * T.sz) ++ T.enc x' ++ cs.toList.drop (j * T.sz + (T.enc x').length)).toArray) (fun ρ hρ => ?_) (k _ hu)
  simp only [ex, execOp, hρ x _ hx, hρ y _ hy, Instr.storeAt, Instr.sureAddr, storeVar, Value.cells]
  have := run_storeCells_at P g (j * T.sz) e (T.enc x') 0 cs w hb (by simpa using hle) (by simpa using hone)
  simp only [Nat.add_zero] at this
  simp [run_sz hs, hul, this]
/-- 's[i:]' of whatever, by its value alone. -/
theorem t_suffix {t e : TypeId} {x lo : Operand} {kd : IntKind} {a : Option Addr} {n c sz b : Nat} {z : Option Value} {l : Int} (i : Nat) (ht : P.underlying t = some (.slice e)) (hs : szOf P e = some (sz, b, z)) (hx : ev Γ x = some (.slice a n c)) (hl : ev Γ lo = some (.int kd l))
    (hij : l = ((i : Nat) : Int)) (hin : i ≤ n) (hc : n ≤ c) (k : K (subSlice (.slice a n c) sz i n) w) : Does P Γ w (.slice t x (some lo) none none) ty K := by
  subst hij
  refine d_slice (i : Int) (n : Int) ht hs hx (by simp [evO, hl]) rfl (.inr ⟨kd, rfl⟩) (.inl ⟨rfl, rfl⟩) ⟨by omega, by omega, by omega⟩ ?_
  simpa using k
theorem run_clear {t e cty : TypeId} {zv : Value} {g o n c : Nat} {cs : Array Value} {e' : TypeId} (ht : P.underlying t = some (.slice e)) (hz : ∀ w, (zeroValue e).run P w = .ok zv w) (hn : 0 < n) (hb : w.heap[g]? = some (.cells cs e' (0, 0)))
    (hle : o + (Builtin.zeroCells zv.cells n).toList.length ≤ cs.size) (h1 : (Builtin.zeroCells zv.cells n).toList.all (·.oneCell') = true) :
    (Builtin.clear_ #[t] cty #[.slice (some ⟨g, o, none⟩) n c]).run P w = .ok (.tuple #[]) (w.setRow g (cs.toList.take o ++ (Builtin.zeroCells zv.cells n).toList ++ cs.toList.drop (o + (Builtin.zeroCells zv.cells n).toList.length)).toArray) := by
  have := run_storeCells_at P g o e' (Builtin.zeroCells zv.cells n).toList 0 cs w hb (by rw [Nat.add_zero]; exact hle) (fun u hu => List.all_eq_true.1 h1 u hu)
  simp only [Nat.add_zero] at this
  obtain ⟨m, rfl⟩ : ∃ m, n = m + 1 := ⟨n - 1, by omega⟩
  simp [Builtin.clear_, run_underlying ht, hz, this]
theorem zeroCells_all {z : Value} {d : α} (hz : z.cells.toList = T.enc d) (n : Nat) : (Builtin.zeroCells z.cells n).toList = T.all (List.replicate n d) := by
  have hs : z.cells.size = T.sz := by rw [← Array.length_toList, hz, T.len]
  have e : Builtin.zeroCells z.cells n = madeCells z.cells (n * T.sz) := by unfold Builtin.zeroCells madeCells; rw [hs]
  rw [e]; exact madeCells_all hz n
/-- 'clear(s[i:])', s a row of one's own. -/
theorem t_clear {t e : TypeId} {x : Operand} {a : Option Addr} {c sz b : Nat} {z : Value} {xs : List α} (i : Nat) (d : α) (hT : T.sz = sz) (ht : P.underlying t = some (.slice e)) (hs : szOf P e = some (sz, b, some z)) (hz : z.cells.toList = T.enc d)
    (hx : ev Γ x = some (subSlice (.slice a xs.length c) sz i xs.length)) (ho : w.ownsRow 0 e T.sz (.slice a xs.length c) xs.length (T.all xs)) (hi : i ≤ xs.length)
    (k : ∀ w', Upd w [rowT T (.slice a xs.length c) e xs] w' [rowT T (.slice a xs.length c) e (xs.take i ++ List.replicate (xs.length - i) d)] → K (.tuple #[]) w') : Does P Γ w (.call { callee := .builtin .clear, args := #[x], argTypes := #[t] }) ty K := by
  subst hT
  have hl : (xs.take i ++ List.replicate (xs.length - i) d).length = xs.length := by simp; omega
  rcases Nat.eq_or_lt_of_le hi with he | hlt
  · have e1 : xs.take i ++ List.replicate (xs.length - i) d = xs := by rw [he]; simp
    rw [e1] at k
    refine Does.of_run (fun ρ hρ => ?_) (k w (Upd.refl (hp_one (own_row ho))))
    simp only [ex, execOp, resolve, invoke, builtin, Sem.run_bind, Sem.run_pure, Result.andThen_ok, List.map_toArray, List.map_cons, List.map_nil, hρ x _ hx]
    have : (Builtin.clear_ #[t] ty #[subSlice (.slice a xs.length c) T.sz i xs.length]).run P w = .ok (.tuple #[]) w := by
      simp only [subSlice, he, Nat.sub_self]
      cases (if c = xs.length then a else a.map (·.add (xs.length * T.sz))) <;> simp [Builtin.clear_, run_underlying ht]
    simp [this]
  · have hc : xs.length ≤ c := by
      rcases ho.2 with ⟨h1, h2⟩ | ⟨g, cap, cur, h1, _, _, h2, _⟩
      · omega
      · injection h1 with _ _ h1; omega
    have hzl := zeroCells_all (T := T) hz (xs.length - i)
    have hzn : (Builtin.zeroCells z.cells (xs.length - i)).toList.length = (xs.length - i) * T.sz := by rw [hzl, T.all_length]; simp
    have hone : (Builtin.zeroCells z.cells (xs.length - i)).toList.all (·.oneCell') = true := by rw [hzl, List.all_eq_true]; exact fun u hu => T.all_one _ u hu
    have hmul : i * T.sz + (xs.length - i) * T.sz = xs.length * T.sz := by rw [← Nat.add_mul]; congr 1; omega
    obtain ⟨g, cs, cap, hv, hb, hle, hu⟩ := own_setN (ys := xs.take i ++ List.replicate (xs.length - i) d) (us := (Builtin.zeroCells z.cells (xs.length - i)).toList) (o := i * T.sz) ho hone (by rw [hzn, hmul]; exact Nat.le_refl _) (by rw [hzn]; exact Nat.mul_pos (by omega) T.pos) hl (by
      rw [T.all_append, ← hzl, hzn, hmul]
      have e3 : T.all xs = T.all (xs.take i) ++ T.all (xs.drop i) := by rw [← T.all_append, List.take_append_drop]
      have e4 : (T.all (xs.take i)).length = i * T.sz := by rw [T.all_length, List.length_take, Nat.min_eq_left hi]
      have e5 : (T.all xs).drop (xs.length * T.sz) = [] := List.drop_of_length_le (by rw [T.all_length]; exact Nat.le_refl _)
      rw [e5, e3, ← e4, List.take_left]; simp)
    injection hv with ha _ _
    subst ha
    have e6 : subSlice (.slice (some ⟨g, 0, none⟩) xs.length c) T.sz i xs.length = .slice (some ⟨g, i * T.sz, none⟩) (xs.length - i) (c - i) := by
      simp only [subSlice]; rw [if_neg (by omega)]; simp [Addr.add]; exact fun h => h.symm
    rw [e6] at hx
    have hk := k _ (by rw [hl] at *; exact hu)
    refine Does.of_run (fun ρ hρ => ?_) hk
    simp only [ex, execOp, resolve, invoke, builtin, Sem.run_bind, Sem.run_pure, Result.andThen_ok, List.map_toArray, List.map_cons, List.map_nil, hρ x _ hx]
    rw [run_clear ht (fun w => run_zero hs) (by omega) hb hle hone]
    rfl
theorem own_cap {a : Option Addr} {n c sz : Nat} {e : TypeId} {vs : List Value} (h : w.ownsRow 0 e sz (.slice a n c) n vs) : n ≤ c := by
  rcases h.2 with ⟨h1, h2⟩ | ⟨g, cap, cur, h1, _, _, h2, _⟩
  · omega
  · injection h1 with _ _ h1; omega
/-- A function value that tells yes or no of an element, whatever the memory. -/
def ClosU (T : Ty α) (P : Program) (f : FuncId) (fc : List Value) (p : α → Bool) : Prop :=
  ∀ w x, Calls P f (#[.agg (T.enc x).toArray] ++ fc.toArray) w (Ret fun v w' => v = .bool (p x) ∧ Upd w [] w' [])
theorem t_clearN {t e : TypeId} {x : Operand} {a : Option Addr} {n c sz b : Nat} {z : Value} {xs : List α} (i : Nat) (d : α) (hT : T.sz = sz) (ht : P.underlying t = some (.slice e)) (hs : szOf P e = some (sz, b, some z)) (hz : z.cells.toList = T.enc d)
    (hx : ev Γ x = some (subSlice (.slice a n c) sz i n)) (ho : w.ownsRow 0 e T.sz (.slice a n c) xs.length (T.all xs)) (hn : n = xs.length) (hi : i ≤ n)
    (k : ∀ w', Upd w [rowT T (.slice a n c) e xs] w' [rowT T (.slice a n c) e (xs.take i ++ List.replicate (n - i) d)] → K (.tuple #[]) w') : Does P Γ w (.call { callee := .builtin .clear, args := #[x], argTypes := #[t] }) ty K := by
  subst hn; exact t_clear i d hT ht hs hz hx ho hi k
theorem t_popN {t e : TypeId} {x hi : Operand} {kd : IntKind} {a : Option Addr} {n c sz b : Nat} {z : Option Value} {xs : List α} (h : Int) (hn : Nat) (hT : T.sz = sz) (ht : P.underlying t = some (.slice e)) (hs : szOf P e = some (sz, b, z)) (hx : ev Γ x = some (.slice a n c)) (hh : ev Γ hi = some (.int kd h))
    (ho : w.ownsRow 0 e T.sz (.slice a n c) xs.length (T.all xs)) (hnn : n = xs.length) (hij : h = ((hn : Nat) : Int)) (hle : hn ≤ n) (k : ∀ w', Upd w [rowT T (.slice a n c) e xs] w' [rowT T (.slice a (xs.take hn).length c) e (xs.take hn)] → K (.slice a (xs.take hn).length c) w') : Does P Γ w (.slice t x none (some hi) none) ty K := by
  subst hnn; exact t_pop h hn hT ht hs hx hh ho hij hle k
theorem own_capN {a : Option Addr} {n c sz m : Nat} {e : TypeId} {vs : List Value} (h : w.ownsRow 0 e sz (.slice a n c) m vs) : n ≤ c := by
  rcases h.2 with ⟨h1, h2⟩ | ⟨g, cap, cur, h1, _, _, h2, _⟩
  · injection h1 with _ h1 _; omega
  · injection h1 with _ h3 h1; omega
theorem Inn.Rd.filter {σ β : Type} {I : Inn σ β} {ps : List σ} (h : I.Rd w ps) (q : σ → Bool) : I.Rd w (ps.filter q) := fun p hp => h p (List.mem_filter.1 hp).1
end
end Go.Sx

/- The shelf's words on rows of whole numbers, in those of chunks. -/
namespace Go.Sx
set_option linter.unusedVariables false
set_option linter.unusedSimpArgs false
open Go.Sort
section
variable {w : World} {k : IntKind} {e : TypeId}
theorem all_int (xs : List Int) : (tyI k).all xs = xs.map (Value.int k) := by
  induction xs with
  | nil => rfl
  | cons x xs ih => simp only [Ty.all, tyI, List.flatMap_cons, List.map_cons, List.singleton_append] at *; rw [ih]
theorem holds_own {g n c : Nat} {xs : List Int} (ho : w.ownsRow 0 e (tyI k).sz (.slice (some ⟨g, 0, none⟩) n c) xs.length ((tyI k).all xs)) : Holds (Value.int k) w g 0 xs.toArray ∧ g < w.heap.size := by
  have hrd := own_rd ho
  obtain ⟨h1, h2⟩ := ho
  rcases h2 with ⟨h, _⟩ | ⟨g', cap, cur, hv, h2, h3, h4, h5, h6, h7⟩
  · cases h
  · cases hv
    refine ⟨fun j hj => ?_, lt_of_obj h3⟩
    have hj' : j < xs.length := by simpa using hj
    obtain ⟨A, cap', he, _, _, hr⟩ := hrd
    cases he
    obtain ⟨ad, ha, hc⟩ := hr j (.int k xs[j]) (by rw [all_int]; simp [hj'])
    cases ha
    refine ⟨?_, by simp [World.frozen?, h3]⟩
    rw [add_off] at hc
    simp only [Nat.zero_add] at hc ⊢
    rw [hc]
    simp [hj']
theorem upd_put {g n c q : Nat} {os : Array Obj} {xs ys : List Int} (ho : w.ownsRow 0 e (tyI k).sz (.slice (some ⟨g, 0, none⟩) n c) xs.length ((tyI k).all xs)) (hl : ys.length = xs.length) :
    Upd w [rowT (tyI k) (.slice (some ⟨g, 0, none⟩) n c) e xs] (grow (putRow (Value.int k) (Sort.ahead w q) g 0 ys.toArray) os) [rowT (tyI k) (.slice (some ⟨g, 0, none⟩) n c) e ys] := by
  obtain ⟨h1, h2⟩ := ho
  rcases h2 with ⟨h, _⟩ | ⟨g', cap, cur, hv, h2, h3, h4, h5, h6, h7⟩
  · cases h
  · cases hv
    have hlt := lt_of_obj h3
    have hg : (grow (putRow (Value.int k) (Sort.ahead w q) g 0 ys.toArray) os).heap[g]? = some (.cells (putCells (Value.int k) 0 ys.toArray cur) e (0, 0)) := by
      simp only [grow, putRow, mapBlock, Sort.ahead]
      rw [Array.getElem?_append_left (by simpa using hlt), Array.getElem?_modify, if_pos rfl, h3]
      rfl
    have hsz : xs.length ≤ cur.size := by rw [h6]; simp only [tyI, Nat.mul_one]; exact h4
    refine ⟨⟨fun c' hc => ?_, by simp [ats, rowT, row, Value.ownBlock]⟩, ⟨rfl, rfl, rfl, by simp [grow, putRow, mapBlock, Sort.ahead], fun i hi hs => ?_⟩, fun g' hg' => .inl (by simpa [ats, rowT, row, Value.ownBlock] using hg')⟩
    · simp only [List.mem_singleton] at hc; subst hc
      show World.ownsRow _ 0 e (tyI k).sz _ ys.length ((tyI k).all ys)
      refine ⟨(tyI k).all_length ys, .inr ⟨g, c, putCells (Value.int k) 0 ys.toArray cur, by rw [hl], Nat.zero_le _, hg, by omega, h5, by simp [putCells, h6], ?_⟩⟩
      rw [all_int]
      simp only [tyI, Nat.mul_one]
      apply List.ext_getElem?
      intro j
      simp only [List.getElem?_take, putCells, Array.getElem?_toList, Array.getElem?_mapIdx, List.getElem?_map]
      by_cases hj : j < ys.length
      · have hj2 : j < cur.size := by omega
        simp [hj, hj2]
      · simp [hj, List.getElem?_eq_none (by omega : ys.length ≤ j)]
    · have hne : g ≠ i := by intro e'; subst e'; simp [ats, rowT, row, Value.ownBlock] at hs
      simp only [grow, putRow, mapBlock, Sort.ahead]
      rw [Array.getElem?_append_left (by simpa using hi), Array.getElem?_modify, if_neg hne]
theorem upd_take {α : Type} {T : Ty α} {L : List Chunk} {w' : World} {g n c j : Nat} {ys zs : List α} (h : Upd w L w' [rowT T (.slice (some ⟨g, 0, none⟩) n c) e ys]) (hj : j ≤ ys.length) (hz : ys.take j = zs) : Upd w L w' [rowT T (.slice (some ⟨g, 0, none⟩) zs.length c) e zs] := by
  subst hz
  have hlen : (ys.take j).length = j := by simp; omega
  have ho := row_own (h.hp.holds _ (List.mem_singleton.2 rfl))
  refine ⟨⟨fun c' hc => ?_, by simp [ats, rowT, row, Value.ownBlock]⟩, h.keep, fun g' hg => h.fresh g' (by simpa [ats, rowT, row, Value.ownBlock] using hg)⟩
  simp only [List.mem_singleton] at hc; subst hc
  show World.ownsRow _ 0 e T.sz _ (ys.take j).length (T.all (ys.take j))
  rcases ho.2 with ⟨h1, _⟩ | ⟨g', cap, cur, hv, h2, h3, h4, h5, h6, h7⟩
  · cases h1
  · cases hv
    refine ⟨T.all_length _, .inr ⟨g, c, cur, rfl, Nat.zero_le _, h3, by omega, h5, h6, ?_⟩⟩
    have e3 : T.all ys = T.all (ys.take j) ++ T.all (ys.drop j) := by rw [← T.all_append, List.take_append_drop]
    have e4 : (T.all (ys.take j)).length = (ys.take j).length * T.sz := T.all_length _
    have e5 : cur.toList.take ((ys.take j).length * T.sz) = (cur.toList.take (ys.length * T.sz)).take ((ys.take j).length * T.sz) := by rw [List.take_take, Nat.min_eq_left (Nat.mul_le_mul_right _ (by omega))]
    rw [e5, h7, e3, ← e4, List.take_left]
end
end Go.Sx

/- Rows that are read alone, owned; strings as bytes. -/
namespace Go.Sx
set_option linter.unusedVariables false
set_option linter.unusedSimpArgs false
section
variable {α : Type} {T : Ty α} {w w' : World} {L : List Chunk} {G : List (List Chunk)} {v : Value} {xs : List α}
theorem rd_local (h : ∀ g, g ∈ (Value.blk? v).toList → w'.heap[g]? = w.heap[g]?) (k : RdT T w v xs) : RdT T w' v xs := by
  obtain ⟨A, cap, rfl, h1, h2, h3⟩ := k
  refine ⟨A, cap, rfl, h1, h2, fun j u hj => ?_⟩
  obtain ⟨ad, rfl, hc⟩ := h3 j u hj
  refine ⟨ad, rfl, ?_⟩
  rw [← hc]
  exact World.cell?_of_block (w := w) (h _ (by rw [add_block]; simp [Value.blk?]))
/-- A slice that is one's own to read. -/
def rdC (T : Ty α) (v : Value) (xs : List α) : Chunk :=
  ⟨(Value.blk? v).toList, fun w => RdT T w v xs ∧ ∀ g, g ∈ (Value.blk? v).toList → g < w.heap.size,
    fun w w' h k => ⟨rd_local h k.1, fun g hg => by
      have h1 := k.2 g hg
      have h2 := h g hg
      rw [Array.getElem?_eq_getElem h1] at h2
      exact (Array.getElem?_eq_some_iff.1 h2).1⟩,
    fun w g hg k => k.2 g hg, fun _ _ => by cases Value.blk? v <;> simp⟩
theorem UpG.rdC (h : UpG w L w' G) (i : Nat) (hi : G[i]? = some [rdC T v xs]) : RdT T w' v xs := ((h.hpOf i hi).holds (Sx.rdC T v xs) (by simp) : (Sx.rdC T v xs).P w').1
theorem UpG.keep_step {w'' : World} {A : List Chunk} (h : UpG w [] w' G) (i : Nat) (hi : G[i]? = some A) (k : Keep (ats A) w' w'') : Keep [] w w'' :=
  h.keep0.step k fun g hg => .inr ((Upd.fresh h g ((mem_ats.2 (by
    obtain ⟨c, hc, hg'⟩ := mem_ats.1 hg
    exact ⟨c, List.mem_flatten.2 ⟨A, List.mem_of_getElem? hi, hc⟩, hg'⟩)))).resolve_left (by simp [ats]))
theorem UpG.blk_keep {w'' : World} {A : List Chunk} {g : Nat} {cs : Array Value} {e : TypeId} (h : UpG w L w' G) (i j : Nat) (hij : Nat.beq i j = false) (hi : G[i]? = some A) (hj : G[j]? = some [Sx.blk g cs e]) (k : Keep (ats A) w' w'') : w''.heap[g]? = some (.cells cs e (0, 0)) :=
  k.obj (h.blk j hj) fun hm => (h.hp2 i j hij hi hj).apart hm (by simp [ats, Sx.blk])
theorem UpG.rdT_keep {w'' : World} {A : List Chunk} {e : TypeId} (h : UpG w L w' G) (i j : Nat) (hij : Nat.beq i j = false) (hi : G[i]? = some A) (hj : G[j]? = some [rowT T v e xs]) (k : Keep (ats A) w' w'') : RdT T w'' v xs := by
  refine (h.rdT j hj).keep k fun g hg hm => (h.hp2 i j hij hi hj).apart hm ?_
  obtain ⟨A', cap, rfl, _⟩ := h.rdT j hj
  cases A' with
  | none => simp [Value.blk?] at hg
  | some ad => simp [Value.blk?] at hg; simp [ats, rowT, row, Value.ownBlock, hg]
end
section
variable {P : Program} {Γ : Env} {w : World} {ty : TypeId} {K : Value → World → Prop}
def bytesL (s : ByteArray) : List Int := (List.range s.size).map (bt s)
theorem bytesL_len (s : ByteArray) : (bytesL s).length = s.size := by simp [bytesL]
theorem bytesL_get (s : ByteArray) (j : Nat) (h : j < s.size) : (bytesL s).getD j 0 = bt s j := by simp [bytesL, List.getD_eq_getElem?_getD, h]
theorem d_strBytes {src dst e : TypeId} {u : TypeDesc} {x : Operand} {s : ByteArray} (hs : P.underlying src = some u) (hd : P.underlying dst = some (.slice e)) (he : P.underlying e = some (.int .u8)) (hx : ev Γ x = some (.string s)) (hsz : s.size ≤ 9223372036854775807)
    (k : ∀ c w', Upd w [] w' [rdC (tyI .u8) (.slice (some ⟨w.heap.size, 0, none⟩) (bytesL s).length c) (bytesL s)] → K (.slice (some ⟨w.heap.size, 0, none⟩) (bytesL s).length c) w') : Does P Γ w (.convert src dst x) ty K := by
  have hrun := Lib.run_convert_string_bytes (P := P) w src dst e s hs hd he
  have key := k (grownCap w s.size 0 e) (Lib.bytesWorld w e s)
  rw [bytesL_len] at key
  refine Does.of_run (w' := Lib.bytesWorld w e s) (fun ρ hρ => ?_) (key ⟨⟨fun c hc => ?_, ?_⟩, ⟨rfl, rfl, rfl, ?_, fun j hj _ => Lib.bytesWorld_at_old w e s j hj⟩, fun g hg => .inr ?_⟩)
  · simp only [ex, execOp, hρ x _ hx]; simp [hrun]
  · simp only [List.mem_singleton] at hc; subst hc
    refine ⟨⟨_, _, by rw [bytesL_len], by rw [all_int]; simp [tyI], by rw [bytesL_len]; exact hsz, fun j u hj => ⟨_, rfl, ?_⟩⟩, fun g hg => ?_⟩
    · rw [all_int] at hj
      have hj' : j < s.size := by have := (List.getElem?_eq_some_iff.1 hj).1; simpa [bytesL_len] using this
      have h1 := Lib.bytesWorld_cell w e s j hj'
      rw [add_off]
      simp only [Nat.zero_add]
      rw [h1]
      simp [bytesL, hj'] at hj
      rw [← hj]
      simp [bt, hj']
    · simp [Value.blk?] at hg; subst hg; rw [Lib.bytesWorld_size]; omega
  · simp [ats, rdC, Value.blk?]
  · rw [Lib.bytesWorld_size]; omega
  · simp [ats, rdC, Value.blk?] at hg; omega
end
end Go.Sx

/- One of many rows taken in hand, and put back. -/
namespace Go.Sx
set_option linter.unusedVariables false
set_option linter.unusedSimpArgs false
section
variable {β : Type} {f : β → Chunk} {l : List β} {w w' : World} {L : List Chunk} {G : List (List Chunk)} {p : β} {i : Nat}
theorem erase_perm (hi : i < l.length) : (l[i] :: l.eraseIdx i).Perm l := by
  rw [List.eraseIdx_eq_take_drop_succ]
  have e : l = l.take i ++ l[i] :: l.drop (i + 1) := by rw [← List.drop_eq_getElem_cons hi, List.take_append_drop]
  refine List.perm_middle.symm.trans ?_
  rw [← e]
theorem set_perm (hi : i < l.length) (p : β) : (l.set i p).Perm (p :: l.eraseIdx i) := by
  rw [List.eraseIdx_eq_take_drop_succ, List.set_eq_take_append_cons_drop, if_pos hi]
  exact List.perm_middle
theorem many_out (d : β) (hi : i < l.length) (h : Hp w [manyF f l]) : Upd w [manyF f l] w [manyF f (l.eraseIdx i), f (l.getD i d)] := by
  have e : l.getD i d = l[i] := by simp [List.getD_eq_getElem?_getD, List.getElem?_eq_getElem hi]
  have hperm : (l.map f).Perm ((l.eraseIdx i).map f ++ [f l[i]]) := by
    have h1 := (erase_perm hi).symm.map f
    rw [List.map_cons] at h1
    exact h1.trans (List.perm_append_singleton _ _).symm
  have h1 : Hp w (l.map f ++ []) := hp_many.1 h
  rw [List.append_nil] at h1
  rw [e]
  refine ⟨hp_many.2 (h1.perm hperm), Keep.refl _ _, fun g hg => .inl ?_⟩
  have h2 : g ∈ ats ((l.eraseIdx i).map f ++ [f l[i]]) := by rw [← ats_many]; exact hg
  have h3 : g ∈ ats (l.map f) := (hperm.flatMap_right _).mem_iff.2 h2
  have h4 : ats [manyF f l] = ats (l.map f ++ []) := ats_many _ _
  rw [h4, List.append_nil]; exact h3
theorem many_in (hi : i < l.length) (h : Hp w [manyF f (l.eraseIdx i), f p]) : Upd w [manyF f (l.eraseIdx i), f p] w [manyF f (l.set i p)] := by
  have hperm : ((l.eraseIdx i).map f ++ [f p]).Perm ((l.set i p).map f) := by
    have h1 := (set_perm hi p).map f
    rw [List.map_cons] at h1
    exact (List.perm_append_singleton _ _).trans h1.symm
  have h1 := (hp_many.1 h).perm hperm
  refine ⟨?_, Keep.refl _ _, fun g hg => .inl ?_⟩
  · refine hp_many.2 ?_
    rw [List.append_nil]; exact h1
  · have h4 : ats [manyF f (l.set i p)] = ats ((l.set i p).map f ++ []) := ats_many _ _
    rw [h4, List.append_nil] at hg
    have h5 : g ∈ ats ((l.eraseIdx i).map f ++ [f p]) := (hperm.flatMap_right _).mem_iff.2 hg
    have h6 : ats [manyF f (l.eraseIdx i), f p] = ats ((l.eraseIdx i).map f ++ [f p]) := ats_many _ _
    rw [h6]; exact h5
theorem UpG.takeOut (d : β) (h : UpG w L w' G) (j i : Nat) (hj : G[j]? = some [manyF f l]) (hi : i < l.length) : UpG w L w' (G.set j [manyF f (l.eraseIdx i)] ++ [[f (l.getD i d)]]) :=
  h.onX (B := [manyF f (l.eraseIdx i)]) (C := [f (l.getD i d)]) j hj (many_out d hi (h.hpOf j hj))
theorem UpG.putBack (p : β) (h : UpG w L w' G) (j k i : Nat) (hjk : Nat.beq j k = false) (hj : G[j]? = some [manyF f (l.eraseIdx i)]) (hk : G[k]? = some [f p]) (hi : i < l.length) : UpG w L w' ((G.set j [manyF f (l.set i p)]).set k [] ++ [[]]) :=
  h.on2 (A' := [manyF f (l.set i p)]) (B' := []) (C := []) j k hjk hj hk (many_in hi (h.hp2 j k hjk hj hk))
end
/-- A row within a row: its header, and what it holds. -/
structure LR (α : Type) where
  a : Option Addr
  n : Nat
  c : Nat
  xs : List α
def tyLR {α : Type} : Ty (LR α) := ⟨1, fun p => [.slice p.a p.n p.c], fun _ => rfl, fun d u hu => by simp at hu; subst hu; rfl, by omega⟩
def lr0 {α : Type} : LR α := ⟨none, 0, 0, []⟩
def inLR {α : Type} (T : Ty α) (e : TypeId) : Inn (LR α) α := ⟨T, e, LR.a, LR.c, LR.xs, LR.n⟩
theorem Upd.manyRep {α : Type} (T : Ty α) (e : TypeId) (n : Nat) (w : World) : Upd w [] w [manyF (inLR T e).row (List.replicate n lr0)] := by
  have hats : ats ((List.replicate n lr0).map (inLR T e).row) = [] := by
    induction n with
    | zero => rfl
    | succ n ih => rw [List.replicate_succ, List.map_cons]; simp only [ats, List.flatMap_cons] at ih ⊢; rw [ih]; rfl
  have hh : Hp w ((List.replicate n lr0).map (inLR T e).row) := by
    refine ⟨fun c hc => ?_, by rw [hats]; simp⟩
    obtain ⟨p, hp, rfl⟩ := List.mem_map.1 hc
    have := List.eq_of_mem_replicate hp
    subst this
    exact ⟨by simp [Ty.all, inLR, lr0], .inl ⟨rfl, rfl⟩⟩
  have h2 : ats [manyF (inLR T e).row (List.replicate n lr0)] = [] := by
    have := ats_many ((List.replicate n lr0).map (inLR T e).row) []
    rw [List.append_nil, hats] at this; exact this
  exact ⟨hp_many.2 (by rw [List.append_nil]; exact hh), Keep.refl _ _, fun g hg => by rw [h2] at hg; simp at hg⟩
/-- An inner row turned: the outer one is as it was. -/
theorem rowT_recast {α : Type} {X : List (LR α)} {i : Nat} (hi : i < X.length) (v : Value) (e : TypeId) (ys : List α) :
    rowT tyLR v e (X.set i ⟨(X.getD i lr0).a, (X.getD i lr0).n, (X.getD i lr0).c, ys⟩) = rowT tyLR v e X := by
  have h1 : (tyLR : Ty (LR α)).all (X.set i ⟨(X.getD i lr0).a, (X.getD i lr0).n, (X.getD i lr0).c, ys⟩) = tyLR.all X := by
    have h2 := (tyLR : Ty (LR α)).all_set (X.getD i lr0) X i 0 ⟨(X.getD i lr0).a, (X.getD i lr0).n, (X.getD i lr0).c, ys⟩ (.slice (X.getD i lr0).a (X.getD i lr0).n (X.getD i lr0).c) hi (Nat.zero_lt_one) rfl
    rw [← h2]
    apply List.ext_getElem?
    intro m
    rw [List.getElem?_set]
    split
    · rename_i hm
      subst hm
      have h3 := (tyLR : Ty (LR α)).all_at lr0 X i 0 hi (Nat.zero_lt_one)
      rw [h3]
      split
      · rfl
      · rename_i h4; exact absurd (by rw [Ty.all_length]; show i * 1 + 0 < X.length * 1; omega) h4
    · rfl
  unfold rowT
  rw [h1, List.length_set]
theorem UpG.recast {α : Type} {w w' : World} {L : List Chunk} {G : List (List Chunk)} {X : List (LR α)} {v : Value} {e : TypeId} (ys : List α) (h : UpG w L w' G) (k i : Nat) (hk : G[k]? = some [rowT tyLR v e X]) (hi : i < X.length) :
    UpG w L w' (G.set k [rowT tyLR v e (X.set i ⟨(X.getD i lr0).a, (X.getD i lr0).n, (X.getD i lr0).c, ys⟩)]) := by
  rw [rowT_recast hi]
  have : G.set k [rowT tyLR v e X] = G := by
    apply List.ext_getElem?
    intro m
    rw [List.getElem?_set]
    split
    · rename_i hm; subst hm
      split
      · exact hk.symm
      · rename_i h4; rw [List.getElem?_eq_none (by omega)]
    · rfl
  rw [this]; exact h
end Go.Sx

/- Maps of one's own: made, looked up, written. -/
namespace Go.Sx
set_option linter.unusedVariables false
set_option linter.unusedSimpArgs false
open Go.MapKept
section
variable {κ ν : Type} [DecidableEq κ]
/-- The first place of a key. -/
def fndK (a : κ) : List κ → Nat → Option Nat
  | [], _ => none
  | x :: r, i => if a = x then some i else fndK a r (i + 1)
def getM : List (κ × ν) → κ → Option ν
  | [], _ => none
  | p :: r, a => if a = p.1 then some p.2 else getM r a
def putM : List (κ × ν) → κ → ν → List (κ × ν)
  | [], a, v => [(a, v)]
  | p :: r, a, v => if a = p.1 then (a, v) :: r else p :: putM r a v
theorem getM_put (m : List (κ × ν)) (a b : κ) (v : ν) : getM (putM m a v) b = if b = a then some v else getM m b := by
  induction m with
  | nil => simp [putM, getM]
  | cons p r ih =>
    unfold putM
    split
    · rename_i h
      subst h
      simp only [getM]
      split <;> rfl
    · rename_i h
      simp only [getM, ih]
      split
      · rename_i h2; subst h2; rw [if_neg (fun e => h e.symm)]
      · rfl
theorem getM_none {m : List (κ × ν)} {a : κ} : getM m a = none ↔ ∀ p, p ∈ m → p.1 ≠ a := by
  induction m with
  | nil => simp [getM]
  | cons p r ih =>
    simp only [getM]
    split
    · rename_i h; simp [h]
    · rename_i h
      rw [ih]
      simp only [List.mem_cons, forall_eq_or_imp]
      exact ⟨fun h2 => ⟨fun e => h e.symm, h2⟩, fun h2 => h2.2⟩
theorem putM_new {m : List (κ × ν)} {a : κ} {v : ν} (h : getM m a = none) : putM m a v = m ++ [(a, v)] := by
  induction m with
  | nil => rfl
  | cons p r ih =>
    simp only [getM] at h
    split at h
    · cases h
    · rename_i hne
      simp only [putM, if_neg hne, ih h, List.cons_append]
theorem getM_mem {m : List (κ × ν)} {a : κ} {v : ν} (h : getM m a = some v) : (a, v) ∈ m := by
  induction m with
  | nil => cases h
  | cons p r ih =>
    simp only [getM] at h
    split at h
    · rename_i e; subst e; cases h; simp
    · exact List.mem_cons_of_mem _ (ih h)
theorem fndK_spec (a : κ) : ∀ (l : List κ) (i : Nat), (fndK a l i = none ∧ a ∉ l) ∨ ∃ j, fndK a l i = some (i + j) ∧ l[j]? = some a ∧ ∀ q, q < j → l[q]? ≠ some a
  | [], i => .inl ⟨rfl, by simp⟩
  | x :: r, i => by
    unfold fndK
    by_cases h : a = x
    · rw [if_pos h]; exact .inr ⟨0, rfl, by simp [h], fun q hq => by omega⟩
    · rw [if_neg h]
      rcases fndK_spec a r (i + 1) with ⟨h1, h2⟩ | ⟨j, h1, h2, h3⟩
      · exact .inl ⟨h1, by simp [h, h2]⟩
      · refine .inr ⟨j + 1, by rw [h1]; congr 1; omega, by simpa using h2, fun q hq => ?_⟩
        cases q with
        | zero => simp; exact fun e => h e.symm
        | succ q => simpa using h3 q (by omega)
/-- What a key's type does. -/
structure KeyS (P : Program) (k : TypeId) (enc : κ → Value) : Prop where
  chk : ∀ (e : Bool) (a : κ) (w : World), (Instr.checkKey e 10000 k (enc a)).run P w = .ok () w
  find : ∀ (a : κ) (es : List MapEntry) (ks : List κ) (w : World), es.map (·.key) = ks.map enc →
    (Instr.findKey k (enc a) es).run P w = .ok ((fndK a ks 0).bind fun j => (es[j]?).map fun e => (j, e.val)) w
  bits : ∀ a, Instr.sameBits 10000 (enc a) (enc a) = true

theorem findNow_of {d : TypeDesc} {enc : κ → Value} (hs : ∀ a b, Instr.sameNow d (enc a) (enc b) = some (decide (a = b))) (a : κ) :
    ∀ (es : List MapEntry) (ks : List κ) (i : Nat), es.map (·.key) = ks.map enc → Instr.findNow d (enc a) es i = some ((fndK a ks i).bind fun j => (es[j - i]?).map fun e => (j, e.val))
  | [], [], i, _ => rfl
  | [], _ :: _, i, h => by simp at h
  | _ :: _, [], i, h => by simp at h
  | e :: es, x :: ks, i, h => by
    simp only [List.map_cons, List.cons.injEq] at h
    unfold Instr.findNow fndK
    rw [h.1, hs]
    by_cases hx : a = x
    · simp [hx]
    · rw [if_neg hx, decide_eq_false hx]
      simp only
      rw [findNow_of hs a es ks (i + 1) h.2]
      congr 1
      rcases fndK_spec a ks (i + 1) with ⟨h1, _⟩ | ⟨j, h1, h2, _⟩
      · rw [h1]; rfl
      · rw [h1]
        simp only [Option.bind_some]
        have e1 : i + 1 + j - (i + 1) = j := by omega
        have e2 : i + 1 + j - i = j + 1 := by omega
        rw [e1, e2]
        simp
theorem keyI {P : Program} {k : TypeId} {q : IntKind} (hk : P.underlying k = some (.int q)) : KeyS P k (fun a : Int => .int q a) where
  chk := fun e a w => run_checkKey (d := .int q) hk (by simp [IsKey]) e 9999
  find := fun a es ks w h => run_findKey hk (by
    have := findNow_of (d := .int q) (enc := fun a : Int => .int q a) (fun a b => by simp [Instr.sameNow]; rfl) a es ks 0 h
    simpa using this)
  bits := fun a => by simp [Instr.sameBits]
theorem keyStr {P : Program} {k : TypeId} (hk : P.underlying k = some .string) : KeyS P k (fun a : ByteArray => .string a) where
  chk := fun e a w => run_checkKey (d := .string) hk (by simp [IsKey]) e 9999
  find := fun a es ks w h => run_findKey hk (by
    have := findNow_of (d := .string) (enc := fun a : ByteArray => .string a) (fun a b => by
      simp only [Instr.sameNow]
      congr 1
      by_cases e : a = b
      · rw [decide_eq_true e]; exact (bytes_beq a b).2 e
      · rw [decide_eq_false e]
        exact Bool.eq_false_iff.2 fun h => e ((bytes_beq a b).1 h)) a es ks 0 h
    simpa using this)
  bits := fun a => by simp only [Instr.sameBits]; exact (bytes_beq a a).2 rfl
end
/-! ### Keys that are structs -/
section
variable {P : Program}
theorem chk_one {em : Bool} {n : Nat} {t : TypeId} {x y : Value} {w : World} (h : flatOne P t x y = true) : (Instr.checkKey em (n + 1) t x).run P w = .ok () w := by
  unfold flatOne at h
  split at h
  · rename_i hu; unfold Instr.checkKey; simp [run_underlying hu, Result.andThen]
  · rename_i hu; unfold Instr.checkKey; simp [run_underlying hu, Result.andThen]
  · rename_i hu; unfold Instr.checkKey; simp [run_underlying hu, Result.andThen]
  · cases h
theorem run_chkFlat {em : Bool} {n : Nat} {X : Array Value} : ∀ {fs : List Field} {i : Nat} {xs : List Value} (w : World), flatOk P i fs xs xs = true → (∀ j, j < xs.length → X[i + j]? = xs[j]?) →
    (forIn fs PUnit.unit fun f _ => (if f.name ≠ "_" then (do
      let v ← part f.type X f.offset
      Instr.checkKey em (n + 1) f.type v
      pure (ForInStep.yield PUnit.unit)) else pure (ForInStep.yield PUnit.unit) : Sem (ForInStep PUnit))).run P w = .ok PUnit.unit w
  | [], i, [], w, _, _ => by simp
  | f :: fs, i, x :: xs, w, h, hx => by
    simp only [flatOk, Bool.and_eq_true, bne_iff_ne, ne_eq] at h
    obtain ⟨⟨⟨hn, ho⟩, h1⟩, h2⟩ := h
    have ho := Nat.eq_of_beq_eq_true ho
    have ex := hx 0 (by simp)
    simp only [Nat.add_zero, List.getElem?_cons_zero] at ex
    obtain ⟨p1, _, _⟩ := run_flatOne (w := w) (d := 0) (o := f.offset) h1 (by rw [ho]; exact ex) (by rw [ho]; exact ex)
    have ih := run_chkFlat (em := em) (n := n) (X := X) w h2 (fun j hj => by have := hx (j + 1) (by simp; omega); rw [show i + 1 + j = i + (j + 1) by omega, this]; simp)
    have hc : (Instr.checkKey em (n + 1) f.type x).run P w = .ok () w := chk_one h1
    simp only [ne_eq] at ih
    simp only [List.forIn_cons, Sem.run_bind, ne_eq, hn, not_false_eq_true, if_true, p1, hc, Result.andThen_ok, Sem.run_pure, ih]
theorem run_findAsk {κ : Type} [DecidableEq κ] {k : TypeId} {enc : κ → Value} (heq : ∀ (a b : κ) (w : World), (Op.equal k (enc a) (enc b)).run P w = .ok (decide (a = b)) w) (a : κ) :
    ∀ (es : List MapEntry) (ks : List κ) (i : Nat) (w : World), es.map (·.key) = ks.map enc → (Instr.findAsking k (enc a) es i).run P w = .ok ((fndK a ks i).bind fun j => (es[j - i]?).map fun e => (j, e.val)) w
  | [], [], i, w, _ => by simp [Instr.findAsking, fndK]
  | [], _ :: _, i, w, h => by simp at h
  | _ :: _, [], i, w, h => by simp at h
  | e :: es, x :: ks, i, w, h => by
    simp only [List.map_cons, List.cons.injEq] at h
    unfold Instr.findAsking fndK
    rw [h.1]
    simp only [Sem.run_bind, heq, Result.andThen_ok]
    by_cases hx : a = x
    · simp [hx]
    · rw [if_neg hx, decide_eq_false hx]
      simp only [Bool.false_eq_true, if_false]
      rw [run_findAsk heq a es ks (i + 1) w h.2]
      congr 1
      rcases fndK_spec a ks (i + 1) with ⟨h1, _⟩ | ⟨j, h1, h2, _⟩
      · rw [h1]; rfl
      · rw [h1]
        simp only [Option.bind_some]
        have e1 : i + 1 + j - (i + 1) = j := by omega
        have e2 : i + 1 + j - i = j + 1 := by omega
        rw [e1, e2]
        simp
/-- a pair of whole numbers -/
def encP (p : Int × Int) : Value := .agg #[.int .i64 p.1, .int .i64 p.2]
theorem keyP {k : TypeId} (hu : P.underlying k = some (.struct (P.fieldsOf k))) (hp : P.stoodInHeld k = false)
    (hf : ∀ x y z u : Int, flatOk P 0 (P.fieldsOf k).toList [.int .i64 x, .int .i64 y] [.int .i64 z, .int .i64 u] = true) : KeyS P k encP where
  chk := fun e a w => by
    unfold Instr.checkKey
    simp only [Sem.run_bind, run_underlying hu, Result.andThen_ok, encP]
    rw [← Array.forIn_toList]
    have h1 := run_chkFlat (em := e) (n := 9998) (X := #[Value.int .i64 a.1, .int .i64 a.2]) w (hf a.1 a.2 a.1 a.2) (fun j hj => by simp)
    rw [h1]; simp
  find := fun a es ks w h => by
    have e1 := run_findKey_eq (P := P) (w := w) (k := k) (by simp [hu]) (encP a) es
    rw [e1]
    have := run_findAsk (P := P) (k := k) (enc := encP) (fun a b w => by
      have h1 := run_aggeq (w := w) hu hp (hf a.1 a.2 b.1 b.2)
      have h2 : cellsEq [Value.int .i64 a.1, .int .i64 a.2] [.int .i64 b.1, .int .i64 b.2] = decide (a = b) := by
        obtain ⟨a1, a2⟩ := a; obtain ⟨b1, b2⟩ := b
        simp [cellsEq, cellEq]
      rw [h2] at h1
      exact h1) a es ks 0 w h
    simpa using this
  bits := fun a => by simp [Instr.sameBits, encP]
end
/-- A map of one's own: its entries, in the order in which they came. -/
def mapC {κ ν : Type} (ek : κ → Value) (ev : ν → Value) (g : Nat) (m : List (κ × ν)) : Chunk :=
  ⟨[g], fun w => ∃ es clock, w.heap[g]? = some (.map es clock) ∧ es.toList.map (fun e => (e.key, e.val)) = m.map (fun p => (ek p.1, ev p.2)),
    fun w w' h k => by obtain ⟨es, c, h1, h2⟩ := k; exact ⟨es, c, (h g (by simp)).trans h1, h2⟩,
    fun w g' hg k => by obtain ⟨es, c, h1, _⟩ := k; simp at hg; subst hg; exact lt_of_obj h1, fun _ _ => by simp⟩
/-- What a map's block says. -/
def MapAt {κ ν : Type} (w : World) (ek : κ → Value) (evl : ν → Value) (g : Nat) (m : List (κ × ν)) : Prop := ∃ es clock, w.heap[g]? = some (.map es clock) ∧ es.toList.map (fun e => (e.key, e.val)) = m.map (fun p => (ek p.1, evl p.2))
section
variable {κ ν : Type} {P : Program} {Γ : Env} {w : World} {ty : TypeId} {K : Value → World → Prop} {ek : κ → Value} {evl : ν → Value}
theorem UpG.mapAt {w w' : World} {L : List Chunk} {G : List (List Chunk)} {g : Nat} {m : List (κ × ν)} (h : UpG w L w' G) (i : Nat) (hi : G[i]? = some [mapC ek evl g m]) :
    MapAt w' ek evl g m := (h.hpOf i hi).holds (mapC ek evl g m) (by simp)
theorem keys_of {m : List (κ × ν)} {es : Array MapEntry} (h : es.toList.map (fun e => (e.key, e.val)) = m.map (fun p => (ek p.1, evl p.2))) : es.toList.map (·.key) = (m.map Prod.fst).map ek := by
  have h2 := congrArg (List.map Prod.fst) h
  simpa [Function.comp_def] using h2
theorem d_lenM {x : Operand} {t k e : TypeId} {g : Nat} {m : List (κ × ν)} (ht : P.underlying t = some (.map k e)) (hx : ev Γ x = some (.map (some g)))
    (hm : MapAt w ek evl g m) (kk : K (.int .i64 ((m.length : Nat) : Int)) w) : Does P Γ w (.call { callee := .builtin .len, args := #[x], argTypes := #[t] }) ty K := by
  obtain ⟨es, clock, h1, h2⟩ := hm
  have hl : es.size = m.length := by have := congrArg List.length h2; simpa using this
  refine Does.of_run (w' := w) (fun ρ hρ => ?_) kk
  simp [ex, execOp, hρ x _ hx, resolve, invoke, builtin, Builtin.len_, run_underlying ht, Go.MapKept.run_getObj_map h1, goInt, hl, Result.andThen]
end
section
variable {κ ν : Type} [DecidableEq κ] {P : Program} {Γ : Env} {w : World} {ty : TypeId} {K : Value → World → Prop} {ek : κ → Value} {evl : ν → Value}
theorem d_makeMap {t : TypeId} {κ ν : Type} (ek : κ → Value) (evl : ν → Value) (k : ∀ w', Upd w [] w' [mapC ek evl w.heap.size []] → K (.map (some w.heap.size)) w') : Does P Γ w (.makeMap t none) ty K :=
  Does.of_run (w' := w.alloc (.map #[] 0)) (fun ρ hρ => by simp [ex, execOp, Go.RowKit.run_makeMap]) (k _ ⟨⟨fun c hc => by
    simp only [List.mem_singleton] at hc; subst hc; exact ⟨#[], 0, (heap_alloc w _).1, rfl⟩, by simp [ats, mapC]⟩,
    ⟨rfl, rfl, rfl, by show w.heap.size ≤ (w.heap.push _).size; simp, fun j hj _ => (heap_alloc w _).2 j hj⟩, fun g hg => .inr (by simp [ats, mapC] at hg; omega)⟩)
theorem d_makeMapR {t k e : TypeId} {x : Operand} {kd : IntKind} {i : Int} {κ ν : Type} (ek : κ → Value) (evl : ν → Value) (ht : P.underlying t = some (.map k e)) (hx : ev Γ x = some (.int kd i)) (kk : ∀ w', Upd w [] w' [mapC ek evl w.heap.size []] → K (.map (some w.heap.size)) w') : Does P Γ w (.makeMap t (some x)) ty K :=
  Does.of_run (w' := w.alloc (.map #[] 0)) (fun ρ hρ => by
    have h1 : (Instr.makeMap t (some (.int kd i))).run P w = .ok (.map (some w.heap.size)) (w.alloc (.map #[] 0)) := by
      unfold Instr.makeMap
      simp only [Sem.run_bind, run_underlying ht, Result.andThen_ok, asInt]
      rfl
    simp [ex, execOp, hρ x _ hx, h1]) (kk _ ⟨⟨fun c hc => by
    simp only [List.mem_singleton] at hc; subst hc; exact ⟨#[], 0, (heap_alloc w _).1, rfl⟩, by simp [ats, mapC]⟩,
    ⟨rfl, rfl, rfl, by show w.heap.size ≤ (w.heap.push _).size; simp, fun j hj _ => (heap_alloc w _).2 j hj⟩, fun g hg => .inr (by simp [ats, mapC] at hg; omega)⟩)
theorem getM_of {m : List (κ × ν)} {es : Array MapEntry} (a : κ) (h : es.toList.map (fun e => (e.key, e.val)) = m.map (fun p => (ek p.1, evl p.2))) :
    ((fndK a (m.map Prod.fst) 0).bind fun j => (es.toList[j]?).map fun e => (j, e.val)).map (fun x => x.2) = (getM m a).map evl := by
  have aux : ∀ (m : List (κ × ν)) (es : List MapEntry) (i : Nat), es.map (fun e => (e.key, e.val)) = m.map (fun p => (ek p.1, evl p.2)) →
      ((fndK a (m.map Prod.fst) i).bind fun j => (es[j - i]?).map fun e => (j, e.val)).map (fun x => x.2) = (getM m a).map evl := by
    intro m
    induction m with
    | nil => intro es i _; rfl
    | cons p r ih =>
      intro es i h
      match es, h with
      | e :: es, h =>
        simp only [List.map_cons, List.cons.injEq, Prod.mk.injEq] at h
        unfold getM
        simp only [List.map_cons]
        unfold fndK
        by_cases hx : a = p.1
        · simp [hx, h.1.2]
        · rw [if_neg hx, if_neg hx, ← ih es (i + 1) h.2]
          rcases fndK_spec a (r.map Prod.fst) (i + 1) with ⟨h1, _⟩ | ⟨j, h1, h2, _⟩
          · rw [h1]; rfl
          · rw [h1]
            simp only [Option.bind_some]
            have e1 : i + 1 + j - (i + 1) = j := by omega
            have e2 : i + 1 + j - i = j + 1 := by omega
            rw [e1, e2]; simp
  have := aux m es.toList 0 h
  simpa using this
theorem run_look {t k e : TypeId} {g : Nat} {m : List (κ × ν)} {a : κ} {s b : Nat} {d : ν} (ks : KeyS P k ek) (ht : P.underlying t = some (.map k e)) (hz : szOf P e = some (s, b, some (evl d)))
    (hm : MapAt w ek evl g m) (c : Bool) :
    (Instr.lookup t (.map (some g)) (ek a) c).run P w = .ok (if c then .tuple #[evl ((getM m a).getD d), .bool (getM m a).isSome] else evl ((getM m a).getD d)) w := by
  obtain ⟨es, clock, h1, h2⟩ := hm
  have h3 := getM_of a h2
  unfold Instr.lookup
  simp only [Sem.run_bind, run_underlying ht, Result.andThen, Go.MapKept.run_getObj_map h1, Sem.run_pure, ks.chk, ks.find a es.toList _ w (keys_of h2)]
  cases hf : (fndK a (m.map Prod.fst) 0).bind fun j => (es.toList[j]?).map fun e => (j, e.val) with
  | none =>
    rw [hf] at h3
    have hg : getM m a = none := by cases hgm : getM m a with
      | none => rfl
      | some v => rw [hgm] at h3; cases h3
    simp [hg, run_zero hz, Result.andThen]
  | some x =>
    rw [hf] at h3
    obtain ⟨v, hg, hv⟩ : ∃ v, getM m a = some v ∧ evl v = x.2 := by
      cases hgm : getM m a with
      | none => rw [hgm] at h3; cases h3
      | some v => rw [hgm] at h3; exact ⟨v, rfl, by simpa using h3.symm⟩
    obtain ⟨j, u⟩ := x
    simp only at hv
    simp [hg, hv, Result.andThen]
theorem d_look2 {t k e : TypeId} {x ix : Operand} {g : Nat} {m : List (κ × ν)} (a : κ) (d : ν) {s b : Nat} (ks : KeyS P k ek) (ht : P.underlying t = some (.map k e)) (hz : szOf P e = some (s, b, some (evl d))) (hx : ev Γ x = some (.map (some g))) (hi : ev Γ ix = some (ek a))
    (hm : MapAt w ek evl g m) (kk : K (.tuple #[evl ((getM m a).getD d), .bool (getM m a).isSome]) w) : Does P Γ w (.lookup t x ix true) ty K :=
  Does.of_run (fun ρ hρ => by have := run_look (a := a) ks ht hz hm true; simp [ex, execOp, hρ x _ hx, hρ ix _ hi, this]) kk
theorem d_look1 {t k e : TypeId} {x ix : Operand} {g : Nat} {m : List (κ × ν)} (a : κ) (d : ν) {s b : Nat} (ks : KeyS P k ek) (ht : P.underlying t = some (.map k e)) (hz : szOf P e = some (s, b, some (evl d))) (hx : ev Γ x = some (.map (some g))) (hi : ev Γ ix = some (ek a))
    (hm : MapAt w ek evl g m) (kk : K (evl ((getM m a).getD d)) w) : Does P Γ w (.lookup t x ix false) ty K :=
  Does.of_run (fun ρ hρ => by have := run_look (a := a) ks ht hz hm false; simp [ex, execOp, hρ x _ hx, hρ ix _ hi, this]) kk
theorem run_put {t k e : TypeId} {g : Nat} {m : List (κ × ν)} {a : κ} {v : ν} (ks : KeyS P k ek) (ht : P.underlying t = some (.map k e)) (hp : Hp w [mapC ek evl g m]) :
    ∃ w', (Instr.mapUpdate t (.map (some g)) (ek a) (evl v)).run P w = .ok () w' ∧ Upd w [mapC ek evl g m] w' [mapC ek evl g (putM m a v)] := by
  obtain ⟨es, clock, h1, h2⟩ := (hp.holds (mapC ek evl g m) (by simp) : (mapC ek evl g m).P w)
  have mk : ∀ es' clock', es'.toList.map (fun e => (e.key, e.val)) = (putM m a v).map (fun p => (ek p.1, evl p.2)) → Upd w [mapC ek evl g m] { w with heap := w.heap.setIfInBounds g (.map es' clock') } [mapC ek evl g (putM m a v)] := fun es' clock' h3 =>
    ⟨⟨fun c hc => by simp only [List.mem_singleton] at hc; subst hc; exact ⟨es', clock', (heap_set h1).1, h3⟩, by simp [ats, mapC]⟩,
      ⟨rfl, rfl, rfl, by simp, fun i hi hs => (heap_set h1).2 i (fun e => hs (by simp [ats, mapC, e]))⟩, fun g' hg => .inl (by simpa [ats, mapC] using hg)⟩
  unfold Instr.mapUpdate
  simp only [Sem.run_bind, run_underlying ht, Result.andThen, Go.MapKept.run_getObj_map h1, Sem.run_pure, ks.chk, ks.find a es.toList _ w (keys_of h2)]
  have hlen : es.toList.length = m.length := by have := congrArg List.length h2; simpa using this
  rcases fndK_spec a (m.map Prod.fst) 0 with ⟨hf, hn⟩ | ⟨j, hf, hj, hfirst⟩
  · rw [hf]
    refine ⟨_, by simp [Go.MapKept.run_setObj_map _ h1], mk (es.push { key := ek a, val := evl v, born := clock }) (clock + 1) ?_⟩
    have hg : getM m a = none := getM_none.2 fun p hp e => hn (List.mem_map.2 ⟨p, hp, e⟩)
    rw [putM_new hg]
    simp [h2]
  · rw [hf]
    have hjl : j < es.toList.length := by
      have := (List.getElem?_eq_some_iff.1 hj).1
      simp at this; omega
    have hjs : j < es.size := by simpa using hjl
    have hkey : es[j].key = ek a := by
      have h3 := congrArg (fun l => l[j]?) (keys_of h2)
      simp only [List.getElem?_map] at h3 hj
      rw [List.getElem?_eq_getElem hjl] at h3
      cases hmj : m[j]? with
      | none => rw [hmj] at hj; cases hj
      | some p =>
        rw [hmj] at h3 hj
        simp only [Option.map_some, Option.some.injEq] at h3 hj
        rw [← hj]; simpa using h3
    simp only [Nat.zero_add, Option.bind_some, List.getElem?_eq_getElem hjl, Option.map_some, Sem.run_bind, Result.andThen]
    have hst : (Instr.keyThatStays (((es[j]?).map (·.key)).getD (ek a)) (ek a)).run P w = .ok (ek a) w := by
      unfold Instr.keyThatStays
      rw [Array.getElem?_eq_getElem hjs]
      simp only [Option.map_some, Option.getD_some, hkey, ks.bits, if_true, Sem.run_pure]
    rw [hst]
    refine ⟨_, by simp [Go.MapKept.run_setObj_map _ h1], mk (es.modify j fun e => { key := ek a, val := evl v, born := e.born }) clock ?_⟩
    -- the entry at j is turned
    have hput : ∀ (m : List (κ × ν)) (j : Nat), (m.map Prod.fst)[j]? = some a → (∀ q, q < j → (m.map Prod.fst)[q]? ≠ some a) → putM m a v = m.set j (a, v) := by
      intro m
      induction m with
      | nil => intro j h; simp at h
      | cons p r ih =>
        intro j h hq
        unfold putM
        cases j with
        | zero => simp at h; rw [if_pos h.symm]; rfl
        | succ j =>
          have h0 := hq 0 (by omega)
          simp at h0
          rw [if_neg (fun e => h0 e.symm)]
          rw [ih j (by simpa using h) (fun q hq' => by simpa using hq (q + 1) (by omega))]
          rfl
    rw [hput m j hj hfirst, List.map_set, ← h2]
    apply List.ext_getElem?
    intro q
    simp only [List.getElem?_map, Array.getElem?_toList, Array.getElem?_modify, List.getElem?_set, List.length_map]
    by_cases hq : j = q
    · subst hq
      simp [hjs, hkey]
    · simp [hq]
theorem d_mapUpdate {t k e : TypeId} {x ix y : Operand} {g : Nat} {m : List (κ × ν)} (a : κ) (v : ν) (ks : KeyS P k ek) (ht : P.underlying t = some (.map k e)) (hx : ev Γ x = some (.map (some g))) (hi : ev Γ ix = some (ek a)) (hy : ev Γ y = some (evl v)) (hp : Hp w [mapC ek evl g m])
    (kk : ∀ w', Upd w [mapC ek evl g m] w' [mapC ek evl g (putM m a v)] → K undef w') : Does P Γ w (.mapUpdate t x ix y) ty K := by
  obtain ⟨w', h1, h2⟩ := run_put (a := a) (v := v) ks ht hp
  exact Does.of_skip (fun ρ hρ => by simp [ex, execOp, hρ x _ hx, hρ ix _ hi, hρ y _ hy, h1]) (kk w' h2)
theorem d_insert {t k e : TypeId} {x ix y : Operand} {g : Nat} {m : List (κ × ν)} (a : κ) (v : ν) (ks : KeyS P k ek) (ht : P.underlying t = some (.map k e)) (hx : ev Γ x = some (.map (some g))) (hi : ev Γ ix = some (ek a)) (hy : ev Γ y = some (evl v)) (hp : Hp w [mapC ek evl g m])
    (kk : ∀ w', Upd w [mapC ek evl g m] w' [mapC ek evl g (putM m a v)] → K undef w') : Does P Γ w (.insert t x ix y) ty K := by
  obtain ⟨w', h1, h2⟩ := run_put (a := a) (v := v) ks ht hp
  exact Does.of_skip (fun ρ hρ => by simp [ex, execOp, hρ x _ hx, hρ ix _ hi, hρ y _ hy, h1]) (kk w' h2)
end
end Go.Sx

/- Automata as data, more. -/
namespace Go.Sx
set_option linter.unusedVariables false
set_option linter.unusedSimpArgs false
theorem within_of {l : List Int} {n : Int} (h : ∀ i, i < l.length → 0 ≤ l.getD i 0 ∧ l.getD i 0 < n) : withinB l n = true := by
  unfold withinB
  rw [List.all_eq_true]
  intro x hx
  obtain ⟨i, hi, rfl⟩ := List.mem_iff_getElem.1 hx
  have := h i hi
  simp only [List.getD_eq_getElem?_getD, List.getElem?_eq_getElem hi, Option.getD_some] at this
  simpa using this
theorem all_step {p : Nat → Prop} {k : Nat} (h : ∀ i, i < k → p i) (hk : p k) : ∀ i, i < k + 1 → p i := fun i hi => by
  rcases Nat.lt_or_ge i k with h1 | h1
  · exact h i h1
  · have : i = k := by omega
    subst this; exact hk
def smallB (d : DfaD) : Bool := decide (d.acc.length ≤ 12 ∧ d.next.length ≤ 4000 ∧ d.cls.length ≤ 300)
def wordOk (s : ByteArray) (i j : Int) : Bool := decide (0 ≤ i ∧ i ≤ j ∧ j ≤ (s.size : Int))
def wordD (s : ByteArray) (i j : Int) : List Int :=
  if wordOk s i j = false then [] else if s = ⟨#[]⟩ then [258] else
    (if i = 0 then [256] else []) ++ bytesL (s.extract i.toNat j.toNat) ++ (if j = (s.size : Int) then [257] else [])
theorem wordD_no {s : ByteArray} {i j : Int} (h : i < 0 ∨ j < i ∨ (s.size : Int) < j) : wordD s i j = [] ∧ wordOk s i j = false := by
  have : wordOk s i j = false := by simp only [wordOk, decide_eq_false_iff_not]; omega
  exact ⟨by rw [wordD, if_pos this], this⟩
theorem wordD_yes {s : ByteArray} {i j : Int} (h : 0 ≤ i ∧ i ≤ j ∧ j ≤ (s.size : Int)) : wordOk s i j = true := by simp only [wordOk, decide_eq_true_eq]; exact h
theorem take_getD_step {l : List Int} {k : Nat} (h : k < l.length) : l.take k ++ [l.getD k 0] = l.take (k + 1) := by
  rw [List.take_add_one, List.getElem?_eq_getElem h]; simp [List.getD_eq_getElem?_getD, List.getElem?_eq_getElem h]
end Go.Sx

/- Proved here: when two automata are the same; the bytes of a part of a text. Conditions: those of each theorem. -/
namespace Go.Sx
set_option linter.unusedVariables false
set_option linter.unusedSimpArgs false
theorem list_eq_of {α : Type} {a b : List α} {d : α} (hl : a.length = b.length) (h : ∀ i, i < a.length → a.getD i d = b.getD i d) : a = b := by
  apply List.ext_getElem hl
  intro i h1 h2
  have := h i h1
  simpa [List.getD_eq_getElem?_getD, List.getElem?_eq_getElem h1, List.getElem?_eq_getElem h2] using this
theorem size_nil {s : ByteArray} (h : s.size = 0) : s = ⟨#[]⟩ := by
  cases s with
  | mk d => have h1 : d.size = 0 := h
            rw [Array.eq_empty_of_size_eq_zero h1]
def sameD (a b : DfaD) : Bool := decide (a.cls = b.cls ∧ a.width = b.width ∧ a.start = b.start ∧ a.next = b.next ∧ a.acc = b.acc)
theorem sameD_self (a : DfaD) : sameD a a = true := by simp [sameD]
theorem sameD_iff {a b : DfaD} : sameD a b = true ↔ a = b := by
  simp only [sameD, decide_eq_true_eq]
  constructor
  · rintro ⟨h1, h2, h3, h4, h5⟩
    cases a; cases b; simp_all
  · rintro rfl; simp
def partL (s : ByteArray) (i n : Nat) : List Int := (List.range n).map fun q => bt s (i + q)
theorem partL_step (s : ByteArray) (i n : Nat) : partL s i n ++ [bt s (i + n)] = partL s i (n + 1) := by simp [partL, List.range_succ]
theorem partL_len (s : ByteArray) (i n : Nat) : (partL s i n).length = n := by simp [partL]
theorem bt_extract {s : ByteArray} {i j q : Nat} (hj : j ≤ s.size) (hq : i + q < j) : bt (s.extract i j) q = bt s (i + q) := by
  have h1 : j ≤ s.data.size := hj
  unfold bt
  congr 2
  simp only [List.getD_eq_getElem?_getD, ByteArray.data_extract, Array.getElem?_toList, Array.getElem?_extract]
  rw [if_pos (by omega)]
theorem bytesL_extract {s : ByteArray} {i j : Nat} (hi : i ≤ j) (hj : j ≤ s.size) : bytesL (s.extract i j) = partL s i (j - i) := by
  have h1 : j ≤ s.data.size := hj
  have hsz : (s.extract i j).size = j - i := by
    show (s.extract i j).data.size = _
    rw [ByteArray.data_extract, Array.size_extract]; omega
  unfold bytesL partL
  rw [hsz]
  apply List.map_congr_left
  intro q hq
  rw [List.mem_range] at hq
  exact bt_extract hj (by omega)
end Go.Sx

/- Bytes as strings; lists with each thing once, numbered as met. -/
namespace Go.Sx
set_option linter.unusedVariables false
set_option linter.unusedSimpArgs false
section
variable {P : Program} {Γ : Env} {w : World} {ty : TypeId} {K : Value → World → Prop}
theorem d_bytesStr {src dst e : TypeId} {x : Operand} {a : Option Addr} {n c : Nat} {xs : List Int} (hs : P.underlying src = some (.slice e)) (he : P.underlying e = some (.int .u8)) (hd : P.underlying dst = some .string) (hx : ev Γ x = some (.slice a n c)) (hr : RdT (tyI .u8) w (.slice a n c) xs)
    (k : K (.string (strOfNums xs)) w) : Does P Γ w (.convert src dst x) ty K := by
  have hn := hr.len
  subst hn
  have hrun : (convert src dst (.slice a xs.length c)).run P w = .ok (.string (strOfNums xs)) w := by
    obtain ⟨A, cap, hv, h1, h2, h3⟩ := hr
    cases hv
    cases a with
    | none =>
      have h0 : xs = [] := by
        cases xs with
        | nil => rfl
        | cons y ys =>
          obtain ⟨ad, e1, _⟩ := h3 0 (.int .u8 y) (by simp [all_int])
          cases e1
      subst h0
      have h5 := run_convert_bytes_nil (P := P) w src e hs he 0 c dst hd
      exact h5
    | some ad =>
      have hl : (loadCells ad xs.length).run P w = .ok (xs.map (Value.int .u8)).toArray w := by
        have := run_loadCells_list (P := P) w ad (xs.map (Value.int .u8)) (fun j v hj => by
          obtain ⟨ad', e1, e2⟩ := h3 j v (by rw [all_int]; exact hj)
          cases e1
          exact e2)
        simpa using this
      rw [run_convert_bytes_string w src dst e _ xs.length c hs he hd, run_bytesToString w _ xs.length c xs hl, foldl_push_bytes]
      simp [strOfNums, ByteArray.empty, ByteArray.emptyWithCapacity]
      rfl
  exact Does.of_run (fun ρ hρ => by simp [ex, execOp, hρ x _ hx, hrun]) k
end
/-- A field of an element that is a struct itself. -/
theorem t_loadFN {α : Type} {T : Ty α} {P : Program} {Γ : Env} {w : World} {ty : TypeId} {K : Value → World → Prop} {t : TypeId} {x : Operand} {v : Value} {xs : List α} {desc : TypeDesc} {off n s b : Nat} {z : Option Value} {us : List Value} (j : Nat) (d : α) (hT : T.sz = s) (hlt : Nat.ble (off + n) s = true) (hn : Nat.blt 0 n = true) (ht : P.underlying t = some desc) (hd : aggD desc = true) (hs : szOf P t = some (n, b, z))
    (hx : ev Γ x = some (elemPtr v (j * s + off))) (hr : RdT T w v xs) (hj : j < xs.length) (he : ((T.enc (xs.getD j d)).drop off).take n = us) (k : K (.agg us.toArray) w) : Does P Γ w (.load t x) ty K := by
  subst hT
  have hle := Nat.le_of_ble_eq_true hlt
  have hn' : 0 < n := of_eq_true (Eq.trans Nat.blt_eq.symm (eq_true hn))
  refine d_loadAR us ht hd hs hx hr ?_ hn' ?_ k
  · rw [← he, List.length_take, List.length_drop, T.len]; omega
  · rw [← he, ← T.all_part d xs j hj, ← List.drop_drop, List.drop_take, List.take_take, Nat.min_eq_left (by omega)]
theorem bn_t {b : Bool} (h : ¬ (!b) = true) : b = true := by cases b <;> simp_all
theorem bn_f {b : Bool} (h : (!b) = true) : ¬ b = true := by cases b <;> simp_all
/-- Each thing once, in the order in which they come. -/
def dd {α : Type} [DecidableEq α] (l : List α) : List α := l.foldl (fun acc x => if x ∈ acc then acc else acc ++ [x]) []
section
variable {α : Type} [DecidableEq α]
theorem dd_snoc (l : List α) (x : α) : dd (l ++ [x]) = if x ∈ dd l then dd l else dd l ++ [x] := by
  unfold dd; rw [List.foldl_append]; rfl
theorem dd_mem (l : List α) (x : α) : x ∈ dd l ↔ x ∈ l := by
  suffices h : ∀ r : List α, x ∈ dd r.reverse ↔ x ∈ r.reverse by simpa using h l.reverse
  intro r
  induction r with
  | nil => simp [dd]
  | cons y r ih =>
    rw [List.reverse_cons, dd_snoc]
    split
    · rename_i hy
      rw [ih]; simp only [List.mem_append, List.mem_singleton]
      constructor
      · exact .inl
      · rintro (h | rfl)
        · exact h
        · exact ih.1 hy
    · simp only [List.mem_append, List.mem_singleton, ih]
theorem dd_nodup (l : List α) : (dd l).Nodup := by
  suffices h : ∀ r : List α, (dd r.reverse).Nodup by simpa using h l.reverse
  intro r
  induction r with
  | nil => simp [dd]
  | cons y r ih =>
    rw [List.reverse_cons, dd_snoc]
    split
    · exact ih
    · rename_i hy
      exact List.nodup_append.2 ⟨ih, by simp, fun a ha b hb e => by simp at hb; subst hb; subst e; exact hy ha⟩
theorem dd_len (l : List α) : (dd l).length ≤ l.length := by
  suffices h : ∀ r : List α, (dd r.reverse).length ≤ r.reverse.length by simpa using h l.reverse
  intro r
  induction r with
  | nil => simp [dd]
  | cons y r ih =>
    rw [List.reverse_cons, dd_snoc]
    split
    · simp at ih ⊢; omega
    · simp at ih ⊢; omega
/-- What is met first keeps its place. -/
theorem dd_prefix (l m : List α) : ∃ r, dd (l ++ m) = dd l ++ r := by
  suffices h : ∀ m : List α, ∃ r, dd (l ++ m.reverse) = dd l ++ r by simpa using h m.reverse
  intro m
  induction m with
  | nil => exact ⟨[], by simp⟩
  | cons y m ih =>
    obtain ⟨r, hr⟩ := ih
    rw [List.reverse_cons, ← List.append_assoc, dd_snoc]
    split
    · exact ⟨r, hr⟩
    · exact ⟨r ++ [y], by rw [hr, List.append_assoc]⟩
/-- The first place of a thing. -/
def ix (x : α) : List α → Nat
  | [] => 0
  | y :: l => if x = y then 0 else ix x l + 1
theorem ix_lt {x : α} : ∀ {l : List α}, x ∈ l → ix x l < l.length
  | y :: l, h => by
    unfold ix
    split
    · simp
    · rename_i hne
      have := ix_lt (x := x) (l := l) (by simpa [hne] using h)
      simp; omega
theorem ix_get {x d : α} : ∀ {l : List α}, x ∈ l → l.getD (ix x l) d = x
  | y :: l, h => by
    unfold ix
    split
    · rename_i e; simp [e]
    · rename_i hne
      simpa using ix_get (x := x) (d := d) (l := l) (by simpa [hne] using h)
theorem ix_app {x : α} (r : List α) : ∀ {l : List α}, x ∈ l → ix x (l ++ r) = ix x l
  | y :: l, h => by
    simp only [List.cons_append, ix]
    split
    · rfl
    · rename_i hne
      rw [ix_app r (l := l) (by simpa [hne] using h)]
theorem ix_new {x : α} : ∀ {l : List α}, x ∉ l → ix x l = l.length
  | [], _ => rfl
  | y :: l, h => by
    simp only [List.mem_cons, not_or] at h
    simp only [ix, if_neg h.1, ix_new h.2, List.length_cons]
theorem ix_inj {x y : α} {l : List α} (hx : x ∈ l) (hy : y ∈ l) (h : ix x l = ix y l) : x = y := by
  have e1 := ix_get (d := x) hx
  have e2 := ix_get (d := x) hy
  rw [h] at e1; exact e1.symm.trans e2
theorem dd_idx (l m : List α) {x : α} (h : x ∈ dd l) : ix x (dd (l ++ m)) = ix x (dd l) := by
  obtain ⟨r, hr⟩ := dd_prefix l m
  rw [hr, ix_app r h]
/-- A map that tells each thing's place. -/
def nmap (l : List α) : List (α × Int) := (dd l).zipIdx.map fun p => (p.1, (p.2 : Int))
theorem nmap_len (l : List α) : (nmap l).length = (dd l).length := by simp [nmap]
theorem getM_zip : ∀ (l : List α) (i : Nat) (x : α), getM ((l.zipIdx i).map fun p => (p.1, (p.2 : Int))) x = if x ∈ l then some ((i + ix x l : Nat) : Int) else none
  | [], i, x => by simp [getM]
  | y :: l, i, x => by
    simp only [List.zipIdx_cons, List.map_cons, getM, getM_zip l (i + 1) x]
    by_cases h : x = y
    · subst h; simp [ix]
    · rw [if_neg h]
      by_cases hm : x ∈ l
      · rw [if_pos hm, if_pos (by simp [hm])]
        simp only [ix, if_neg h]
        congr 2; omega
      · rw [if_neg hm, if_neg (by simp [hm, h])]
theorem nmap_get (l : List α) (x : α) : getM (nmap l) x = if x ∈ l then some ((ix x (dd l) : Nat) : Int) else none := by
  have := getM_zip (dd l) 0 x
  simp only [dd_mem, Nat.zero_add] at this
  exact this
theorem nmap_old {l : List α} {x : α} (h : x ∈ l) : nmap (l ++ [x]) = nmap l := by
  simp only [nmap, dd_snoc]; rw [if_pos ((dd_mem l x).2 h)]
theorem nmap_new {l : List α} {x : α} (h : x ∉ l) : putM (nmap l) x (((nmap l).length : Nat) : Int) = nmap (l ++ [x]) := by
  have h2 : x ∉ dd l := fun hm => h ((dd_mem l x).1 hm)
  rw [putM_new (by rw [nmap_get, if_neg h]), nmap_len]
  simp [nmap, dd_snoc, h2, List.zipIdx_append]
/-- Each thing's number. -/
def numL (l : List α) : List Int := l.map fun x => ((ix x (dd l) : Nat) : Int)
end
end Go.Sx

/- The walks of functions, printed by wip/tools/gw.py. -/
namespace Go.Proofs.Ytoeockpkkmgieaa
open Go Go.Sx
set_option linter.unusedVariables false
set_option linter.unusedSimpArgs false
set_option maxRecDepth 20000 in
theorem equalI_any (xsa : Option Addr) (xs : List Int) (xsc : Nat) (xsn : Nat) (ysa : Option Addr) (ys : List Int) (ysc : Nat) (ysn : Nat) (w : World) (rxs : RdT (tyI .i64) w (.slice xsa xsn xsc) xs) (rys : RdT (tyI .i64) w (.slice ysa ysn ysc) ys) :
    Calls Try.prog 72 #[.slice xsa xsn xsc, .slice ysa ysn ysc] w (Ret fun v w' => v = .bool (decide (xs = ys)) ∧ Upd w [] w' []) := by
  obtain rfl : xsn = xs.length := rxs.len
  obtain rfl : ysn = ys.length := rys.len
  have le_rxs := rxs.le
  have le_rys := rys.le
  refine calls_of_W (args := [.slice xsa xs.length xsc, .slice ysa ys.length ysc]) Try.func72 rfl rfl rfl ?_
  have H0 : UpG w [] w [] := UpG.nil w
  show W _ _ _ _ [(0, .slice xsa xs.length xsc), (1, .slice ysa ys.length ysc)] w
  refine W.seq ?_
  refine W.region ?_
  refine WL.op rfl (d_assign rfl ?_)
  refine WL.done (X.then_code ?_)
  refine W.seq ?_
  refine W.seq ?_
  refine W.region ?_
  refine WL.op rfl (d_move rfl ?_)
  refine WL.op rfl (d_lenS Try.underlying22 rfl ?_)
  refine WL.op rfl (d_move rfl ?_)
  refine WL.op rfl (d_lenS Try.underlying22 rfl ?_)
  refine WL.op rfl (d_cmp (decide (((xs.length : Nat) : Int) ≠ ((ys.length : Nat) : Int))) rfl rfl rfl ?_)
  refine WL.done (X.then_code ?_)
  refine W.ite (p := ((xs.length : Nat) : Int) ≠ ((ys.length : Nat) : Int)) rfl (fun c21 => ?_) (fun c21 => ?_)
  · skip
    refine W.seq ?_
    refine W.region ?_
    refine WL.op rfl (d_assign rfl ?_)
    refine WL.done (X.then_code ?_)
    refine W.ret (X.then_ret (X.ret1 rfl rfl ?_))
    exact ⟨(by rw [decide_eq_false (by rintro rfl; omega)]), H0.noneL⟩
  · skip
    refine W.skip (X.then_code ?_)
    refine W.seq ?_
    refine W.seq ?_
    refine W.region ?_
    refine WL.op rfl (d_move rfl ?_)
    refine WL.op rfl (d_lenS Try.underlying22 rfl ?_)
    refine WL.op rfl (d_move rfl ?_)
    refine WL.done (X.then_code ?_)
    refine W.block ?_
    refine W.pick [13, 12, 4, 0, 1] (Γ' := [(13, .int .i64 0), (12, .int .i64 ((xs.length : Nat) : Int)), (4, .bool false), (0, .slice xsa xs.length xsc), (1, .slice ysa ys.length ysc)]) rfl ?_
    refine W.loop (fun m Γ' w' => ∃ k : Nat, Γ' = [(13, .int .i64 ((k : Nat) : Int)), (12, .int .i64 ((xs.length : Nat) : Int)), (4, .bool false), (0, .slice xsa xs.length xsc), (1, .slice ysa ys.length ysc)] ∧ UpG w [] w' [] ∧ (k ≤ xs.length) ∧ (∀ i, i < k → xs.getD i 0 = ys.getD i 0) ∧ m = xs.length - k) (xs.length - 0) ⟨0, rfl, H0, (by first | assumption | omega | simp), (by intro i hi; omega), rfl⟩ ?_
    rintro m1 Γ1 w1 ⟨k, rfl, H1, hk, he, rfl⟩
    refine W.seq ?_
    refine W.region ?_
    refine WL.op rfl (d_cmp (decide (((k : Nat) : Int) < ((xs.length : Nat) : Int))) rfl rfl rfl ?_)
    refine WL.done (X.then_code ?_)
    refine W.seq ?_
    refine W.ite (p := ((k : Nat) : Int) < ((xs.length : Nat) : Int)) rfl (fun c24 => ?_) (fun c24 => ?_)
    · skip
      refine W.skip (X.then_code ?_)
      refine W.seq ?_
      refine W.block ?_
      refine W.seq ?_
      refine W.region ?_
      refine WL.op rfl (d_move rfl ?_)
      refine WL.op rfl (d_assign rfl ?_)
      refine WL.done (X.then_code ?_)
      refine W.seq ?_
      refine W.regionD mixed (by kernel_rfl) fun hok1 w2 k1 => ?_
      have H2 : UpG w [] w2 [] := H1.kept k1
      refine WD.take hok1 0 (.slice xsa xs.length xsc) (fun _ => True) rfl rfl rfl rfl rfl trivial (.inl ⟨rfl, fun _ _ => d_move rfl ⟨rfl, rfl⟩⟩) ?_
      refine WD.take hok1 1 (.int .i64 ((k : Nat) : Int)) (fun _ => True) rfl rfl rfl rfl rfl trivial (.inl ⟨rfl, fun _ _ => d_move rfl ⟨rfl, rfl⟩⟩) ?_
      refine WD.take hok1 2 (elemPtr (.slice xsa xs.length xsc) k) (fun w' => RdT (tyI .i64) w' (.slice xsa xs.length xsc) xs) rfl rfl rfl rfl rfl (rxs.at H2) (.inl ⟨rfl, fun _ hC => t_addr1 k (T := (tyI .i64)) rfl Try.underlying22 sz3 rfl rfl hC rfl (by omega) ⟨rfl, rfl⟩⟩) ?_
      refine WD.take hok1 3 (.int .i64 (xs.getD k 0)) (fun w' => RdT (tyI .i64) w' (.slice xsa xs.length xsc) xs) rfl rfl rfl rfl rfl (rxs.at H2) (.inl ⟨rfl, fun _ hC => t_load1 k 0 (T := (tyI .i64)) rfl Try.underlying3 rfl rfl hC (by omega) rfl ⟨rfl, rfl⟩⟩) ?_
      refine WD.take hok1 4 (.slice ysa ys.length ysc) (fun _ => True) rfl rfl rfl rfl rfl trivial (.inl ⟨rfl, fun _ _ => d_move rfl ⟨rfl, rfl⟩⟩) ?_
      refine WD.take hok1 5 (.int .i64 ((k : Nat) : Int)) (fun _ => True) rfl rfl rfl rfl rfl trivial (.inl ⟨rfl, fun _ _ => d_move rfl ⟨rfl, rfl⟩⟩) ?_
      refine WD.take hok1 6 (elemPtr (.slice ysa ys.length ysc) k) (fun w' => RdT (tyI .i64) w' (.slice ysa ys.length ysc) ys) rfl rfl rfl rfl rfl (rys.at H2) (.inl ⟨rfl, fun _ hC => t_addr1 k (T := (tyI .i64)) rfl Try.underlying22 sz3 rfl rfl hC rfl (by omega) ⟨rfl, rfl⟩⟩) ?_
      refine WD.take hok1 7 (.int .i64 (ys.getD k 0)) (fun w' => RdT (tyI .i64) w' (.slice ysa ys.length ysc) ys) rfl rfl rfl rfl rfl (rys.at H2) (.inl ⟨rfl, fun _ hC => t_load1 k 0 (T := (tyI .i64)) rfl Try.underlying3 rfl rfl hC (by omega) rfl ⟨rfl, rfl⟩⟩) ?_
      refine WD.take hok1 8 (.bool (decide ((xs.getD k 0) ≠ (ys.getD k 0)))) (fun _ => True) rfl rfl rfl rfl rfl trivial (.inl ⟨rfl, fun _ _ => d_cmp (decide ((xs.getD k 0) ≠ (ys.getD k 0))) rfl rfl rfl ⟨rfl, rfl⟩⟩) ?_
      refine WD.done hok1 rfl (X.then_code ?_)
      refine W.ite (p := (xs.getD k 0) ≠ (ys.getD k 0)) rfl (fun c25 => ?_) (fun c25 => ?_)
      · skip
        refine W.seq ?_
        refine W.region ?_
        refine WL.op rfl (d_assign rfl ?_)
        refine WL.done (X.then_code ?_)
        refine W.ret (X.block_ret (X.then_ret (X.then_ret (X.block_ret (X.then_ret (X.ret1 rfl rfl ?_))))))
        exact ⟨(by rw [decide_eq_false (by rintro rfl; exact c25 rfl)]), H2.noneL⟩
      · skip
        refine W.skip (X.block_normal (X.then_code ?_))
        refine W.region ?_
        refine WL.op rfl (d_add rfl rfl (by omega) (by omega) ?_)
        refine WL.op rfl (d_move rfl ?_)
        refine WL.done ?_
        exact X.next [13, 12, 4, 0, 1] (Γ' := [(13, .int .i64 (((k + 1) : Nat) : Int)), (12, .int .i64 ((xs.length : Nat) : Int)), (4, .bool false), (0, .slice xsa xs.length xsc), (1, .slice ysa ys.length ysc)]) rfl (xs.length - (k + 1)) (by omega) ⟨k + 1, rfl, H2, (by first | assumption | omega | simp), (by exact all_step he (by first | omega | (rcases h1 : xs.getD k 0 with _ | _ <;> rcases h2 : ys.getD k 0 with _ | _ <;> simp_all))), rfl⟩
    · skip
      refine W.exit (X.then_exit (X.then_exit (X.block_exit (X.then_code ?_))))
      refine W.seq ?_
      refine W.region ?_
      refine WL.op rfl (d_assign rfl ?_)
      refine WL.done (X.then_code ?_)
      refine W.ret (X.ret1 rfl rfl ?_)
      exact ⟨(by rw [decide_eq_true (list_eq_of (d := 0) (by omega) (fun i hi => he i (by omega)))]), H1.noneL⟩

set_option maxRecDepth 20000 in
theorem equalB_any (xsa : Option Addr) (xs : List Bool) (xsc : Nat) (xsn : Nat) (ysa : Option Addr) (ys : List Bool) (ysc : Nat) (ysn : Nat) (w : World) (rxs : RdT tyB w (.slice xsa xsn xsc) xs) (rys : RdT tyB w (.slice ysa ysn ysc) ys) :
    Calls Try.prog 75 #[.slice xsa xsn xsc, .slice ysa ysn ysc] w (Ret fun v w' => v = .bool (decide (xs = ys)) ∧ Upd w [] w' []) := by
  obtain rfl : xsn = xs.length := rxs.len
  obtain rfl : ysn = ys.length := rys.len
  have le_rxs := rxs.le
  have le_rys := rys.le
  refine calls_of_W (args := [.slice xsa xs.length xsc, .slice ysa ys.length ysc]) Try.func75 rfl rfl rfl ?_
  have H0 : UpG w [] w [] := UpG.nil w
  show W _ _ _ _ [(0, .slice xsa xs.length xsc), (1, .slice ysa ys.length ysc)] w
  refine W.seq ?_
  refine W.region ?_
  refine WL.op rfl (d_assign rfl ?_)
  refine WL.done (X.then_code ?_)
  refine W.seq ?_
  refine W.seq ?_
  refine W.region ?_
  refine WL.op rfl (d_move rfl ?_)
  refine WL.op rfl (d_lenS Try.underlying23 rfl ?_)
  refine WL.op rfl (d_move rfl ?_)
  refine WL.op rfl (d_lenS Try.underlying23 rfl ?_)
  refine WL.op rfl (d_cmp (decide (((xs.length : Nat) : Int) ≠ ((ys.length : Nat) : Int))) rfl rfl rfl ?_)
  refine WL.done (X.then_code ?_)
  refine W.ite (p := ((xs.length : Nat) : Int) ≠ ((ys.length : Nat) : Int)) rfl (fun c21 => ?_) (fun c21 => ?_)
  · skip
    refine W.seq ?_
    refine W.region ?_
    refine WL.op rfl (d_assign rfl ?_)
    refine WL.done (X.then_code ?_)
    refine W.ret (X.then_ret (X.ret1 rfl rfl ?_))
    exact ⟨(by rw [decide_eq_false (by rintro rfl; omega)]), H0.noneL⟩
  · skip
    refine W.skip (X.then_code ?_)
    refine W.seq ?_
    refine W.seq ?_
    refine W.region ?_
    refine WL.op rfl (d_move rfl ?_)
    refine WL.op rfl (d_lenS Try.underlying23 rfl ?_)
    refine WL.op rfl (d_move rfl ?_)
    refine WL.done (X.then_code ?_)
    refine W.block ?_
    refine W.pick [13, 12, 4, 0, 1] (Γ' := [(13, .int .i64 0), (12, .int .i64 ((xs.length : Nat) : Int)), (4, .bool false), (0, .slice xsa xs.length xsc), (1, .slice ysa ys.length ysc)]) rfl ?_
    refine W.loop (fun m Γ' w' => ∃ k : Nat, Γ' = [(13, .int .i64 ((k : Nat) : Int)), (12, .int .i64 ((xs.length : Nat) : Int)), (4, .bool false), (0, .slice xsa xs.length xsc), (1, .slice ysa ys.length ysc)] ∧ UpG w [] w' [] ∧ (k ≤ xs.length) ∧ (∀ i, i < k → xs.getD i false = ys.getD i false) ∧ m = xs.length - k) (xs.length - 0) ⟨0, rfl, H0, (by first | assumption | omega | simp), (by intro i hi; omega), rfl⟩ ?_
    rintro m1 Γ1 w1 ⟨k, rfl, H1, hk, he, rfl⟩
    refine W.seq ?_
    refine W.region ?_
    refine WL.op rfl (d_cmp (decide (((k : Nat) : Int) < ((xs.length : Nat) : Int))) rfl rfl rfl ?_)
    refine WL.done (X.then_code ?_)
    refine W.seq ?_
    refine W.ite (p := ((k : Nat) : Int) < ((xs.length : Nat) : Int)) rfl (fun c24 => ?_) (fun c24 => ?_)
    · skip
      refine W.skip (X.then_code ?_)
      refine W.seq ?_
      refine W.block ?_
      refine W.seq ?_
      refine W.region ?_
      refine WL.op rfl (d_move rfl ?_)
      refine WL.op rfl (d_assign rfl ?_)
      refine WL.done (X.then_code ?_)
      refine W.seq ?_
      refine W.regionD mixed (by kernel_rfl) fun hok1 w2 k1 => ?_
      have H2 : UpG w [] w2 [] := H1.kept k1
      refine WD.take hok1 0 (.slice xsa xs.length xsc) (fun _ => True) rfl rfl rfl rfl rfl trivial (.inl ⟨rfl, fun _ _ => d_move rfl ⟨rfl, rfl⟩⟩) ?_
      refine WD.take hok1 1 (.int .i64 ((k : Nat) : Int)) (fun _ => True) rfl rfl rfl rfl rfl trivial (.inl ⟨rfl, fun _ _ => d_move rfl ⟨rfl, rfl⟩⟩) ?_
      refine WD.take hok1 2 (elemPtr (.slice xsa xs.length xsc) k) (fun w' => RdT tyB w' (.slice xsa xs.length xsc) xs) rfl rfl rfl rfl rfl (rxs.at H2) (.inl ⟨rfl, fun _ hC => t_addr1 k (T := tyB) rfl Try.underlying23 sz4 rfl rfl hC rfl (by omega) ⟨rfl, rfl⟩⟩) ?_
      refine WD.take hok1 3 (.bool (xs.getD k false)) (fun w' => RdT tyB w' (.slice xsa xs.length xsc) xs) rfl rfl rfl rfl rfl (rxs.at H2) (.inl ⟨rfl, fun _ hC => t_load1 k false (T := tyB) rfl Try.underlying4 rfl rfl hC (by omega) rfl ⟨rfl, rfl⟩⟩) ?_
      refine WD.take hok1 4 (.slice ysa ys.length ysc) (fun _ => True) rfl rfl rfl rfl rfl trivial (.inl ⟨rfl, fun _ _ => d_move rfl ⟨rfl, rfl⟩⟩) ?_
      refine WD.take hok1 5 (.int .i64 ((k : Nat) : Int)) (fun _ => True) rfl rfl rfl rfl rfl trivial (.inl ⟨rfl, fun _ _ => d_move rfl ⟨rfl, rfl⟩⟩) ?_
      refine WD.take hok1 6 (elemPtr (.slice ysa ys.length ysc) k) (fun w' => RdT tyB w' (.slice ysa ys.length ysc) ys) rfl rfl rfl rfl rfl (rys.at H2) (.inl ⟨rfl, fun _ hC => t_addr1 k (T := tyB) rfl Try.underlying23 sz4 rfl rfl hC rfl (by omega) ⟨rfl, rfl⟩⟩) ?_
      refine WD.take hok1 7 (.bool (ys.getD k false)) (fun w' => RdT tyB w' (.slice ysa ys.length ysc) ys) rfl rfl rfl rfl rfl (rys.at H2) (.inl ⟨rfl, fun _ hC => t_load1 k false (T := tyB) rfl Try.underlying4 rfl rfl hC (by omega) rfl ⟨rfl, rfl⟩⟩) ?_
      refine WD.take hok1 8 (.bool (decide ((xs.getD k false) ≠ (ys.getD k false)))) (fun _ => True) rfl rfl rfl rfl rfl trivial (.inl ⟨rfl, fun _ _ => d_boolne Try.underlying4 rfl rfl ⟨rfl, rfl⟩⟩) ?_
      refine WD.done hok1 rfl (X.then_code ?_)
      refine W.ite (p := (xs.getD k false) ≠ (ys.getD k false)) rfl (fun c25 => ?_) (fun c25 => ?_)
      · skip
        refine W.seq ?_
        refine W.region ?_
        refine WL.op rfl (d_assign rfl ?_)
        refine WL.done (X.then_code ?_)
        refine W.ret (X.block_ret (X.then_ret (X.then_ret (X.block_ret (X.then_ret (X.ret1 rfl rfl ?_))))))
        exact ⟨(by rw [decide_eq_false (by rintro rfl; exact c25 rfl)]), H2.noneL⟩
      · skip
        refine W.skip (X.block_normal (X.then_code ?_))
        refine W.region ?_
        refine WL.op rfl (d_add rfl rfl (by omega) (by omega) ?_)
        refine WL.op rfl (d_move rfl ?_)
        refine WL.done ?_
        exact X.next [13, 12, 4, 0, 1] (Γ' := [(13, .int .i64 (((k + 1) : Nat) : Int)), (12, .int .i64 ((xs.length : Nat) : Int)), (4, .bool false), (0, .slice xsa xs.length xsc), (1, .slice ysa ys.length ysc)]) rfl (xs.length - (k + 1)) (by omega) ⟨k + 1, rfl, H2, (by first | assumption | omega | simp), (by exact all_step he (by first | omega | (rcases h1 : xs.getD k false with _ | _ <;> rcases h2 : ys.getD k false with _ | _ <;> simp_all))), rfl⟩
    · skip
      refine W.exit (X.then_exit (X.then_exit (X.block_exit (X.then_code ?_))))
      refine W.seq ?_
      refine W.region ?_
      refine WL.op rfl (d_assign rfl ?_)
      refine WL.done (X.then_code ?_)
      refine W.ret (X.ret1 rfl rfl ?_)
      exact ⟨(by rw [decide_eq_true (list_eq_of (d := false) (by omega) (fun i hi => he i (by omega)))]), H1.noneL⟩

set_option maxRecDepth 20000 in
theorem same10_any (xsa : Option Addr) (xs : List Int) (xsc : Nat) (xsn : Nat) (ysa : Option Addr) (ys : List Int) (ysc : Nat) (ysn : Nat) (w : World) (rxs : RdT (tyI .i64) w (.slice xsa xsn xsc) xs) (rys : RdT (tyI .i64) w (.slice ysa ysn ysc) ys) :
    Calls Try.prog 32 #[.slice xsa xsn xsc, .slice ysa ysn ysc] w (Ret fun v w' => v = .bool (decide (xs = ys)) ∧ Upd w [] w' []) := by
  obtain rfl : xsn = xs.length := rxs.len
  obtain rfl : ysn = ys.length := rys.len
  have le_rxs := rxs.le
  have le_rys := rys.le
  refine calls_of_W (args := [.slice xsa xs.length xsc, .slice ysa ys.length ysc]) Try.func32 rfl rfl rfl ?_
  have H0 : UpG w [] w [] := UpG.nil w
  show W _ _ _ _ [(0, .slice xsa xs.length xsc), (1, .slice ysa ys.length ysc)] w
  refine W.seq ?_
  refine W.region ?_
  refine WL.op rfl (d_assign rfl ?_)
  refine WL.done (X.then_code ?_)
  refine W.seq ?_
  refine W.seq ?_
  refine W.region ?_
  refine WL.op rfl (d_move rfl ?_)
  refine WL.op rfl (d_lenS Try.underlying22 rfl ?_)
  refine WL.op rfl (d_move rfl ?_)
  refine WL.op rfl (d_lenS Try.underlying22 rfl ?_)
  refine WL.op rfl (d_cmp (decide (((xs.length : Nat) : Int) ≠ ((ys.length : Nat) : Int))) rfl rfl rfl ?_)
  refine WL.done (X.then_code ?_)
  refine W.ite (p := ((xs.length : Nat) : Int) ≠ ((ys.length : Nat) : Int)) rfl (fun c92 => ?_) (fun c92 => ?_)
  · skip
    refine W.seq ?_
    refine W.region ?_
    refine WL.op rfl (d_assign rfl ?_)
    refine WL.done (X.then_code ?_)
    refine W.ret (X.then_ret (X.ret1 rfl rfl ?_))
    exact ⟨(by rw [decide_eq_false (by rintro rfl; omega)]), H0.noneL⟩
  · skip
    refine W.skip (X.then_code ?_)
    refine W.seq ?_
    refine W.seq ?_
    refine W.region ?_
    refine WL.op rfl (d_assign rfl ?_)
    refine WL.done (X.then_code ?_)
    refine W.block ?_
    refine W.pick [5, 4, 0, 1] (Γ' := [(5, .int .i64 0), (4, .bool false), (0, .slice xsa xs.length xsc), (1, .slice ysa ys.length ysc)]) rfl ?_
    refine W.loop (fun m Γ' w' => ∃ k : Nat, Γ' = [(5, .int .i64 ((k : Nat) : Int)), (4, .bool false), (0, .slice xsa xs.length xsc), (1, .slice ysa ys.length ysc)] ∧ UpG w [] w' [] ∧ (k ≤ xs.length) ∧ (∀ i, i < k → xs.getD i 0 = ys.getD i 0) ∧ m = xs.length - k) (xs.length - 0) ⟨0, rfl, H0, (by first | assumption | omega | simp), (by intro i hi; omega), rfl⟩ ?_
    rintro m1 Γ1 w1 ⟨k, rfl, H1, hk, he, rfl⟩
    refine W.seq ?_
    refine W.seq ?_
    refine W.region ?_
    refine WL.op rfl (d_move rfl ?_)
    refine WL.op rfl (d_move rfl ?_)
    refine WL.op rfl (d_lenS Try.underlying22 rfl ?_)
    refine WL.op rfl (d_cmp (decide (((k : Nat) : Int) < ((xs.length : Nat) : Int))) rfl rfl rfl ?_)
    refine WL.done (X.then_code ?_)
    refine W.ite (p := ((k : Nat) : Int) < ((xs.length : Nat) : Int)) rfl (fun c95 => ?_) (fun c95 => ?_)
    · skip
      refine W.skip (X.then_code ?_)
      refine W.seq ?_
      refine W.block ?_
      refine W.seq ?_
      refine W.regionD mixed (by kernel_rfl) fun hok1 w2 k1 => ?_
      have H2 : UpG w [] w2 [] := H1.kept k1
      refine WD.take hok1 0 (.slice xsa xs.length xsc) (fun _ => True) rfl rfl rfl rfl rfl trivial (.inl ⟨rfl, fun _ _ => d_move rfl ⟨rfl, rfl⟩⟩) ?_
      refine WD.take hok1 1 (.int .i64 ((k : Nat) : Int)) (fun _ => True) rfl rfl rfl rfl rfl trivial (.inl ⟨rfl, fun _ _ => d_move rfl ⟨rfl, rfl⟩⟩) ?_
      refine WD.take hok1 2 (elemPtr (.slice xsa xs.length xsc) k) (fun w' => RdT (tyI .i64) w' (.slice xsa xs.length xsc) xs) rfl rfl rfl rfl rfl (rxs.at H2) (.inl ⟨rfl, fun _ hC => t_addr1 k (T := (tyI .i64)) rfl Try.underlying22 sz3 rfl rfl hC rfl (by omega) ⟨rfl, rfl⟩⟩) ?_
      refine WD.take hok1 3 (.int .i64 (xs.getD k 0)) (fun w' => RdT (tyI .i64) w' (.slice xsa xs.length xsc) xs) rfl rfl rfl rfl rfl (rxs.at H2) (.inl ⟨rfl, fun _ hC => t_load1 k 0 (T := (tyI .i64)) rfl Try.underlying3 rfl rfl hC (by omega) rfl ⟨rfl, rfl⟩⟩) ?_
      refine WD.take hok1 4 (.slice ysa ys.length ysc) (fun _ => True) rfl rfl rfl rfl rfl trivial (.inl ⟨rfl, fun _ _ => d_move rfl ⟨rfl, rfl⟩⟩) ?_
      refine WD.take hok1 5 (.int .i64 ((k : Nat) : Int)) (fun _ => True) rfl rfl rfl rfl rfl trivial (.inl ⟨rfl, fun _ _ => d_move rfl ⟨rfl, rfl⟩⟩) ?_
      refine WD.take hok1 6 (elemPtr (.slice ysa ys.length ysc) k) (fun w' => RdT (tyI .i64) w' (.slice ysa ys.length ysc) ys) rfl rfl rfl rfl rfl (rys.at H2) (.inl ⟨rfl, fun _ hC => t_addr1 k (T := (tyI .i64)) rfl Try.underlying22 sz3 rfl rfl hC rfl (by omega) ⟨rfl, rfl⟩⟩) ?_
      refine WD.take hok1 7 (.int .i64 (ys.getD k 0)) (fun w' => RdT (tyI .i64) w' (.slice ysa ys.length ysc) ys) rfl rfl rfl rfl rfl (rys.at H2) (.inl ⟨rfl, fun _ hC => t_load1 k 0 (T := (tyI .i64)) rfl Try.underlying3 rfl rfl hC (by omega) rfl ⟨rfl, rfl⟩⟩) ?_
      refine WD.take hok1 8 (.bool (decide ((xs.getD k 0) ≠ (ys.getD k 0)))) (fun _ => True) rfl rfl rfl rfl rfl trivial (.inl ⟨rfl, fun _ _ => d_cmp (decide ((xs.getD k 0) ≠ (ys.getD k 0))) rfl rfl rfl ⟨rfl, rfl⟩⟩) ?_
      refine WD.done hok1 rfl (X.then_code ?_)
      refine W.ite (p := (xs.getD k 0) ≠ (ys.getD k 0)) rfl (fun c96 => ?_) (fun c96 => ?_)
      · skip
        refine W.seq ?_
        refine W.region ?_
        refine WL.op rfl (d_assign rfl ?_)
        refine WL.done (X.then_code ?_)
        refine W.ret (X.block_ret (X.then_ret (X.then_ret (X.block_ret (X.then_ret (X.ret1 rfl rfl ?_))))))
        exact ⟨(by rw [decide_eq_false (by rintro rfl; exact c96 rfl)]), H2.noneL⟩
      · skip
        refine W.skip (X.block_normal (X.then_code ?_))
        refine W.region ?_
        refine WL.op rfl (d_move rfl ?_)
        refine WL.op rfl (d_add rfl rfl (by omega) (by omega) ?_)
        refine WL.op rfl (d_assign rfl ?_)
        refine WL.done ?_
        exact X.next [5, 4, 0, 1] (Γ' := [(5, .int .i64 (((k + 1) : Nat) : Int)), (4, .bool false), (0, .slice xsa xs.length xsc), (1, .slice ysa ys.length ysc)]) rfl (xs.length - (k + 1)) (by omega) ⟨k + 1, rfl, H2, (by first | assumption | omega | simp), (by exact all_step he (by omega)), rfl⟩
    · skip
      refine W.exit (X.then_exit (X.then_exit (X.block_exit (X.then_code ?_))))
      refine W.seq ?_
      refine W.region ?_
      refine WL.op rfl (d_assign rfl ?_)
      refine WL.done (X.then_code ?_)
      refine W.ret (X.ret1 rfl rfl ?_)
      exact ⟨(by rw [decide_eq_true (list_eq_of (d := 0) (by omega) (fun i hi => he i (by omega)))]), H1.noneL⟩

set_option maxRecDepth 20000 in
theorem cloneI_any (sa : Option Addr) (s : List Int) (sc : Nat) (sn : Nat) (w : World) (rs : RdT (tyI .i64) w (.slice sa sn sc) s) (hl : s.length * 8 ≤ 140737488355328) :
    Calls Try.prog 66 #[.slice sa sn sc] w (Ret fun v w' => ∃ a2 : Option Addr, ∃ c2 : Nat, v = .slice a2 s.length c2 ∧ Upd w [] w' [rowT (tyI .i64) (.slice a2 s.length c2) 3 s]) := by
  obtain rfl : sn = s.length := rs.len
  have le_rs := rs.le
  refine calls_of_W (args := [.slice sa s.length sc]) Try.func66 rfl rfl rfl ?_
  have H0 : UpG w [] w [] := UpG.nil w
  show W _ _ _ _ [(0, .slice sa s.length sc)] w
  refine W.seq ?_
  refine W.region ?_
  refine WL.op rfl (d_assign rfl ?_)
  refine WL.done (X.then_code ?_)
  refine W.seq ?_
  refine W.seq ?_
  refine W.region ?_
  refine WL.op rfl (d_move rfl ?_)
  refine WL.op rfl (d_slcnil Try.underlying22 rfl ?_)
  refine WL.done (X.then_code ?_)
  refine W.ite (p := sa = none) rfl (fun c357 => ?_) (fun c357 => ?_)
  · skip
    refine W.seq ?_
    refine W.region ?_
    refine WL.op rfl (d_assign rfl ?_)
    refine WL.done (X.then_code ?_)
    refine W.ret (X.then_ret (X.ret1 rfl rfl ?_))
    have e : s = [] := rs.nilOf c357
    subst e
    exact ⟨none, 0, (by rfl), nilOwn H0⟩
  · skip
    refine W.skip (X.then_code ?_)
    refine W.seq ?_
    refine W.region ?_
    refine WL.op rfl (t_buildSlice0 (T := (tyI .i64)) rfl Try.underlying22 sz3 fun w1 u1 => ?_)
    have H1 : UpG w [] w1 [[rowT (tyI .i64) (.slice (some ⟨w.heap.size, 0, none⟩) (([] : List Int).length) 0) 3 ([] : List Int)]] := H0.new' u1
    refine WL.op rfl (d_move rfl ?_)
    refine WL.op rfl (t_append (T := (tyI .i64)) (xs := ([] : List Int)) (ys := s) rfl Try.underlying22 sz3 rfl rfl rfl (H1.ownT 0 rfl) (rs.at H1) (by simp; omega) (by simp; omega) fun a1 c1 w2 u2 => ?_)
    have H2 : UpG w [] w2 [[rowT (tyI .i64) (.slice a1 ((([] : List Int) ++ s).length) c1) 3 (([] : List Int) ++ s)]] := H1.on 0 rfl u2
    refine WL.op rfl (d_assign rfl ?_)
    refine WL.done (X.then_code ?_)
    refine W.ret (X.ret1 rfl rfl ?_)
    exact ⟨a1, c1, (by rfl), (by have hh := H2.one 0 rfl; exact hh)⟩
end Go.Proofs.Ytoeockpkkmgieaa

/- The keys of the seat's maps. -/
namespace Go.Proofs.Ytoeockpkkmgieaa
open Go Go.Sx
theorem key3 : KeyS Try.prog 3 (fun a : Int => .int .i64 a) := keyI Try.underlying3
theorem key9 : KeyS Try.prog 9 (fun a : ByteArray => .string a) := keyStr Try.underlying9
theorem key130 : KeyS Try.prog 130 encP := keyP (by kernel_rfl) (by kernel_rfl) (fun _ _ _ _ => by kernel_rfl)
theorem key105 : KeyS Try.prog 105 encP := keyP (by kernel_rfl) (by kernel_rfl) (fun _ _ _ _ => by kernel_rfl)
end Go.Proofs.Ytoeockpkkmgieaa

/- Classes of symbols: their first places, and two lists joined, as data. Conditions: those of each theorem. -/
namespace Go.Sx
set_option linter.unusedVariables false
set_option linter.unusedSimpArgs false
def firstI (c : Int) (l : List Int) : Int := if c ∈ l then ((ix c l : Nat) : Int) else -1
def firstsI (l : List Int) (width : Int) : List Int := List.map (fun c : Nat => firstI (c : Int) l) (List.range (min width 259).toNat)
theorem ix_snoc {α : Type} [DecidableEq α] {x : α} : ∀ {l : List α}, x ∉ l → ix x (l ++ [x]) = l.length
  | [], _ => by simp [ix]
  | y :: l, h => by
    simp only [List.mem_cons, not_or] at h
    simp only [List.cons_append, ix, if_neg h.1, ix_snoc h.2, List.length_cons]
theorem firstsI_len (l : List Int) (width : Int) : (firstsI l width).length = (min width 259).toNat := by simp [firstsI]
theorem firstI_snoc (c : Int) (l : List Int) (x : Int) : firstI c (l ++ [x]) = if c ∈ l then firstI c l else if x = c then (l.length : Int) else -1 := by
  unfold firstI
  by_cases h : c ∈ l
  · rw [if_pos (by simp [h]), if_pos h, if_pos h, ix_app _ h]
  · rw [if_neg h]
    by_cases e : x = c
    · subst e
      rw [if_pos (by simp), if_pos rfl]
      have := ix_snoc h
      rw [this]
    · rw [if_neg (by simp [h]; exact fun e' => e e'.symm), if_neg e]
theorem firstI_neg {c : Int} {l : List Int} : firstI c l < 0 ↔ c ∉ l := by
  unfold firstI; split <;> rename_i h <;> simp [h]
/-- Behind k places. -/
structure FsI (l : List Int) (n : Nat) (q : List Int) (k : Nat) : Prop where
  len : q.length = n
  val : ∀ c : Nat, c < n → q.getD c 0 = firstI (c : Int) (l.take k)
theorem FsI.start (l : List Int) (n : Nat) : FsI l n (List.replicate n (-1)) 0 := ⟨by simp, fun c hc => by simp [List.getD_eq_getElem?_getD, hc, firstI]⟩
theorem take_succ_getD {α : Type} {l : List α} {k : Nat} (d : α) (h : k < l.length) : l.take (k + 1) = l.take k ++ [l.getD k d] := by
  rw [List.take_add_one, List.getElem?_eq_getElem h]; simp [List.getD_eq_getElem?_getD, List.getElem?_eq_getElem h]
theorem getD_setI {q : List Int} {i j : Nat} {b : Int} (hi : i < q.length) : (q.set i b).getD j 0 = if i = j then b else q.getD j 0 := by
  simp only [List.getD_eq_getElem?_getD, List.getElem?_set]
  split
  · rename_i e; subst e; simp [hi]
  · rfl
theorem FsI.skip {l : List Int} {n : Nat} {q : List Int} {k : Nat} (h : FsI l n q k) (hk : k < l.length) (hc : ¬ (0 ≤ l.getD k 0 ∧ l.getD k 0 < (n : Int) ∧ q.getD (l.getD k 0).toNat 0 < 0)) : FsI l n q (k + 1) := by
  refine ⟨h.len, fun c hcn => ?_⟩
  rw [take_succ_getD 0 hk, firstI_snoc, h.val c hcn]
  split
  · rfl
  · rename_i hn
    rw [if_neg (fun e => hc ⟨by omega, by omega, ?_⟩)]
    · unfold firstI; rw [if_neg hn]
    · rw [e, Int.toNat_natCast, h.val c hcn, firstI_neg]; exact hn
theorem FsI.put {l : List Int} {n : Nat} {q : List Int} {k : Nat} (h : FsI l n q k) (hk : k < l.length) (h0 : 0 ≤ l.getD k 0) (h1 : l.getD k 0 < (n : Int)) (h2 : q.getD (l.getD k 0).toNat 0 < 0) : FsI l n (q.set (l.getD k 0).toNat (k : Int)) (k + 1) := by
  have hl : (l.getD k 0).toNat < q.length := by rw [h.len]; omega
  have hx : l.getD k 0 ∉ l.take k := by
    have := h.val (l.getD k 0).toNat (by omega)
    rw [this, Int.toNat_of_nonneg h0, firstI_neg] at h2; exact h2
  refine ⟨by simp [h.len], fun c hcn => ?_⟩
  rw [getD_setI hl, take_succ_getD 0 hk, firstI_snoc]
  split
  · rename_i e
    have e' : l.getD k 0 = (c : Int) := by omega
    rw [← e', if_neg hx, if_pos rfl, List.length_take]
    congr 1; omega
  · rename_i e
    rw [h.val c hcn]
    split
    · rfl
    · rename_i hn
      rw [if_neg (by omega)]
      unfold firstI; rw [if_neg hn]
theorem FsI.fin {l : List Int} {width : Int} {q : List Int} {k : Nat} (h : FsI l (min width 259).toNat q k) (hk : l.length ≤ k) : firstsI l width = q := by
  refine list_eq_of (d := 0) (by rw [firstsI_len, h.len]) fun i hi => ?_
  rw [firstsI_len] at hi
  rw [h.val i hi, List.take_of_length_le hk]
  simp [firstsI, List.getD_eq_getElem?_getD, hi]
theorem firstsI_get {l : List Int} {width : Int} {c : Nat} (h : c < (min width 259).toNat) : (firstsI l width).getD c 0 = firstI (c : Int) l := by simp [firstsI, List.getD_eq_getElem?_getD, h]

/-! ### Two lists joined -/
def joinL (a b : List Int) : List Int := if a.length = b.length then numL (a.zip b) else []
def joinN (a b : List Int) : Int := if a.length = b.length then (((dd (a.zip b)).length : Nat) : Int) else 0
theorem joinL_len {a b : List Int} (h : a.length = b.length) : (joinL a b).length = a.length := by rw [joinL, if_pos h]; simp [numL, h]
theorem zip_getD {a b : List Int} {k : Nat} (ha : k < a.length) (hb : k < b.length) : (a.zip b).getD k (0, 0) = (a.getD k 0, b.getD k 0) := by
  simp [List.getD_eq_getElem?_getD, ha, hb, List.getElem?_eq_getElem (show k < (a.zip b).length by simp; omega)]
structure JnI (z : List (Int × Int)) (q : List Int) (m : List ((Int × Int) × Int)) (k : Nat) : Prop where
  len : q.length = z.length
  val : ∀ j, j < k → q.getD j 0 = ((ix (z.getD j (0, 0)) (dd z) : Nat) : Int)
  map : m = nmap (z.take k)
theorem JnI.start (z : List (Int × Int)) : JnI z (List.replicate z.length 0) [] 0 := ⟨by simp, fun j h => by omega, by simp [nmap, dd]⟩
theorem mem_dd_take {z : List (Int × Int)} {k : Nat} {p : Int × Int} (h : p ∈ dd (z.take k)) : ix p (dd z) = ix p (dd (z.take k)) := by
  have := dd_idx (z.take k) (z.drop k) h
  rwa [List.take_append_drop] at this
theorem JnI.old {z : List (Int × Int)} {q : List Int} {m : List ((Int × Int) × Int)} {k : Nat} {p : Int × Int} (h : JnI z q m k) (hk : k < z.length) (hp : z.getD k (0, 0) = p) (hs : (getM m p).isSome = true) : JnI z (q.set k ((getM m p).getD 0)) m (k + 1) := by
  have hl : k < q.length := by rw [h.len]; exact hk
  rw [h.map, nmap_get] at hs
  have hm : p ∈ z.take k := by
    by_cases e : p ∈ z.take k
    · exact e
    · rw [if_neg e] at hs; cases hs
  refine ⟨by simp [h.len], fun j hj => ?_, ?_⟩
  · rw [getD_setI hl]
    split
    · rename_i e; subst e
      rw [h.map, nmap_get, if_pos hm, hp, mem_dd_take ((dd_mem _ _).2 hm)]; rfl
    · exact h.val j (by omega)
  · rw [take_succ_getD (0, 0) hk, hp, nmap_old hm, h.map]
theorem JnI.new {z : List (Int × Int)} {q : List Int} {m : List ((Int × Int) × Int)} {k : Nat} {p : Int × Int} (h : JnI z q m k) (hk : k < z.length) (hp : z.getD k (0, 0) = p) (hs : ¬ (getM m p).isSome = true) : JnI z (q.set k ((m.length : Nat) : Int)) (putM m p ((m.length : Nat) : Int)) (k + 1) := by
  have hl : k < q.length := by rw [h.len]; exact hk
  rw [h.map, nmap_get] at hs
  have hm : p ∉ z.take k := fun e => by rw [if_pos e] at hs; exact hs rfl
  have hmd : p ∉ dd (z.take k) := fun e => hm ((dd_mem _ _).1 e)
  refine ⟨by simp [h.len], fun j hj => ?_, ?_⟩
  · rw [getD_setI hl]
    split
    · rename_i e; subst e
      have e1 : dd (z.take (k + 1)) = dd (z.take k) ++ [p] := by rw [take_succ_getD (0, 0) hk, hp, dd_snoc, if_neg hmd]
      have e2 : p ∈ dd (z.take (k + 1)) := by rw [e1]; simp
      rw [hp, mem_dd_take e2, e1, h.map, nmap_len]
      rw [ix_snoc hmd]
    · exact h.val j (by omega)
  · rw [take_succ_getD (0, 0) hk, hp, h.map, nmap_new hm]
theorem JnI.fin {a b q : List Int} {m : List ((Int × Int) × Int)} {k : Nat} (h : JnI (a.zip b) q m k) (hab : a.length = b.length) (hk : k = a.length) : joinL a b = q ∧ joinN a b = ((m.length : Nat) : Int) := by
  have hzl : (a.zip b).length = a.length := by simp [hab]
  constructor
  · rw [joinL, if_pos hab]
    refine list_eq_of (d := 0) (by simp [numL, h.len]) fun i hi => ?_
    have hi' : i < (a.zip b).length := by simpa [numL] using hi
    rw [h.val i (by omega)]
    simp only [numL, List.getD_eq_getElem?_getD, List.getElem?_map, List.getElem?_eq_getElem hi', Option.map_some, Option.getD_some]
  · rw [joinN, if_pos hab, h.map, nmap_len, List.take_of_length_le (by omega)]
end Go.Sx

/- The walks of functions, printed by wip/tools/gw.py. -/
namespace Go.Proofs.Ytoeockpkkmgieaa
open Go Go.Sx
set_option linter.unusedVariables false
set_option linter.unusedSimpArgs false
set_option maxRecDepth 20000 in
theorem firsts_any (clsa : Option Addr) (cls : List Int) (clsc : Nat) (width : Int) (w : World) (rcls : RdT (tyI .i64) w (.slice clsa cls.length clsc) cls) :
    Calls Try.prog 78 #[.slice clsa cls.length clsc, .int .i64 width] w (Ret fun v w' => ∃ a2 : Option Addr, ∃ c2 : Nat, v = .slice a2 ((firstsI cls width).length) c2 ∧ Upd w [] w' [rowT (tyI .i64) (.slice a2 ((firstsI cls width).length) c2) 3 (firstsI cls width)]) := by
  have le_rcls := rcls.le
  refine calls_of_W (args := [.slice clsa cls.length clsc, .int .i64 width]) Try.func78 rfl rfl rfl ?_
  have H0 : UpG w [] w [] := UpG.nil w
  show W _ _ _ _ [(0, .slice clsa cls.length clsc), (1, .int .i64 width)] w
  refine W.seq ?_
  refine W.region ?_
  refine WL.op rfl (d_assign rfl ?_)
  refine WL.done (X.then_code ?_)
  refine W.seq ?_
  refine W.region ?_
  refine WL.op rfl (d_assign rfl ?_)
  refine WL.done (X.then_code ?_)
  refine W.seq ?_
  refine W.seq ?_
  refine W.region ?_
  refine WL.op rfl (d_move rfl ?_)
  refine WL.op rfl (d_min rfl rfl ?_)
  refine WL.op rfl (d_move rfl ?_)
  refine WL.done (X.then_code ?_)
  refine W.block ?_
  have H1 : UpG w [] w [[rowT (tyI .i64) (.slice none (([] : List Int).length) 0) 3 ([] : List Int)]] := H0.new' (Upd.nilRowT w (tyI .i64) 3)
  refine W.pick [10, 9, 5, 4, 0] (Γ' := [(10, .int .i64 0), (9, .int .i64 (min width 259)), (5, .slice none (([] : List Int).length) 0), (4, .slice none 0 0), (0, .slice clsa cls.length clsc)]) rfl ?_
  refine W.loop (fun m Γ' w' => ∃ k : Nat, ∃ q : List Int, ∃ qa : Option Addr, ∃ qc : Nat, Γ' = [(10, .int .i64 ((k : Nat) : Int)), (9, .int .i64 (min width 259)), (5, .slice qa q.length qc), (4, .slice none 0 0), (0, .slice clsa cls.length clsc)] ∧ UpG w [] w' [[rowT (tyI .i64) (.slice qa q.length qc) 3 q]] ∧ (k ≤ (min width 259).toNat) ∧ (q = List.replicate k (-1)) ∧ (q.length = k) ∧ m = (min width 259).toNat - k) ((min width 259).toNat - 0) ⟨0, ([] : List Int), none, 0, rfl, H1, (by first | assumption | omega | simp), (by rfl), (by rfl), rfl⟩ ?_
  rintro m1 Γ1 w1 ⟨k, q, qa, qc, rfl, H2, hk, hq, hql, rfl⟩
  refine W.seq ?_
  refine W.region ?_
  refine WL.op rfl (d_cmp (decide (((k : Nat) : Int) < (min width 259))) rfl rfl rfl ?_)
  refine WL.done (X.then_code ?_)
  refine W.seq ?_
  refine W.ite (p := ((k : Nat) : Int) < (min width 259)) rfl (fun c59 => ?_) (fun c59 => ?_)
  · skip
    refine W.skip (X.then_code ?_)
    refine W.seq ?_
    refine W.block ?_
    refine W.region ?_
    refine WL.op rfl (d_move rfl ?_)
    refine WL.op rfl (t_buildSlice (T := (tyI .i64)) (xs := [-1]) (cs := #[.int .i64 (-1)]) rfl Try.underlying22 sz3 rfl rfl rfl rfl (by kernel_rfl) rfl rfl fun w2 u1 => ?_)
    have H3 : UpG w [] w2 [[rowT (tyI .i64) (.slice qa q.length qc) 3 q], [rowT (tyI .i64) (.slice (some ⟨w1.heap.size, 0, none⟩) ([-1].length) ([-1].length)) 3 [-1]]] := H2.new' u1
    refine WL.op rfl (t_append (T := (tyI .i64)) (xs := q) (ys := [-1]) rfl Try.underlying22 sz3 rfl rfl rfl (H3.ownT 0 rfl) (H3.rdT 1 rfl) (by simp only [List.length_singleton]; omega) (by simp only [List.length_singleton]; omega) fun a1 c1 w3 u2 => ?_)
    have H4 : UpG w [] w3 [[rowT (tyI .i64) (.slice a1 ((q ++ [-1]).length) c1) 3 (q ++ [-1])], []] := (H3.on 0 rfl u2).drop 1
    refine WL.op rfl (d_assign rfl ?_)
    refine WL.done (X.block_normal (X.then_code ?_))
    refine W.region ?_
    refine WL.op rfl (d_add rfl rfl (by omega) (by omega) ?_)
    refine WL.op rfl (d_move rfl ?_)
    refine WL.done ?_
    exact X.next [10, 9, 5, 4, 0] (Γ' := [(10, .int .i64 (((k + 1) : Nat) : Int)), (9, .int .i64 (min width 259)), (5, .slice a1 ((q ++ [-1]).length) c1), (4, .slice none 0 0), (0, .slice clsa cls.length clsc)]) rfl ((min width 259).toNat - (k + 1)) (by omega) ⟨k + 1, q ++ [-1], a1, c1, rfl, (H4.re rfl), (by first | assumption | omega | simp), (by rw [hq]; exact (List.replicate_succ' ..).symm), (by simp; omega), rfl⟩
  · skip
    refine W.exit (X.then_exit (X.then_exit (X.block_exit (X.then_code ?_))))
    refine W.seq ?_
    refine W.seq ?_
    refine W.region ?_
    refine WL.op rfl (d_move rfl ?_)
    refine WL.op rfl (d_lenS Try.underlying22 rfl ?_)
    refine WL.op rfl (d_move rfl ?_)
    refine WL.done (X.then_code ?_)
    refine W.block ?_
    refine W.pick [18, 17, 16, 5, 4] (Γ' := [(18, .int .i64 0), (17, .int .i64 ((cls.length : Nat) : Int)), (16, .slice clsa cls.length clsc), (5, .slice qa q.length qc), (4, .slice none 0 0)]) rfl ?_
    refine W.loop (fun m Γ' w' => ∃ j : Nat, ∃ r : List Int, Γ' = [(18, .int .i64 ((j : Nat) : Int)), (17, .int .i64 ((cls.length : Nat) : Int)), (16, .slice clsa cls.length clsc), (5, .slice qa q.length qc), (4, .slice none 0 0)] ∧ UpG w [] w' [[rowT (tyI .i64) (.slice qa q.length qc) 3 r]] ∧ (j ≤ cls.length) ∧ (FsI cls (min width 259).toNat r j) ∧ m = cls.length - j) (cls.length - 0) ⟨0, q, rfl, H2, (by first | assumption | omega | simp), (by rw [hq, show k = (min width 259).toNat by omega]; exact FsI.start cls _), rfl⟩ ?_
    rintro m2 Γ2 w4 ⟨j, r, rfl, H5, hj, hr, rfl⟩
    have hrl := hr.len
    refine W.seq ?_
    refine W.region ?_
    refine WL.op rfl (d_cmp (decide (((j : Nat) : Int) < ((cls.length : Nat) : Int))) rfl rfl rfl ?_)
    refine WL.done (X.then_code ?_)
    refine W.seq ?_
    refine W.ite (p := ((j : Nat) : Int) < ((cls.length : Nat) : Int)) rfl (fun c62 => ?_) (fun c62 => ?_)
    · skip
      refine W.skip (X.then_code ?_)
      refine W.seq ?_
      refine W.block ?_
      refine W.seq ?_
      refine W.region ?_
      refine WL.op rfl (d_move rfl ?_)
      refine WL.op rfl (t_addr1 j (T := (tyI .i64)) rfl Try.underlying22 sz3 rfl rfl (rcls.at H5) rfl (by omega) ?_)
      refine WL.op rfl (t_load1 j 0 (T := (tyI .i64)) rfl Try.underlying3 rfl rfl (rcls.at H5) (by omega) rfl ?_)
      refine WL.op rfl (d_assign rfl ?_)
      refine WL.op rfl (d_assign rfl ?_)
      refine WL.done (X.then_code ?_)
      refine W.seq ?_
      refine W.region ?_
      refine WL.op rfl (d_move rfl ?_)
      refine WL.op rfl (d_cmp (decide ((cls.getD j 0) ≥ (0 : Int))) rfl rfl rfl ?_)
      refine WL.op rfl (d_move rfl ?_)
      refine WL.part 25 (p := (cls.getD j 0) ≥ (0 : Int)) rfl (fun g63 => ?_) (fun g63 => ?_)
      · skip
        refine WL.opG rfl rfl rfl (d_move rfl ?_)
        refine WL.opG rfl rfl rfl (d_move rfl ?_)
        refine WL.opG rfl rfl rfl (d_lenS Try.underlying22 rfl ?_)
        refine WL.opG rfl rfl rfl (d_cmp (decide ((cls.getD j 0) < ((q.length : Nat) : Int))) rfl rfl rfl ?_)
        refine WL.op rfl (d_pick rfl rfl ?_)
        refine WL.op rfl (d_move rfl ?_)
        refine WL.part 31 (p := (cls.getD j 0) < ((q.length : Nat) : Int)) rfl (fun g63x => ?_) (fun g63x => ?_)
        · skip
          refine WL.opG rfl rfl rfl (d_move rfl ?_)
          refine WL.opG rfl rfl rfl (d_move rfl ?_)
          refine WL.opG rfl rfl rfl (t_addr1 ((cls.getD j 0).toNat) (T := (tyI .i64)) rfl Try.underlying22 sz3 rfl rfl (H5.rdT 0 rfl) (by omega) (by omega) ?_)
          refine WL.opG rfl rfl rfl (t_load1 ((cls.getD j 0).toNat) 0 (T := (tyI .i64)) rfl Try.underlying3 rfl rfl (H5.rdT 0 rfl) (by omega) rfl ?_)
          refine WL.opG rfl rfl rfl (d_cmp (decide ((r.getD ((cls.getD j 0).toNat) 0) < (0 : Int))) rfl rfl rfl ?_)
          refine WL.op rfl (d_pick rfl rfl ?_)
          refine WL.done (X.then_code ?_)
          refine W.ite (p := (r.getD ((cls.getD j 0).toNat) 0) < (0 : Int)) rfl (fun c63 => ?_) (fun c63 => ?_)
          · skip
            refine W.region ?_
            refine WL.op rfl (d_move rfl ?_)
            refine WL.op rfl (d_move rfl ?_)
            refine WL.op rfl (d_move rfl ?_)
            refine WL.op rfl (t_addr1 ((cls.getD j 0).toNat) (T := (tyI .i64)) rfl Try.underlying22 sz3 rfl rfl (H5.rdT 0 rfl) (by omega) (by omega) ?_)
            refine WL.op0 (t_store1 ((cls.getD j 0).toNat) ((j : Nat) : Int) (T := (tyI .i64)) (e := 3) rfl sz3 rfl rfl rfl (H5.ownT 0 rfl) (by omega) fun w5 u3 => ?_)
            have H6 : UpG w [] w5 [[rowT (tyI .i64) (.slice qa q.length qc) 3 (r.set ((cls.getD j 0).toNat) ((j : Nat) : Int))]] := H5.on 0 rfl u3
            refine WL.done (X.block_normal (X.then_code ?_))
            refine W.region ?_
            refine WL.op rfl (d_add rfl rfl (by omega) (by omega) ?_)
            refine WL.op rfl (d_move rfl ?_)
            refine WL.done ?_
            exact X.next [18, 17, 16, 5, 4] (Γ' := [(18, .int .i64 (((j + 1) : Nat) : Int)), (17, .int .i64 ((cls.length : Nat) : Int)), (16, .slice clsa cls.length clsc), (5, .slice qa q.length qc), (4, .slice none 0 0)]) rfl (cls.length - (j + 1)) (by omega) ⟨j + 1, r.set ((cls.getD j 0).toNat) ((j : Nat) : Int), rfl, H6, (by first | assumption | omega | simp), (by first | exact hr.put (by omega) (by omega) (by omega) (by omega) | exact hr.skip (by omega) (by omega)), rfl⟩
          · skip
            refine W.skip (X.block_normal (X.then_code ?_))
            refine W.region ?_
            refine WL.op rfl (d_add rfl rfl (by omega) (by omega) ?_)
            refine WL.op rfl (d_move rfl ?_)
            refine WL.done ?_
            exact X.next [18, 17, 16, 5, 4] (Γ' := [(18, .int .i64 (((j + 1) : Nat) : Int)), (17, .int .i64 ((cls.length : Nat) : Int)), (16, .slice clsa cls.length clsc), (5, .slice qa q.length qc), (4, .slice none 0 0)]) rfl (cls.length - (j + 1)) (by omega) ⟨j + 1, r, rfl, H5, (by first | assumption | omega | simp), (by first | exact hr.put (by omega) (by omega) (by omega) (by omega) | exact hr.skip (by omega) (by omega)), rfl⟩
        · skip
          refine WL.opN rfl rfl rfl rfl ?_
          refine WL.opN rfl rfl rfl rfl ?_
          refine WL.opN rfl rfl rfl rfl ?_
          refine WL.opN rfl rfl rfl rfl ?_
          refine WL.opN rfl rfl rfl rfl ?_
          refine WL.op rfl (d_pick rfl rfl ?_)
          refine WL.done (X.then_code ?_)
          refine W.iff rfl ?_
          refine W.skip (X.block_normal (X.then_code ?_))
          refine W.region ?_
          refine WL.op rfl (d_add rfl rfl (by omega) (by omega) ?_)
          refine WL.op rfl (d_move rfl ?_)
          refine WL.done ?_
          exact X.next [18, 17, 16, 5, 4] (Γ' := [(18, .int .i64 (((j + 1) : Nat) : Int)), (17, .int .i64 ((cls.length : Nat) : Int)), (16, .slice clsa cls.length clsc), (5, .slice qa q.length qc), (4, .slice none 0 0)]) rfl (cls.length - (j + 1)) (by omega) ⟨j + 1, r, rfl, H5, (by first | assumption | omega | simp), (by first | exact hr.put (by omega) (by omega) (by omega) (by omega) | exact hr.skip (by omega) (by omega)), rfl⟩
      · skip
        refine WL.opN rfl rfl rfl rfl ?_
        refine WL.opN rfl rfl rfl rfl ?_
        refine WL.opN rfl rfl rfl rfl ?_
        refine WL.opN rfl rfl rfl rfl ?_
        refine WL.op rfl (d_pick rfl rfl ?_)
        refine WL.op rfl (d_move rfl ?_)
        refine WL.opN rfl rfl rfl rfl ?_
        refine WL.opN rfl rfl rfl rfl ?_
        refine WL.opN rfl rfl rfl rfl ?_
        refine WL.opN rfl rfl rfl rfl ?_
        refine WL.opN rfl rfl rfl rfl ?_
        refine WL.op rfl (d_pick rfl rfl ?_)
        refine WL.done (X.then_code ?_)
        refine W.iff rfl ?_
        refine W.skip (X.block_normal (X.then_code ?_))
        refine W.region ?_
        refine WL.op rfl (d_add rfl rfl (by omega) (by omega) ?_)
        refine WL.op rfl (d_move rfl ?_)
        refine WL.done ?_
        exact X.next [18, 17, 16, 5, 4] (Γ' := [(18, .int .i64 (((j + 1) : Nat) : Int)), (17, .int .i64 ((cls.length : Nat) : Int)), (16, .slice clsa cls.length clsc), (5, .slice qa q.length qc), (4, .slice none 0 0)]) rfl (cls.length - (j + 1)) (by omega) ⟨j + 1, r, rfl, H5, (by first | assumption | omega | simp), (by first | exact hr.put (by omega) (by omega) (by omega) (by omega) | exact hr.skip (by omega) (by omega)), rfl⟩
    · skip
      refine W.exit (X.then_exit (X.then_exit (X.block_exit (X.then_code ?_))))
      refine W.seq ?_
      refine W.region ?_
      refine WL.op rfl (d_move rfl ?_)
      refine WL.op rfl (d_assign rfl ?_)
      refine WL.done (X.then_code ?_)
      refine W.ret (X.ret1 rfl rfl ?_)
      have hf := hr.fin (by omega)
      rw [hf]
      exact ⟨qa, qc, (by rw [show r.length = q.length by omega]), (by have h9 := H5.one 0 rfl; rw [show q.length = r.length by omega] at h9; exact h9)⟩

set_option maxRecDepth 20000 in
theorem join_any (xsa : Option Addr) (xs : List Int) (xsc : Nat) (ysa : Option Addr) (ys : List Int) (ysc : Nat) (w : World) (rxs : RdT (tyI .i64) w (.slice xsa xs.length xsc) xs) (rys : RdT (tyI .i64) w (.slice ysa ys.length ysc) ys) (hl : xs.length ≤ 1000000) :
    Calls Try.prog 77 #[.slice xsa xs.length xsc, .slice ysa ys.length ysc] w (Ret fun v w' => ∃ a2 : Option Addr, ∃ c2 : Nat, v = .tuple #[.slice a2 ((joinL xs ys).length) c2, .int .i64 (joinN xs ys)] ∧ Upd w [] w' [rowT (tyI .i64) (.slice a2 ((joinL xs ys).length) c2) 3 (joinL xs ys)]) := by
  have le_rxs := rxs.le
  have le_rys := rys.le
  refine calls_of_W (args := [.slice xsa xs.length xsc, .slice ysa ys.length ysc]) Try.func77 rfl rfl rfl ?_
  have H0 : UpG w [] w [] := UpG.nil w
  show W _ _ _ _ [(0, .slice xsa xs.length xsc), (1, .slice ysa ys.length ysc)] w
  refine W.seq ?_
  refine W.region ?_
  refine WL.op rfl (d_assign rfl ?_)
  refine WL.op rfl (d_assign rfl ?_)
  refine WL.done (X.then_code ?_)
  refine W.seq ?_
  refine W.seq ?_
  refine W.region ?_
  refine WL.op rfl (d_move rfl ?_)
  refine WL.op rfl (d_lenS Try.underlying22 rfl ?_)
  refine WL.op rfl (d_move rfl ?_)
  refine WL.op rfl (d_lenS Try.underlying22 rfl ?_)
  refine WL.op rfl (d_cmp (decide (((xs.length : Nat) : Int) ≠ ((ys.length : Nat) : Int))) rfl rfl rfl ?_)
  refine WL.done (X.then_code ?_)
  refine W.ite (p := ((xs.length : Nat) : Int) ≠ ((ys.length : Nat) : Int)) rfl (fun c15 => ?_) (fun c15 => ?_)
  · skip
    refine W.seq ?_
    refine W.region ?_
    refine WL.op rfl (d_assign rfl ?_)
    refine WL.op rfl (d_assign rfl ?_)
    refine WL.done (X.then_code ?_)
    refine W.ret (X.then_ret (X.ret2 rfl rfl rfl ?_))
    have e1 : joinL xs ys = [] := by rw [joinL, if_neg (by omega)]
    have e2 : joinN xs ys = 0 := by rw [joinN, if_neg (by omega)]
    rw [e1, e2]
    exact ⟨none, 0, (by rfl), nilOwn H0⟩
  · skip
    refine W.skip (X.then_code ?_)
    refine W.seq ?_
    refine W.region ?_
    refine WL.op rfl (d_makeMap encP (fun a : Int => .int .i64 a) fun w1 u1 => ?_)
    have H1 : UpG w [] w1 [[mapC encP (fun a : Int => .int .i64 a) w.heap.size ([] : List ((Int × Int) × Int))]] := H0.new' u1
    refine WL.op rfl (d_assign rfl ?_)
    refine WL.done (X.then_code ?_)
    refine W.seq ?_
    refine W.region ?_
    refine WL.op rfl (d_move rfl ?_)
    refine WL.op rfl (d_lenS Try.underlying22 rfl ?_)
    refine WL.op rfl (t_make xs.length (0 : Int) (T := (tyI .i64)) rfl Try.underlying22 sz3 rfl rfl rfl rfl (by omega) (by omega) fun w2 u2 => ?_)
    have H2 : UpG w [] w2 [[mapC encP (fun a : Int => .int .i64 a) w.heap.size ([] : List ((Int × Int) × Int))], [rowT (tyI .i64) (.slice (some ⟨w1.heap.size, 0, none⟩) ((List.replicate xs.length (0 : Int)).length) xs.length) 3 (List.replicate xs.length (0 : Int))]] := H1.new' u2
    refine WL.op rfl (d_assign rfl ?_)
    refine WL.done (X.then_code ?_)
    refine W.seq ?_
    refine W.seq ?_
    refine W.region ?_
    refine WL.op rfl (d_move rfl ?_)
    refine WL.op rfl (d_lenS Try.underlying22 rfl ?_)
    refine WL.op rfl (d_move rfl ?_)
    refine WL.done (X.then_code ?_)
    refine W.block ?_
    refine W.pick [23, 22, 7, 6, 5, 4, 0, 1] (Γ' := [(23, .int .i64 0), (22, .int .i64 ((xs.length : Nat) : Int)), (7, .slice (some ⟨w1.heap.size, 0, none⟩) ((List.replicate xs.length (0 : Int)).length) xs.length), (6, .map (some w.heap.size)), (5, .int .i64 0), (4, .slice none 0 0), (0, .slice xsa xs.length xsc), (1, .slice ysa ys.length ysc)]) rfl ?_
    refine W.loop (fun m Γ' w' => ∃ k : Nat, ∃ q : List Int, ∃ mm : List ((Int × Int) × Int), Γ' = [(23, .int .i64 ((k : Nat) : Int)), (22, .int .i64 ((xs.length : Nat) : Int)), (7, .slice (some ⟨w1.heap.size, 0, none⟩) ((List.replicate xs.length (0 : Int)).length) xs.length), (6, .map (some w.heap.size)), (5, .int .i64 0), (4, .slice none 0 0), (0, .slice xsa xs.length xsc), (1, .slice ysa ys.length ysc)] ∧ UpG w [] w' [[mapC encP (fun a : Int => .int .i64 a) w.heap.size mm], [rowT (tyI .i64) (.slice (some ⟨w1.heap.size, 0, none⟩) ((List.replicate xs.length (0 : Int)).length) xs.length) 3 q]] ∧ (k ≤ xs.length) ∧ (JnI (xs.zip ys) q mm k) ∧ m = xs.length - k) (xs.length - 0) ⟨0, List.replicate xs.length (0 : Int), [], rfl, (H2.re rfl), (by first | assumption | omega | simp), (by rw [show xs.length = (xs.zip ys).length by simp; omega]; exact JnI.start _), rfl⟩ ?_
    rintro m1 Γ1 w3 ⟨k, q, mm, rfl, H3, hk, hq, rfl⟩
    have hql : q.length = xs.length := by rw [hq.len]; simp; omega
    refine W.seq ?_
    refine W.region ?_
    refine WL.op rfl (d_cmp (decide (((k : Nat) : Int) < ((xs.length : Nat) : Int))) rfl rfl rfl ?_)
    refine WL.done (X.then_code ?_)
    refine W.seq ?_
    refine W.ite (p := ((k : Nat) : Int) < ((xs.length : Nat) : Int)) rfl (fun c20 => ?_) (fun c20 => ?_)
    · skip
      refine W.skip (X.then_code ?_)
      refine W.seq ?_
      refine W.block ?_
      refine W.seq ?_
      refine W.region ?_
      refine WL.op rfl (d_move rfl ?_)
      refine WL.op rfl (d_assign rfl ?_)
      refine WL.done (X.then_code ?_)
      refine W.seq ?_
      refine W.regionD mixed (by kernel_rfl) fun hok1 w4 k1 => ?_
      have H4 : UpG w [] w4 [[mapC encP (fun a : Int => .int .i64 a) w.heap.size mm], [rowT (tyI .i64) (.slice (some ⟨w1.heap.size, 0, none⟩) ((List.replicate xs.length (0 : Int)).length) xs.length) 3 q]] := H3.kept k1
      refine WD.take hok1 0 (.slice xsa xs.length xsc) (fun _ => True) rfl rfl rfl rfl rfl trivial (.inl ⟨rfl, fun _ _ => d_move rfl ⟨rfl, rfl⟩⟩) ?_
      refine WD.take hok1 1 (.int .i64 ((k : Nat) : Int)) (fun _ => True) rfl rfl rfl rfl rfl trivial (.inl ⟨rfl, fun _ _ => d_move rfl ⟨rfl, rfl⟩⟩) ?_
      refine WD.take hok1 2 (elemPtr (.slice xsa xs.length xsc) k) (fun w' => RdT (tyI .i64) w' (.slice xsa xs.length xsc) xs) rfl rfl rfl rfl rfl (rxs.at H4) (.inl ⟨rfl, fun _ hC => t_addr1 k (T := (tyI .i64)) rfl Try.underlying22 sz3 rfl rfl hC rfl (by omega) ⟨rfl, rfl⟩⟩) ?_
      refine WD.take hok1 3 (.int .i64 (xs.getD k 0)) (fun w' => RdT (tyI .i64) w' (.slice xsa xs.length xsc) xs) rfl rfl rfl rfl rfl (rxs.at H4) (.inl ⟨rfl, fun _ hC => t_load1 k 0 (T := (tyI .i64)) rfl Try.underlying3 rfl rfl hC (by omega) rfl ⟨rfl, rfl⟩⟩) ?_
      refine WD.take hok1 4 (.slice ysa ys.length ysc) (fun _ => True) rfl rfl rfl rfl rfl trivial (.inl ⟨rfl, fun _ _ => d_move rfl ⟨rfl, rfl⟩⟩) ?_
      refine WD.take hok1 5 (.int .i64 ((k : Nat) : Int)) (fun _ => True) rfl rfl rfl rfl rfl trivial (.inl ⟨rfl, fun _ _ => d_move rfl ⟨rfl, rfl⟩⟩) ?_
      refine WD.take hok1 6 (elemPtr (.slice ysa ys.length ysc) k) (fun w' => RdT (tyI .i64) w' (.slice ysa ys.length ysc) ys) rfl rfl rfl rfl rfl (rys.at H4) (.inl ⟨rfl, fun _ hC => t_addr1 k (T := (tyI .i64)) rfl Try.underlying22 sz3 rfl rfl hC rfl (by omega) ⟨rfl, rfl⟩⟩) ?_
      refine WD.take hok1 7 (.int .i64 (ys.getD k 0)) (fun w' => RdT (tyI .i64) w' (.slice ysa ys.length ysc) ys) rfl rfl rfl rfl rfl (rys.at H4) (.inl ⟨rfl, fun _ hC => t_load1 k 0 (T := (tyI .i64)) rfl Try.underlying3 rfl rfl hC (by omega) rfl ⟨rfl, rfl⟩⟩) ?_
      refine WD.take hok1 8 (.agg #[.int .i64 (xs.getD k 0), .int .i64 (ys.getD k 0)]) (fun _ => True) rfl rfl rfl rfl rfl trivial (.inl ⟨rfl, fun _ _ => d_build (cs := #[.int .i64 (xs.getD k 0), .int .i64 (ys.getD k 0)]) rfl (by kernel_rfl) ⟨rfl, rfl⟩⟩) ?_
      refine WD.loud hok1 9 rfl (⟨_, [⟨8, .agg #[.int .i64 (xs.getD k 0), .int .i64 (ys.getD k 0)], (fun _ => True)⟩, ⟨7, .int .i64 (ys.getD k 0), (fun w' => RdT (tyI .i64) w' (.slice ysa ys.length ysc) ys)⟩, ⟨6, elemPtr (.slice ysa ys.length ysc) k, (fun w' => RdT (tyI .i64) w' (.slice ysa ys.length ysc) ys)⟩, ⟨5, .int .i64 ((k : Nat) : Int), (fun _ => True)⟩, ⟨4, .slice ysa ys.length ysc, (fun _ => True)⟩, ⟨3, .int .i64 (xs.getD k 0), (fun w' => RdT (tyI .i64) w' (.slice xsa xs.length xsc) xs)⟩, ⟨2, elemPtr (.slice xsa xs.length xsc) k, (fun w' => RdT (tyI .i64) w' (.slice xsa xs.length xsc) xs)⟩, ⟨1, .int .i64 ((k : Nat) : Int), (fun _ => True)⟩, ⟨0, .slice xsa xs.length xsc, (fun _ => True)⟩], rfl, rfl, rfl, rfl, rfl, rfl, d_alloc sz130 fun w5 u3 => ?_⟩)
      have H5 : UpG w [] w5 [[mapC encP (fun a : Int => .int .i64 a) w.heap.size mm], [rowT (tyI .i64) (.slice (some ⟨w1.heap.size, 0, none⟩) ((List.replicate xs.length (0 : Int)).length) xs.length) 3 q], [blk w4.heap.size #[.int .i64 0, .int .i64 0] 130]] := H4.new' u3
      refine ⟨⟨trivial, (rys.at H5), (rys.at H5), trivial, trivial, (rxs.at H5), (rxs.at H5), trivial, trivial, trivial⟩, ?_⟩
      refine WD.loud hok1 10 rfl (⟨_, [], rfl, rfl, rfl, rfl, rfl, rfl, d_storeAB (us := [.int .i64 (xs.getD k 0), .int .i64 (ys.getD k 0)]) (cs' := #[.int .i64 (xs.getD k 0), .int .i64 (ys.getD k 0)]) sz130 rfl rfl rfl rfl (H5.blk 2 rfl) rfl rfl fun w6 u4 => ?_⟩)
      have H6 : UpG w [] w6 [[mapC encP (fun a : Int => .int .i64 a) w.heap.size mm], [rowT (tyI .i64) (.slice (some ⟨w1.heap.size, 0, none⟩) ((List.replicate xs.length (0 : Int)).length) xs.length) 3 q], [blk w4.heap.size #[.int .i64 (xs.getD k 0), .int .i64 (ys.getD k 0)] 130]] := H5.on 2 rfl u4
      refine ⟨trivial, ?_⟩
      refine WD.done hok1 rfl (X.then_code ?_)
      refine W.seq ?_
      refine W.region ?_
      refine WL.op rfl (d_move rfl ?_)
      refine WL.op rfl (d_loadAB [.int .i64 (xs.getD k 0), .int .i64 (ys.getD k 0)] Try.underlying130 rfl sz130 rfl (H6.blk 2 rfl) rfl rfl ?_)
      refine WL.op rfl (d_look2 (ek := encP) (evl := (fun a : Int => .int .i64 a)) (xs.getD k 0, ys.getD k 0) 0 key130 Try.underlying128 sz3 rfl rfl (H6.mapAt 0 rfl) ?_)
      refine WL.op rfl (d_move rfl ?_)
      refine WL.op rfl (d_extract rfl rfl ?_)
      refine WL.op rfl (d_extract rfl rfl ?_)
      refine WL.op rfl (d_assign rfl ?_)
      refine WL.op rfl (d_assign rfl ?_)
      refine WL.done (X.then_code ?_)
      refine W.seq ?_
      refine W.seq ?_
      refine W.region ?_
      refine WL.op rfl (d_move rfl ?_)
      refine WL.op rfl (d_notB rfl ?_)
      refine WL.done (X.then_code ?_)
      refine W.pick [42, 10, 9, 8, 23, 22, 7, 6, 5, 4, 0, 1] (Γ' := [(42, .bool (!((getM mm (xs.getD k 0, ys.getD k 0)).isSome))), (10, .int .i64 ((getM mm (xs.getD k 0, ys.getD k 0)).getD 0)), (9, .pointer (some ⟨w4.heap.size, 0, none⟩)), (8, .int .i64 ((k : Nat) : Int)), (23, .int .i64 ((k : Nat) : Int)), (22, .int .i64 ((xs.length : Nat) : Int)), (7, .slice (some ⟨w1.heap.size, 0, none⟩) ((List.replicate xs.length (0 : Int)).length) xs.length), (6, .map (some w.heap.size)), (5, .int .i64 0), (4, .slice none 0 0), (0, .slice xsa xs.length xsc), (1, .slice ysa ys.length ysc)]) rfl ?_
      refine W.iteB (b := !((getM mm (xs.getD k 0, ys.getD k 0)).isSome)) rfl (fun c23 => ?_) (fun c23 => ?_)
      · skip
        refine W.seq ?_
        refine W.region ?_
        refine WL.op rfl (d_move rfl ?_)
        refine WL.op rfl (d_lenM (ek := encP) (evl := (fun a : Int => .int .i64 a)) Try.underlying128 rfl (H6.mapAt 0 rfl) ?_)
        refine WL.op rfl (d_assign rfl ?_)
        refine WL.done (X.then_code ?_)
        refine W.region ?_
        refine WL.op rfl (d_move rfl ?_)
        refine WL.op rfl (d_loadAB [.int .i64 (xs.getD k 0), .int .i64 (ys.getD k 0)] Try.underlying130 rfl sz130 rfl (H6.blk 2 rfl) rfl rfl ?_)
        refine WL.op rfl (d_move rfl ?_)
        refine WL.op0 (d_mapUpdate (ek := encP) (evl := (fun a : Int => .int .i64 a)) (xs.getD k 0, ys.getD k 0) ((mm.length : Nat) : Int) key130 Try.underlying128 rfl rfl rfl (H6.hpOf 0 rfl) fun w7 u5 => ?_)
        have H7 : UpG w [] w7 [[mapC encP (fun a : Int => .int .i64 a) w.heap.size (putM mm (xs.getD k 0, ys.getD k 0) ((mm.length : Nat) : Int))], [rowT (tyI .i64) (.slice (some ⟨w1.heap.size, 0, none⟩) ((List.replicate xs.length (0 : Int)).length) xs.length) 3 q], [blk w4.heap.size #[.int .i64 (xs.getD k 0), .int .i64 (ys.getD k 0)] 130]] := H6.on 0 rfl u5
        refine WL.done (X.then_code ?_)
        refine W.region ?_
        refine WL.op rfl (d_move rfl ?_)
        refine WL.op rfl (d_move rfl ?_)
        refine WL.op rfl (d_move rfl ?_)
        refine WL.op rfl (t_addr1 k (T := (tyI .i64)) rfl Try.underlying22 sz3 rfl rfl (H7.rdT 1 rfl) rfl (by omega) ?_)
        refine WL.op0 (t_store1 k ((mm.length : Nat) : Int) (T := (tyI .i64)) (e := 3) rfl sz3 rfl rfl rfl (H7.ownT 1 rfl) (by omega) fun w8 u6 => ?_)
        have H8 : UpG w [] w8 [[mapC encP (fun a : Int => .int .i64 a) w.heap.size (putM mm (xs.getD k 0, ys.getD k 0) ((mm.length : Nat) : Int))], [rowT (tyI .i64) (.slice (some ⟨w1.heap.size, 0, none⟩) ((List.replicate xs.length (0 : Int)).length) xs.length) 3 (q.set k ((mm.length : Nat) : Int))], [blk w4.heap.size #[.int .i64 (xs.getD k 0), .int .i64 (ys.getD k 0)] 130]] := H7.on 1 rfl u6
        refine WL.done (X.block_normal (X.then_code ?_))
        refine W.region ?_
        refine WL.op rfl (d_add rfl rfl (by omega) (by omega) ?_)
        refine WL.op rfl (d_move rfl ?_)
        refine WL.done ?_
        exact X.next [23, 22, 7, 6, 5, 4, 0, 1] (Γ' := [(23, .int .i64 (((k + 1) : Nat) : Int)), (22, .int .i64 ((xs.length : Nat) : Int)), (7, .slice (some ⟨w1.heap.size, 0, none⟩) ((List.replicate xs.length (0 : Int)).length) xs.length), (6, .map (some w.heap.size)), (5, .int .i64 0), (4, .slice none 0 0), (0, .slice xsa xs.length xsc), (1, .slice ysa ys.length ysc)]) rfl (xs.length - (k + 1)) (by omega) ⟨k + 1, q.set k ((mm.length : Nat) : Int), putM mm (xs.getD k 0, ys.getD k 0) ((mm.length : Nat) : Int), rfl, (UpG.of (G := [[mapC encP (fun a : Int => .int .i64 a) w.heap.size (putM mm (xs.getD k 0, ys.getD k 0) ((mm.length : Nat) : Int))], [rowT (tyI .i64) (.slice (some ⟨w1.heap.size, 0, none⟩) ((List.replicate xs.length (0 : Int)).length) xs.length) 3 (q.set k ((mm.length : Nat) : Int))]]) (Upd.sel H8 (M := [mapC encP (fun a : Int => .int .i64 a) w.heap.size (putM mm (xs.getD k 0, ys.getD k 0) ((mm.length : Nat) : Int)), rowT (tyI .i64) (.slice (some ⟨w1.heap.size, 0, none⟩) ((List.replicate xs.length (0 : Int)).length) xs.length) 3 (q.set k ((mm.length : Nat) : Int))]) (l := [0, 1]) rfl rfl) rfl), (by first | assumption | omega | simp), (by first | exact hq.old (by simp; omega) (zip_getD (by omega) (by omega)) (bn_t c23) | exact hq.new (by simp; omega) (zip_getD (by omega) (by omega)) (bn_f c23)), rfl⟩
      · skip
        refine W.skip (X.then_code ?_)
        refine W.region ?_
        refine WL.op rfl (d_move rfl ?_)
        refine WL.op rfl (d_move rfl ?_)
        refine WL.op rfl (d_move rfl ?_)
        refine WL.op rfl (t_addr1 k (T := (tyI .i64)) rfl Try.underlying22 sz3 rfl rfl (H6.rdT 1 rfl) rfl (by omega) ?_)
        refine WL.op0 (t_store1 k ((getM mm (xs.getD k 0, ys.getD k 0)).getD 0) (T := (tyI .i64)) (e := 3) rfl sz3 rfl rfl rfl (H6.ownT 1 rfl) (by omega) fun w9 u7 => ?_)
        have H9 : UpG w [] w9 [[mapC encP (fun a : Int => .int .i64 a) w.heap.size mm], [rowT (tyI .i64) (.slice (some ⟨w1.heap.size, 0, none⟩) ((List.replicate xs.length (0 : Int)).length) xs.length) 3 (q.set k ((getM mm (xs.getD k 0, ys.getD k 0)).getD 0))], [blk w4.heap.size #[.int .i64 (xs.getD k 0), .int .i64 (ys.getD k 0)] 130]] := H6.on 1 rfl u7
        refine WL.done (X.block_normal (X.then_code ?_))
        refine W.region ?_
        refine WL.op rfl (d_add rfl rfl (by omega) (by omega) ?_)
        refine WL.op rfl (d_move rfl ?_)
        refine WL.done ?_
        exact X.next [23, 22, 7, 6, 5, 4, 0, 1] (Γ' := [(23, .int .i64 (((k + 1) : Nat) : Int)), (22, .int .i64 ((xs.length : Nat) : Int)), (7, .slice (some ⟨w1.heap.size, 0, none⟩) ((List.replicate xs.length (0 : Int)).length) xs.length), (6, .map (some w.heap.size)), (5, .int .i64 0), (4, .slice none 0 0), (0, .slice xsa xs.length xsc), (1, .slice ysa ys.length ysc)]) rfl (xs.length - (k + 1)) (by omega) ⟨k + 1, q.set k ((getM mm (xs.getD k 0, ys.getD k 0)).getD 0), mm, rfl, (UpG.of (G := [[mapC encP (fun a : Int => .int .i64 a) w.heap.size mm], [rowT (tyI .i64) (.slice (some ⟨w1.heap.size, 0, none⟩) ((List.replicate xs.length (0 : Int)).length) xs.length) 3 (q.set k ((getM mm (xs.getD k 0, ys.getD k 0)).getD 0))]]) (Upd.sel H9 (M := [mapC encP (fun a : Int => .int .i64 a) w.heap.size mm, rowT (tyI .i64) (.slice (some ⟨w1.heap.size, 0, none⟩) ((List.replicate xs.length (0 : Int)).length) xs.length) 3 (q.set k ((getM mm (xs.getD k 0, ys.getD k 0)).getD 0))]) (l := [0, 1]) rfl rfl) rfl), (by first | assumption | omega | simp), (by first | exact hq.old (by simp; omega) (zip_getD (by omega) (by omega)) (bn_t c23) | exact hq.new (by simp; omega) (zip_getD (by omega) (by omega)) (bn_f c23)), rfl⟩
    · skip
      refine W.exit (X.then_exit (X.then_exit (X.block_exit (X.then_code ?_))))
      refine W.seq ?_
      refine W.region ?_
      refine WL.op rfl (d_move rfl ?_)
      refine WL.op rfl (d_move rfl ?_)
      refine WL.op rfl (d_lenM (ek := encP) (evl := (fun a : Int => .int .i64 a)) Try.underlying128 rfl (H3.mapAt 0 rfl) ?_)
      refine WL.op rfl (d_assign rfl ?_)
      refine WL.op rfl (d_assign rfl ?_)
      refine WL.done (X.then_code ?_)
      refine W.ret (X.ret2 rfl rfl rfl ?_)
      obtain ⟨e1, e2⟩ := hq.fin (by omega) (by omega)
      rw [e1, e2]
      exact ⟨(some ⟨w1.heap.size, 0, none⟩), xs.length, (by rw [show q.length = (List.replicate xs.length (0 : Int)).length by simp; omega]), (by have h9 := H3.one 1 rfl; rw [show (List.replicate xs.length (0 : Int)).length = q.length by simp; omega] at h9; exact h9)⟩
end Go.Proofs.Ytoeockpkkmgieaa

/- The walks of functions, printed by wip/tools/gw.py. -/
namespace Go.Proofs.Ytoeockpkkmgieaa
open Go Go.Sx
set_option linter.unusedVariables false
set_option linter.unusedSimpArgs false
set_option maxRecDepth 20000 in
theorem in_any (sym : Int) (w : World) :
    Calls Try.prog 62 #[.int .i64 sym] w (Ret fun v w' => v = .bool (decide (0 ≤ sym ∧ sym < 259)) ∧ Upd w [] w' []) := by
  refine calls_of_W (args := [.int .i64 sym]) Try.func62 rfl rfl rfl ?_
  have H0 : UpG w [] w [] := UpG.nil w
  show W _ _ _ _ [(0, .int .i64 sym)] w
  refine W.seq ?_
  refine W.region ?_
  refine WL.op rfl (d_assign rfl ?_)
  refine WL.done (X.then_code ?_)
  refine W.seq ?_
  refine W.region ?_
  refine WL.op rfl (d_move rfl ?_)
  refine WL.op rfl (d_cmp (decide (sym ≥ (0 : Int))) rfl rfl rfl ?_)
  refine WL.op rfl (d_move rfl ?_)
  refine WL.part 5 (p := sym ≥ (0 : Int)) rfl (fun g31 => ?_) (fun g31 => ?_)
  · skip
    refine WL.opG rfl rfl rfl (d_move rfl ?_)
    refine WL.opG rfl rfl rfl (d_cmp (decide (sym < (259 : Int))) rfl rfl rfl ?_)
    refine WL.op rfl (d_pick rfl rfl ?_)
    refine WL.op rfl (d_assign rfl ?_)
    refine WL.done (X.then_code ?_)
    refine W.ret (X.ret1 rfl rfl ?_)
    exact ⟨(by simp; omega), H0.noneL⟩
  · skip
    refine WL.opN rfl rfl rfl rfl ?_
    refine WL.opN rfl rfl rfl rfl ?_
    refine WL.op rfl (d_pick rfl rfl ?_)
    refine WL.op rfl (d_assign rfl ?_)
    refine WL.done (X.then_code ?_)
    refine W.ret (X.ret1 rfl rfl ?_)
    exact ⟨(by simp; omega), H0.noneL⟩

set_option maxRecDepth 20000 in
theorem within1_any (x : Int) (g : Nat) (n : Int) (w : World) (bg : w.heap[g]? = some (.cells #[.int .i64 n] 3 (0, 0))) :
    Calls Try.prog 93 #[.int .i64 x, .pointer (some ⟨g, 0, none⟩)] w (Ret fun v w' => v = .bool (decide (x < 0 ∨ n ≤ x)) ∧ Upd w [] w' []) := by
  refine calls_of_W (args := [.int .i64 x, .pointer (some ⟨g, 0, none⟩)]) Try.func93 rfl rfl rfl ?_
  have H0 : UpG w [] w [] := UpG.nil w
  show W _ _ _ _ [(0, .int .i64 x), (1, .pointer (some ⟨g, 0, none⟩))] w
  refine W.seq ?_
  refine W.region ?_
  refine WL.op rfl (d_assign rfl ?_)
  refine WL.done (X.then_code ?_)
  refine W.seq ?_
  refine W.region ?_
  refine WL.op rfl (d_move rfl ?_)
  refine WL.op rfl (d_cmp (decide (x < (0 : Int))) rfl rfl rfl ?_)
  refine WL.op rfl (d_move rfl ?_)
  refine WL.part 6 (p := x < (0 : Int)) rfl (fun g15 => ?_) (fun g15 => ?_)
  · skip
    refine WL.opN rfl rfl rfl rfl ?_
    refine WL.opN rfl rfl rfl rfl ?_
    refine WL.opN rfl rfl rfl rfl ?_
    refine WL.op rfl (d_pick rfl rfl ?_)
    refine WL.op rfl (d_assign rfl ?_)
    refine WL.done (X.then_code ?_)
    refine W.ret (X.ret1 rfl rfl ?_)
    exact ⟨(by simp; omega), H0.noneL⟩
  · skip
    refine WL.opG rfl rfl rfl (d_move rfl ?_)
    refine WL.opG rfl rfl rfl (d_loadB Try.underlying3 rfl rfl (H0.keep0.obj bg (by simp)) rfl ?_)
    refine WL.opG rfl rfl rfl (d_cmp (decide (x ≥ n)) rfl rfl rfl ?_)
    refine WL.op rfl (d_pick rfl rfl ?_)
    refine WL.op rfl (d_assign rfl ?_)
    refine WL.done (X.then_code ?_)
    refine W.ret (X.ret1 rfl rfl ?_)
    exact ⟨(by simp; omega), H0.noneL⟩

set_option maxRecDepth 20000 in
theorem indexFunc_any (sa : Option Addr) (s : List Int) (sc : Nat) (f : FuncId) (fc : List Value) (p : Int → Bool) (w : World) (rs : RdT (tyI .i64) w (.slice sa s.length sc) s) (hok : CallOk Try.prog f) (hf : ClosB Try.prog f fc p w) :
    Calls Try.prog 102 #[.slice sa s.length sc, .func (.func f) #[] fc.toArray] w (Ret fun v w' => v = .int .i64 (findI p s) ∧ Upd w [] w' []) := by
  have le_rs := rs.le
  refine calls_of_W (args := [.slice sa s.length sc, .func (.func f) #[] fc.toArray]) Try.func102 rfl rfl rfl ?_
  have H0 : UpG w [] w [] := UpG.nil w
  show W _ _ _ _ [(0, .slice sa s.length sc), (1, .func (.func f) #[] fc.toArray)] w
  refine W.seq ?_
  refine W.region ?_
  refine WL.op rfl (d_assign rfl ?_)
  refine WL.done (X.then_code ?_)
  refine W.seq ?_
  refine W.seq ?_
  refine W.region ?_
  refine WL.op rfl (d_move rfl ?_)
  refine WL.op rfl (d_lenS Try.underlying22 rfl ?_)
  refine WL.op rfl (d_move rfl ?_)
  refine WL.done (X.then_code ?_)
  refine W.block ?_
  refine W.pick [8, 7, 4, 0, 1] (Γ' := [(8, .int .i64 0), (7, .int .i64 ((s.length : Nat) : Int)), (4, .int .i64 0), (0, .slice sa s.length sc), (1, .func (.func f) #[] fc.toArray)]) rfl ?_
  refine W.loop (fun m Γ' w' => ∃ k : Nat, Γ' = [(8, .int .i64 ((k : Nat) : Int)), (7, .int .i64 ((s.length : Nat) : Int)), (4, .int .i64 0), (0, .slice sa s.length sc), (1, .func (.func f) #[] fc.toArray)] ∧ UpG w [] w' [] ∧ (k ≤ s.length) ∧ (findI p s = findFrom p s k) ∧ m = s.length - k) (s.length - 0) ⟨0, rfl, H0, (by first | assumption | omega | simp), (by rfl), rfl⟩ ?_
  rintro m1 Γ1 w1 ⟨k, rfl, H1, hk, hn, rfl⟩
  refine W.seq ?_
  refine W.region ?_
  refine WL.op rfl (d_cmp (decide (((k : Nat) : Int) < ((s.length : Nat) : Int))) rfl rfl rfl ?_)
  refine WL.done (X.then_code ?_)
  refine W.seq ?_
  refine W.ite (p := ((k : Nat) : Int) < ((s.length : Nat) : Int)) rfl (fun c108 => ?_) (fun c108 => ?_)
  · skip
    refine W.skip (X.then_code ?_)
    refine W.seq ?_
    refine W.block ?_
    refine W.seq ?_
    refine W.region ?_
    refine WL.op rfl (d_move rfl ?_)
    refine WL.op rfl (d_assign rfl ?_)
    refine WL.done (X.then_code ?_)
    refine W.seq ?_
    refine W.region ?_
    refine WL.op rfl (d_move rfl ?_)
    refine WL.op rfl (d_move rfl ?_)
    refine WL.op rfl (d_move rfl ?_)
    refine WL.op rfl (t_addr1 k (T := (tyI .i64)) rfl Try.underlying22 sz3 rfl rfl (rs.at H1) rfl (by omega) ?_)
    refine WL.op rfl (t_load1 k 0 (T := (tyI .i64)) rfl Try.underlying3 rfl rfl (rs.at H1) (by omega) rfl ?_)
    refine WL.op rfl (d_callv hok rfl rfl (Ret.calls (hf w1 H1.keep0 (s.getD k 0)) fun _ w2 p1 => ?_))
    obtain ⟨rfl, u1⟩ := p1
    have H2 : UpG w [] w2 [] := H1.call u1
    refine WL.done (X.then_code ?_)
    refine W.iteB (b := p (s.getD k 0)) rfl (fun c109 => ?_) (fun c109 => ?_)
    · skip
      refine W.seq ?_
      refine W.region ?_
      refine WL.op rfl (d_move rfl ?_)
      refine WL.op rfl (d_assign rfl ?_)
      refine WL.done (X.then_code ?_)
      refine W.ret (X.block_ret (X.then_ret (X.then_ret (X.block_ret (X.then_ret (X.ret1 rfl rfl ?_))))))
      have e := findFrom_yes p s k (by omega) (by simpa using c109)
      exact ⟨(by rw [hn, e]), H2.noneL⟩
    · skip
      refine W.skip (X.block_normal (X.then_code ?_))
      refine W.region ?_
      refine WL.op rfl (d_add rfl rfl (by omega) (by omega) ?_)
      refine WL.op rfl (d_move rfl ?_)
      refine WL.done ?_
      exact X.next [8, 7, 4, 0, 1] (Γ' := [(8, .int .i64 (((k + 1) : Nat) : Int)), (7, .int .i64 ((s.length : Nat) : Int)), (4, .int .i64 0), (0, .slice sa s.length sc), (1, .func (.func f) #[] fc.toArray)]) rfl (s.length - (k + 1)) (by omega) ⟨k + 1, rfl, H2, (by first | assumption | omega | simp), (by rw [hn, findFrom_no _ _ _ (by omega) (by simpa using c109)]), rfl⟩
  · skip
    refine W.exit (X.then_exit (X.then_exit (X.block_exit (X.then_code ?_))))
    refine W.seq ?_
    refine W.region ?_
    refine WL.op rfl (d_assign rfl ?_)
    refine WL.done (X.then_code ?_)
    refine W.ret (X.ret1 rfl rfl ?_)
    have e := findFrom_end p s k (by omega)
    exact ⟨(by rw [hn, e]), H1.noneL⟩

set_option maxRecDepth 20000 in
theorem containsFunc_any (sa : Option Addr) (s : List Int) (sc : Nat) (f : FuncId) (fc : List Value) (p : Int → Bool) (w : World) (rs : RdT (tyI .i64) w (.slice sa s.length sc) s) (hok : CallOk Try.prog f) (hf : ClosB Try.prog f fc p w) :
    Calls Try.prog 92 #[.slice sa s.length sc, .func (.func f) #[] fc.toArray] w (Ret fun v w' => v = .bool (s.any p) ∧ Upd w [] w' []) := by
  have le_rs := rs.le
  refine calls_of_W (args := [.slice sa s.length sc, .func (.func f) #[] fc.toArray]) Try.func92 rfl rfl rfl ?_
  have H0 : UpG w [] w [] := UpG.nil w
  show W _ _ _ _ [(0, .slice sa s.length sc), (1, .func (.func f) #[] fc.toArray)] w
  refine W.seq ?_
  refine W.region ?_
  refine WL.op rfl (d_assign rfl ?_)
  refine WL.done (X.then_code ?_)
  refine W.seq ?_
  refine W.region ?_
  refine WL.op rfl (d_move rfl ?_)
  refine WL.op rfl (d_move rfl ?_)
  refine WL.op rfl (d_call ok102 rfl (Ret.calls (indexFunc_any sa s sc f fc p w (rs.at H0) hok (hf.keep H0.keep0)) fun _ w1 p1 => ?_))
  obtain ⟨rfl, u1⟩ := p1
  have H1 : UpG w [] w1 [] := H0.call u1
  refine WL.op rfl (d_cmp (decide ((findI p s) ≥ (0 : Int))) rfl rfl rfl ?_)
  refine WL.op rfl (d_assign rfl ?_)
  refine WL.done (X.then_code ?_)
  refine W.ret (X.ret1 rfl rfl ?_)
  exact ⟨(by rw [← findI_any]), H1.noneL⟩

set_option maxRecDepth 20000 in
theorem within_any (la : Option Addr) (l : List Int) (lc : Nat) (n : Int) (w : World) (rl : RdT (tyI .i64) w (.slice la l.length lc) l) :
    Calls Try.prog 61 #[.slice la l.length lc, .int .i64 n] w (Ret fun v w' => v = .bool (withinB l n) ∧ Upd w [] w' []) := by
  have le_rl := rl.le
  refine calls_of_W (args := [.slice la l.length lc, .int .i64 n]) Try.func61 rfl rfl rfl ?_
  have H0 : UpG w [] w [] := UpG.nil w
  show W _ _ _ _ [(0, .slice la l.length lc), (1, .int .i64 n)] w
  refine W.seq ?_
  refine W.region ?_
  refine WL.op rfl (d_box rfl fun w1 u1 => ?_)
  have H1 : UpG w [] w1 [[blk w.heap.size #[.int .i64 n] 3]] := H0.new' u1
  refine WL.op rfl (d_assign rfl ?_)
  refine WL.done (X.then_code ?_)
  refine W.seq ?_
  refine W.region ?_
  refine WL.op rfl (d_move rfl ?_)
  refine WL.op rfl (d_makeFunc rfl rfl ?_)
  refine WL.op rfl (d_call ok92 rfl (Ret.calls (containsFunc_any la l lc 93 [.pointer (some ⟨w.heap.size, 0, none⟩)] (fun x => decide (x < 0 ∨ n ≤ x)) w1 (rl.at H1) ok93 (fun w' hk x => within1_any x _ n w' (hk.obj (H1.blk 0 rfl) (by simp)))) fun _ w2 p1 => ?_))
  obtain ⟨rfl, u2⟩ := p1
  have H2 : UpG w [] w2 [[blk w.heap.size #[.int .i64 n] 3]] := H1.call u2
  refine WL.op rfl (d_notB rfl ?_)
  refine WL.op rfl (d_assign rfl ?_)
  refine WL.done (X.then_code ?_)
  refine W.ret (X.ret1 rfl rfl ?_)
  exact ⟨(by rw [← within_eq]), H2.noneL⟩

set_option maxRecDepth 20000 in
theorem right_any (d : DfaD) (dca : Option Addr) (dna : Option Addr) (dba : Option Addr) (dcc : Nat) (dnc : Nat) (dbc : Nat) (w : World) (rcd : RdT (tyI .i64) w (.slice dca d.cls.length dcc) d.cls) (rnd : RdT (tyI .i64) w (.slice dna d.next.length dnc) d.next) (rbd : RdT tyB w (.slice dba d.acc.length dbc) d.acc) :
    Calls Try.prog 24 #[.agg #[.slice dca d.cls.length dcc, .int .i64 d.width, .int .i64 d.start, .slice dna d.next.length dnc, .slice dba d.acc.length dbc]] w (Ret fun v w' => v = .bool (rightB d) ∧ Upd w [] w' []) := by
  have le_rcd := rcd.le
  have le_rnd := rnd.le
  have le_rbd := rbd.le
  refine calls_of_W (args := [.agg #[.slice dca d.cls.length dcc, .int .i64 d.width, .int .i64 d.start, .slice dna d.next.length dnc, .slice dba d.acc.length dbc]]) Try.func24 rfl rfl rfl ?_
  have H0 : UpG w [] w [] := UpG.nil w
  show W _ _ _ _ [(0, .agg #[.slice dca d.cls.length dcc, .int .i64 d.width, .int .i64 d.start, .slice dna d.next.length dnc, .slice dba d.acc.length dbc])] w
  refine W.seq ?_
  refine W.region ?_
  refine WL.op rfl (d_box rfl fun w1 u1 => ?_)
  have H1 : UpG w [] w1 [[blk w.heap.size #[.slice dca d.cls.length dcc, .int .i64 d.width, .int .i64 d.start, .slice dna d.next.length dnc, .slice dba d.acc.length dbc] 25]] := H0.new' u1
  refine WL.op rfl (d_assign rfl ?_)
  refine WL.done (X.then_code ?_)
  refine W.seq ?_
  refine W.region ?_
  refine WL.op rfl (d_fieldAddrB fld25_4 rfl rfl ?_)
  refine WL.op rfl (d_loadB Try.underlying23 rfl rfl (H1.blk 0 rfl) rfl ?_)
  refine WL.op rfl (d_lenS Try.underlying23 rfl ?_)
  refine WL.op rfl (d_assign rfl ?_)
  refine WL.done (X.then_code ?_)
  refine W.seq ?_
  refine W.block ?_
  refine W.seq ?_
  refine W.region ?_
  refine WL.op rfl (d_fieldAddrB fld25_0 rfl rfl ?_)
  refine WL.op rfl (d_loadB Try.underlying22 rfl rfl (H1.blk 0 rfl) rfl ?_)
  refine WL.op rfl (d_lenS Try.underlying22 rfl ?_)
  refine WL.op rfl (d_cmp (decide (((d.cls.length : Nat) : Int) ≠ (259 : Int))) rfl rfl rfl ?_)
  refine WL.op rfl (d_move rfl ?_)
  refine WL.part 12 (p := ((d.cls.length : Nat) : Int) ≠ (259 : Int)) rfl (fun g22 => ?_) (fun g22 => ?_)
  · skip
    refine WL.opN rfl rfl rfl rfl ?_
    refine WL.opN rfl rfl rfl rfl ?_
    refine WL.opN rfl rfl rfl rfl ?_
    refine WL.op rfl (d_pick rfl rfl ?_)
    refine WL.op rfl (d_move rfl ?_)
    refine WL.opN rfl rfl rfl rfl ?_
    refine WL.opN rfl rfl rfl rfl ?_
    refine WL.opN rfl rfl rfl rfl ?_
    refine WL.op rfl (d_pick rfl rfl ?_)
    refine WL.op rfl (d_move rfl ?_)
    refine WL.opN rfl rfl rfl rfl ?_
    refine WL.opN rfl rfl rfl rfl ?_
    refine WL.op rfl (d_pick rfl rfl ?_)
    refine WL.op rfl (d_move rfl ?_)
    refine WL.opN rfl rfl rfl rfl ?_
    refine WL.opN rfl rfl rfl rfl ?_
    refine WL.op rfl (d_pick rfl rfl ?_)
    refine WL.op rfl (d_assign rfl ?_)
    refine WL.done (X.then_code ?_)
    refine W.ift rfl ?_
    refine W.seq ?_
    refine W.region ?_
    refine WL.op rfl (d_assign rfl ?_)
    refine WL.done (X.then_code ?_)
    refine W.ret (X.block_ret (X.then_ret (X.ret1 rfl rfl ?_)))
    exact ⟨(by simp [rightB]; omega), H1.noneL⟩
  · skip
    refine WL.opG rfl rfl rfl (d_fieldAddrB fld25_1 rfl rfl ?_)
    refine WL.opG rfl rfl rfl (d_loadB Try.underlying3 rfl rfl (H1.blk 0 rfl) rfl ?_)
    refine WL.opG rfl rfl rfl (d_cmp (decide (d.width < (1 : Int))) rfl rfl rfl ?_)
    refine WL.op rfl (d_pick rfl rfl ?_)
    refine WL.op rfl (d_move rfl ?_)
    refine WL.part 17 (p := d.width < (1 : Int)) rfl (fun g22x => ?_) (fun g22x => ?_)
    · skip
      refine WL.opN rfl rfl rfl rfl ?_
      refine WL.opN rfl rfl rfl rfl ?_
      refine WL.opN rfl rfl rfl rfl ?_
      refine WL.op rfl (d_pick rfl rfl ?_)
      refine WL.op rfl (d_move rfl ?_)
      refine WL.opN rfl rfl rfl rfl ?_
      refine WL.opN rfl rfl rfl rfl ?_
      refine WL.op rfl (d_pick rfl rfl ?_)
      refine WL.op rfl (d_move rfl ?_)
      refine WL.opN rfl rfl rfl rfl ?_
      refine WL.opN rfl rfl rfl rfl ?_
      refine WL.op rfl (d_pick rfl rfl ?_)
      refine WL.op rfl (d_assign rfl ?_)
      refine WL.done (X.then_code ?_)
      refine W.ift rfl ?_
      refine W.seq ?_
      refine W.region ?_
      refine WL.op rfl (d_assign rfl ?_)
      refine WL.done (X.then_code ?_)
      refine W.ret (X.block_ret (X.then_ret (X.ret1 rfl rfl ?_)))
      exact ⟨(by simp [rightB]; omega), H1.noneL⟩
    · skip
      refine WL.opG rfl rfl rfl (d_fieldAddrB fld25_1 rfl rfl ?_)
      refine WL.opG rfl rfl rfl (d_loadB Try.underlying3 rfl rfl (H1.blk 0 rfl) rfl ?_)
      refine WL.opG rfl rfl rfl (d_cmp (decide (d.width > (259 : Int))) rfl rfl rfl ?_)
      refine WL.op rfl (d_pick rfl rfl ?_)
      refine WL.op rfl (d_move rfl ?_)
      refine WL.part 22 (p := d.width > (259 : Int)) rfl (fun g22xx => ?_) (fun g22xx => ?_)
      · skip
        refine WL.opN rfl rfl rfl rfl ?_
        refine WL.opN rfl rfl rfl rfl ?_
        refine WL.op rfl (d_pick rfl rfl ?_)
        refine WL.op rfl (d_move rfl ?_)
        refine WL.opN rfl rfl rfl rfl ?_
        refine WL.opN rfl rfl rfl rfl ?_
        refine WL.op rfl (d_pick rfl rfl ?_)
        refine WL.op rfl (d_assign rfl ?_)
        refine WL.done (X.then_code ?_)
        refine W.ift rfl ?_
        refine W.seq ?_
        refine W.region ?_
        refine WL.op rfl (d_assign rfl ?_)
        refine WL.done (X.then_code ?_)
        refine W.ret (X.block_ret (X.then_ret (X.ret1 rfl rfl ?_)))
        exact ⟨(by simp [rightB]; omega), H1.noneL⟩
      · skip
        refine WL.opG rfl rfl rfl (d_move rfl ?_)
        refine WL.opG rfl rfl rfl (d_cmp (decide (((d.acc.length : Nat) : Int) < (1 : Int))) rfl rfl rfl ?_)
        refine WL.op rfl (d_pick rfl rfl ?_)
        refine WL.op rfl (d_move rfl ?_)
        refine WL.part 26 (p := ((d.acc.length : Nat) : Int) < (1 : Int)) rfl (fun g22xxx => ?_) (fun g22xxx => ?_)
        · skip
          refine WL.opN rfl rfl rfl rfl ?_
          refine WL.opN rfl rfl rfl rfl ?_
          refine WL.op rfl (d_pick rfl rfl ?_)
          refine WL.op rfl (d_assign rfl ?_)
          refine WL.done (X.then_code ?_)
          refine W.ift rfl ?_
          refine W.seq ?_
          refine W.region ?_
          refine WL.op rfl (d_assign rfl ?_)
          refine WL.done (X.then_code ?_)
          refine W.ret (X.block_ret (X.then_ret (X.ret1 rfl rfl ?_)))
          exact ⟨(by simp [rightB]; omega), H1.noneL⟩
        · skip
          refine WL.opG rfl rfl rfl (d_move rfl ?_)
          refine WL.opG rfl rfl rfl (d_cmp (decide (((d.acc.length : Nat) : Int) > (4096 : Int))) rfl rfl rfl ?_)
          refine WL.op rfl (d_pick rfl rfl ?_)
          refine WL.op rfl (d_assign rfl ?_)
          refine WL.done (X.then_code ?_)
          refine W.ite (p := ((d.acc.length : Nat) : Int) > (4096 : Int)) rfl (fun c22 => ?_) (fun c22 => ?_)
          · skip
            refine W.seq ?_
            refine W.region ?_
            refine WL.op rfl (d_assign rfl ?_)
            refine WL.done (X.then_code ?_)
            refine W.ret (X.block_ret (X.then_ret (X.ret1 rfl rfl ?_)))
            exact ⟨(by simp [rightB]; omega), H1.noneL⟩
          · skip
            refine W.seq ?_
            have hb := mul_bd (a := (d.acc.length : Int)) (b := d.width) (A := 4096) (B := 259) (by omega) (by omega) (by omega) (by omega)
            refine W.region ?_
            refine WL.op rfl (d_fieldAddrB fld25_3 rfl rfl ?_)
            refine WL.op rfl (d_loadB Try.underlying22 rfl rfl (H1.blk 0 rfl) rfl ?_)
            refine WL.op rfl (d_lenS Try.underlying22 rfl ?_)
            refine WL.op rfl (d_move rfl ?_)
            refine WL.op rfl (d_fieldAddrB fld25_1 rfl rfl ?_)
            refine WL.op rfl (d_loadB Try.underlying3 rfl rfl (H1.blk 0 rfl) rfl ?_)
            refine WL.op rfl (d_mul rfl rfl (by omega) (by omega) ?_)
            refine WL.op rfl (d_cmp (decide (((d.next.length : Nat) : Int) ≠ (((d.acc.length : Nat) : Int) * d.width))) rfl rfl rfl ?_)
            refine WL.op rfl (d_move rfl ?_)
            refine WL.part 39 (p := ((d.next.length : Nat) : Int) ≠ (((d.acc.length : Nat) : Int) * d.width)) rfl (fun g24 => ?_) (fun g24 => ?_)
            · skip
              refine WL.opN rfl rfl rfl rfl ?_
              refine WL.opN rfl rfl rfl rfl ?_
              refine WL.opN rfl rfl rfl rfl ?_
              refine WL.op rfl (d_pick rfl rfl ?_)
              refine WL.op rfl (d_move rfl ?_)
              refine WL.opN rfl rfl rfl rfl ?_
              refine WL.opN rfl rfl rfl rfl ?_
              refine WL.opN rfl rfl rfl rfl ?_
              refine WL.opN rfl rfl rfl rfl ?_
              refine WL.op rfl (d_pick rfl rfl ?_)
              refine WL.op rfl (d_assign rfl ?_)
              refine WL.done (X.then_code ?_)
              refine W.pick [30, 3, 2, 1] (Γ' := [(30, .bool true), (3, .int .i64 ((d.acc.length : Nat) : Int)), (2, .bool false), (1, .pointer (some ⟨w.heap.size, 0, none⟩))]) rfl ?_
              refine W.ift rfl ?_
              refine W.seq ?_
              refine W.region ?_
              refine WL.op rfl (d_assign rfl ?_)
              refine WL.done (X.then_code ?_)
              refine W.ret (X.block_ret (X.then_ret (X.ret1 rfl rfl ?_)))
              exact ⟨(by simp [rightB]; omega), H1.noneL⟩
            · skip
              refine WL.opG rfl rfl rfl (d_fieldAddrB fld25_2 rfl rfl ?_)
              refine WL.opG rfl rfl rfl (d_loadB Try.underlying3 rfl rfl (H1.blk 0 rfl) rfl ?_)
              refine WL.opG rfl rfl rfl (d_cmp (decide (d.start < (0 : Int))) rfl rfl rfl ?_)
              refine WL.op rfl (d_pick rfl rfl ?_)
              refine WL.op rfl (d_move rfl ?_)
              refine WL.part 44 (p := d.start < (0 : Int)) rfl (fun g24x => ?_) (fun g24x => ?_)
              · skip
                refine WL.opN rfl rfl rfl rfl ?_
                refine WL.opN rfl rfl rfl rfl ?_
                refine WL.opN rfl rfl rfl rfl ?_
                refine WL.opN rfl rfl rfl rfl ?_
                refine WL.op rfl (d_pick rfl rfl ?_)
                refine WL.op rfl (d_assign rfl ?_)
                refine WL.done (X.then_code ?_)
                refine W.pick [30, 3, 2, 1] (Γ' := [(30, .bool true), (3, .int .i64 ((d.acc.length : Nat) : Int)), (2, .bool false), (1, .pointer (some ⟨w.heap.size, 0, none⟩))]) rfl ?_
                refine W.ift rfl ?_
                refine W.seq ?_
                refine W.region ?_
                refine WL.op rfl (d_assign rfl ?_)
                refine WL.done (X.then_code ?_)
                refine W.ret (X.block_ret (X.then_ret (X.ret1 rfl rfl ?_)))
                exact ⟨(by simp [rightB]; omega), H1.noneL⟩
              · skip
                refine WL.opG rfl rfl rfl (d_fieldAddrB fld25_2 rfl rfl ?_)
                refine WL.opG rfl rfl rfl (d_loadB Try.underlying3 rfl rfl (H1.blk 0 rfl) rfl ?_)
                refine WL.opG rfl rfl rfl (d_move rfl ?_)
                refine WL.opG rfl rfl rfl (d_cmp (decide (d.start ≥ ((d.acc.length : Nat) : Int))) rfl rfl rfl ?_)
                refine WL.op rfl (d_pick rfl rfl ?_)
                refine WL.op rfl (d_assign rfl ?_)
                refine WL.done (X.then_code ?_)
                refine W.pick [30, 3, 2, 1] (Γ' := [(30, .bool (decide (d.start ≥ ((d.acc.length : Nat) : Int)))), (3, .int .i64 ((d.acc.length : Nat) : Int)), (2, .bool false), (1, .pointer (some ⟨w.heap.size, 0, none⟩))]) rfl ?_
                refine W.ite (p := d.start ≥ ((d.acc.length : Nat) : Int)) rfl (fun c24 => ?_) (fun c24 => ?_)
                · skip
                  refine W.seq ?_
                  refine W.region ?_
                  refine WL.op rfl (d_assign rfl ?_)
                  refine WL.done (X.then_code ?_)
                  refine W.ret (X.block_ret (X.then_ret (X.ret1 rfl rfl ?_)))
                  exact ⟨(by simp [rightB]; omega), H1.noneL⟩
                · skip
                  refine W.skip (X.block_normal (X.then_code ?_))
                  refine W.seq ?_
                  refine W.region ?_
                  refine WL.op rfl (d_fieldAddrB fld25_0 rfl rfl ?_)
                  refine WL.op rfl (d_loadB Try.underlying22 rfl rfl (H1.blk 0 rfl) rfl ?_)
                  refine WL.op rfl (d_fieldAddrB fld25_1 rfl rfl ?_)
                  refine WL.op rfl (d_loadB Try.underlying3 rfl rfl (H1.blk 0 rfl) rfl ?_)
                  refine WL.op rfl (d_call ok61 rfl (Ret.calls (within_any dca d.cls dcc d.width w1 (rcd.at H1) ) fun _ w2 p1 => ?_))
                  obtain ⟨rfl, u2⟩ := p1
                  have H2 : UpG w [] w2 [[blk w.heap.size #[.slice dca d.cls.length dcc, .int .i64 d.width, .int .i64 d.start, .slice dna d.next.length dnc, .slice dba d.acc.length dbc] 25]] := H1.call u2
                  refine WL.op rfl (d_move rfl ?_)
                  refine WL.partB 55 (b := withinB d.cls d.width) rfl (fun g27 => ?_) (fun g27 => ?_)
                  · skip
                    refine WL.opG rfl rfl rfl (d_fieldAddrB fld25_3 rfl rfl ?_)
                    refine WL.opG rfl rfl rfl (d_loadB Try.underlying22 rfl rfl (H2.blk 0 rfl) rfl ?_)
                    refine WL.opG rfl rfl rfl (d_move rfl ?_)
                    refine WL.opG rfl rfl rfl (d_call ok61 rfl (Ret.calls (within_any dna d.next dnc ((d.acc.length : Nat) : Int) w2 (rnd.at H2) ) fun _ w3 p2 => ?_))
                    obtain ⟨rfl, u3⟩ := p2
                    have H3 : UpG w [] w3 [[blk w.heap.size #[.slice dca d.cls.length dcc, .int .i64 d.width, .int .i64 d.start, .slice dna d.next.length dnc, .slice dba d.acc.length dbc] 25]] := H2.call u3
                    refine WL.op rfl (d_pick rfl rfl ?_)
                    refine WL.op rfl (d_assign rfl ?_)
                    refine WL.done (X.then_code ?_)
                    refine W.ret (X.ret1 rfl rfl ?_)
                    exact ⟨(by rw [rightB, decide_eq_true (by omega)]; simp [g27]), H3.noneL⟩
                  · skip
                    refine WL.opN rfl rfl rfl rfl ?_
                    refine WL.opN rfl rfl rfl rfl ?_
                    refine WL.opN rfl rfl rfl rfl ?_
                    refine WL.opN rfl rfl rfl rfl ?_
                    refine WL.op rfl (d_pick rfl rfl ?_)
                    refine WL.op rfl (d_assign rfl ?_)
                    refine WL.done (X.then_code ?_)
                    refine W.ret (X.ret1 rfl rfl ?_)
                    exact ⟨(by rw [rightB, decide_eq_true (by omega)]; simp [g27]), H2.noneL⟩

set_option maxRecDepth 20000 in
theorem run_any (d : DfaD) (dca : Option Addr) (dna : Option Addr) (dba : Option Addr) (dcc : Nat) (dnc : Nat) (dbc : Nat) (s : Int) (worda : Option Addr) (word : List Int) (wordc : Nat) (w : World) (rcd : RdT (tyI .i64) w (.slice dca d.cls.length dcc) d.cls) (rnd : RdT (tyI .i64) w (.slice dna d.next.length dnc) d.next) (rbd : RdT tyB w (.slice dba d.acc.length dbc) d.acc) (rword : RdT (tyI .i64) w (.slice worda word.length wordc) word) :
    Calls Try.prog 25 #[.agg #[.slice dca d.cls.length dcc, .int .i64 d.width, .int .i64 d.start, .slice dna d.next.length dnc, .slice dba d.acc.length dbc], .int .i64 s, .slice worda word.length wordc] w (Ret fun v w' => v = .int .i64 (runF d s word) ∧ Upd w [] w' []) := by
  have le_rcd := rcd.le
  have le_rnd := rnd.le
  have le_rbd := rbd.le
  have le_rword := rword.le
  refine calls_of_W (args := [.agg #[.slice dca d.cls.length dcc, .int .i64 d.width, .int .i64 d.start, .slice dna d.next.length dnc, .slice dba d.acc.length dbc], .int .i64 s, .slice worda word.length wordc]) Try.func25 rfl rfl rfl ?_
  have H0 : UpG w [] w [] := UpG.nil w
  show W _ _ _ _ [(0, .agg #[.slice dca d.cls.length dcc, .int .i64 d.width, .int .i64 d.start, .slice dna d.next.length dnc, .slice dba d.acc.length dbc]), (1, .int .i64 s), (2, .slice worda word.length wordc)] w
  refine W.seq ?_
  refine W.region ?_
  refine WL.op rfl (d_box rfl fun w1 u1 => ?_)
  have H1 : UpG w [] w1 [[blk w.heap.size #[.slice dca d.cls.length dcc, .int .i64 d.width, .int .i64 d.start, .slice dna d.next.length dnc, .slice dba d.acc.length dbc] 25]] := H0.new' u1
  refine WL.op rfl (d_assign rfl ?_)
  refine WL.done (X.then_code ?_)
  refine W.seq ?_
  refine W.seq ?_
  refine W.region ?_
  refine WL.op rfl (d_loadAB [.slice dca d.cls.length dcc, .int .i64 d.width, .int .i64 d.start, .slice dna d.next.length dnc, .slice dba d.acc.length dbc] Try.underlying25 rfl sz25 rfl (H1.blk 0 rfl) rfl rfl ?_)
  refine WL.op rfl (d_call ok24 rfl (Ret.calls (right_any d dca dna dba dcc dnc dbc w1 (rcd.at H1) (rnd.at H1) (rbd.at H1) ) fun _ w2 p1 => ?_))
  obtain ⟨rfl, u2⟩ := p1
  have H2 : UpG w [] w2 [[blk w.heap.size #[.slice dca d.cls.length dcc, .int .i64 d.width, .int .i64 d.start, .slice dna d.next.length dnc, .slice dba d.acc.length dbc] 25]] := H1.call u2
  refine WL.op rfl (d_notB rfl ?_)
  refine WL.op rfl (d_move rfl ?_)
  refine WL.partB 12 (b := !(rightB d)) rfl (fun g38 => ?_) (fun g38 => ?_)
  · skip
    refine WL.opN rfl rfl rfl rfl ?_
    refine WL.opN rfl rfl rfl rfl ?_
    refine WL.op rfl (d_pick rfl rfl ?_)
    refine WL.op rfl (d_move rfl ?_)
    refine WL.opN rfl rfl rfl rfl ?_
    refine WL.opN rfl rfl rfl rfl ?_
    refine WL.opN rfl rfl rfl rfl ?_
    refine WL.opN rfl rfl rfl rfl ?_
    refine WL.opN rfl rfl rfl rfl ?_
    refine WL.op rfl (d_pick rfl rfl ?_)
    refine WL.done (X.then_code ?_)
    refine W.ift rfl ?_
    refine W.seq ?_
    refine W.region ?_
    refine WL.op rfl (d_assign rfl ?_)
    refine WL.done (X.then_code ?_)
    refine W.ret (X.then_ret (X.ret1 rfl rfl ?_))
    exact ⟨(by first | rw [runF_no (.inl g38)] | rw [runF_no (.inr (by omega))]), H2.noneL⟩
  · skip
    refine WL.opG rfl rfl rfl (d_move rfl ?_)
    refine WL.opG rfl rfl rfl (d_cmp (decide (s < (0 : Int))) rfl rfl rfl ?_)
    refine WL.op rfl (d_pick rfl rfl ?_)
    refine WL.op rfl (d_move rfl ?_)
    refine WL.part 16 (p := s < (0 : Int)) rfl (fun g38x => ?_) (fun g38x => ?_)
    · skip
      refine WL.opN rfl rfl rfl rfl ?_
      refine WL.opN rfl rfl rfl rfl ?_
      refine WL.opN rfl rfl rfl rfl ?_
      refine WL.opN rfl rfl rfl rfl ?_
      refine WL.opN rfl rfl rfl rfl ?_
      refine WL.op rfl (d_pick rfl rfl ?_)
      refine WL.done (X.then_code ?_)
      refine W.ift rfl ?_
      refine W.seq ?_
      refine W.region ?_
      refine WL.op rfl (d_assign rfl ?_)
      refine WL.done (X.then_code ?_)
      refine W.ret (X.then_ret (X.ret1 rfl rfl ?_))
      exact ⟨(by first | rw [runF_no (.inl g38)] | rw [runF_no (.inr (by omega))]), H2.noneL⟩
    · skip
      refine WL.opG rfl rfl rfl (d_move rfl ?_)
      refine WL.opG rfl rfl rfl (d_fieldAddrB fld25_4 rfl rfl ?_)
      refine WL.opG rfl rfl rfl (d_loadB Try.underlying23 rfl rfl (H2.blk 0 rfl) rfl ?_)
      refine WL.opG rfl rfl rfl (d_lenS Try.underlying23 rfl ?_)
      refine WL.opG rfl rfl rfl (d_cmp (decide (s ≥ ((d.acc.length : Nat) : Int))) rfl rfl rfl ?_)
      refine WL.op rfl (d_pick rfl rfl ?_)
      refine WL.done (X.then_code ?_)
      refine W.ite (p := s ≥ ((d.acc.length : Nat) : Int)) rfl (fun c38 => ?_) (fun c38 => ?_)
      · skip
        refine W.seq ?_
        refine W.region ?_
        refine WL.op rfl (d_assign rfl ?_)
        refine WL.done (X.then_code ?_)
        refine W.ret (X.then_ret (X.ret1 rfl rfl ?_))
        exact ⟨(by first | rw [runF_no (.inl g38)] | rw [runF_no (.inr (by omega))]), H2.noneL⟩
      · skip
        refine W.skip (X.then_code ?_)
        refine W.seq ?_
        refine W.seq ?_
        refine W.region ?_
        refine WL.op rfl (d_move rfl ?_)
        refine WL.op rfl (d_lenS Try.underlying22 rfl ?_)
        refine WL.op rfl (d_move rfl ?_)
        refine WL.done (X.then_code ?_)
        refine W.block ?_
        refine W.pick [25, 24, 23, 6, 3, 1] (Γ' := [(25, .int .i64 0), (24, .int .i64 ((word.length : Nat) : Int)), (23, .slice worda word.length wordc), (6, .int .i64 0), (3, .pointer (some ⟨w.heap.size, 0, none⟩)), (1, .int .i64 s)]) rfl ?_
        refine W.loop (fun m Γ' w' => ∃ k : Nat, ∃ q : Int, Γ' = [(25, .int .i64 ((k : Nat) : Int)), (24, .int .i64 ((word.length : Nat) : Int)), (23, .slice worda word.length wordc), (6, .int .i64 0), (3, .pointer (some ⟨w.heap.size, 0, none⟩)), (1, .int .i64 q)] ∧ UpG w [] w' [[blk w.heap.size #[.slice dca d.cls.length dcc, .int .i64 d.width, .int .i64 d.start, .slice dna d.next.length dnc, .slice dba d.acc.length dbc] 25]] ∧ (k ≤ word.length) ∧ (0 ≤ q ∧ q < (d.acc.length : Int)) ∧ (runF d s word = runFrom d word k q) ∧ m = word.length - k) (word.length - 0) ⟨0, s, rfl, H2, (by first | assumption | omega | simp), (by omega), (by exact runF_go g38 (by omega) (by omega)), rfl⟩ ?_
        rintro m1 Γ1 w3 ⟨k, q, rfl, H3, hk, hq, hr, rfl⟩
        refine W.seq ?_
        refine W.region ?_
        refine WL.op rfl (d_cmp (decide (((k : Nat) : Int) < ((word.length : Nat) : Int))) rfl rfl rfl ?_)
        refine WL.done (X.then_code ?_)
        refine W.seq ?_
        refine W.ite (p := ((k : Nat) : Int) < ((word.length : Nat) : Int)) rfl (fun c41 => ?_) (fun c41 => ?_)
        · skip
          refine W.skip (X.then_code ?_)
          refine W.seq ?_
          refine W.block ?_
          refine W.seq ?_
          refine W.region ?_
          refine WL.op rfl (t_addr1 k (T := (tyI .i64)) rfl Try.underlying22 sz3 rfl rfl (rword.at H3) rfl (by omega) ?_)
          refine WL.op rfl (t_load1 k 0 (T := (tyI .i64)) rfl Try.underlying3 rfl rfl (rword.at H3) (by omega) rfl ?_)
          refine WL.op rfl (d_assign rfl ?_)
          refine WL.done (X.then_code ?_)
          refine W.seq ?_
          refine W.seq ?_
          refine W.region ?_
          refine WL.op rfl (d_move rfl ?_)
          refine WL.op rfl (d_call ok62 rfl (Ret.calls (in_any (word.getD k 0) w3  ) fun _ w4 p2 => ?_))
          obtain ⟨rfl, u3⟩ := p2
          have H4 : UpG w [] w4 [[blk w.heap.size #[.slice dca d.cls.length dcc, .int .i64 d.width, .int .i64 d.start, .slice dna d.next.length dnc, .slice dba d.acc.length dbc] 25]] := H3.call u3
          refine WL.op rfl (d_notB rfl ?_)
          refine WL.done (X.then_code ?_)
          refine W.iteB (b := !(decide (0 ≤ (word.getD k 0) ∧ (word.getD k 0) < 259))) rfl (fun c42 => ?_) (fun c42 => ?_)
          · skip
            refine W.seq ?_
            refine W.region ?_
            refine WL.op rfl (d_assign rfl ?_)
            refine WL.done (X.then_code ?_)
            refine W.ret (X.then_ret (X.block_ret (X.then_ret (X.then_ret (X.block_ret (X.then_ret (X.ret1 rfl rfl ?_)))))))
            exact ⟨(by rw [hr, runFrom_bad (by omega) (by intro hh; rw [decide_eq_true hh] at c42; exact absurd c42 (by decide))]), H4.noneL⟩
          · skip
            refine W.skip (X.then_code ?_)
            have hsy : 0 ≤ word.getD k 0 ∧ word.getD k 0 < 259 := by simpa using c42
            have hrt : rightB d = true := by simpa using g38
            have hcx := right_sym hrt hsy.1 hsy.2
            have hix := right_idx hrt hq.1 hq.2 hcx.2.1 hcx.2.2.1
            refine W.regionD mixed (by kernel_rfl) fun hok1 w5 k1 => ?_
            have H5 : UpG w [] w5 [[blk w.heap.size #[.slice dca d.cls.length dcc, .int .i64 d.width, .int .i64 d.start, .slice dna d.next.length dnc, .slice dba d.acc.length dbc] 25]] := H4.kept k1
            refine WD.take hok1 0 (.pointer (some ⟨w.heap.size, 3, none⟩)) (fun _ => True) rfl rfl rfl rfl rfl trivial (.inl ⟨rfl, fun _ _ => d_fieldAddrB fld25_3 rfl rfl ⟨rfl, rfl⟩⟩) ?_
            refine WD.take hok1 1 (.slice dna d.next.length dnc) (fun w' => w'.heap[w.heap.size]? = some (.cells #[.slice dca d.cls.length dcc, .int .i64 d.width, .int .i64 d.start, .slice dna d.next.length dnc, .slice dba d.acc.length dbc] 25 (0, 0))) rfl rfl rfl rfl rfl (H5.blk 0 rfl) (.inl ⟨rfl, fun _ hC => d_loadB Try.underlying22 rfl rfl hC rfl ⟨rfl, rfl⟩⟩) ?_
            refine WD.take hok1 2 (.int .i64 q) (fun _ => True) rfl rfl rfl rfl rfl trivial (.inl ⟨rfl, fun _ _ => d_move rfl ⟨rfl, rfl⟩⟩) ?_
            refine WD.take hok1 3 (.pointer (some ⟨w.heap.size, 1, none⟩)) (fun _ => True) rfl rfl rfl rfl rfl trivial (.inl ⟨rfl, fun _ _ => d_fieldAddrB fld25_1 rfl rfl ⟨rfl, rfl⟩⟩) ?_
            refine WD.take hok1 4 (.int .i64 d.width) (fun w' => w'.heap[w.heap.size]? = some (.cells #[.slice dca d.cls.length dcc, .int .i64 d.width, .int .i64 d.start, .slice dna d.next.length dnc, .slice dba d.acc.length dbc] 25 (0, 0))) rfl rfl rfl rfl rfl (H5.blk 0 rfl) (.inl ⟨rfl, fun _ hC => d_loadB Try.underlying3 rfl rfl hC rfl ⟨rfl, rfl⟩⟩) ?_
            refine WD.take hok1 5 (.int .i64 (q * d.width)) (fun _ => True) rfl rfl rfl rfl rfl trivial (.inl ⟨rfl, fun _ _ => d_mul rfl rfl (by omega) (by omega) ⟨rfl, rfl⟩⟩) ?_
            refine WD.take hok1 6 (.pointer (some ⟨w.heap.size, 0, none⟩)) (fun _ => True) rfl rfl rfl rfl rfl trivial (.inl ⟨rfl, fun _ _ => d_fieldAddrB fld25_0 rfl rfl ⟨rfl, rfl⟩⟩) ?_
            refine WD.take hok1 7 (.slice dca d.cls.length dcc) (fun w' => w'.heap[w.heap.size]? = some (.cells #[.slice dca d.cls.length dcc, .int .i64 d.width, .int .i64 d.start, .slice dna d.next.length dnc, .slice dba d.acc.length dbc] 25 (0, 0))) rfl rfl rfl rfl rfl (H5.blk 0 rfl) (.inl ⟨rfl, fun _ hC => d_loadB Try.underlying22 rfl rfl hC rfl ⟨rfl, rfl⟩⟩) ?_
            refine WD.take hok1 8 (.int .i64 (word.getD k 0)) (fun _ => True) rfl rfl rfl rfl rfl trivial (.inl ⟨rfl, fun _ _ => d_move rfl ⟨rfl, rfl⟩⟩) ?_
            refine WD.take hok1 9 (elemPtr (.slice dca d.cls.length dcc) ((word.getD k 0).toNat)) (fun w' => RdT (tyI .i64) w' (.slice dca d.cls.length dcc) d.cls) rfl rfl rfl rfl rfl (rcd.at H5) (.inl ⟨rfl, fun _ hC => t_addr1 ((word.getD k 0).toNat) (T := (tyI .i64)) rfl Try.underlying22 sz3 rfl rfl hC (by omega) (by omega) ⟨rfl, rfl⟩⟩) ?_
            refine WD.take hok1 10 (.int .i64 (d.cls.getD ((word.getD k 0).toNat) 0)) (fun w' => RdT (tyI .i64) w' (.slice dca d.cls.length dcc) d.cls) rfl rfl rfl rfl rfl (rcd.at H5) (.inl ⟨rfl, fun _ hC => t_load1 ((word.getD k 0).toNat) 0 (T := (tyI .i64)) rfl Try.underlying3 rfl rfl hC (by omega) rfl ⟨rfl, rfl⟩⟩) ?_
            refine WD.take hok1 11 (.int .i64 ((q * d.width) + (d.cls.getD ((word.getD k 0).toNat) 0))) (fun _ => True) rfl rfl rfl rfl rfl trivial (.inl ⟨rfl, fun _ _ => d_add rfl rfl (by omega) (by omega) ⟨rfl, rfl⟩⟩) ?_
            refine WD.take hok1 12 (elemPtr (.slice dna d.next.length dnc) (((q * d.width) + (d.cls.getD ((word.getD k 0).toNat) 0)).toNat)) (fun w' => RdT (tyI .i64) w' (.slice dna d.next.length dnc) d.next) rfl rfl rfl rfl rfl (rnd.at H5) (.inl ⟨rfl, fun _ hC => t_addr1 (((q * d.width) + (d.cls.getD ((word.getD k 0).toNat) 0)).toNat) (T := (tyI .i64)) rfl Try.underlying22 sz3 rfl rfl hC (by omega) (by omega) ⟨rfl, rfl⟩⟩) ?_
            refine WD.take hok1 13 (.int .i64 (d.next.getD (((q * d.width) + (d.cls.getD ((word.getD k 0).toNat) 0)).toNat) 0)) (fun w' => RdT (tyI .i64) w' (.slice dna d.next.length dnc) d.next) rfl rfl rfl rfl rfl (rnd.at H5) (.inl ⟨rfl, fun _ hC => t_load1 (((q * d.width) + (d.cls.getD ((word.getD k 0).toNat) 0)).toNat) 0 (T := (tyI .i64)) rfl Try.underlying3 rfl rfl hC (by omega) rfl ⟨rfl, rfl⟩⟩) ?_
            refine WD.take hok1 14 (.int .i64 (d.next.getD (((q * d.width) + (d.cls.getD ((word.getD k 0).toNat) 0)).toNat) 0)) (fun _ => True) rfl rfl rfl rfl rfl trivial (.inl ⟨rfl, fun _ _ => d_assign rfl ⟨rfl, rfl⟩⟩) ?_
            refine WD.done hok1 rfl (X.block_normal (X.then_code ?_))
            refine W.region ?_
            refine WL.op rfl (d_add rfl rfl (by omega) (by omega) ?_)
            refine WL.op rfl (d_move rfl ?_)
            refine WL.done ?_
            exact X.next [25, 24, 23, 6, 3, 1] (Γ' := [(25, .int .i64 (((k + 1) : Nat) : Int)), (24, .int .i64 ((word.length : Nat) : Int)), (23, .slice worda word.length wordc), (6, .int .i64 0), (3, .pointer (some ⟨w.heap.size, 0, none⟩)), (1, .int .i64 (d.next.getD (((q * d.width) + (d.cls.getD ((word.getD k 0).toNat) 0)).toNat) 0))]) rfl (word.length - (k + 1)) (by omega) ⟨k + 1, d.next.getD (((q * d.width) + (d.cls.getD ((word.getD k 0).toNat) 0)).toNat) 0, rfl, H5, (by first | assumption | omega | simp), (by omega), (by rw [hr]; exact runFrom_step (by omega) hsy.1 hsy.2), rfl⟩
        · skip
          refine W.exit (X.then_exit (X.then_exit (X.block_exit (X.then_code ?_))))
          refine W.seq ?_
          refine W.region ?_
          refine WL.op rfl (d_move rfl ?_)
          refine WL.op rfl (d_assign rfl ?_)
          refine WL.done (X.then_code ?_)
          refine W.ret (X.ret1 rfl rfl ?_)
          exact ⟨(by rw [hr, runFrom_end (by omega)]), H3.noneL⟩

set_option maxRecDepth 20000 in
theorem go_any (d : DfaD) (dca : Option Addr) (dna : Option Addr) (dba : Option Addr) (dcc : Nat) (dnc : Nat) (dbc : Nat) (s : Int) (sym : Int) (w : World) (rcd : RdT (tyI .i64) w (.slice dca d.cls.length dcc) d.cls) (rnd : RdT (tyI .i64) w (.slice dna d.next.length dnc) d.next) (rbd : RdT tyB w (.slice dba d.acc.length dbc) d.acc) :
    Calls Try.prog 23 #[.agg #[.slice dca d.cls.length dcc, .int .i64 d.width, .int .i64 d.start, .slice dna d.next.length dnc, .slice dba d.acc.length dbc], .int .i64 s, .int .i64 sym] w (Ret fun v w' => v = .int .i64 (runF d s [sym]) ∧ Upd w [] w' []) := by
  have le_rcd := rcd.le
  have le_rnd := rnd.le
  have le_rbd := rbd.le
  refine calls_of_W (args := [.agg #[.slice dca d.cls.length dcc, .int .i64 d.width, .int .i64 d.start, .slice dna d.next.length dnc, .slice dba d.acc.length dbc], .int .i64 s, .int .i64 sym]) Try.func23 rfl rfl rfl ?_
  have H0 : UpG w [] w [] := UpG.nil w
  show W _ _ _ _ [(0, .agg #[.slice dca d.cls.length dcc, .int .i64 d.width, .int .i64 d.start, .slice dna d.next.length dnc, .slice dba d.acc.length dbc]), (1, .int .i64 s), (2, .int .i64 sym)] w
  refine W.seq ?_
  refine W.region ?_
  refine WL.op rfl (d_box rfl fun w1 u1 => ?_)
  have H1 : UpG w [] w1 [[blk w.heap.size #[.slice dca d.cls.length dcc, .int .i64 d.width, .int .i64 d.start, .slice dna d.next.length dnc, .slice dba d.acc.length dbc] 25]] := H0.new' u1
  refine WL.op rfl (d_assign rfl ?_)
  refine WL.done (X.then_code ?_)
  refine W.seq ?_
  refine W.region ?_
  refine WL.op rfl (d_loadAB [.slice dca d.cls.length dcc, .int .i64 d.width, .int .i64 d.start, .slice dna d.next.length dnc, .slice dba d.acc.length dbc] Try.underlying25 rfl sz25 rfl (H1.blk 0 rfl) rfl rfl ?_)
  refine WL.op rfl (d_move rfl ?_)
  refine WL.op rfl (d_move rfl ?_)
  refine WL.op rfl (t_buildSlice (T := (tyI .i64)) (xs := [sym]) (cs := #[.int .i64 sym]) rfl Try.underlying22 sz3 rfl rfl rfl rfl (by kernel_rfl) rfl rfl fun w2 u2 => ?_)
  have H2 : UpG w [] w2 [[blk w.heap.size #[.slice dca d.cls.length dcc, .int .i64 d.width, .int .i64 d.start, .slice dna d.next.length dnc, .slice dba d.acc.length dbc] 25], [rowT (tyI .i64) (.slice (some ⟨w1.heap.size, 0, none⟩) ([sym].length) ([sym].length)) 3 [sym]]] := H1.new' u2
  refine WL.op rfl (d_call ok25 rfl (Ret.calls (run_any d dca dna dba dcc dnc dbc s (some ⟨w1.heap.size, 0, none⟩) [sym] ([sym].length) w2 (rcd.at H2) (rnd.at H2) (rbd.at H2) (H2.rdT 1 rfl) ) fun _ w3 p1 => ?_))
  obtain ⟨rfl, u3⟩ := p1
  have H3 : UpG w [] w3 [[blk w.heap.size #[.slice dca d.cls.length dcc, .int .i64 d.width, .int .i64 d.start, .slice dna d.next.length dnc, .slice dba d.acc.length dbc] 25], [rowT (tyI .i64) (.slice (some ⟨w1.heap.size, 0, none⟩) ([sym].length) ([sym].length)) 3 [sym]]] := H2.call u3
  refine WL.op rfl (d_assign rfl ?_)
  refine WL.done (X.then_code ?_)
  refine W.ret (X.ret1 rfl rfl ?_)
  exact ⟨rfl, H3.noneL⟩

set_option maxRecDepth 20000 in
theorem accepts_any (d : DfaD) (dca : Option Addr) (dna : Option Addr) (dba : Option Addr) (dcc : Nat) (dnc : Nat) (dbc : Nat) (worda : Option Addr) (word : List Int) (wordc : Nat) (w : World) (rcd : RdT (tyI .i64) w (.slice dca d.cls.length dcc) d.cls) (rnd : RdT (tyI .i64) w (.slice dna d.next.length dnc) d.next) (rbd : RdT tyB w (.slice dba d.acc.length dbc) d.acc) (rword : RdT (tyI .i64) w (.slice worda word.length wordc) word) :
    Calls Try.prog 26 #[.agg #[.slice dca d.cls.length dcc, .int .i64 d.width, .int .i64 d.start, .slice dna d.next.length dnc, .slice dba d.acc.length dbc], .slice worda word.length wordc] w (Ret fun v w' => v = .bool (acceptsB d word) ∧ Upd w [] w' []) := by
  have le_rcd := rcd.le
  have le_rnd := rnd.le
  have le_rbd := rbd.le
  have le_rword := rword.le
  refine calls_of_W (args := [.agg #[.slice dca d.cls.length dcc, .int .i64 d.width, .int .i64 d.start, .slice dna d.next.length dnc, .slice dba d.acc.length dbc], .slice worda word.length wordc]) Try.func26 rfl rfl rfl ?_
  have H0 : UpG w [] w [] := UpG.nil w
  show W _ _ _ _ [(0, .agg #[.slice dca d.cls.length dcc, .int .i64 d.width, .int .i64 d.start, .slice dna d.next.length dnc, .slice dba d.acc.length dbc]), (1, .slice worda word.length wordc)] w
  refine W.seq ?_
  refine W.region ?_
  refine WL.op rfl (d_box rfl fun w1 u1 => ?_)
  have H1 : UpG w [] w1 [[blk w.heap.size #[.slice dca d.cls.length dcc, .int .i64 d.width, .int .i64 d.start, .slice dna d.next.length dnc, .slice dba d.acc.length dbc] 25]] := H0.new' u1
  refine WL.op rfl (d_assign rfl ?_)
  refine WL.done (X.then_code ?_)
  refine W.seq ?_
  refine W.region ?_
  refine WL.op rfl (d_loadAB [.slice dca d.cls.length dcc, .int .i64 d.width, .int .i64 d.start, .slice dna d.next.length dnc, .slice dba d.acc.length dbc] Try.underlying25 rfl sz25 rfl (H1.blk 0 rfl) rfl rfl ?_)
  refine WL.op rfl (d_fieldAddrB fld25_2 rfl rfl ?_)
  refine WL.op rfl (d_loadB Try.underlying3 rfl rfl (H1.blk 0 rfl) rfl ?_)
  refine WL.op rfl (d_move rfl ?_)
  refine WL.op rfl (d_call ok25 rfl (Ret.calls (run_any d dca dna dba dcc dnc dbc d.start worda word wordc w1 (rcd.at H1) (rnd.at H1) (rbd.at H1) (rword.at H1) ) fun _ w2 p1 => ?_))
  obtain ⟨rfl, u2⟩ := p1
  have H2 : UpG w [] w2 [[blk w.heap.size #[.slice dca d.cls.length dcc, .int .i64 d.width, .int .i64 d.start, .slice dna d.next.length dnc, .slice dba d.acc.length dbc] 25]] := H1.call u2
  refine WL.op rfl (d_assign rfl ?_)
  refine WL.done (X.then_code ?_)
  refine W.seq ?_
  have hlt := runF_lt d d.start word
  refine W.region ?_
  refine WL.op rfl (d_move rfl ?_)
  refine WL.op rfl (d_cmp (decide ((runF d d.start word) ≥ (0 : Int))) rfl rfl rfl ?_)
  refine WL.op rfl (d_move rfl ?_)
  refine WL.part 13 (p := (runF d d.start word) ≥ (0 : Int)) rfl (fun g53 => ?_) (fun g53 => ?_)
  · skip
    refine WL.opG rfl rfl rfl (d_fieldAddrB fld25_4 rfl rfl ?_)
    refine WL.opG rfl rfl rfl (d_loadB Try.underlying23 rfl rfl (H2.blk 0 rfl) rfl ?_)
    refine WL.opG rfl rfl rfl (d_move rfl ?_)
    refine WL.opG rfl rfl rfl (t_addr1 ((runF d d.start word).toNat) (T := tyB) rfl Try.underlying23 sz4 rfl rfl (rbd.at H2) (by omega) (by omega) ?_)
    refine WL.opG rfl rfl rfl (t_load1 ((runF d d.start word).toNat) false (T := tyB) rfl Try.underlying4 rfl rfl (rbd.at H2) (by omega) rfl ?_)
    refine WL.op rfl (d_pick rfl rfl ?_)
    refine WL.op rfl (d_assign rfl ?_)
    refine WL.done (X.then_code ?_)
    refine W.ret (X.ret1 rfl rfl ?_)
    exact ⟨(by first | rw [acceptsB_no (by omega)] | rw [acceptsB_yes (by omega)]), H2.noneL⟩
  · skip
    refine WL.opN rfl rfl rfl rfl ?_
    refine WL.opN rfl rfl rfl rfl ?_
    refine WL.opN rfl rfl rfl rfl ?_
    refine WL.opN rfl rfl rfl rfl ?_
    refine WL.opN rfl rfl rfl rfl ?_
    refine WL.op rfl (d_pick rfl rfl ?_)
    refine WL.op rfl (d_assign rfl ?_)
    refine WL.done (X.then_code ?_)
    refine W.ret (X.ret1 rfl rfl ?_)
    exact ⟨(by first | rw [acceptsB_no (by omega)] | rw [acceptsB_yes (by omega)]), H2.noneL⟩
end Go.Proofs.Ytoeockpkkmgieaa

/- Spreading over states: plain data. -/
namespace Go.Sx
set_option linter.unusedVariables false
set_option linter.unusedSimpArgs false
def cf (o : List Bool) : Nat := (o.filter (!·)).length
theorem cf_set (o : List Bool) : ∀ (i : Nat), i < o.length → o.getD i false = false → cf (o.set i true) + 1 = cf o := by
  induction o with
  | nil => intro i h; simp at h
  | cons x xs ih =>
    intro i hi hx
    cases i with
    | zero => simp at hx; subst hx; simp [cf]
    | succ i =>
      have := ih i (by simpa using hi) (by simpa using hx)
      cases x <;> simp [cf] at * <;> omega
theorem getD_set_same {o : List Bool} {i : Nat} (h : i < o.length) : (o.set i true).getD i false = true := by simp [List.getD_eq_getElem?_getD, h]
theorem getD_set_keep {o : List Bool} {i j : Nat} (h : o.getD j false = true) : (o.set i true).getD j false = true := by
  by_cases e : i = j
  · subst e
    have : i < o.length := by
      rcases Nat.lt_or_ge i o.length with h1 | h1
      · exact h1
      · simp [List.getD_eq_getElem?_getD, List.getElem?_eq_none h1] at h
    exact getD_set_same this
  · simp [List.getD_eq_getElem?_getD, List.getElem?_set_ne e] at h ⊢; exact h
theorem getD_set_or {o : List Bool} {i j : Nat} (h : (o.set i true).getD j false = true) : i = j ∨ o.getD j false = true := by
  by_cases e : i = j
  · exact .inl e
  · simp [List.getD_eq_getElem?_getD, List.getElem?_set_ne e] at h ⊢; exact .inr h
/-- what is marked behind a spread -/
structure SprF (nx : Int → List Int) (n : Nat) (t0 : List Int) (o : List Bool) : Prop where
  len : o.length = n
  init : ∀ t, t ∈ t0 → o.getD t.toNat false = true
  clo : ∀ s : Nat, o.getD s false = true → ∀ t, t ∈ nx s → o.getD t.toNat false = true
  min : ∀ Q : Int → Prop, (∀ t, t ∈ t0 → Q t) → (∀ s, Q s → ∀ t, t ∈ nx s → Q t) → ∀ s : Nat, o.getD s false = true → Q s
/-- the first loop -/
structure SprA (n : Nat) (t0 : List Int) (o : List Bool) (k : Nat) : Prop where
  len : o.length = n
  init : ∀ i, i < k → o.getD (t0.getD i 0).toNat false = true
  only : ∀ s : Nat, o.getD s false = true → (s : Int) ∈ t0
/-- within: s is in hand, k of its next ones are done -/
structure SprJ (nx : Int → List Int) (n : Nat) (t0 : List Int) (o : List Bool) (todo : List Int) (s : Int) (k : Nat) : Prop where
  len : o.length = n
  init : ∀ t, t ∈ t0 → o.getD t.toNat false = true
  inT : ∀ t, t ∈ todo → (0 ≤ t ∧ t < (n : Int)) ∧ o.getD t.toNat false = true
  clo : ∀ r : Nat, o.getD r false = true → (r : Int) ∈ todo ∨ (r : Int) = s ∨ ∀ t, t ∈ nx r → o.getD t.toNat false = true
  now : 0 ≤ s ∧ s < (n : Int) ∧ o.getD s.toNat false = true
  part : ∀ i, i < k → o.getD ((nx s).getD i 0).toNat false = true
  min : ∀ Q : Int → Prop, (∀ t, t ∈ t0 → Q t) → (∀ s, Q s → ∀ t, t ∈ nx s → Q t) → ∀ s : Nat, o.getD s false = true → Q s
structure SprI (nx : Int → List Int) (n : Nat) (t0 : List Int) (o : List Bool) (todo : List Int) : Prop where
  len : o.length = n
  init : ∀ t, t ∈ t0 → o.getD t.toNat false = true
  inT : ∀ t, t ∈ todo → (0 ≤ t ∧ t < (n : Int)) ∧ o.getD t.toNat false = true
  clo : ∀ r : Nat, o.getD r false = true → (r : Int) ∈ todo ∨ ∀ t, t ∈ nx r → o.getD t.toNat false = true
  min : ∀ Q : Int → Prop, (∀ t, t ∈ t0 → Q t) → (∀ s, Q s → ∀ t, t ∈ nx s → Q t) → ∀ s : Nat, o.getD s false = true → Q s
section
variable {nx : Int → List Int} {n : Nat} {t0 todo : List Int} {o : List Bool} {s : Int} {k : Nat}
theorem SprA.start (n : Nat) (t0 : List Int) : SprA n t0 (List.replicate n false) 0 := ⟨by simp, fun i h => by omega, fun s h => by
  simp only [List.getD_eq_getElem?_getD, List.getElem?_replicate] at h
  split at h <;> simp at h⟩
theorem SprA.step (h : SprA n t0 o k) (hk : k < t0.length) (hr : ∀ t, t ∈ t0 → 0 ≤ t ∧ t < (n : Int)) : SprA n t0 (o.set (t0.getD k 0).toNat true) (k + 1) := by
  have hm : t0.getD k 0 ∈ t0 := by simp [List.getD_eq_getElem?_getD, hk]
  have hb := hr _ hm
  refine ⟨by simp [h.len], all_step (fun i hi => getD_set_keep (h.init i hi)) (getD_set_same (by rw [h.len]; omega)), fun r hr' => ?_⟩
  rcases getD_set_or hr' with e | e
  · rw [← e, Int.toNat_of_nonneg hb.1]; exact hm
  · exact h.only r e
theorem SprA.done (h : SprA n t0 o k) (hk : ¬ k < t0.length) (hr : ∀ t, t ∈ t0 → 0 ≤ t ∧ t < (n : Int)) : SprI nx n t0 o t0 := by
  have hi : ∀ t, t ∈ t0 → o.getD t.toNat false = true := fun t ht => by
    obtain ⟨i, hi, rfl⟩ := List.mem_iff_getElem.1 ht
    have := h.init i (by omega)
    simpa [List.getD_eq_getElem?_getD, hi] using this
  exact ⟨h.len, hi, fun t ht => ⟨hr t ht, hi t ht⟩, fun r hr' => .inl (h.only r hr'), fun Q hQ _ s hs => hQ _ (h.only s hs)⟩
theorem SprI.pop (h : SprI nx n t0 o todo) (ht : 0 < todo.length) : SprJ nx n t0 o (todo.take (todo.length - 1)) (todo.getD (todo.length - 1) 0) 0 := by
  have hl : todo.length - 1 < todo.length := by omega
  have hm : todo.getD (todo.length - 1) 0 ∈ todo := by simp [List.getD_eq_getElem?_getD, hl]
  obtain ⟨⟨b1, b2⟩, b3⟩ := h.inT _ hm
  refine ⟨h.len, h.init, fun t ht => h.inT t (List.mem_of_mem_take ht), fun r hr => ?_, ⟨b1, b2, b3⟩, fun i hi => by omega, h.min⟩
  rcases h.clo r hr with c | c
  · obtain ⟨i, hi, e⟩ := List.mem_iff_getElem.1 c
    by_cases hh : i = todo.length - 1
    · right; left; subst hh; rw [← e]; simp [List.getD_eq_getElem?_getD, hl]
    · left; rw [← e]; exact List.mem_iff_getElem.2 ⟨i, by simp; omega, by simp⟩
  · exact .inr (.inr c)
theorem SprJ.old (h : SprJ nx n t0 o todo s k) (hk : k < (nx s).length) (hm : o.getD ((nx s).getD k 0).toNat false = true) : SprJ nx n t0 o todo s (k + 1) :=
  ⟨h.len, h.init, h.inT, h.clo, h.now, all_step h.part hm, h.min⟩
theorem SprJ.new (h : SprJ nx n t0 o todo s k) (hk : k < (nx s).length) (hb : 0 ≤ (nx s).getD k 0 ∧ (nx s).getD k 0 < (n : Int)) : SprJ nx n t0 (o.set ((nx s).getD k 0).toNat true) (todo ++ [(nx s).getD k 0]) s (k + 1) := by
  have hin : (nx s).getD k 0 ∈ nx s := by simp [List.getD_eq_getElem?_getD, hk]
  have hsame := getD_set_same (o := o) (i := ((nx s).getD k 0).toNat) (by rw [h.len]; omega)
  refine ⟨by simp [h.len], fun t ht => getD_set_keep (h.init t ht), fun t ht => ?_, fun r hr => ?_, ⟨h.now.1, h.now.2.1, getD_set_keep h.now.2.2⟩, all_step (fun i hi => getD_set_keep (h.part i hi)) hsame, fun Q q1 q2 r hr => ?_⟩
  · rcases List.mem_append.1 ht with c | c
    · exact ⟨(h.inT t c).1, getD_set_keep (h.inT t c).2⟩
    · simp only [List.mem_singleton] at c; subst c; exact ⟨hb, hsame⟩
  · rcases getD_set_or hr with e | e
    · left; rw [← e, Int.toNat_of_nonneg hb.1]; simp
    · rcases h.clo r e with c | c | c
      · left; exact List.mem_append_left _ c
      · exact .inr (.inl c)
      · exact .inr (.inr fun t ht => getD_set_keep (c t ht))
  · rcases getD_set_or hr with e | e
    · rw [← e, Int.toNat_of_nonneg hb.1]
      have := h.min Q q1 q2 s.toNat h.now.2.2
      rw [Int.toNat_of_nonneg h.now.1] at this
      exact q2 s this _ hin
    · exact h.min Q q1 q2 r e
theorem SprJ.done (h : SprJ nx n t0 o todo s k) (hk : ¬ k < (nx s).length) : SprI nx n t0 o todo := by
  refine ⟨h.len, h.init, h.inT, fun r hr => ?_, h.min⟩
  rcases h.clo r hr with c | c | c
  · exact .inl c
  · right; intro t ht
    rw [c] at ht
    obtain ⟨i, hi, rfl⟩ := List.mem_iff_getElem.1 ht
    have := h.part i (by omega)
    simpa [List.getD_eq_getElem?_getD, hi] using this
  · exact .inr c
theorem SprI.fin (h : SprI nx n t0 o todo) (ht : ¬ 0 < todo.length) : SprF nx n t0 o :=
  ⟨h.len, h.init, fun r hr => (h.clo r hr).resolve_left (by
    have h0 : todo = [] := List.length_eq_zero_iff.1 (by omega)
    rw [h0]; simp), h.min⟩
end
theorem cf_le (o : List Bool) : cf o ≤ o.length := List.length_filter_le _ _
/-- A function value that gives a new row for a state. -/
def ClosR (P : Program) (f : FuncId) (fc : List Value) (nx : Int → List Int) (n : Nat) (S : List Nat) (w : World) : Prop :=
  ∀ w' : World, Keep S w w' → ∀ x : Int, 0 ≤ x → x < (n : Int) → Calls P f (#[.int .i64 x] ++ fc.toArray) w' (Ret fun v w'' => ∃ a c, v = .slice a (nx x).length c ∧ Upd w' [] w'' [rowT (tyI .i64) (.slice a (nx x).length c) 3 (nx x)])
/-- A function value that gives a row that is there for a state. -/
def ClosO (P : Program) (f : FuncId) (fc : List Value) (nx : Int → List Int) (n : Nat) (S : List Nat) (w : World) : Prop :=
  ∀ w' : World, Keep S w w' → ∀ x : Int, 0 ≤ x → x < (n : Int) → Calls P f (#[.int .i64 x] ++ fc.toArray) w' (Ret fun v w'' => ∃ a c, v = .slice a (nx x).length c ∧ Upd w' [] w'' [] ∧ ∀ w3, Keep S w w3 → RdT (tyI .i64) w3 (.slice a (nx x).length c) (nx x))
end Go.Sx

/- Proved here: what slices.Sort and slices.Compact of whole numbers do to a row of one's own; conditions: those of each theorem. -/
namespace Go.Proofs.Ytoeockpkkmgieaa
open Go Go.Sx
set_option linter.unusedVariables false
set_option linter.unusedSimpArgs false
def sortI (xs : List Int) : List Int := xs.mergeSort fun x y => decide (x ≤ y)
theorem sortI_mem (xs : List Int) (x : Int) : x ∈ sortI xs ↔ x ∈ xs := by simp [sortI]
theorem sortI_len (xs : List Int) : (sortI xs).length = xs.length := by simp [sortI]
theorem sort_any (a : Option Addr) (xs : List Int) (c : Nat) (n : Nat) (w : World) (hp : Hp w [rowT (tyI .i64) (.slice a n c) 3 xs]) (hn : n = xs.length) (hsz : xs.length ≤ 1000000000) :
    Calls Try.prog 90 #[.slice a n c] w (Ret fun v w' => v = .tuple #[] ∧ Upd w [rowT (tyI .i64) (.slice a n c) 3 xs] w' [rowT (tyI .i64) (.slice a n c) 3 (sortI xs)]) := by
  subst hn
  have ho := row_own (hp.holds _ (List.mem_singleton.2 rfl))
  cases a with
  | none =>
    have h0 : xs = [] := by
      rcases ho.2 with ⟨_, h⟩ | ⟨g, cap, cur, h, _⟩
      · exact List.length_eq_zero_iff.1 h
      · cases h
    subst h0
    refine (Try.slices_Sort_int_none none c w).mono ?_
    rintro e w' ⟨rfl, rfl⟩
    have e0 : sortI [] = [] := by simp [sortI]
    rw [e0]
    exact ⟨_, rfl, rfl, Upd.refl hp⟩
  | some ad =>
    obtain ⟨g, hg⟩ : ∃ g, ad = ⟨g, 0, none⟩ := by
      rcases ho.2 with ⟨h, _⟩ | ⟨g, cap, cur, h, _⟩
      · cases h
      · cases h; exact ⟨g, rfl⟩
    subst hg
    obtain ⟨hh, hlt⟩ := holds_own ho
    refine (Try.slices_Sort_int g 0 c xs w hh hlt (by omega)).mono ?_
    rintro e w' ⟨rfl, q, os, rfl⟩
    exact ⟨_, rfl, rfl, upd_put ho (sortI_len xs)⟩
theorem compact_le (xs : List Int) : (Lib.compact xs).length ≤ xs.length := by
  simp only [Lib.compact, Lib.compactUpTo, List.length_map]
  exact Nat.le_trans (List.length_filter_le _ _) (by simp)
theorem compact_any (a : Option Addr) (xs : List Int) (c : Nat) (n : Nat) (w : World) (hp : Hp w [rowT (tyI .i64) (.slice a n c) 3 xs]) (hn : n = xs.length) (hsz : xs.length ≤ 1000000000) :
    Calls Try.prog 91 #[.slice a n c] w (Ret fun v w' => v = .slice a (Lib.compact xs).length c ∧ Upd w [rowT (tyI .i64) (.slice a n c) 3 xs] w' [rowT (tyI .i64) (.slice a (Lib.compact xs).length c) 3 (Lib.compact xs)]) := by
  subst hn
  have ho := row_own (hp.holds _ (List.mem_singleton.2 rfl))
  cases a with
  | none =>
    have h0 : xs = [] := by
      rcases ho.2 with ⟨_, h⟩ | ⟨g, cap, cur, h, _⟩
      · exact List.length_eq_zero_iff.1 h
      · cases h
    subst h0
    refine (Try.slices_Compact_int_empty none c w).mono ?_
    rintro e w' ⟨rfl, rfl⟩
    have e0 : Lib.compact ([] : List Int) = [] := by simp [Lib.compact, Lib.compactUpTo]
    rw [e0]
    exact ⟨_, rfl, rfl, Upd.refl hp⟩
  | some ad =>
    obtain ⟨g, hg⟩ : ∃ g, ad = ⟨g, 0, none⟩ := by
      rcases ho.2 with ⟨h, _⟩ | ⟨g, cap, cur, h, _⟩
      · cases h
      · cases h; exact ⟨g, rfl⟩
    subst hg
    obtain ⟨hh, hlt⟩ := holds_own ho
    refine (Try.slices_Compact_int g 0 c xs w hh (by omega) (own_capN ho)).mono ?_
    rintro e w' ⟨rfl, q, rfl⟩
    have hle := compact_le xs
    have hu := upd_put (q := q) (os := #[]) (ys := Lib.compact xs ++ List.replicate (xs.length - (Lib.compact xs).length) 0) ho (by simp; omega)
    rw [Go.Sort.grow_empty] at hu
    exact ⟨_, rfl, rfl, upd_take (j := (Lib.compact xs).length) hu (by simp) (by simp)⟩
theorem compact_mem (l : List Int) (x : Int) : x ∈ Lib.compact l ↔ x ∈ l := by
  have hat : ∀ i (h : i < l.length), l.toArray[i]! = l[i] := fun i h => by simp [h]
  simp only [Lib.compact, Lib.compactUpTo, List.mem_map, List.mem_filter, List.mem_range]
  constructor
  · rintro ⟨i, ⟨hi, _⟩, rfl⟩
    rw [hat i hi]; exact List.getElem_mem hi
  · intro hx
    obtain ⟨i, hi, rfl⟩ := List.mem_iff_getElem.1 hx
    induction i with
    | zero => exact ⟨0, ⟨hi, by simp [Lib.keeps]⟩, hat 0 hi⟩
    | succ i ih =>
      by_cases hk : Lib.keeps l.toArray (i + 1) = true
      · exact ⟨i + 1, ⟨hi, hk⟩, hat (i + 1) hi⟩
      · have hi' : i < l.length := by omega
        have he : l[i + 1] = l[i] := by
          simp only [Lib.keeps, decide_eq_true_eq, not_or, ne_eq, Classical.not_not] at hk
          have h2 := hk.2
          rw [Nat.add_sub_cancel, hat (i + 1) hi, hat i hi'] at h2
          exact h2
        rw [he]
        exact ih hi' (List.getElem_mem hi')
def usedI (d : DfaD) : List Int := Lib.compact (sortI d.cls)
theorem used_mem (d : DfaD) (x : Int) : x ∈ usedI d ↔ x ∈ d.cls := by rw [usedI, compact_mem, sortI_mem]
theorem used_bd {d : DfaD} (h : rightB d = true) {x : Int} (hx : x ∈ usedI d) : 0 ≤ x ∧ x < d.width := by
  obtain ⟨i, hi, rfl⟩ := List.mem_iff_getElem.1 ((used_mem d x).1 hx)
  have := within_at (rightB_iff.1 h).2.1 i hi
  simpa [List.getD_eq_getElem?_getD, hi] using this
def nxR (d : DfaD) (s : Int) : List Int := (usedI d).map fun c => d.next.getD (s * d.width + c).toNat 0
theorem used_len (d : DfaD) : (usedI d).length ≤ d.cls.length := by have := compact_le (sortI d.cls); rw [sortI_len] at this; exact this
theorem nxR_step {d : DfaD} {s : Int} {k : Nat} (h : k < (usedI d).length) : ((usedI d).take k).map (fun c => d.next.getD (s * d.width + c).toNat 0) ++ [d.next.getD (s * d.width + (usedI d).getD k 0).toNat 0] = ((usedI d).take (k + 1)).map (fun c => d.next.getD (s * d.width + c).toNat 0) := by
  rw [List.take_add_one, List.getElem?_eq_getElem h, List.map_append]; simp [List.getD_eq_getElem?_getD, List.getElem?_eq_getElem h]
theorem nxR_bd {d : DfaD} (h : rightB d = true) {s t : Int} (h0 : 0 ≤ s) (h1 : s < (d.acc.length : Int)) (ht : t ∈ nxR d s) : 0 ≤ t ∧ t < (d.acc.length : Int) := by
  obtain ⟨c, hc, rfl⟩ := List.mem_map.1 ht
  have hb := used_bd h hc
  have hix := right_idx h h0 h1 hb.1 hb.2
  exact within_at (rightB_iff.1 h).2.2 _ (by omega)
theorem nxR_len (d : DfaD) (s : Int) : (nxR d s).length ≤ d.cls.length := by have := used_len d; simp [nxR]; omega
end Go.Proofs.Ytoeockpkkmgieaa

/- Proved here: which states lead where, as data; what the two spreads of an automaton mark. Conditions: those of each theorem. -/
namespace Go.Proofs.Ytoeockpkkmgieaa
open Go Go.Sx
set_option linter.unusedVariables false
set_option linter.unusedSimpArgs false
/-- One comes from a state to another one. -/
inductive To (d : DfaD) : Int → Int → Prop
  | refl (s : Int) : To d s s
  | step {s u t : Int} : u ∈ nxR d s → To d u t → To d s t
theorem To.trans {d : DfaD} {a b c : Int} (h : To d a b) (k : To d b c) : To d a c := by
  induction h with
  | refl s => exact k
  | step hu _ ih => exact .step hu (ih k)
theorem To.snoc {d : DfaD} {a b c : Int} (h : To d a b) (k : c ∈ nxR d b) : To d a c := h.trans (.step k (.refl c))
theorem To.bd {d : DfaD} (hr : rightB d = true) {a b : Int} (h : To d a b) (h0 : 0 ≤ a ∧ a < (d.acc.length : Int)) : 0 ≤ b ∧ b < (d.acc.length : Int) := by
  induction h with
  | refl s => exact h0
  | step hu _ ih => exact ih (nxR_bd hr h0.1 h0.2 hu)

/-- Behind k states and j classes of the next one: who comes where. -/
structure PrB (d : DfaD) (ps : List (LR Int)) (k j : Nat) : Prop where
  len : ps.length = d.acc.length
  mem : ∀ t : Nat, t < d.acc.length → ∀ x : Int, x ∈ (ps.getD t lr0).xs ↔ (∃ s : Nat, s < k ∧ x = (s : Int) ∧ (t : Int) ∈ nxR d s) ∨ (x = (k : Int) ∧ (t : Int) ∈ (nxR d k).take j)
  size : ∀ t : Nat, (ps.getD t lr0).xs.length ≤ k * (usedI d).length + j
theorem PrB.start (d : DfaD) : PrB d (List.replicate d.acc.length lr0) 0 0 := by
  have e : ∀ t : Nat, ((List.replicate d.acc.length (lr0 : LR Int)).getD t lr0).xs = [] := fun t => by
    simp only [List.getD_eq_getElem?_getD, List.getElem?_replicate]; split <;> rfl
  refine ⟨by simp, fun t ht x => ?_, fun t => by rw [e]; simp⟩
  rw [e]
  constructor
  · intro h; simp at h
  · rintro (⟨s, hs, _⟩ | ⟨_, h⟩)
    · omega
    · simp at h
theorem take_one_getD {l : List Int} {k : Nat} (h : k < l.length) : l.take (k + 1) = l.take k ++ [l.getD k 0] := by
  rw [List.take_add_one, List.getElem?_eq_getElem h]; simp [List.getD_eq_getElem?_getD, List.getElem?_eq_getElem h]
theorem getD_setLP {ps : List (LR Int)} {q t : Nat} {p : LR Int} (hq : q < ps.length) : (ps.set q p).getD t lr0 = if q = t then p else ps.getD t lr0 := by
  simp only [List.getD_eq_getElem?_getD, List.getElem?_set]
  split
  · rename_i e; subst e; simp [hq]
  · rfl
theorem PrB.step {d : DfaD} {ps : List (LR Int)} {k j q : Nat} {a : Option Addr} {c m : Nat} (h : PrB d ps k j) (hj : j < (usedI d).length) (hq : d.next.getD (((k : Nat) : Int) * d.width + (usedI d).getD j 0).toNat 0 = (q : Int)) (hqn : q < d.acc.length) :
    PrB d (ps.set q ⟨a, m, c, (ps.getD q lr0).xs ++ [(k : Int)]⟩) k (j + 1) := by
  have hlen : q < ps.length := by rw [h.len]; exact hqn
  have hnl : (nxR d k).length = (usedI d).length := by simp [nxR]
  have htk : (nxR d k).take (j + 1) = (nxR d k).take j ++ [(q : Int)] := by
    rw [take_one_getD (by omega)]
    have : (nxR d k).getD j 0 = (q : Int) := by
      rw [← hq]; simp [nxR, List.getD_eq_getElem?_getD, List.getElem?_eq_getElem hj]
    rw [this]
  refine ⟨by simp [h.len], fun t ht x => ?_, fun t => ?_⟩
  · rw [getD_setLP hlen, htk]
    by_cases e : q = t
    · subst e
      rw [if_pos rfl]
      simp only [List.mem_append, List.mem_singleton]
      rw [h.mem q ht x]
      constructor
      · rintro ((c | c) | c)
        · exact .inl c
        · exact .inr ⟨c.1, by simp⟩
        · exact .inr ⟨c, by simp⟩
      · rintro (c | c)
        · exact .inl (.inl c)
        · first | exact .inr c | exact .inr c.1
    · rw [if_neg e, h.mem t ht x]
      simp only [List.mem_append, List.mem_singleton]
      constructor
      · rintro (c | ⟨c, c2⟩)
        · exact .inl c
        · exact .inr ⟨c, .inl c2⟩
      · rintro (c | ⟨c, c2 | c2⟩)
        · exact .inl c
        · exact .inr ⟨c, c2⟩
        · exfalso; omega
  · rw [getD_setLP hlen]
    split
    · rename_i e; subst e; have := h.size q; show ((ps.getD q lr0).xs ++ [(k : Int)]).length ≤ _; rw [List.length_append, List.length_singleton]; omega
    · have := h.size t; omega
theorem PrB.next {d : DfaD} {ps : List (LR Int)} {k j : Nat} (h : PrB d ps k j) (hj : ¬ j < (usedI d).length) (hj2 : j ≤ (usedI d).length) : PrB d ps (k + 1) 0 := by
  have hnl : (nxR d k).length = (usedI d).length := by simp [nxR]
  refine ⟨h.len, fun t ht x => ?_, fun t => ?_⟩
  · rw [h.mem t ht x, List.take_of_length_le (l := nxR d k) (i := j) (by omega), List.take_zero]
    constructor
    · rintro (⟨s, h1, h2, h3⟩ | ⟨h1, h2⟩)
      · exact .inl ⟨s, by omega, h2, h3⟩
      · exact .inl ⟨k, by omega, h1, h2⟩
    · rintro (⟨s, h1, h2, h3⟩ | ⟨_, h⟩)
      · by_cases e : s = k
        · subst e; exact .inr ⟨h2, h3⟩
        · exact .inl ⟨s, by omega, h2, h3⟩
      · simp at h
  · have h1 := h.size t
    have h2 : (k + 1) * (usedI d).length = k * (usedI d).length + (usedI d).length := by rw [Nat.add_mul, Nat.one_mul]
    omega
theorem PrB.fin {d : DfaD} {ps : List (LR Int)} {k : Nat} (h : PrB d ps k 0) (hk : k = d.acc.length) (t : Nat) (ht : t < d.acc.length) (x : Int) :
    x ∈ (ps.getD t lr0).xs ↔ ∃ s : Nat, s < d.acc.length ∧ x = (s : Int) ∧ (t : Int) ∈ nxR d s := by
  subst hk
  rw [h.mem t ht x]; simp

/-- The states that accept, the first k of all. -/
def accL (d : DfaD) (k : Nat) : List Int := List.map (fun i : Nat => (i : Int)) (List.filter (fun i : Nat => d.acc.getD i false) (List.range k))
theorem accL_yes {d : DfaD} {k : Nat} (h : d.acc.getD k false = true) : accL d k ++ [(k : Int)] = accL d (k + 1) := by
  rw [List.getD_eq_getElem?_getD] at h; simp [accL, List.range_succ, List.filter_append, h]
theorem accL_no {d : DfaD} {k : Nat} (h : ¬ d.acc.getD k false = true) : accL d k = accL d (k + 1) := by
  rw [List.getD_eq_getElem?_getD] at h; simp [accL, List.range_succ, List.filter_append, h]
theorem accL_len (d : DfaD) (k : Nat) : (accL d k).length ≤ k := by
  have := List.length_filter_le (fun i => d.acc.getD i false) (List.range k)
  simp only [accL, List.length_map]; simpa using this
theorem accL_mem {d : DfaD} {k : Nat} {x : Int} : x ∈ accL d k ↔ ∃ f : Nat, f < k ∧ d.acc.getD f false = true ∧ x = (f : Int) := by
  simp only [accL, List.mem_map, List.mem_filter, List.mem_range]
  constructor
  · rintro ⟨a, ⟨h1, h2⟩, rfl⟩; exact ⟨a, h1, h2, rfl⟩
  · rintro ⟨a, h1, h2, rfl⟩; exact ⟨a, ⟨h1, h2⟩, rfl⟩
def psN (ps : List (LR Int)) (x : Int) : List Int := (ps.getD x.toNat lr0).xs
def LiveP (d : DfaD) (o : List Bool) : Prop := (rightB d = false → o = []) ∧ (rightB d = true → o.length = d.acc.length ∧ ∀ s : Nat, s < d.acc.length → (o.getD s false = true ↔ ∃ f : Nat, f < d.acc.length ∧ d.acc.getD f false = true ∧ To d s f))
def ReachP (d : DfaD) (o : List Bool) : Prop := (rightB d = false → o = []) ∧ (rightB d = true → o.length = d.acc.length ∧ ∀ s : Nat, s < d.acc.length → (o.getD s false = true ↔ To d d.start s))
theorem live_of {d : DfaD} {ps : List (LR Int)} {o : List Bool} {k : Nat} (hr : rightB d = true) (h : PrB d ps k 0) (hk : k = d.acc.length) (hs : SprF (psN ps) d.acc.length (accL d d.acc.length) o) : LiveP d o := by
  refine ⟨fun h => (by rw [hr] at h; cases h), fun _ => ⟨hs.len, fun s hsl => ⟨fun ho => ?_, ?_⟩⟩⟩
  · have := hs.min (fun x => ∃ s : Nat, x = (s : Int) ∧ s < d.acc.length ∧ ∃ f : Nat, f < d.acc.length ∧ d.acc.getD f false = true ∧ To d s f)
      (fun t ht => by obtain ⟨f, h1, h2, rfl⟩ := accL_mem.1 ht; exact ⟨f, rfl, h1, f, h1, h2, .refl _⟩)
      (fun x hx t ht => by
        obtain ⟨s, rfl, h1, f, h2, h3, h4⟩ := hx
        obtain ⟨s', h5, rfl, h6⟩ := (h.fin hk s h1 t).1 (by simpa [psN] using ht)
        exact ⟨s', rfl, h5, f, h2, h3, .step h6 h4⟩) s ho
    obtain ⟨s', e, _, f, h2, h3, h4⟩ := this
    exact ⟨f, h2, h3, by rw [e]; exact h4⟩
  · rintro ⟨f, h1, h2, h3⟩
    have key : ∀ a b : Int, To d a b → b = (f : Int) → 0 ≤ a ∧ a < (d.acc.length : Int) → o.getD a.toNat false = true := by
      intro a b hab
      induction hab with
      | refl s => intro e _; subst e; exact hs.init _ (accL_mem.2 ⟨f, h1, h2, rfl⟩)
      | @step a u t hu _ ih =>
        intro e ha
        have hub := nxR_bd hr ha.1 ha.2 hu
        have ho := ih e hub
        refine hs.clo u.toNat ho a ?_
        show a ∈ psN ps (u.toNat : Int)
        simp only [psN, Int.toNat_natCast]
        refine (h.fin hk u.toNat (by omega) a).2 ⟨a.toNat, by omega, by omega, ?_⟩
        rw [Int.toNat_of_nonneg ha.1, Int.toNat_of_nonneg hub.1]; exact hu
    have := key s f h3 rfl ⟨by omega, by omega⟩
    simpa using this
theorem reach_of {d : DfaD} {o : List Bool} (hr : rightB d = true) (hs : SprF (nxR d) d.acc.length [d.start] o) : ReachP d o := by
  have hri := rightB_iff.1 hr
  refine ⟨fun h => (by rw [hr] at h; cases h), fun _ => ⟨hs.len, fun s hsl => ⟨fun ho => ?_, fun ht => ?_⟩⟩⟩
  · exact hs.min (fun x => To d d.start x) (fun t ht => by simp only [List.mem_singleton] at ht; subst ht; exact .refl _) (fun x hx t ht => hx.snoc ht) s ho
  · have key : ∀ a b : Int, To d a b → 0 ≤ a ∧ a < (d.acc.length : Int) → o.getD a.toNat false = true → o.getD b.toNat false = true := by
      intro a b hab
      induction hab with
      | refl s => intro _ h; exact h
      | @step a u t hu _ ih =>
        intro ha h
        have hub := nxR_bd hr ha.1 ha.2 hu
        refine ih hub (hs.clo a.toNat h u ?_)
        rw [Int.toNat_of_nonneg ha.1]; exact hu
    have := key _ _ ht ⟨hri.1.2.2.2.2.2.2.1, hri.1.2.2.2.2.2.2.2⟩ (hs.init _ (by simp))
    simpa using this
def oneD : DfaD := ⟨List.replicate 259 0, 1, 0, [0], [true]⟩
theorem oneD_right : rightB oneD = true := by decide +kernel
theorem oneD_word : wordOk ⟨#[97, 98]⟩ 0 1 = true ∧ wordD ⟨#[97, 98]⟩ 0 1 = [256, 97] := by constructor <;> decide +kernel
theorem oneD_acc : acceptsB oneD [256, 97] = true := by decide +kernel
theorem LiveP.one {o : List Bool} (h : LiveP oneD o) : o.length = 1 ∧ o.getD 0 false = true := by
  obtain ⟨h1, h2⟩ := h.2 oneD_right
  exact ⟨h1, (h2 0 (by decide)).2 ⟨0, by decide, rfl, .refl _⟩⟩
theorem ReachP.one {o : List Bool} (h : ReachP oneD o) : o.length = 1 ∧ o.getD 0 false = true := by
  obtain ⟨h1, h2⟩ := h.2 oneD_right
  exact ⟨h1, (h2 0 (by decide)).2 (.refl _)⟩
theorem take_one1 {l : List Int} (h : 0 < l.length) : l.take 1 = [l.getD 0 0] := by
  cases l with
  | nil => simp at h
  | cons x l => rfl
theorem manyRd_keep {w w' w'' : World} {L A : List Chunk} {G : List (List Chunk)} {σ α : Type} {I : Inn σ α} {ps : List σ} (h : UpG w L w' G) (i j : Nat) (hij : Nat.beq i j = false) (hi : G[i]? = some A) (hj : G[j]? = some [manyF I.row ps]) (k : Keep (ats A) w' w'') : I.Rd w'' ps := by
  have h2 := h.hp2 i j hij hi hj
  refine Inn.own (h2.right.keep k fun g hg hm => h2.apart hm hg)
theorem closO_of {P : Program} {f : FuncId} {fc : List Value} {ps : List (LR Int)} {n : Nat} {S : List Nat} {w : World}
    (hc : ∀ w', Keep S w w' → ∀ x : Int, 0 ≤ x → x < (n : Int) → Calls P f (#[.int .i64 x] ++ fc.toArray) w' (Ret fun v w'' => v = .slice (ps.getD x.toNat lr0).a (ps.getD x.toNat lr0).n (ps.getD x.toNat lr0).c ∧ Upd w' [] w'' []))
    (hr : ∀ w', Keep S w w' → (inLR (tyI .i64) 3).Rd w' ps) (hn : n ≤ ps.length) : ClosO P f fc (psN ps) n S w := fun w' k x h0 h1 => by
  refine (hc w' k x h0 h1).mono ?_
  rintro e w3 ⟨v, rfl, hv, hu⟩
  have rd : ∀ w', Keep S w w' → RdT (tyI .i64) w' (.slice (ps.getD x.toNat lr0).a (ps.getD x.toNat lr0).n (ps.getD x.toNat lr0).c) (ps.getD x.toNat lr0).xs := fun w' k' => (hr w' k').get lr0 x.toNat (by omega)
  have hl := (rd w' k).len
  refine ⟨_, rfl, (ps.getD x.toNat lr0).a, (ps.getD x.toNat lr0).c, ?_, hu, fun w4 k4 => ?_⟩
  · rw [hv, hl]; rfl
  · have h2 := rd w4 k4; rw [hl] at h2; exact h2
end Go.Proofs.Ytoeockpkkmgieaa

/- Proved here: the document's table of who comes where, as data: what its loops keep, and that it is 'one comes there'. Conditions: those of each theorem. -/
namespace Go.Proofs.Ytoeockpkkmgieaa
open Go Go.Sx
set_option linter.unusedVariables false
set_option linter.unusedSimpArgs false
def cellB (X : List (LR Bool)) (r c : Nat) : Bool := (X.getD r lr0).xs.getD c false
theorem nxR_mem {d : DfaD} {s t : Int} : t ∈ nxR d s ↔ ∃ i, i < d.cls.length ∧ d.next.getD (s * d.width + d.cls.getD i 0).toNat 0 = t := by
  simp only [nxR, List.mem_map, used_mem]
  constructor
  · rintro ⟨c, hc, rfl⟩
    obtain ⟨i, hi, rfl⟩ := List.mem_iff_getElem.1 hc
    exact ⟨i, hi, by simp [List.getD_eq_getElem?_getD, hi]⟩
  · rintro ⟨i, hi, rfl⟩
    exact ⟨d.cls.getD i 0, by simp [List.getD_eq_getElem?_getD, hi], rfl⟩
/-- One row, behind some symbols. -/
structure RwI (d : DfaD) (s : Nat) (q : List Bool) (k : Nat) : Prop where
  len : q.length = d.acc.length
  val : ∀ c : Nat, c < d.acc.length → (q.getD c false = true ↔ c = s ∨ ∃ i, i < k ∧ d.next.getD ((s : Int) * d.width + d.cls.getD i 0).toNat 0 = (c : Int))
theorem getD_setB {q : List Bool} {i j : Nat} {b : Bool} (hi : i < q.length) : (q.set i b).getD j false = if i = j then b else q.getD j false := by
  simp only [List.getD_eq_getElem?_getD, List.getElem?_set]
  split
  · rename_i e; subst e; simp [hi]
  · rfl
theorem RwI.start {d : DfaD} {s : Nat} (hs : s < d.acc.length) : RwI d s ((List.replicate d.acc.length false).set s true) 0 := by
  refine ⟨by simp, fun c hc => ?_⟩
  rw [getD_setB (by simpa using hs)]
  split
  · rename_i e; simp [e]
  · rename_i e
    have : (List.replicate d.acc.length false).getD c false = false := by simp [List.getD_eq_getElem?_getD, hc]
    rw [this]
    constructor
    · intro h; cases h
    · rintro (h | ⟨i, h, _⟩)
      · exact absurd h.symm e
      · omega
theorem RwI.step {d : DfaD} {s k x : Nat} {q : List Bool} (h : RwI d s q k) (hx : d.next.getD ((s : Int) * d.width + d.cls.getD k 0).toNat 0 = (x : Int)) (hxn : x < d.acc.length) : RwI d s (q.set x true) (k + 1) := by
  refine ⟨by simp [h.len], fun c hc => ?_⟩
  rw [getD_setB (by rw [h.len]; exact hxn)]
  split
  · rename_i e; subst e
    exact ⟨fun _ => .inr ⟨k, by omega, hx⟩, fun _ => rfl⟩
  · rename_i e
    rw [h.val c hc]
    constructor
    · rintro (h1 | ⟨i, h1, h2⟩)
      · exact .inl h1
      · exact .inr ⟨i, by omega, h2⟩
    · rintro (h1 | ⟨i, h1, h2⟩)
      · exact .inl h1
      · by_cases hi : i = k
        · subst hi; rw [hx] at h2; omega
        · exact .inr ⟨i, by omega, h2⟩
/-- Who comes where over states below m alone. -/
def WM (d : DfaD) : Nat → Nat → Nat → Prop
  | 0, i, k => k = i ∨ (k : Int) ∈ nxR d i
  | m + 1, i, k => WM d m i k ∨ (WM d m i m ∧ WM d m m k)
theorem WM.up {d : DfaD} {i k : Nat} : ∀ {m n : Nat}, m ≤ n → WM d m i k → WM d n i k
  | m, 0, h, w => by have : m = 0 := by omega
                     subst this; exact w
  | m, n + 1, h, w => by
    by_cases e : m = n + 1
    · subst e; exact w
    · exact .inl (WM.up (by omega) w)
theorem WM.to {d : DfaD} : ∀ {m i k : Nat}, WM d m i k → To d i k
  | 0, i, k, h => by
    rcases h with rfl | h
    · exact .refl _
    · exact .step h (.refl _)
  | m + 1, i, k, h => by
    rcases h with h | ⟨h1, h2⟩
    · exact WM.to h
    · exact (WM.to h1).trans (WM.to h2)
theorem WM.trans {d : DfaD} : ∀ {m i j k : Nat}, j < m → WM d m i j → WM d m j k → WM d m i k
  | m + 1, i, j, k, hj, h1, h2 => by
    by_cases e : j = m
    · subst e
      have a : WM d j i j := by rcases h1 with h | ⟨h, _⟩ <;> exact h
      have b : WM d j j k := by rcases h2 with h | ⟨_, h⟩ <;> exact h
      exact .inr ⟨a, b⟩
    · have hj' : j < m := by omega
      rcases h1 with a | ⟨a, a2⟩ <;> rcases h2 with b | ⟨b, b2⟩
      · exact .inl (WM.trans hj' a b)
      · exact .inr ⟨WM.trans hj' a b, b2⟩
      · exact .inr ⟨a, WM.trans hj' a2 b⟩
      · exact .inr ⟨a, b2⟩
theorem WM.iff {d : DfaD} (hr : rightB d = true) {i k : Nat} (hi : i < d.acc.length) : WM d d.acc.length i k ↔ To d i k := by
  refine ⟨WM.to, fun h => ?_⟩
  have key : ∀ a b : Int, To d a b → 0 ≤ a ∧ a < (d.acc.length : Int) → WM d d.acc.length a.toNat b.toNat := by
    intro a b hab
    induction hab with
    | refl s => intro _; exact WM.up (Nat.zero_le _) (.inl rfl)
    | @step a u t hu _ ih =>
      intro ha
      have hub := nxR_bd hr ha.1 ha.2 hu
      refine WM.trans (j := u.toNat) (by omega) (WM.up (Nat.zero_le _) (.inr ?_)) (ih hub)
      rw [Int.toNat_of_nonneg ha.1, Int.toNat_of_nonneg hub.1]; exact hu
  have := key _ _ h ⟨by omega, by omega⟩
  simpa using this
/-- The table's first form, the first s rows. -/
structure CmS (d : DfaD) (X : List (LR Bool)) (s : Nat) : Prop where
  len : X.length = s
  row : ∀ r, r < s → (X.getD r lr0).xs.length = d.acc.length
  val : ∀ r c, r < s → c < d.acc.length → (cellB X r c = true ↔ WM d 0 r c)
theorem CmS.start (d : DfaD) : CmS d [] 0 := ⟨rfl, fun r h => by omega, fun r c h => by omega⟩
theorem getD_append_LR {X : List (LR Bool)} {p : LR Bool} {r : Nat} : (X ++ [p]).getD r lr0 = if r < X.length then X.getD r lr0 else if r = X.length then p else lr0 := by
  simp only [List.getD_eq_getElem?_getD, List.getElem?_append]
  split
  · rfl
  · split
    · rename_i h1 h2; subst h2; simp
    · rename_i h1 h2; rw [List.getElem?_eq_none (by simp; omega)]; rfl
theorem CmS.step {d : DfaD} {X : List (LR Bool)} {s n c k : Nat} {a : Option Addr} {q : List Bool} (h : CmS d X s) (hq : RwI d s q k) (hk : k = d.cls.length) : CmS d (X ++ [⟨a, n, c, q⟩]) (s + 1) := by
  subst hk
  refine ⟨by simp [h.len], fun r hr => ?_, fun r c hr hc => ?_⟩
  · rw [getD_append_LR, h.len]
    split
    · rename_i h1; exact h.row r h1
    · rw [if_pos (by omega)]; exact hq.len
  · unfold cellB
    rw [getD_append_LR, h.len]
    split
    · rename_i h1; exact h.val r c h1 hc
    · have e : r = s := by omega
      subst e
      rw [if_pos rfl]
      show q.getD c false = true ↔ _
      rw [hq.val c hc]
      simp only [WM, nxR_mem]
/-- Within the table's turning. -/
structure CmI (d : DfaD) (X : List (LR Bool)) (m i k : Nat) : Prop where
  len : X.length = d.acc.length
  row : ∀ r, r < d.acc.length → (X.getD r lr0).xs.length = d.acc.length
  val : ∀ r c, r < d.acc.length → c < d.acc.length → (cellB X r c = true ↔ if r < i ∨ r = i ∧ c < k then WM d (m + 1) r c else WM d m r c)
  act : k = 0 ∨ WM d m i m
theorem CmS.done {d : DfaD} {X : List (LR Bool)} {s : Nat} (h : CmS d X s) (hs : s = d.acc.length) : CmI d X 0 0 0 := by
  subst hs
  exact ⟨h.len, h.row, fun r c hr hc => by rw [if_neg (by omega)]; exact h.val r c hr hc, .inl rfl⟩
theorem CmI.col {d : DfaD} {X : List (LR Bool)} {m i k : Nat} (h : CmI d X m i k) (hi : i < d.acc.length) (hm : m < d.acc.length) : cellB X i m = true ↔ WM d m i m := by
  rw [h.val i m hi hm]
  split
  · exact ⟨fun h => by rcases h with h | ⟨h, _⟩ <;> exact h, .inl⟩
  · rfl
theorem CmI.mid {d : DfaD} {X : List (LR Bool)} {m i k c : Nat} (h : CmI d X m i k) (hm : m < d.acc.length) (hc : c < d.acc.length) : cellB X m c = true ↔ WM d m m c := by
  rw [h.val m c hm hc]
  split
  · exact ⟨fun h => by rcases h with h | ⟨_, h⟩ <;> exact h, .inl⟩
  · rfl
theorem CmI.step {d : DfaD} {X : List (LR Bool)} {m i k : Nat} {b : Bool} (h : CmI d X m i k) (hm : m < d.acc.length) (hi : i < d.acc.length) (hk : k < d.acc.length) (ha : cellB X i m = true) (hb : b = (cellB X i k || cellB X m k)) :
    CmI d (X.set i ⟨(X.getD i lr0).a, (X.getD i lr0).n, (X.getD i lr0).c, (X.getD i lr0).xs.set k b⟩) m i (k + 1) := by
  have hil : i < X.length := by rw [h.len]; exact hi
  have hg : ∀ r, (X.set i ⟨(X.getD i lr0).a, (X.getD i lr0).n, (X.getD i lr0).c, (X.getD i lr0).xs.set k b⟩).getD r lr0 = if i = r then ⟨(X.getD i lr0).a, (X.getD i lr0).n, (X.getD i lr0).c, (X.getD i lr0).xs.set k b⟩ else X.getD r lr0 := fun r => by
    simp only [List.getD_eq_getElem?_getD, List.getElem?_set]
    split
    · rename_i e; subst e; simp [hil]
    · rfl
  have ha' := (h.col hi hm).1 ha
  refine ⟨by simp [h.len], fun r hr => ?_, fun r c hr hc => ?_, .inr ha'⟩
  · rw [hg]
    split
    · rename_i e; subst e; show ((X.getD i lr0).xs.set k b).length = _; rw [List.length_set]; exact h.row i hr
    · exact h.row r hr
  · unfold cellB
    rw [hg]
    split
    · rename_i e; subst e
      show ((X.getD i lr0).xs.set k b).getD c false = true ↔ _
      rw [getD_setB (by rw [h.row i hi]; exact hk)]
      have hv := h.val i c hi hc
      split
      · rename_i e; subst e
        rw [if_pos (by omega), hb, Bool.or_eq_true, h.mid hm hc, hv, if_neg (by omega)]
        show _ ↔ WM d m i k ∨ _ ∧ _
        constructor
        · rintro (h1 | h1)
          · exact .inl h1
          · exact .inr ⟨ha', h1⟩
        · rintro (h1 | ⟨_, h1⟩)
          · exact .inl h1
          · exact .inr h1
      · rename_i e
        show cellB X i c = true ↔ _
        rw [hv]
        by_cases hck : c < k
        · rw [if_pos (by omega), if_pos (by omega)]
        · rw [if_neg (by omega), if_neg (by omega)]
    · rename_i e
      show cellB X r c = true ↔ _
      rw [h.val r c hr hc]
      by_cases hck : r < i
      · rw [if_pos (by omega), if_pos (by omega)]
      · rw [if_neg (by omega), if_neg (by omega)]
theorem CmI.rowDone {d : DfaD} {X : List (LR Bool)} {m i k : Nat} (h : CmI d X m i k) (hm : m < d.acc.length) (hi : i < d.acc.length) (hk : ¬ (k < d.acc.length) ∨ ¬ cellB X i m = true) : CmI d X m (i + 1) 0 := by
  refine ⟨h.len, h.row, fun r c hr hc => ?_, .inl rfl⟩
  have hv := h.val r c hr hc
  by_cases e : r = i
  · subst e
    rw [if_pos (by omega), hv]
    split
    · rfl
    · rename_i hn
      have hna : ¬ WM d m r m := fun hw => by
        rcases hk with hk | hk
        · exact hn (.inr ⟨rfl, by omega⟩)
        · exact hk ((h.col hr hm).2 hw)
      exact ⟨.inl, fun h => by rcases h with h | ⟨h, _⟩; exact h; exact absurd h hna⟩
  · rw [hv]
    by_cases hri : r < i
    · rw [if_pos (by omega), if_pos (by omega)]
    · rw [if_neg (by omega), if_neg (by omega)]
theorem CmI.allDone {d : DfaD} {X : List (LR Bool)} {m i : Nat} (h : CmI d X m i 0) (hi : ¬ i < d.acc.length) : CmI d X (m + 1) 0 0 := by
  refine ⟨h.len, h.row, fun r c hr hc => ?_, .inl rfl⟩
  rw [h.val r c hr hc, if_pos (by omega), if_neg (by omega)]
/-- The table. -/
structure ComesP (d : DfaD) (X : List (LR Bool)) : Prop where
  len : X.length = d.acc.length
  row : ∀ r, r < d.acc.length → (X.getD r lr0).xs.length = d.acc.length
  val : ∀ r c, r < d.acc.length → c < d.acc.length → (cellB X r c = true ↔ To d r c)
theorem CmI.fin {d : DfaD} {X : List (LR Bool)} {m : Nat} (hr : rightB d = true) (h : CmI d X m 0 0) (hm : m = d.acc.length) : ComesP d X := by
  subst hm
  exact ⟨h.len, h.row, fun r c h1 h2 => by rw [h.val r c h1 h2, if_neg (by omega), WM.iff hr h1]⟩
/-- The law's look: is one of the first k states accepting, and come to? -/
def liveK (d : DfaD) (X : List (LR Bool)) (s k : Nat) : Bool := (List.range k).any fun j => cellB X s j && d.acc.getD j false
theorem liveK_step {d : DfaD} {X : List (LR Bool)} {s k : Nat} : liveK d X s (k + 1) = (liveK d X s k || cellB X s k && d.acc.getD k false) := by
  simp [liveK, List.range_succ]
theorem live_agrees {d : DfaD} {X : List (LR Bool)} {o : List Bool} {s k : Nat} (hr : rightB d = true) (hx : ComesP d X) (ho : LiveP d o) (hs : s < d.acc.length) (hk : k = d.acc.length) : o.getD s false = liveK d X s k := by
  subst hk
  rw [Bool.eq_iff_iff, (ho.2 hr).2 s hs]
  simp only [liveK, List.any_eq_true, List.mem_range, Bool.and_eq_true]
  constructor
  · rintro ⟨f, h1, h2, h3⟩; exact ⟨f, h1, (hx.val s f hs h1).2 h3, h2⟩
  · rintro ⟨f, h1, h2, h3⟩; exact ⟨f, h1, h3, (hx.val s f hs h1).1 h2⟩
theorem reach_agrees {d : DfaD} {X : List (LR Bool)} {o : List Bool} {s : Nat} (hr : rightB d = true) (hx : ComesP d X) (ho : ReachP d o) (hs : s < d.acc.length) : o.getD s false = cellB X d.start.toNat s := by
  have hri := rightB_iff.1 hr
  rw [Bool.eq_iff_iff, (ho.2 hr).2 s hs, hx.val d.start.toNat s (by omega) hs, Int.toNat_of_nonneg hri.1.2.2.2.2.2.2.1]
end Go.Proofs.Ytoeockpkkmgieaa

/- When two states of an automaton are not alike: by words of any length, and by short ones. Conditions: those of each theorem. -/
namespace Go.Proofs.Ytoeockpkkmgieaa
open Go Go.Sx
set_option linter.unusedVariables false
set_option linter.unusedSimpArgs false
def dN (d : DfaD) (i : Nat) (c : Int) : Nat := (stepD d (i : Int) c).toNat
def disT (d : DfaD) : Nat → Nat → Nat → Prop
  | 0, i, k => d.acc.getD i false ≠ d.acc.getD k false
  | t + 1, i, k => disT d t i k ∨ ∃ c : Int, (0 ≤ c ∧ c < 259) ∧ disT d t (dN d i c) (dN d k c)
def Dis (d : DfaD) (i k : Nat) : Prop := ∃ t, disT d t i k
theorem disT_succ {d : DfaD} {t i k : Nat} (h : disT d t i k) : disT d (t + 1) i k := .inl h
theorem disT_mono {d : DfaD} {i k s : Nat} : ∀ {t : Nat}, s ≤ t → disT d s i k → disT d t i k
  | 0, h, w => by have : s = 0 := by omega
                  subst this; exact w
  | t + 1, h, w => by
    by_cases e : s = t + 1
    · subst e; exact w
    · exact .inl (disT_mono (by omega) w)
theorem disT_symm {d : DfaD} : ∀ {t i k : Nat}, disT d t i k → disT d t k i
  | 0, _, _, h => Ne.symm h
  | t + 1, _, _, h => by
    rcases h with h | ⟨c, hc, h⟩
    · exact .inl (disT_symm h)
    · exact .inr ⟨c, hc, disT_symm h⟩
theorem disT_irr {d : DfaD} : ∀ {t i : Nat}, ¬ disT d t i i
  | 0, _, h => h rfl
  | t + 1, _, h => by
    rcases h with h | ⟨c, hc, h⟩
    · exact disT_irr h
    · exact disT_irr h
theorem disT_part {d : DfaD} : ∀ {t i k : Nat} (j : Nat), disT d t i k → disT d t i j ∨ disT d t j k
  | 0, i, k, j, h => by
    show d.acc.getD i false ≠ d.acc.getD j false ∨ d.acc.getD j false ≠ d.acc.getD k false
    by_cases e : d.acc.getD i false = d.acc.getD j false
    · exact .inr (fun e2 => h (e.trans e2))
    · exact .inl e
  | t + 1, i, k, j, h => by
    rcases h with h | ⟨c, hc, h⟩
    · rcases disT_part j h with h | h
      · exact .inl (.inl h)
      · exact .inr (.inl h)
    · rcases disT_part (dN d j c) h with h | h
      · exact .inl (.inr ⟨c, hc, h⟩)
      · exact .inr (.inr ⟨c, hc, h⟩)
theorem dN_lt {d : DfaD} (hr : rightB d = true) {i : Nat} (hi : i < d.acc.length) {c : Int} (hc : 0 ≤ c ∧ c < 259) : dN d i c < d.acc.length := by
  have hs := right_sym hr hc.1 hc.2
  have h9 := right_idx (q := (i : Int)) hr (by omega) (by omega) hs.2.1 hs.2.2.1
  have h1 : 0 ≤ stepD d (i : Int) c ∧ stepD d (i : Int) c < (d.acc.length : Int) := ⟨h9.2.2.2.1, h9.2.2.2.2⟩
  unfold dN; omega
theorem dN_int {d : DfaD} (hr : rightB d = true) {i : Nat} (hi : i < d.acc.length) {c : Int} (hc : 0 ≤ c ∧ c < 259) : ((dN d i c : Nat) : Int) = stepD d (i : Int) c := by
  have hs := right_sym hr hc.1 hc.2
  have h9 := right_idx (q := (i : Int)) hr (by omega) (by omega) hs.2.1 hs.2.2.1
  have h1 : 0 ≤ stepD d (i : Int) c ∧ stepD d (i : Int) c < (d.acc.length : Int) := ⟨h9.2.2.2.1, h9.2.2.2.2⟩
  unfold dN; omega
theorem dis_stable {d : DfaD} (hr : rightB d = true) {t : Nat} (h : ∀ i k, i < d.acc.length → k < d.acc.length → disT d (t + 1) i k → disT d t i k) : ∀ (s i k : Nat), i < d.acc.length → k < d.acc.length → disT d (t + s) i k → disT d t i k
  | 0, i, k, _, _, w => w
  | s + 1, i, k, hi, hk, w => by
    rcases w with w | ⟨c, hc, w⟩
    · exact dis_stable hr h s i k hi hk w
    · exact h i k hi hk (.inr ⟨c, hc, dis_stable hr h s _ _ (dN_lt hr hi hc) (dN_lt hr hk hc) w⟩)
theorem least_of (P : Nat → Prop) : ∀ j, P j → ∃ r, r ≤ j ∧ P r ∧ ∀ k, k < r → ¬ P k := by
  intro j
  induction j using Nat.strongRecOn with
  | _ j ih =>
    intro hj
    by_cases h : ∃ k, k < j ∧ P k
    · obtain ⟨k, hk, hp⟩ := h
      obtain ⟨r, h1, h2, h3⟩ := ih k hk hp
      exact ⟨r, by omega, h2, h3⟩
    · exact ⟨j, Nat.le_refl j, hj, fun k hk hp => h ⟨k, hk, hp⟩⟩
def repT (d : DfaD) (t i : Nat) : Prop := ∀ k, k < i → disT d t k i
theorem repT_mono {d : DfaD} {t i : Nat} (h : repT d t i) : repT d (t + 1) i := fun k hk => .inl (h k hk)
open Classical in
theorem filter_lt {p q : Nat → Prop} : ∀ (l : List Nat), (∀ x, p x → q x) → (∃ x, x ∈ l ∧ q x ∧ ¬ p x) → (l.filter fun x => decide (p x)).length < (l.filter fun x => decide (q x)).length := by
  have le : ∀ (l : List Nat), (∀ x, p x → q x) → (l.filter fun x => decide (p x)).length ≤ (l.filter fun x => decide (q x)).length := by
    intro l h
    induction l with
    | nil => exact Nat.le_refl _
    | cons a l ih =>
      by_cases hp : p a
      · rw [List.filter_cons_of_pos (by simpa using hp), List.filter_cons_of_pos (by simpa using h a hp)]
        simp only [List.length_cons]; omega
      · rw [List.filter_cons_of_neg (by simpa using hp)]
        by_cases hq : q a
        · rw [List.filter_cons_of_pos (by simpa using hq)]; simp only [List.length_cons]; omega
        · rw [List.filter_cons_of_neg (by simpa using hq)]; exact ih
  intro l h
  induction l with
  | nil => rintro ⟨x, hx, _⟩; simp at hx
  | cons a l ih =>
    rintro ⟨x, hx, hqx, hpx⟩
    by_cases hp : p a
    · rw [List.filter_cons_of_pos (by simpa using hp), List.filter_cons_of_pos (by simpa using h a hp)]
      rcases List.mem_cons.1 hx with rfl | hx
      · exact absurd hp hpx
      · have := ih ⟨x, hx, hqx, hpx⟩; simp only [List.length_cons]; omega
    · rw [List.filter_cons_of_neg (by simpa using hp)]
      by_cases hq : q a
      · rw [List.filter_cons_of_pos (by simpa using hq)]
        have := le l h; simp only [List.length_cons]; omega
      · rw [List.filter_cons_of_neg (by simpa using hq)]
        rcases List.mem_cons.1 hx with rfl | hx
        · exact absurd hqx hq
        · exact ih ⟨x, hx, hqx, hpx⟩
open Classical in
noncomputable def cntT (d : DfaD) (t : Nat) : Nat := ((List.range d.acc.length).filter fun i => decide (repT d t i)).length
theorem cntT_le (d : DfaD) (t : Nat) : cntT d t ≤ d.acc.length := by
  unfold cntT; exact Nat.le_trans (List.length_filter_le _ _) (by simp)
theorem cntT_lt {d : DfaD} {t i k : Nat} (hi : i < d.acc.length) (hk : k < d.acc.length) (h1 : disT d (t + 1) i k) (h0 : ¬ disT d t i k) : cntT d t < cntT d (t + 1) := by
  obtain ⟨m, hm1, hm2, hm3⟩ := least_of (fun x => ¬ disT d t x i) i disT_irr
  have hrm : repT d t m := fun x hx => by
    have h9 : disT d t x i := Classical.not_not.1 (hm3 x hx)
    rcases disT_part m h9 with h | h
    · exact h
    · exact absurd h hm2
  have key : ∀ j, j < d.acc.length → ¬ disT d t m j → disT d (t + 1) m j → ∃ x, x ∈ List.range d.acc.length ∧ repT d (t + 1) x ∧ ¬ repT d t x := by
    intro j hj hn hd
    obtain ⟨r, hr1, hr2, hr3⟩ := least_of (fun x => ¬ disT d (t + 1) x j) j disT_irr
    refine ⟨r, List.mem_range.2 (by omega), fun x hx => ?_, fun hrr => ?_⟩
    · have h9 : disT d (t + 1) x j := Classical.not_not.1 (hr3 x hx)
      rcases disT_part r h9 with h | h
      · exact h
      · exact absurd h hr2
    · have e1 : ¬ disT d t r j := fun h => hr2 (.inl h)
      have e2 : ¬ disT d t r m := fun h => by
        rcases disT_part j h with h | h
        · exact e1 h
        · exact hn (disT_symm h)
      rcases Nat.lt_trichotomy r m with h | h | h
      · exact e2 (hrm r h)
      · subst h; exact hr2 hd
      · exact e2 (disT_symm (hrr m h))
  unfold cntT
  refine filter_lt _ (fun x hx => repT_mono hx) ?_
  rcases disT_part m h1 with h | h
  · exact key i hi hm2 (disT_symm h)
  · refine key k hk (fun h9 => ?_) h
    rcases disT_part i h9 with h8 | h8
    · exact hm2 h8
    · exact h0 h8
theorem moore {d : DfaD} (hr : rightB d = true) {i k : Nat} (hi : i < d.acc.length) (hk : k < d.acc.length) (h : Dis d i k) : disT d d.acc.length i k := by
  have hst : ∃ t, t < d.acc.length ∧ ∀ i k, i < d.acc.length → k < d.acc.length → disT d (t + 1) i k → disT d t i k := by
    refine Classical.byContradiction fun hno => ?_
    have up : ∀ t, t ≤ d.acc.length → t + 1 ≤ cntT d t := by
      intro t
      induction t with
      | zero =>
        intro _
        have hm : 0 ∈ (List.range d.acc.length).filter (fun i => @decide (repT d 0 i) (Classical.propDecidable _)) := List.mem_filter.2 ⟨List.mem_range.2 (by omega), by simp only [decide_eq_true_eq]; intro k hk; omega⟩
        have := List.length_pos_of_mem hm
        unfold cntT; omega
      | succ t ih =>
        intro ht
        have h1 := ih (by omega)
        have h2 : ∃ i k, i < d.acc.length ∧ k < d.acc.length ∧ disT d (t + 1) i k ∧ ¬ disT d t i k := by
          refine Classical.byContradiction fun hn => hno ⟨t, by omega, fun i k hi hk hd => Classical.byContradiction fun h9 => hn ⟨i, k, hi, hk, hd, h9⟩⟩
        obtain ⟨i, k, hi, hk, hd, hn⟩ := h2
        have := cntT_lt hi hk hd hn
        omega
    have h1 := up d.acc.length (Nat.le_refl _)
    have h2 := cntT_le d d.acc.length
    omega
  obtain ⟨t, ht, hs⟩ := hst
  obtain ⟨s, hd⟩ := h
  have h9 := dis_stable hr hs s i k hi hk (disT_mono (by omega) hd)
  exact disT_mono (by omega) h9
/-! ### Heads of classes -/
structure HdI (d : DfaD) (q : List Int) (s : Nat) : Prop where
  bd : ∀ c, c ∈ q → 0 ≤ c ∧ c < (s : Int)
  all : ∀ k, k < s → ∃ c, c ∈ q ∧ d.cls.getD c.toNat 0 = d.cls.getD k 0
  len : q.length ≤ s
theorem HdI.start (d : DfaD) : HdI d [] 0 := ⟨fun c h => by simp at h, fun k h => by omega, by simp⟩
def isHd (d : DfaD) (q : List Int) (s k : Nat) : Bool := (q.take k).all fun c => decide (d.cls.getD c.toNat 0 ≠ d.cls.getD s 0)
theorem isHd_step {d : DfaD} {q : List Int} {s k : Nat} (hk : k < q.length) : isHd d q s (k + 1) = (isHd d q s k && decide (d.cls.getD (q.getD k 0).toNat 0 ≠ d.cls.getD s 0)) := by
  unfold isHd
  rw [List.take_succ_eq_append_getElem hk, List.all_append]
  simp [List.getD_eq_getElem?_getD, hk]
theorem HdI.yes {d : DfaD} {q : List Int} {s : Nat} (h : HdI d q s) : HdI d (q ++ [(s : Int)]) (s + 1) := by
  refine ⟨fun c hc => ?_, fun k hk => ?_, by simp; exact h.len⟩
  · rcases List.mem_append.1 hc with hc | hc
    · have := h.bd c hc; omega
    · rw [List.mem_singleton.1 hc]; omega
  · by_cases e : k = s
    · subst e; exact ⟨(k : Int), by simp, by simp⟩
    · obtain ⟨c, hc, he⟩ := h.all k (by omega)
      exact ⟨c, List.mem_append_left _ hc, he⟩
theorem HdI.no {d : DfaD} {q : List Int} {s : Nat} (h : HdI d q s) (hb : isHd d q s q.length = false) : HdI d q (s + 1) := by
  refine ⟨fun c hc => by have := h.bd c hc; omega, fun k hk => ?_, by have := h.len; omega⟩
  by_cases e : k = s
  · subst e
    unfold isHd at hb
    rw [List.take_length] at hb
    obtain ⟨c, hc, he⟩ := List.all_eq_false.1 hb
    exact ⟨c, hc, by simpa using he⟩
  · exact h.all k (by omega)
/-! ### The table of states that are not alike -/
theorem dN_cls {d : DfaD} {i : Nat} {b c : Int} (h : d.cls.getD c.toNat 0 = d.cls.getD b.toNat 0) : dN d i b = dN d i c := by unfold dN stepD; rw [h]
structure UnI (d : DfaD) (X : List (LR Bool)) (t i k : Nat) : Prop where
  len : X.length = d.acc.length
  row : ∀ r, r < d.acc.length → (X.getD r lr0).xs.length = d.acc.length
  snd : ∀ r c, r < d.acc.length → c < d.acc.length → cellB X r c = true → Dis d r c
  cmp : ∀ r c, r < d.acc.length → c < d.acc.length → (if r < i ∨ r = i ∧ c < k then disT d (t + 1) r c else disT d t r c) → cellB X r c = true
theorem UnI.weak {d : DfaD} {X : List (LR Bool)} {t i k r c : Nat} (h : UnI d X t i k) (hr : r < d.acc.length) (hc : c < d.acc.length) (hd : disT d t r c) : cellB X r c = true := by
  refine h.cmp r c hr hc ?_
  split
  · exact .inl hd
  · exact hd
structure UnJ (d : DfaD) (h : List Int) (X : List (LR Bool)) (t i k j : Nat) : Prop where
  u : UnI d X t i k
  q : ∀ x, x < j → disT d t (dN d i (h.getD x 0)) (dN d k (h.getD x 0)) → cellB X i k = true
theorem UnI.inner {d : DfaD} {h : List Int} {X : List (LR Bool)} {t i k : Nat} (u : UnI d X t i k) : UnJ d h X t i k 0 := ⟨u, fun x hx => by omega⟩
theorem UnJ.step {d : DfaD} {h : List Int} {X : List (LR Bool)} {t i k j : Nat} {b : Bool} (hr : rightB d = true) (u : UnJ d h X t i k j) (hi : i < d.acc.length) (hk : k < d.acc.length) (hj : 0 ≤ h.getD j 0 ∧ h.getD j 0 < 259) (hn : ¬ cellB X i k = true) (hb : b = cellB X (dN d i (h.getD j 0)) (dN d k (h.getD j 0))) :
    UnJ d h (X.set i ⟨(X.getD i lr0).a, (X.getD i lr0).n, (X.getD i lr0).c, (X.getD i lr0).xs.set k b⟩) t i k (j + 1) := by
  have hil : i < X.length := by rw [u.u.len]; exact hi
  have hg : ∀ r, (X.set i ⟨(X.getD i lr0).a, (X.getD i lr0).n, (X.getD i lr0).c, (X.getD i lr0).xs.set k b⟩).getD r lr0 = if i = r then ⟨(X.getD i lr0).a, (X.getD i lr0).n, (X.getD i lr0).c, (X.getD i lr0).xs.set k b⟩ else X.getD r lr0 := fun r => by
    simp only [List.getD_eq_getElem?_getD, List.getElem?_set]
    split
    · rename_i e; subst e; simp [hil]
    · rfl
  have hcell : ∀ r c, cellB (X.set i ⟨(X.getD i lr0).a, (X.getD i lr0).n, (X.getD i lr0).c, (X.getD i lr0).xs.set k b⟩) r c = if r = i ∧ c = k then b else cellB X r c := fun r c => by
    unfold cellB
    rw [hg]
    by_cases e : i = r
    · subst e
      rw [if_pos rfl]
      show ((X.getD i lr0).xs.set k b).getD c false = _
      rw [getD_setB (by rw [u.u.row i hi]; exact hk)]
      by_cases e2 : k = c
      · subst e2; simp
      · rw [if_neg (fun h => e2 h), if_neg (fun h => e2 h.2.symm)]
    · rw [if_neg e, if_neg (fun h => e h.1.symm)]
  have hlt1 := dN_lt hr hi hj
  have hlt2 := dN_lt hr hk hj
  refine ⟨⟨by rw [List.length_set]; exact u.u.len, fun r hr' => ?_, fun r c h1 h2 h3 => ?_, fun r c h1 h2 h3 => ?_⟩, fun x hx hd => ?_⟩
  · rw [hg]
    split
    · rename_i e; subst e; show ((X.getD i lr0).xs.set k b).length = _; rw [List.length_set]; exact u.u.row i hi
    · exact u.u.row r hr'
  · rw [hcell] at h3
    split at h3
    · rename_i e
      obtain ⟨rfl, rfl⟩ := e
      rw [hb] at h3
      obtain ⟨s, hs⟩ := u.u.snd _ _ hlt1 hlt2 h3
      exact ⟨s + 1, .inr ⟨_, hj, hs⟩⟩
    · exact u.u.snd r c h1 h2 h3
  · have h4 := u.u.cmp r c h1 h2 h3
    rw [hcell]
    split
    · rename_i e; obtain ⟨rfl, rfl⟩ := e; exact absurd h4 hn
    · exact h4
  · rw [hcell, if_pos ⟨rfl, rfl⟩]
    by_cases e : x = j
    · subst e; rw [hb]; exact u.u.weak hlt1 hlt2 hd
    · exact absurd (u.q x (by omega) hd) hn
theorem UnJ.next {d : DfaD} {h : List Int} {X : List (LR Bool)} {t i k j : Nat} (u : UnJ d h X t i k j) (hH : HdI d h 259) (hi : i < d.acc.length) (hk : k < d.acc.length) (he : ¬ j < h.length ∨ cellB X i k = true) : UnI d X t i (k + 1) := by
  refine ⟨u.u.len, u.u.row, u.u.snd, fun r c h1 h2 h3 => ?_⟩
  by_cases e : r = i ∧ c = k
  · obtain ⟨rfl, rfl⟩ := e
    rw [if_pos (.inr ⟨rfl, by omega⟩)] at h3
    rcases he with he | he
    · rcases h3 with h3 | ⟨b, hb, h3⟩
      · exact u.u.weak h1 h2 h3
      · obtain ⟨a, ha, hae⟩ := hH.all b.toNat (by omega)
        obtain ⟨x, hx, rfl⟩ := List.mem_iff_getElem.1 ha
        have hax : h.getD x 0 = h[x] := by simp [List.getD_eq_getElem?_getD, List.getElem?_eq_getElem hx]
        rw [← hax] at hae
        rw [dN_cls (i := r) hae, dN_cls (i := c) hae] at h3
        exact u.q x (by omega) h3
    · exact he
  · refine u.u.cmp r c h1 h2 ?_
    split at h3
    · rename_i h4; rw [if_pos (by omega)]; exact h3
    · rename_i h4; rw [if_neg (by omega)]; exact h3
theorem UnI.rowDone {d : DfaD} {X : List (LR Bool)} {t i k : Nat} (u : UnI d X t i k) (hk : ¬ k < d.acc.length) : UnI d X t (i + 1) 0 := by
  refine ⟨u.len, u.row, u.snd, fun r c h1 h2 h3 => u.cmp r c h1 h2 ?_⟩
  split at h3
  · rename_i h4; rw [if_pos (by omega)]; exact h3
  · rename_i h4; rw [if_neg (by omega)]; exact h3
theorem UnI.turn {d : DfaD} {X : List (LR Bool)} {t i : Nat} (u : UnI d X t i 0) (hi : ¬ i < d.acc.length) : UnI d X (t + 1) 0 0 := by
  refine ⟨u.len, u.row, u.snd, fun r c h1 h2 h3 => u.cmp r c h1 h2 ?_⟩
  rw [if_neg (by omega)] at h3
  rw [if_pos (by omega)]; exact h3
/-- The table. -/
structure UnP (d : DfaD) (X : List (LR Bool)) : Prop where
  len : X.length = d.acc.length
  row : ∀ r, r < d.acc.length → (X.getD r lr0).xs.length = d.acc.length
  val : ∀ r c, r < d.acc.length → c < d.acc.length → (cellB X r c = true ↔ Dis d r c)
theorem UnI.fin {d : DfaD} {X : List (LR Bool)} {t : Nat} (hr : rightB d = true) (u : UnI d X t 0 0) (ht : t = d.acc.length) : UnP d X := by
  subst ht
  exact ⟨u.len, u.row, fun r c h1 h2 => ⟨u.snd r c h1 h2, fun h => u.weak h1 h2 (moore hr h1 h2 h)⟩⟩
/-- The first form: the first s rows; and one row's first k places. -/
structure UrI (d : DfaD) (i : Nat) (q : List Bool) (k : Nat) : Prop where
  len : q.length = d.acc.length
  val : ∀ c, c < k → q.getD c false = decide (d.acc.getD i false ≠ d.acc.getD c false)
theorem UrI.start {d : DfaD} {i n : Nat} (h : n = d.acc.length) : UrI d i (List.replicate n false) 0 := ⟨by simp [h], fun c hc => by omega⟩
theorem UrI.step {d : DfaD} {i k : Nat} {q : List Bool} {b : Bool} (h : UrI d i q k) (hk : k < d.acc.length) (hb : b = decide (d.acc.getD i false ≠ d.acc.getD k false)) : UrI d i (q.set k b) (k + 1) := by
  refine ⟨by rw [List.length_set]; exact h.len, fun c hc => ?_⟩
  rw [getD_setB (by rw [h.len]; exact hk)]
  split
  · rename_i e; subst e; exact hb
  · exact h.val c (by omega)
structure UnS (d : DfaD) (X : List (LR Bool)) (s : Nat) : Prop where
  len : X.length = s
  row : ∀ r, r < s → (X.getD r lr0).xs.length = d.acc.length
  val : ∀ r c, r < s → c < d.acc.length → cellB X r c = decide (d.acc.getD r false ≠ d.acc.getD c false)
theorem UnS.start (d : DfaD) : UnS d [] 0 := ⟨rfl, fun r h => by omega, fun r c h => by omega⟩
theorem UnS.step {d : DfaD} {X : List (LR Bool)} {s n c k : Nat} {a : Option Addr} {q : List Bool} (h : UnS d X s) (hq : UrI d s q k) (hk : k = d.acc.length) : UnS d (X ++ [⟨a, n, c, q⟩]) (s + 1) := by
  subst hk
  refine ⟨by simp [h.len], fun r hr => ?_, fun r c hr hc => ?_⟩
  · rw [getD_append_LR, h.len]
    split
    · rename_i h1; exact h.row r h1
    · rw [if_pos (by omega)]; exact hq.len
  · unfold cellB
    rw [getD_append_LR, h.len]
    split
    · rename_i h1; exact h.val r c h1 hc
    · have e : r = s := by omega
      subst e
      rw [if_pos rfl]
      exact hq.val c hc
theorem UnS.done {d : DfaD} {X : List (LR Bool)} {s : Nat} (h : UnS d X s) (hs : s = d.acc.length) : UnI d X 0 0 0 := by
  subst hs
  refine ⟨h.len, h.row, fun r c hr hc h1 => ⟨0, ?_⟩, fun r c hr hc h1 => ?_⟩
  · rw [h.val r c hr hc] at h1; show d.acc.getD r false ≠ d.acc.getD c false; exact of_decide_eq_true h1
  · rw [if_neg (by omega)] at h1
    rw [h.val r c hr hc]; have h2 : d.acc.getD r false ≠ d.acc.getD c false := h1; exact decide_eq_true h2
end Go.Proofs.Ytoeockpkkmgieaa
