/- Structs stored into rows of one's own; rows cleared from a place on. -/
import Derived.Test.YtoeockpkkmgieaaSx9
import Derived.Lib.SliceRun
namespace Go.Sx
set_option linter.unusedVariables false
set_option linter.unusedSimpArgs false
section
variable {P : Program} {Γ : Env} {w : World} {ty : TypeId} {K : Value → World → Prop} {α : Type} {T : Ty α}
theorem all_split (xs : List α) (j : Nat) (x' : α) (hj : j < xs.length) : T.all (xs.set j x') = (T.all xs).take (j * T.sz) ++ T.enc x' ++ (T.all xs).drop (j * T.sz + T.sz) := by
  have e1 : xs.set j x' = xs.take j ++ [x'] ++ xs.drop (j + 1) := by rw [List.set_eq_take_append_cons_drop, if_pos hj]; simp
  have e2 : T.all (xs.take j) = (T.all xs).take (j * T.sz) := by
    have e3 : T.all xs = T.all (xs.take j) ++ T.all (xs.drop j) := by rw [← T.all_append, List.take_append_drop]
    have e4 : (T.all (xs.take j)).length = j * T.sz := by rw [T.all_length, List.length_take, Nat.min_eq_left (by omega)]
    rw [e3, ← e4, List.take_left]
  have e5 : T.all (xs.drop (j + 1)) = (T.all xs).drop (j * T.sz + T.sz) := by
    have e3 : T.all xs = T.all (xs.take (j + 1)) ++ T.all (xs.drop (j + 1)) := by rw [← T.all_append, List.take_append_drop]
    have e4 : (T.all (xs.take (j + 1))).length = j * T.sz + T.sz := by rw [T.all_length]; simp only [List.length_take]; rw [Nat.min_eq_left (by omega), Nat.add_mul, Nat.one_mul]
    rw [e3, ← e4, List.drop_left]
  rw [e1, T.all_append, T.all_append, e2, e5]; simp [Ty.all]
/-- Cells stored into a row of one's own. -/
theorem own_setN {v : Value} {e : TypeId} {xs ys : List α} {us : List Value} {o : Nat} (ho : w.ownsRow 0 e T.sz v xs.length (T.all xs)) (h1 : us.all (·.oneCell') = true) (hlt : o + us.length ≤ xs.length * T.sz) (hpos : 0 < us.length)
    (hl : ys.length = xs.length) (hys : T.all ys = (T.all xs).take o ++ us ++ (T.all xs).drop (o + us.length)) :
    ∃ g cs cap, v = .slice (some ⟨g, 0, none⟩) xs.length cap ∧ w.heap[g]? = some (.cells cs e (0, 0)) ∧ o + us.length ≤ cs.size ∧
      Upd w [rowT T v e xs] (w.setRow g (cs.toList.take o ++ us ++ cs.toList.drop (o + us.length)).toArray) [rowT T v e ys] := by
  obtain ⟨k1, k2⟩ := ho
  rcases k2 with ⟨rfl, h0⟩ | ⟨g, cap, cur, rfl, _, h3, h4, h5, h6, h7⟩
  · rw [h0, Nat.zero_mul] at hlt; omega
  · have hsz : xs.length * T.sz ≤ cur.size := by rw [h6]; exact Nat.mul_le_mul_right _ h4
    have hos : o + us.length ≤ cur.size := Nat.le_trans hlt hsz
    refine ⟨g, cur, cap, rfl, h3, hos, ?_⟩
    have hu := Upd.setRow (cs' := (cur.toList.take o ++ us ++ cur.toList.drop (o + us.length)).toArray) h3
    have hbk := hu.hp.blk (g := g) (cs := (cur.toList.take o ++ us ++ cur.toList.drop (o + us.length)).toArray) (e := e) (by simp)
    refine ⟨⟨fun c hc => ?_, by simp [ats, rowT, row, Value.ownBlock]⟩, ?_, fun g' hg => .inl ?_⟩
    · simp only [List.mem_singleton] at hc; subst hc
      show World.ownsRow _ 0 e T.sz _ ys.length (T.all ys)
      rw [hl]
      refine ⟨by rw [T.all_length, hl], .inr ⟨g, cap, _, rfl, Nat.zero_le _, hbk, h4, h5, ?_, ?_⟩⟩
      · simp [← h6]; omega
      · rw [hys, ← h7]
        have a1 : (cur.toList.take (xs.length * T.sz)).take o = cur.toList.take o := by rw [List.take_take, Nat.min_eq_left (by omega)]
        have l1 : (cur.toList.take o).length = o := by simp; omega
        have a2 : (cur.toList.take (xs.length * T.sz)).drop (o + us.length) = (cur.toList.drop (o + us.length)).take (xs.length * T.sz - (o + us.length)) := by rw [List.drop_take]
        rw [a1, a2]
        simp only [List.toList_toArray]
        have l2 : (cur.toList.take o ++ us).length = o + us.length := by rw [List.length_append, l1]
        rw [List.take_append, List.take_of_length_le (by rw [l2]; exact hlt), l2]
    · have := hu.keep; simpa [ats, rowT, row, blk, Value.ownBlock] using this
    · simpa [ats, rowT, row, Value.ownBlock] using hg
theorem elemAt (g n cap k : Nat) : elemPtr (.slice (some ⟨g, 0, none⟩) n cap) k = .pointer (some ⟨g, k, none⟩) := by simp [elemPtr, add_off]
/-- A whole element stored into a row of one's own. -/
theorem t_storeN {t e : TypeId} {x y : Operand} {v : Value} {s b : Nat} {z : Option Value} {xs : List α} {us : List Value} (j : Nat) (x' : α) (hT : T.sz = s) (hs : szOf P t = some (s, b, z)) (hx : ev Γ x = some (elemPtr v (j * s))) (hy : ev Γ y = some (.agg us.toArray))
    (he : T.enc x' = us) (ho : w.ownsRow 0 e T.sz v xs.length (T.all xs)) (hj : j < xs.length) (k : ∀ w', Upd w [rowT T v e xs] w' [rowT T v e (xs.set j x')] → K undef w') : Does P Γ w (.store t x y) ty K := by
  subst hT he
  have hul : (T.enc x').length = T.sz := T.len x'
  have hone : (T.enc x').all (·.oneCell') = true := by rw [List.all_eq_true]; exact fun u hu => T.one x' u hu
  obtain ⟨g, cs, cap, rfl, hb, hle, hu⟩ := own_setN (ys := xs.set j x') (us := T.enc x') (o := j * T.sz) ho hone (by rw [hul, ← Nat.succ_mul]; exact Nat.mul_le_mul_right _ hj) (by rw [hul]; exact T.pos) (by simp) (by rw [hul]; exact all_split xs j x' hj)
  rw [elemAt] at hx
  refine Does.of_skip (w' := w.setRow g (cs.toList.take (j * T.sz) ++ T.enc x' ++ cs.toList.drop (j * T.sz + (T.enc x').length)).toArray) (fun ρ hρ => ?_) (k _ hu)
  simp only [ex, execOp, hρ x _ hx, hρ y _ hy, Instr.storeAt, Instr.sureAddr, storeVar, Value.cells]
  have := run_storeCells_at P g (j * T.sz) e (T.enc x') 0 cs w hb (by simpa using hle) (by simpa using hone)
  simp only [Nat.add_zero] at this
  simp [run_sz hs, hul, this]
/-- 's[i:]' of whatever, by its value alone. -/
theorem t_suffix {t e : TypeId} {x lo : Operand} {kd : IntKind} {a : Option Addr} {n c sz b : Nat} {z : Option Value} {l : Int} (i : Nat) (ht : P.underlying t = some (.slice e)) (hs : szOf P e = some (sz, b, z)) (hx : ev Γ x = some (.slice a n c)) (hl : ev Γ lo = some (.int kd l))
    (hij : l = ((i : Nat) : Int)) (hin : i ≤ n) (hc : n ≤ c) (k : K (subSlice (.slice a n c) sz i n) w) : Does P Γ w (.slice t x (some lo) none none) ty K := by
  subst hij
  refine d_slice (i : Int) (n : Int) ht hs hx (by simp [evO, hl]) rfl (.inr ⟨kd, rfl⟩) (.inl ⟨rfl, rfl⟩) ⟨by omega, by omega, by omega⟩ ?_
  simpa using k
theorem run_clear {t e cty : TypeId} {zv : Value} {g o n c : Nat} {cs : Array Value} {e' : TypeId} (ht : P.underlying t = some (.slice e)) (hz : ∀ w, (zeroValue e).run P w = .ok zv w) (hn : 0 < n) (hb : w.heap[g]? = some (.cells cs e' (0, 0)))
    (hle : o + (Builtin.zeroCells zv.cells n).toList.length ≤ cs.size) (h1 : (Builtin.zeroCells zv.cells n).toList.all (·.oneCell') = true) :
    (Builtin.clear_ #[t] cty #[.slice (some ⟨g, o, none⟩) n c]).run P w = .ok (.tuple #[]) (w.setRow g (cs.toList.take o ++ (Builtin.zeroCells zv.cells n).toList ++ cs.toList.drop (o + (Builtin.zeroCells zv.cells n).toList.length)).toArray) := by
  have := run_storeCells_at P g o e' (Builtin.zeroCells zv.cells n).toList 0 cs w hb (by rw [Nat.add_zero]; exact hle) (fun u hu => List.all_eq_true.1 h1 u hu)
  simp only [Nat.add_zero] at this
  obtain ⟨m, rfl⟩ : ∃ m, n = m + 1 := ⟨n - 1, by omega⟩
  simp [Builtin.clear_, run_underlying ht, hz, this]
theorem zeroCells_all {z : Value} {d : α} (hz : z.cells.toList = T.enc d) (n : Nat) : (Builtin.zeroCells z.cells n).toList = T.all (List.replicate n d) := by
  have hs : z.cells.size = T.sz := by rw [← Array.length_toList, hz, T.len]
  have e : Builtin.zeroCells z.cells n = madeCells z.cells (n * T.sz) := by unfold Builtin.zeroCells madeCells; rw [hs]
  rw [e]; exact madeCells_all hz n
/-- 'clear(s[i:])', s a row of one's own. -/
theorem t_clear {t e : TypeId} {x : Operand} {a : Option Addr} {c sz b : Nat} {z : Value} {xs : List α} (i : Nat) (d : α) (hT : T.sz = sz) (ht : P.underlying t = some (.slice e)) (hs : szOf P e = some (sz, b, some z)) (hz : z.cells.toList = T.enc d)
    (hx : ev Γ x = some (subSlice (.slice a xs.length c) sz i xs.length)) (ho : w.ownsRow 0 e T.sz (.slice a xs.length c) xs.length (T.all xs)) (hi : i ≤ xs.length)
    (k : ∀ w', Upd w [rowT T (.slice a xs.length c) e xs] w' [rowT T (.slice a xs.length c) e (xs.take i ++ List.replicate (xs.length - i) d)] → K (.tuple #[]) w') : Does P Γ w (.call { callee := .builtin .clear, args := #[x], argTypes := #[t] }) ty K := by
  subst hT
  have hl : (xs.take i ++ List.replicate (xs.length - i) d).length = xs.length := by simp; omega
  rcases Nat.eq_or_lt_of_le hi with he | hlt
  · have e1 : xs.take i ++ List.replicate (xs.length - i) d = xs := by rw [he]; simp
    rw [e1] at k
    refine Does.of_run (fun ρ hρ => ?_) (k w (Upd.refl (hp_one (own_row ho))))
    simp only [ex, execOp, resolve, invoke, builtin, Sem.run_bind, Sem.run_pure, Result.andThen_ok, List.map_toArray, List.map_cons, List.map_nil, hρ x _ hx]
    have : (Builtin.clear_ #[t] ty #[subSlice (.slice a xs.length c) T.sz i xs.length]).run P w = .ok (.tuple #[]) w := by
      simp only [subSlice, he, Nat.sub_self]
      cases (if c = xs.length then a else a.map (·.add (xs.length * T.sz))) <;> simp [Builtin.clear_, run_underlying ht]
    simp [this]
  · have hc : xs.length ≤ c := by
      rcases ho.2 with ⟨h1, h2⟩ | ⟨g, cap, cur, h1, _, _, h2, _⟩
      · omega
      · injection h1 with _ _ h1; omega
    have hzl := zeroCells_all (T := T) hz (xs.length - i)
    have hzn : (Builtin.zeroCells z.cells (xs.length - i)).toList.length = (xs.length - i) * T.sz := by rw [hzl, T.all_length]; simp
    have hone : (Builtin.zeroCells z.cells (xs.length - i)).toList.all (·.oneCell') = true := by rw [hzl, List.all_eq_true]; exact fun u hu => T.all_one _ u hu
    have hmul : i * T.sz + (xs.length - i) * T.sz = xs.length * T.sz := by rw [← Nat.add_mul]; congr 1; omega
    obtain ⟨g, cs, cap, hv, hb, hle, hu⟩ := own_setN (ys := xs.take i ++ List.replicate (xs.length - i) d) (us := (Builtin.zeroCells z.cells (xs.length - i)).toList) (o := i * T.sz) ho hone (by rw [hzn, hmul]; exact Nat.le_refl _) (by rw [hzn]; exact Nat.mul_pos (by omega) T.pos) hl (by
      rw [T.all_append, ← hzl, hzn, hmul]
      have e3 : T.all xs = T.all (xs.take i) ++ T.all (xs.drop i) := by rw [← T.all_append, List.take_append_drop]
      have e4 : (T.all (xs.take i)).length = i * T.sz := by rw [T.all_length, List.length_take, Nat.min_eq_left hi]
      have e5 : (T.all xs).drop (xs.length * T.sz) = [] := List.drop_of_length_le (by rw [T.all_length]; exact Nat.le_refl _)
      rw [e5, e3, ← e4, List.take_left]; simp)
    injection hv with ha _ _
    subst ha
    have e6 : subSlice (.slice (some ⟨g, 0, none⟩) xs.length c) T.sz i xs.length = .slice (some ⟨g, i * T.sz, none⟩) (xs.length - i) (c - i) := by
      simp only [subSlice]; rw [if_neg (by omega)]; simp [Addr.add]; exact fun h => h.symm
    rw [e6] at hx
    have hk := k _ (by rw [hl] at *; exact hu)
    refine Does.of_run (fun ρ hρ => ?_) hk
    simp only [ex, execOp, resolve, invoke, builtin, Sem.run_bind, Sem.run_pure, Result.andThen_ok, List.map_toArray, List.map_cons, List.map_nil, hρ x _ hx]
    rw [run_clear ht (fun w => run_zero hs) (by omega) hb hle hone]
    rfl
theorem own_cap {a : Option Addr} {n c sz : Nat} {e : TypeId} {vs : List Value} (h : w.ownsRow 0 e sz (.slice a n c) n vs) : n ≤ c := by
  rcases h.2 with ⟨h1, h2⟩ | ⟨g, cap, cur, h1, _, _, h2, _⟩
  · omega
  · injection h1 with _ _ h1; omega
/-- A function value that tells yes or no of an element, whatever the memory. -/
def ClosU (T : Ty α) (P : Program) (f : FuncId) (fc : List Value) (p : α → Bool) : Prop :=
  ∀ w x, Calls P f (#[.agg (T.enc x).toArray] ++ fc.toArray) w (Ret fun v w' => v = .bool (p x) ∧ Upd w [] w' [])
theorem t_clearN {t e : TypeId} {x : Operand} {a : Option Addr} {n c sz b : Nat} {z : Value} {xs : List α} (i : Nat) (d : α) (hT : T.sz = sz) (ht : P.underlying t = some (.slice e)) (hs : szOf P e = some (sz, b, some z)) (hz : z.cells.toList = T.enc d)
    (hx : ev Γ x = some (subSlice (.slice a n c) sz i n)) (ho : w.ownsRow 0 e T.sz (.slice a n c) xs.length (T.all xs)) (hn : n = xs.length) (hi : i ≤ n)
    (k : ∀ w', Upd w [rowT T (.slice a n c) e xs] w' [rowT T (.slice a n c) e (xs.take i ++ List.replicate (n - i) d)] → K (.tuple #[]) w') : Does P Γ w (.call { callee := .builtin .clear, args := #[x], argTypes := #[t] }) ty K := by
  subst hn; exact t_clear i d hT ht hs hz hx ho hi k
theorem t_popN {t e : TypeId} {x hi : Operand} {kd : IntKind} {a : Option Addr} {n c sz b : Nat} {z : Option Value} {xs : List α} (h : Int) (hn : Nat) (hT : T.sz = sz) (ht : P.underlying t = some (.slice e)) (hs : szOf P e = some (sz, b, z)) (hx : ev Γ x = some (.slice a n c)) (hh : ev Γ hi = some (.int kd h))
    (ho : w.ownsRow 0 e T.sz (.slice a n c) xs.length (T.all xs)) (hnn : n = xs.length) (hij : h = ((hn : Nat) : Int)) (hle : hn ≤ n) (k : ∀ w', Upd w [rowT T (.slice a n c) e xs] w' [rowT T (.slice a (xs.take hn).length c) e (xs.take hn)] → K (.slice a (xs.take hn).length c) w') : Does P Γ w (.slice t x none (some hi) none) ty K := by
  subst hnn; exact t_pop h hn hT ht hs hx hh ho hij hle k
theorem own_capN {a : Option Addr} {n c sz m : Nat} {e : TypeId} {vs : List Value} (h : w.ownsRow 0 e sz (.slice a n c) m vs) : n ≤ c := by
  rcases h.2 with ⟨h1, h2⟩ | ⟨g, cap, cur, h1, _, _, h2, _⟩
  · injection h1 with _ h1 _; omega
  · injection h1 with _ h3 h1; omega
theorem Inn.Rd.filter {σ β : Type} {I : Inn σ β} {ps : List σ} (h : I.Rd w ps) (q : σ → Bool) : I.Rd w (ps.filter q) := fun p hp => h p (List.mem_filter.1 hp).1
end
end Go.Sx
