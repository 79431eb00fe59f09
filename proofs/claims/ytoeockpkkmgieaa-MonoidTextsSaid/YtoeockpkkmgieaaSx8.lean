/- More words for walks: structs compared. -/
import Derived.Test.YtoeockpkkmgieaaSx7
import Derived.Laws.StructEq
namespace Go.Sx
set_option linter.unusedVariables false
set_option linter.unusedSimpArgs false
def cellEq : Value → Value → Bool
  | .int _ a, .int _ b => decide (a = b)
  | .string a, .string b => decide (a = b)
  | .bool a, .bool b => decide (a = b)
  | _, _ => true
def cellsEq : List Value → List Value → Bool
  | [x], [y] => cellEq x y
  | x :: xs, y :: ys => cellEq x y && cellsEq xs ys
  | _, _ => true
def flatOne (P : Program) (t : TypeId) (x y : Value) : Bool :=
  match P.underlying t, x, y with
  | some (.int k), .int a _, .int b _ => decide (a = k) && decide (b = k)
  | some .bool, .bool _, .bool _ => true
  | some .string, .string _, .string _ => true
  | _, _, _ => false
def flatOk (P : Program) : Nat → List Field → List Value → List Value → Bool
  | _, [], [], [] => true
  | i, f :: fs, x :: xs, y :: ys => (f.name != "_") && (Nat.beq f.offset i) && flatOne P f.type x y && flatOk P (i + 1) fs xs ys
  | _, _, _, _ => false
section
variable {P : Program} {Γ : Env} {w : World} {ty : TypeId} {K : Value → World → Prop}
theorem run_flatOne {t : TypeId} {x y : Value} {d o : Nat} {X Y : Array Value} (h : flatOne P t x y = true) (hx : X[o]? = some x) (hy : Y[o]? = some y) :
    (part t X o).run P w = .ok x w ∧ (part t Y o).run P w = .ok y w ∧ (Op.equalIn (d + 1) t x y).run P w = .ok (cellEq x y) w := by
  unfold flatOne at h
  split at h
  · rename_i k a n b m hu
    simp only [Bool.and_eq_true, decide_eq_true_eq] at h
    obtain ⟨rfl, rfl⟩ := h
    refine ⟨?_, ?_, ?_⟩
    · simp [part, isAgg, run_underlying hu, hx]
    · simp [part, isAgg, run_underlying hu, hy]
    · simp [Op.equalIn, run_underlying hu, cellEq]; rfl
  · rename_i a b hu
    refine ⟨?_, ?_, ?_⟩
    · simp [part, isAgg, run_underlying hu, hx]
    · simp [part, isAgg, run_underlying hu, hy]
    · simp [Op.equalIn, run_underlying hu, cellEq]; rfl
  · rename_i a b hu
    refine ⟨?_, ?_, ?_⟩
    · simp [part, isAgg, run_underlying hu, hx]
    · simp [part, isAgg, run_underlying hu, hy]
    · have := run_equalIn_string (P := P) w d t a b hu
      rw [this]; simp [cellEq, toList_inj]
  · cases h
theorem run_flat {d : Nat} {X Y : Array Value} : ∀ {fs : List Field} {i : Nat} {xs ys : List Value}, flatOk P i fs xs ys = true → (∀ j, j < xs.length → X[i + j]? = xs[j]?) → (∀ j, j < ys.length → Y[i + j]? = ys[j]?) →
    (Op.eqFields (d + 1) X Y fs).run P w = .ok (cellsEq xs ys) w
  | [], i, [], [], _, _, _ => by simp [Op.eqFields, cellsEq]
  | f :: fs, i, x :: xs, y :: ys, h, hx, hy => by
    simp only [flatOk, Bool.and_eq_true, bne_iff_ne, ne_eq] at h
    obtain ⟨⟨⟨hn, ho⟩, h1⟩, h2⟩ := h
    have ho := Nat.eq_of_beq_eq_true ho
    have ex := hx 0 (by simp); have ey := hy 0 (by simp)
    simp only [Nat.add_zero, List.getElem?_cons_zero] at ex ey
    obtain ⟨p1, p2, p3⟩ := run_flatOne (w := w) (d := d) (o := f.offset) h1 (by rw [ho]; exact ex) (by rw [ho]; exact ey)
    have ih := run_flat (d := d) (X := X) (Y := Y) h2 (fun j hj => by have := hx (j + 1) (by simp; omega); rw [show i + 1 + j = i + (j + 1) by omega, this]; simp) (fun j hj => by have := hy (j + 1) (by simp; omega); rw [show i + 1 + j = i + (j + 1) by omega, this]; simp)
    have hc : cellsEq (x :: xs) (y :: ys) = (cellEq x y && cellsEq xs ys) := by
      cases xs <;> cases ys <;> simp [cellsEq]
    simp only [Op.eqFields, ne_eq, hn, not_false_eq_true, if_true, Sem.run_bind, p1, p2, p3, Result.andThen_ok, hc]
    cases hb : cellEq x y
    · simp
    · simp [ih]
theorem run_aggeq {t : TypeId} {xs ys : List Value} (ht : P.underlying t = some (.struct (P.fieldsOf t))) (hp : P.stoodInHeld t = false) (h : flatOk P 0 (P.fieldsOf t).toList xs ys = true) :
    (Op.equalIn 10000 t (.agg xs.toArray) (.agg ys.toArray)).run P w = .ok (cellsEq xs ys) w := by
  rw [run_equalIn_struct w 9999 t xs.toArray ys.toArray ht hp]
  exact run_flat (d := 9998) h (fun j hj => by simp) (fun j hj => by simp)
theorem d_aggeq {xt yt : TypeId} {x y : Operand} (xs ys : List Value) (hx : ev Γ x = some (.agg xs.toArray)) (hy : ev Γ y = some (.agg ys.toArray)) (ht : P.underlying xt = some (.struct (P.fieldsOf xt))) (hp : P.stoodInHeld xt = false) (hm : P.eqGuardType P.depth xt = false)
    (h : flatOk P 0 (P.fieldsOf xt).toList xs ys = true) (k : K (.bool (cellsEq xs ys)) w) : Does P Γ w (.binOp .eql xt x y yt) ty K :=
  Does.of_run (fun ρ hρ => by
    simp only [ex, execOp, hρ x _ hx, hρ y _ hy, Sem.run_bind, run_eqGuard_agg w _ _ _ _ _ _ hm, run_eql_struct, Result.andThen_ok]
    rw [run_aggeq ht hp h]; simp) k
theorem d_aggne {xt yt : TypeId} {x y : Operand} (xs ys : List Value) (hx : ev Γ x = some (.agg xs.toArray)) (hy : ev Γ y = some (.agg ys.toArray)) (ht : P.underlying xt = some (.struct (P.fieldsOf xt))) (hp : P.stoodInHeld xt = false) (hm : P.eqGuardType P.depth xt = false)
    (h : flatOk P 0 (P.fieldsOf xt).toList xs ys = true) (k : K (.bool (!(cellsEq xs ys))) w) : Does P Γ w (.binOp .neq xt x y yt) ty K :=
  Does.of_run (fun ρ hρ => by
    simp only [ex, execOp, hρ x _ hx, hρ y _ hy, Sem.run_bind, run_eqGuard_agg w _ _ _ _ _ _ hm, run_neq_struct, Result.andThen_ok]
    rw [run_aggeq ht hp h]; simp) k
theorem RdT.take {α : Type} {T : Ty α} {a : Option Addr} {n c : Nat} {xs : List α} (h : RdT T w (.slice a n c) xs) (k : Nat) (hk : k ≤ xs.length) : RdT T w (.slice a (xs.take k).length c) (xs.take k) := by
  obtain ⟨A, cap, he, hl, hle, hr⟩ := h
  cases he
  have hlen : (xs.take k).length = k := by simp; omega
  refine ⟨a, c, rfl, T.all_length _, by omega, fun j u hj => hr j u ?_⟩
  have e3 : T.all xs = T.all (xs.take k) ++ T.all (xs.drop k) := by rw [← T.all_append, List.take_append_drop]
  rw [e3, List.getElem?_append_left (List.getElem?_eq_some_iff.1 hj).1, hj]
/-- 'xs[:h]' of what is read. -/
theorem t_take {α : Type} {T : Ty α} {t e : TypeId} {x hi : Operand} {kd : IntKind} {a : Option Addr} {c sz b : Nat} {z : Option Value} {xs : List α} (h : Int) (hn : Nat) (hT : T.sz = sz) (ht : P.underlying t = some (.slice e)) (hs : szOf P e = some (sz, b, z)) (hx : ev Γ x = some (.slice a xs.length c)) (hh : ev Γ hi = some (.int kd h))
    (hij : h = ((hn : Nat) : Int)) (hle : hn ≤ xs.length) (hc : xs.length ≤ c) (k : K (.slice a (xs.take hn).length c) w) : Does P Γ w (.slice t x none (some hi) none) ty K := by
  subst hij hT
  have hlen : (xs.take hn).length = hn := by simp; omega
  rw [hlen] at k
  refine d_slice 0 (hn : Int) ht hs hx rfl (by simp [evO, hh]) (.inl ⟨rfl, rfl⟩) (.inr ⟨kd, rfl⟩) ⟨by omega, by omega, by omega⟩ ?_
  have e1 : subSlice (.slice a xs.length c) T.sz (0 : Int).toNat ((hn : Nat) : Int).toNat = .slice a hn c := by
    simp only [subSlice, Int.toNat_zero, Int.toNat_natCast, Nat.zero_mul, Nat.sub_zero]
    split
    · rfl
    · cases a <;> simp [Addr.add]
  rw [e1]
  exact k
end
end Go.Sx
