/- Maps of one's own: made, looked up, written. -/
import Derived.Test.YtoeockpkkmgieaaSx13
import Derived.MapKept
import Derived.WideKeyRuns
import Derived.Carry
import Derived.Laws.StructEq
namespace Go.Sx
set_option linter.unusedVariables false
set_option linter.unusedSimpArgs false
open Go.MapKept
section
variable {κ ν : Type} [DecidableEq κ]
/-- The first place of a key. -/
def fndK (a : κ) : List κ → Nat → Option Nat
  | [], _ => none
  | x :: r, i => if a = x then some i else fndK a r (i + 1)
def getM : List (κ × ν) → κ → Option ν
  | [], _ => none
  | p :: r, a => if a = p.1 then some p.2 else getM r a
def putM : List (κ × ν) → κ → ν → List (κ × ν)
  | [], a, v => [(a, v)]
  | p :: r, a, v => if a = p.1 then (a, v) :: r else p :: putM r a v
theorem getM_put (m : List (κ × ν)) (a b : κ) (v : ν) : getM (putM m a v) b = if b = a then some v else getM m b := by
  induction m with
  | nil => simp [putM, getM]
  | cons p r ih =>
    unfold putM
    split
    · rename_i h
      subst h
      simp only [getM]
      split <;> rfl
    · rename_i h
      simp only [getM, ih]
      split
      · rename_i h2; subst h2; rw [if_neg (fun e => h e.symm)]
      · rfl
theorem getM_none {m : List (κ × ν)} {a : κ} : getM m a = none ↔ ∀ p, p ∈ m → p.1 ≠ a := by
  induction m with
  | nil => simp [getM]
  | cons p r ih =>
    simp only [getM]
    split
    · rename_i h; simp [h]
    · rename_i h
      rw [ih]
      simp only [List.mem_cons, forall_eq_or_imp]
      exact ⟨fun h2 => ⟨fun e => h e.symm, h2⟩, fun h2 => h2.2⟩
theorem putM_new {m : List (κ × ν)} {a : κ} {v : ν} (h : getM m a = none) : putM m a v = m ++ [(a, v)] := by
  induction m with
  | nil => rfl
  | cons p r ih =>
    simp only [getM] at h
    split at h
    · cases h
    · rename_i hne
      simp only [putM, if_neg hne, ih h, List.cons_append]
theorem getM_mem {m : List (κ × ν)} {a : κ} {v : ν} (h : getM m a = some v) : (a, v) ∈ m := by
  induction m with
  | nil => cases h
  | cons p r ih =>
    simp only [getM] at h
    split at h
    · rename_i e; subst e; cases h; simp
    · exact List.mem_cons_of_mem _ (ih h)
theorem fndK_spec (a : κ) : ∀ (l : List κ) (i : Nat), (fndK a l i = none ∧ a ∉ l) ∨ ∃ j, fndK a l i = some (i + j) ∧ l[j]? = some a ∧ ∀ q, q < j → l[q]? ≠ some a
  | [], i => .inl ⟨rfl, by simp⟩
  | x :: r, i => by
    unfold fndK
    by_cases h : a = x
    · rw [if_pos h]; exact .inr ⟨0, rfl, by simp [h], fun q hq => by omega⟩
    · rw [if_neg h]
      rcases fndK_spec a r (i + 1) with ⟨h1, h2⟩ | ⟨j, h1, h2, h3⟩
      · exact .inl ⟨h1, by simp [h, h2]⟩
      · refine .inr ⟨j + 1, by rw [h1]; congr 1; omega, by simpa using h2, fun q hq => ?_⟩
        cases q with
        | zero => simp; exact fun e => h e.symm
        | succ q => simpa using h3 q (by omega)
/-- What a key's type does. -/
structure KeyS (P : Program) (k : TypeId) (enc : κ → Value) : Prop where
  chk : ∀ (e : Bool) (a : κ) (w : World), (Instr.checkKey e 10000 k (enc a)).run P w = .ok () w
  find : ∀ (a : κ) (es : List MapEntry) (ks : List κ) (w : World), es.map (·.key) = ks.map enc →
    (Instr.findKey k (enc a) es).run P w = .ok ((fndK a ks 0).bind fun j => (es[j]?).map fun e => (j, e.val)) w
  bits : ∀ a, Instr.sameBits 10000 (enc a) (enc a) = true

theorem findNow_of {d : TypeDesc} {enc : κ → Value} (hs : ∀ a b, Instr.sameNow d (enc a) (enc b) = some (decide (a = b))) (a : κ) :
    ∀ (es : List MapEntry) (ks : List κ) (i : Nat), es.map (·.key) = ks.map enc → Instr.findNow d (enc a) es i = some ((fndK a ks i).bind fun j => (es[j - i]?).map fun e => (j, e.val))
  | [], [], i, _ => rfl
  | [], _ :: _, i, h => by simp at h
  | _ :: _, [], i, h => by simp at h
  | e :: es, x :: ks, i, h => by
    simp only [List.map_cons, List.cons.injEq] at h
    unfold Instr.findNow fndK
    rw [h.1, hs]
    by_cases hx : a = x
    · simp [hx]
    · rw [if_neg hx, decide_eq_false hx]
      simp only
      rw [findNow_of hs a es ks (i + 1) h.2]
      congr 1
      rcases fndK_spec a ks (i + 1) with ⟨h1, _⟩ | ⟨j, h1, h2, _⟩
      · rw [h1]; rfl
      · rw [h1]
        simp only [Option.bind_some]
        have e1 : i + 1 + j - (i + 1) = j := by omega
        have e2 : i + 1 + j - i = j + 1 := by omega
        rw [e1, e2]
        simp
theorem keyI {P : Program} {k : TypeId} {q : IntKind} (hk : P.underlying k = some (.int q)) : KeyS P k (fun a : Int => .int q a) where
  chk := fun e a w => run_checkKey (d := .int q) hk (by simp [IsKey]) e 9999
  find := fun a es ks w h => run_findKey hk (by
    have := findNow_of (d := .int q) (enc := fun a : Int => .int q a) (fun a b => by simp [Instr.sameNow]; rfl) a es ks 0 h
    simpa using this)
  bits := fun a => by simp [Instr.sameBits]
theorem keyStr {P : Program} {k : TypeId} (hk : P.underlying k = some .string) : KeyS P k (fun a : ByteArray => .string a) where
  chk := fun e a w => run_checkKey (d := .string) hk (by simp [IsKey]) e 9999
  find := fun a es ks w h => run_findKey hk (by
    have := findNow_of (d := .string) (enc := fun a : ByteArray => .string a) (fun a b => by
      simp only [Instr.sameNow]
      congr 1
      by_cases e : a = b
      · rw [decide_eq_true e]; exact (bytes_beq a b).2 e
      · rw [decide_eq_false e]
        exact Bool.eq_false_iff.2 fun h => e ((bytes_beq a b).1 h)) a es ks 0 h
    simpa using this)
  bits := fun a => by simp only [Instr.sameBits]; exact (bytes_beq a a).2 rfl
end
/-! ### Keys that are structs -/
section
variable {P : Program}
theorem chk_one {em : Bool} {n : Nat} {t : TypeId} {x y : Value} {w : World} (h : flatOne P t x y = true) : (Instr.checkKey em (n + 1) t x).run P w = .ok () w := by
  unfold flatOne at h
  split at h
  · rename_i hu; unfold Instr.checkKey; simp [run_underlying hu, Result.andThen]
  · rename_i hu; unfold Instr.checkKey; simp [run_underlying hu, Result.andThen]
  · rename_i hu; unfold Instr.checkKey; simp [run_underlying hu, Result.andThen]
  · cases h
theorem run_chkFlat {em : Bool} {n : Nat} {X : Array Value} : ∀ {fs : List Field} {i : Nat} {xs : List Value} (w : World), flatOk P i fs xs xs = true → (∀ j, j < xs.length → X[i + j]? = xs[j]?) →
    (forIn fs PUnit.unit fun f _ => (if f.name ≠ "_" then (do
      let v ← part f.type X f.offset
      Instr.checkKey em (n + 1) f.type v
      pure (ForInStep.yield PUnit.unit)) else pure (ForInStep.yield PUnit.unit) : Sem (ForInStep PUnit))).run P w = .ok PUnit.unit w
  | [], i, [], w, _, _ => by simp
  | f :: fs, i, x :: xs, w, h, hx => by
    simp only [flatOk, Bool.and_eq_true, bne_iff_ne, ne_eq] at h
    obtain ⟨⟨⟨hn, ho⟩, h1⟩, h2⟩ := h
    have ho := Nat.eq_of_beq_eq_true ho
    have ex := hx 0 (by simp)
    simp only [Nat.add_zero, List.getElem?_cons_zero] at ex
    obtain ⟨p1, _, _⟩ := run_flatOne (w := w) (d := 0) (o := f.offset) h1 (by rw [ho]; exact ex) (by rw [ho]; exact ex)
    have ih := run_chkFlat (em := em) (n := n) (X := X) w h2 (fun j hj => by have := hx (j + 1) (by simp; omega); rw [show i + 1 + j = i + (j + 1) by omega, this]; simp)
    have hc : (Instr.checkKey em (n + 1) f.type x).run P w = .ok () w := chk_one h1
    simp only [ne_eq] at ih
    simp only [List.forIn_cons, Sem.run_bind, ne_eq, hn, not_false_eq_true, if_true, p1, hc, Result.andThen_ok, Sem.run_pure, ih]
theorem run_findAsk {κ : Type} [DecidableEq κ] {k : TypeId} {enc : κ → Value} (heq : ∀ (a b : κ) (w : World), (Op.equal k (enc a) (enc b)).run P w = .ok (decide (a = b)) w) (a : κ) :
    ∀ (es : List MapEntry) (ks : List κ) (i : Nat) (w : World), es.map (·.key) = ks.map enc → (Instr.findAsking k (enc a) es i).run P w = .ok ((fndK a ks i).bind fun j => (es[j - i]?).map fun e => (j, e.val)) w
  | [], [], i, w, _ => by simp [Instr.findAsking, fndK]
  | [], _ :: _, i, w, h => by simp at h
  | _ :: _, [], i, w, h => by simp at h
  | e :: es, x :: ks, i, w, h => by
    simp only [List.map_cons, List.cons.injEq] at h
    unfold Instr.findAsking fndK
    rw [h.1]
    simp only [Sem.run_bind, heq, Result.andThen_ok]
    by_cases hx : a = x
    · simp [hx]
    · rw [if_neg hx, decide_eq_false hx]
      simp only [Bool.false_eq_true, if_false]
      rw [run_findAsk heq a es ks (i + 1) w h.2]
      congr 1
      rcases fndK_spec a ks (i + 1) with ⟨h1, _⟩ | ⟨j, h1, h2, _⟩
      · rw [h1]; rfl
      · rw [h1]
        simp only [Option.bind_some]
        have e1 : i + 1 + j - (i + 1) = j := by omega
        have e2 : i + 1 + j - i = j + 1 := by omega
        rw [e1, e2]
        simp
/-- a pair of whole numbers -/
def encP (p : Int × Int) : Value := .agg #[.int .i64 p.1, .int .i64 p.2]
theorem keyP {k : TypeId} (hu : P.underlying k = some (.struct (P.fieldsOf k))) (hp : P.stoodInHeld k = false)
    (hf : ∀ x y z u : Int, flatOk P 0 (P.fieldsOf k).toList [.int .i64 x, .int .i64 y] [.int .i64 z, .int .i64 u] = true) : KeyS P k encP where
  chk := fun e a w => by
    unfold Instr.checkKey
    simp only [Sem.run_bind, run_underlying hu, Result.andThen_ok, encP]
    rw [← Array.forIn_toList]
    have h1 := run_chkFlat (em := e) (n := 9998) (X := #[Value.int .i64 a.1, .int .i64 a.2]) w (hf a.1 a.2 a.1 a.2) (fun j hj => by simp)
    rw [h1]; simp
  find := fun a es ks w h => by
    have e1 := run_findKey_eq (P := P) (w := w) (k := k) (by simp [hu]) (encP a) es
    rw [e1]
    have := run_findAsk (P := P) (k := k) (enc := encP) (fun a b w => by
      have h1 := run_aggeq (w := w) hu hp (hf a.1 a.2 b.1 b.2)
      have h2 : cellsEq [Value.int .i64 a.1, .int .i64 a.2] [.int .i64 b.1, .int .i64 b.2] = decide (a = b) := by
        obtain ⟨a1, a2⟩ := a; obtain ⟨b1, b2⟩ := b
        simp [cellsEq, cellEq]
      rw [h2] at h1
      exact h1) a es ks 0 w h
    simpa using this
  bits := fun a => by simp [Instr.sameBits, encP]
end
/-- A map of one's own: its entries, in the order in which they came. -/
def mapC {κ ν : Type} (ek : κ → Value) (ev : ν → Value) (g : Nat) (m : List (κ × ν)) : Chunk :=
  ⟨[g], fun w => ∃ es clock, w.heap[g]? = some (.map es clock) ∧ es.toList.map (fun e => (e.key, e.val)) = m.map (fun p => (ek p.1, ev p.2)),
    fun w w' h k => by obtain ⟨es, c, h1, h2⟩ := k; exact ⟨es, c, (h g (by simp)).trans h1, h2⟩,
    fun w g' hg k => by obtain ⟨es, c, h1, _⟩ := k; simp at hg; subst hg; exact lt_of_obj h1, fun _ _ => by simp⟩
/-- What a map's block says. -/
def MapAt {κ ν : Type} (w : World) (ek : κ → Value) (evl : ν → Value) (g : Nat) (m : List (κ × ν)) : Prop := ∃ es clock, w.heap[g]? = some (.map es clock) ∧ es.toList.map (fun e => (e.key, e.val)) = m.map (fun p => (ek p.1, evl p.2))
section
variable {κ ν : Type} {P : Program} {Γ : Env} {w : World} {ty : TypeId} {K : Value → World → Prop} {ek : κ → Value} {evl : ν → Value}
theorem UpG.mapAt {w w' : World} {L : List Chunk} {G : List (List Chunk)} {g : Nat} {m : List (κ × ν)} (h : UpG w L w' G) (i : Nat) (hi : G[i]? = some [mapC ek evl g m]) :
    MapAt w' ek evl g m := (h.hpOf i hi).holds (mapC ek evl g m) (by simp)
theorem keys_of {m : List (κ × ν)} {es : Array MapEntry} (h : es.toList.map (fun e => (e.key, e.val)) = m.map (fun p => (ek p.1, evl p.2))) : es.toList.map (·.key) = (m.map Prod.fst).map ek := by
  have h2 := congrArg (List.map Prod.fst) h
  simpa [Function.comp_def] using h2
theorem d_lenM {x : Operand} {t k e : TypeId} {g : Nat} {m : List (κ × ν)} (ht : P.underlying t = some (.map k e)) (hx : ev Γ x = some (.map (some g)))
    (hm : MapAt w ek evl g m) (kk : K (.int .i64 ((m.length : Nat) : Int)) w) : Does P Γ w (.call { callee := .builtin .len, args := #[x], argTypes := #[t] }) ty K := by
  obtain ⟨es, clock, h1, h2⟩ := hm
  have hl : es.size = m.length := by have := congrArg List.length h2; simpa using this
  refine Does.of_run (w' := w) (fun ρ hρ => ?_) kk
  simp [ex, execOp, hρ x _ hx, resolve, invoke, builtin, Builtin.len_, run_underlying ht, Go.MapKept.run_getObj_map h1, goInt, hl, Result.andThen]
end
section
variable {κ ν : Type} [DecidableEq κ] {P : Program} {Γ : Env} {w : World} {ty : TypeId} {K : Value → World → Prop} {ek : κ → Value} {evl : ν → Value}
theorem d_makeMap {t : TypeId} {κ ν : Type} (ek : κ → Value) (evl : ν → Value) (k : ∀ w', Upd w [] w' [mapC ek evl w.heap.size []] → K (.map (some w.heap.size)) w') : Does P Γ w (.makeMap t none) ty K :=
  Does.of_run (w' := w.alloc (.map #[] 0)) (fun ρ hρ => by simp [ex, execOp, Go.RowKit.run_makeMap]) (k _ ⟨⟨fun c hc => by
    simp only [List.mem_singleton] at hc; subst hc; exact ⟨#[], 0, (heap_alloc w _).1, rfl⟩, by simp [ats, mapC]⟩,
    ⟨rfl, rfl, rfl, by show w.heap.size ≤ (w.heap.push _).size; simp, fun j hj _ => (heap_alloc w _).2 j hj⟩, fun g hg => .inr (by simp [ats, mapC] at hg; omega)⟩)
theorem d_makeMapR {t k e : TypeId} {x : Operand} {kd : IntKind} {i : Int} {κ ν : Type} (ek : κ → Value) (evl : ν → Value) (ht : P.underlying t = some (.map k e)) (hx : ev Γ x = some (.int kd i)) (kk : ∀ w', Upd w [] w' [mapC ek evl w.heap.size []] → K (.map (some w.heap.size)) w') : Does P Γ w (.makeMap t (some x)) ty K :=
  Does.of_run (w' := w.alloc (.map #[] 0)) (fun ρ hρ => by
    have h1 : (Instr.makeMap t (some (.int kd i))).run P w = .ok (.map (some w.heap.size)) (w.alloc (.map #[] 0)) := by
      unfold Instr.makeMap
      simp only [Sem.run_bind, run_underlying ht, Result.andThen_ok, asInt]
      rfl
    simp [ex, execOp, hρ x _ hx, h1]) (kk _ ⟨⟨fun c hc => by
    simp only [List.mem_singleton] at hc; subst hc; exact ⟨#[], 0, (heap_alloc w _).1, rfl⟩, by simp [ats, mapC]⟩,
    ⟨rfl, rfl, rfl, by show w.heap.size ≤ (w.heap.push _).size; simp, fun j hj _ => (heap_alloc w _).2 j hj⟩, fun g hg => .inr (by simp [ats, mapC] at hg; omega)⟩)
theorem getM_of {m : List (κ × ν)} {es : Array MapEntry} (a : κ) (h : es.toList.map (fun e => (e.key, e.val)) = m.map (fun p => (ek p.1, evl p.2))) :
    ((fndK a (m.map Prod.fst) 0).bind fun j => (es.toList[j]?).map fun e => (j, e.val)).map (fun x => x.2) = (getM m a).map evl := by
  have aux : ∀ (m : List (κ × ν)) (es : List MapEntry) (i : Nat), es.map (fun e => (e.key, e.val)) = m.map (fun p => (ek p.1, evl p.2)) →
      ((fndK a (m.map Prod.fst) i).bind fun j => (es[j - i]?).map fun e => (j, e.val)).map (fun x => x.2) = (getM m a).map evl := by
    intro m
    induction m with
    | nil => intro es i _; rfl
    | cons p r ih =>
      intro es i h
      match es, h with
      | e :: es, h =>
        simp only [List.map_cons, List.cons.injEq, Prod.mk.injEq] at h
        unfold getM
        simp only [List.map_cons]
        unfold fndK
        by_cases hx : a = p.1
        · simp [hx, h.1.2]
        · rw [if_neg hx, if_neg hx, ← ih es (i + 1) h.2]
          rcases fndK_spec a (r.map Prod.fst) (i + 1) with ⟨h1, _⟩ | ⟨j, h1, h2, _⟩
          · rw [h1]; rfl
          · rw [h1]
            simp only [Option.bind_some]
            have e1 : i + 1 + j - (i + 1) = j := by omega
            have e2 : i + 1 + j - i = j + 1 := by omega
            rw [e1, e2]; simp
  have := aux m es.toList 0 h
  simpa using this
theorem run_look {t k e : TypeId} {g : Nat} {m : List (κ × ν)} {a : κ} {s b : Nat} {d : ν} (ks : KeyS P k ek) (ht : P.underlying t = some (.map k e)) (hz : szOf P e = some (s, b, some (evl d)))
    (hm : MapAt w ek evl g m) (c : Bool) :
    (Instr.lookup t (.map (some g)) (ek a) c).run P w = .ok (if c then .tuple #[evl ((getM m a).getD d), .bool (getM m a).isSome] else evl ((getM m a).getD d)) w := by
  obtain ⟨es, clock, h1, h2⟩ := hm
  have h3 := getM_of a h2
  unfold Instr.lookup
  simp only [Sem.run_bind, run_underlying ht, Result.andThen, Go.MapKept.run_getObj_map h1, Sem.run_pure, ks.chk, ks.find a es.toList _ w (keys_of h2)]
  cases hf : (fndK a (m.map Prod.fst) 0).bind fun j => (es.toList[j]?).map fun e => (j, e.val) with
  | none =>
    rw [hf] at h3
    have hg : getM m a = none := by cases hgm : getM m a with
      | none => rfl
      | some v => rw [hgm] at h3; cases h3
    simp [hg, run_zero hz, Result.andThen]
  | some x =>
    rw [hf] at h3
    obtain ⟨v, hg, hv⟩ : ∃ v, getM m a = some v ∧ evl v = x.2 := by
      cases hgm : getM m a with
      | none => rw [hgm] at h3; cases h3
      | some v => rw [hgm] at h3; exact ⟨v, rfl, by simpa using h3.symm⟩
    obtain ⟨j, u⟩ := x
    simp only at hv
    simp [hg, hv, Result.andThen]
theorem d_look2 {t k e : TypeId} {x ix : Operand} {g : Nat} {m : List (κ × ν)} (a : κ) (d : ν) {s b : Nat} (ks : KeyS P k ek) (ht : P.underlying t = some (.map k e)) (hz : szOf P e = some (s, b, some (evl d))) (hx : ev Γ x = some (.map (some g))) (hi : ev Γ ix = some (ek a))
    (hm : MapAt w ek evl g m) (kk : K (.tuple #[evl ((getM m a).getD d), .bool (getM m a).isSome]) w) : Does P Γ w (.lookup t x ix true) ty K :=
  Does.of_run (fun ρ hρ => by have := run_look (a := a) ks ht hz hm true; simp [ex, execOp, hρ x _ hx, hρ ix _ hi, this]) kk
theorem d_look1 {t k e : TypeId} {x ix : Operand} {g : Nat} {m : List (κ × ν)} (a : κ) (d : ν) {s b : Nat} (ks : KeyS P k ek) (ht : P.underlying t = some (.map k e)) (hz : szOf P e = some (s, b, some (evl d))) (hx : ev Γ x = some (.map (some g))) (hi : ev Γ ix = some (ek a))
    (hm : MapAt w ek evl g m) (kk : K (evl ((getM m a).getD d)) w) : Does P Γ w (.lookup t x ix false) ty K :=
  Does.of_run (fun ρ hρ => by have := run_look (a := a) ks ht hz hm false; simp [ex, execOp, hρ x _ hx, hρ ix _ hi, this]) kk
theorem run_put {t k e : TypeId} {g : Nat} {m : List (κ × ν)} {a : κ} {v : ν} (ks : KeyS P k ek) (ht : P.underlying t = some (.map k e)) (hp : Hp w [mapC ek evl g m]) :
    ∃ w', (Instr.mapUpdate t (.map (some g)) (ek a) (evl v)).run P w = .ok () w' ∧ Upd w [mapC ek evl g m] w' [mapC ek evl g (putM m a v)] := by
  obtain ⟨es, clock, h1, h2⟩ := (hp.holds (mapC ek evl g m) (by simp) : (mapC ek evl g m).P w)
  have mk : ∀ es' clock', es'.toList.map (fun e => (e.key, e.val)) = (putM m a v).map (fun p => (ek p.1, evl p.2)) → Upd w [mapC ek evl g m] { w with heap := w.heap.setIfInBounds g (.map es' clock') } [mapC ek evl g (putM m a v)] := fun es' clock' h3 =>
    ⟨⟨fun c hc => by simp only [List.mem_singleton] at hc; subst hc; exact ⟨es', clock', (heap_set h1).1, h3⟩, by simp [ats, mapC]⟩,
      ⟨rfl, rfl, rfl, by simp, fun i hi hs => (heap_set h1).2 i (fun e => hs (by simp [ats, mapC, e]))⟩, fun g' hg => .inl (by simpa [ats, mapC] using hg)⟩
  unfold Instr.mapUpdate
  simp only [Sem.run_bind, run_underlying ht, Result.andThen, Go.MapKept.run_getObj_map h1, Sem.run_pure, ks.chk, ks.find a es.toList _ w (keys_of h2)]
  have hlen : es.toList.length = m.length := by have := congrArg List.length h2; simpa using this
  rcases fndK_spec a (m.map Prod.fst) 0 with ⟨hf, hn⟩ | ⟨j, hf, hj, hfirst⟩
  · rw [hf]
    refine ⟨_, by simp [Go.MapKept.run_setObj_map _ h1], mk (es.push { key := ek a, val := evl v, born := clock }) (clock + 1) ?_⟩
    have hg : getM m a = none := getM_none.2 fun p hp e => hn (List.mem_map.2 ⟨p, hp, e⟩)
    rw [putM_new hg]
    simp [h2]
  · rw [hf]
    have hjl : j < es.toList.length := by
      have := (List.getElem?_eq_some_iff.1 hj).1
      simp at this; omega
    have hjs : j < es.size := by simpa using hjl
    have hkey : es[j].key = ek a := by
      have h3 := congrArg (fun l => l[j]?) (keys_of h2)
      simp only [List.getElem?_map] at h3 hj
      rw [List.getElem?_eq_getElem hjl] at h3
      cases hmj : m[j]? with
      | none => rw [hmj] at hj; cases hj
      | some p =>
        rw [hmj] at h3 hj
        simp only [Option.map_some, Option.some.injEq] at h3 hj
        rw [← hj]; simpa using h3
    simp only [Nat.zero_add, Option.bind_some, List.getElem?_eq_getElem hjl, Option.map_some, Sem.run_bind, Result.andThen]
    have hst : (Instr.keyThatStays (((es[j]?).map (·.key)).getD (ek a)) (ek a)).run P w = .ok (ek a) w := by
      unfold Instr.keyThatStays
      rw [Array.getElem?_eq_getElem hjs]
      simp only [Option.map_some, Option.getD_some, hkey, ks.bits, if_true, Sem.run_pure]
    rw [hst]
    refine ⟨_, by simp [Go.MapKept.run_setObj_map _ h1], mk (es.modify j fun e => { key := ek a, val := evl v, born := e.born }) clock ?_⟩
    -- the entry at j is turned
    have hput : ∀ (m : List (κ × ν)) (j : Nat), (m.map Prod.fst)[j]? = some a → (∀ q, q < j → (m.map Prod.fst)[q]? ≠ some a) → putM m a v = m.set j (a, v) := by
      intro m
      induction m with
      | nil => intro j h; simp at h
      | cons p r ih =>
        intro j h hq
        unfold putM
        cases j with
        | zero => simp at h; rw [if_pos h.symm]; rfl
        | succ j =>
          have h0 := hq 0 (by omega)
          simp at h0
          rw [if_neg (fun e => h0 e.symm)]
          rw [ih j (by simpa using h) (fun q hq' => by simpa using hq (q + 1) (by omega))]
          rfl
    rw [hput m j hj hfirst, List.map_set, ← h2]
    apply List.ext_getElem?
    intro q
    simp only [List.getElem?_map, Array.getElem?_toList, Array.getElem?_modify, List.getElem?_set, List.length_map]
    by_cases hq : j = q
    · subst hq
      simp [hjs, hkey]
    · simp [hq]
theorem d_mapUpdate {t k e : TypeId} {x ix y : Operand} {g : Nat} {m : List (κ × ν)} (a : κ) (v : ν) (ks : KeyS P k ek) (ht : P.underlying t = some (.map k e)) (hx : ev Γ x = some (.map (some g))) (hi : ev Γ ix = some (ek a)) (hy : ev Γ y = some (evl v)) (hp : Hp w [mapC ek evl g m])
    (kk : ∀ w', Upd w [mapC ek evl g m] w' [mapC ek evl g (putM m a v)] → K undef w') : Does P Γ w (.mapUpdate t x ix y) ty K := by
  obtain ⟨w', h1, h2⟩ := run_put (a := a) (v := v) ks ht hp
  exact Does.of_skip (fun ρ hρ => by simp [ex, execOp, hρ x _ hx, hρ ix _ hi, hρ y _ hy, h1]) (kk w' h2)
theorem d_insert {t k e : TypeId} {x ix y : Operand} {g : Nat} {m : List (κ × ν)} (a : κ) (v : ν) (ks : KeyS P k ek) (ht : P.underlying t = some (.map k e)) (hx : ev Γ x = some (.map (some g))) (hi : ev Γ ix = some (ek a)) (hy : ev Γ y = some (evl v)) (hp : Hp w [mapC ek evl g m])
    (kk : ∀ w', Upd w [mapC ek evl g m] w' [mapC ek evl g (putM m a v)] → K undef w') : Does P Γ w (.insert t x ix y) ty K := by
  obtain ⟨w', h1, h2⟩ := run_put (a := a) (v := v) ks ht hp
  exact Does.of_skip (fun ρ hρ => by simp [ex, execOp, hρ x _ hx, hρ ix _ hi, hρ y _ hy, h1]) (kk w' h2)
end
end Go.Sx
