/- Slices of things that hold slices: lists of parts, owned as one chunk, or read. -/
import Derived.Test.YtoeockpkkmgieaaSx8
namespace Go.Sx
set_option linter.unusedVariables false
set_option linter.unusedSimpArgs false
/-- Many chunks, by a list. -/
def manyF {α : Type} (f : α → Chunk) (l : List α) : Chunk := many (l.map f)
theorem RdT.len {α : Type} {T : Ty α} {w : World} {a : Option Addr} {n c : Nat} {xs : List α} (h : RdT T w (.slice a n c) xs) : n = xs.length := by
  obtain ⟨A, cap, e, _⟩ := h
  cases e; rfl
theorem t_appendN {α : Type} {T : Ty α} {P : Program} {Γ : Env} {w : World} {ty : TypeId} {K : Value → World → Prop} {s x : Operand} {t e : TypeId} {sz b c cx n m : Nat} {z : Value} {a A : Option Addr} {xs ys : List α} (hT : T.sz = sz) (ht : P.underlying t = some (.slice e)) (hs : szOf P e = some (sz, b, some z)) (hzs : z.cells.size = sz)
    (hev : ev Γ s = some (.slice a n c)) (hx : ev Γ x = some (.slice A m cx)) (hn : n = xs.length) (ho : w.ownsRow 0 e T.sz (.slice a n c) xs.length (T.all xs)) (hr : RdT T w (.slice A m cx) ys) (hb : (xs.length + ys.length) * b ≤ 140737488355328) (h63 : xs.length + ys.length ≤ 9223372036854775807)
    (k : ∀ a' c' w', Upd w [rowT T (.slice a n c) e xs] w' [rowT T (.slice a' (xs ++ ys).length c') e (xs ++ ys)] → K (.slice a' (xs ++ ys).length c') w') : Does P Γ w (.call { callee := .builtin .append, args := #[s, x], argTypes := #[t, t] }) ty K := by
  subst hn
  have hm := hr.len
  subst hm
  exact t_append hT ht hs hzs hev hx ho hr hb h63 k
/-- What each of some things has inside. -/
structure Inn (σ α : Type) where
  T : Ty α
  e : TypeId
  A : σ → Option Addr
  C : σ → Nat
  X : σ → List α
  N : σ → Nat
section
variable {σ α : Type} {w w' : World} {L : List Chunk} {G : List (List Chunk)}
def Inn.row (I : Inn σ α) (p : σ) : Chunk := rowT I.T (.slice (I.A p) (I.N p) (I.C p)) I.e (I.X p)
def Inn.Rd (I : Inn σ α) (w : World) (ps : List σ) : Prop := ∀ p, p ∈ ps → RdT I.T w (.slice (I.A p) (I.N p) (I.C p)) (I.X p)
theorem Upd.manyNil {β : Type} (f : β → Chunk) (w : World) : Upd w [] w [manyF f []] :=
  ⟨⟨fun c hc => by simp only [List.mem_singleton] at hc; subst hc; exact Hp.nil w, by simp [ats, manyF, many]⟩, Keep.refl _ _, fun g hg => by simp [ats, manyF, many] at hg⟩
theorem hp_one {c : Chunk} (h : c.holds w) : Hp w [c] := ⟨fun c' hc => by simp only [List.mem_singleton] at hc; subst hc; exact h, by simpa [ats] using c.nd w h⟩
theorem manyF_add {β : Type} {f : β → Chunk} {l : List β} {p : β} {M : List Chunk} (h : Hp w (manyF f l :: f p :: M)) : Hp w (manyF f (l ++ [p]) :: M) := by
  have h1 := (hp_many (M := f p :: M)).1 h
  refine (hp_many (M := M)).2 ?_
  simpa using h1
theorem Upd.absorb {β : Type} {f : β → Chunk} {l : List β} {p : β} (h : Hp w [manyF f l, f p]) : Upd w [manyF f l, f p] w [manyF f (l ++ [p])] :=
  ⟨manyF_add h, Keep.refl _ _, fun g hg => .inl (by simpa [ats, manyF, many] using hg)⟩
theorem UpG.absorb {β : Type} {f : β → Chunk} {l : List β} (p : β) (h : UpG w L w' G) (i j : Nat) (hij : Nat.beq i j = false) (hi : G[i]? = some [manyF f l]) (hj : G[j]? = some [f p]) :
    UpG w L w' ((G.set i [manyF f (l ++ [p])]).set j [] ++ [[]]) :=
  h.on2 (A' := [manyF f (l ++ [p])]) (B' := []) (C := []) i j hij hi hj (Upd.absorb (h.hp2 i j hij hi hj))
theorem manyF_get {β : Type} {f : β → Chunk} {l : List β} {p : β} (h : Hp w [manyF f l]) (hp : p ∈ l) : (f p).holds w :=
  (h.holds (manyF f l) (by simp) : Hp w (l.map f)).holds _ (List.mem_map.2 ⟨p, hp, rfl⟩)
variable {I : Inn σ α} {ps qs : List σ}
theorem Inn.own (h : Hp w [manyF I.row ps]) : I.Rd w ps := fun p hp =>
  own_rd (row_own (v := .slice (I.A p) (I.N p) (I.C p)) (e := I.e) (sz := I.T.sz) (n := (I.X p).length) (vs := I.T.all (I.X p)) (manyF_get (f := I.row) h hp))
theorem Inn.Rd.kept (h : I.Rd w ps) (k : Keep [] w w') : I.Rd w' ps := fun p hp => (h p hp).kept k
theorem Inn.Rd.at (h : I.Rd w ps) (k : UpG w [] w' G) : I.Rd w' ps := fun p hp => (h p hp).at k
theorem Inn.Rd.get (h : I.Rd w ps) (d : σ) (k : Nat) (hk : k < ps.length) : RdT I.T w (.slice (I.A (ps.getD k d)) (I.N (ps.getD k d)) (I.C (ps.getD k d))) (I.X (ps.getD k d)) :=
  h _ (by simp [List.getD_eq_getElem?_getD, List.getElem?_eq_getElem hk])
theorem Inn.Rd.take (h : I.Rd w ps) (k : Nat) : I.Rd w (ps.take k) := fun p hp => h p (List.mem_of_mem_take hp)
theorem Inn.Rd.append (h : I.Rd w ps) (k : I.Rd w qs) : I.Rd w (ps ++ qs) := fun p hp => (List.mem_append.1 hp).elim (h p) (k p)
theorem Inn.Rd.of_mem {rs : List σ} (h : I.Rd w ps) (k : I.Rd w qs) (hm : ∀ r, r ∈ rs → r ∈ ps ∨ r ∈ qs) : I.Rd w rs := fun p hp => (hm p hp).elim (h p) (k p)
theorem Inn.Rd.nil (I : Inn σ α) (w : World) : I.Rd w [] := fun p hp => by simp at hp
theorem Inn.Rd.cons {p : σ} (h : RdT I.T w (.slice (I.A p) (I.N p) (I.C p)) (I.X p)) (k : I.Rd w ps) : I.Rd w (p :: ps) := fun q hq => by
  rcases List.mem_cons.1 hq with rfl | h1
  · exact h
  · exact k q h1
theorem getD_mem' {l : List σ} {d : σ} {k : Nat} (hk : k < l.length) : l.getD k d ∈ l := by simp [List.getD_eq_getElem?_getD, List.getElem?_eq_getElem hk]
theorem getD_map' {β : Type} (f : σ → β) (l : List σ) (d : σ) (k : Nat) : f (l.getD k d) = (l.map f).getD k (f d) := by
  simp only [List.getD_eq_getElem?_getD, List.getElem?_map]; cases l[k]? <;> rfl
end
end Go.Sx
