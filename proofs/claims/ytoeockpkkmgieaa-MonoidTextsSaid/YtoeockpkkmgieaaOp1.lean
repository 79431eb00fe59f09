/- What reads as a datum is an element; a slice of such reads as a list; a row's end. -/
import Derived.Test.YtoeockpkkmgieaaSx7
import Derived.ProofKit
import Derived.OpenShut
import Derived.ShutString
import Derived.ChangeOld
import Derived.Below
import Derived.SizedLaws
import Derived.Deep.Slices
import Derived.Deep.CondSized
namespace Go.Sx
set_option linter.unusedVariables false
set_option linter.unusedSimpArgs false
open Go.ChangeShapes Go.WideShapes Go.ChangeAt Go.RowKit
section
variable {H : Type} {enc : TypeId × Value → H} {P : Program} {W : World} {α β : Type} {t e : TypeId}

/-- no part is of more bytes than a machine holds -/
def Wt (P : Program) (t : TypeId) (d : DataW H) : Prop := ∀ n ∈ d.weights P t, n ≤ reachBytes
theorem wt_arg {ts : List TypeId} {ds : List (DataW H)} (h : (DataW.weightsEach P ts ds).all (· ≤ reachBytes) = true) {j : Nat} {t : TypeId} {d : DataW H} (ht : ts[j]? = some t) (hd : ds[j]? = some d) : Wt P t d :=
  fun n hn => by simpa using List.all_eq_true.1 h n (DataW.weights_mem_each ht hd n hn)
theorem weights_mem_all {e : TypeId} {n : Nat} : ∀ {ds : List (DataW H)} {d : DataW H}, d ∈ ds → n ∈ d.weights P e → n ∈ DataW.weightsAll P e ds
  | d0 :: ds, d, hd, hn => by
    simp only [DataW.weightsAll, List.mem_append]
    rcases List.mem_cons.1 hd with rfl | h
    · exact .inl hn
    · exact .inr (weights_mem_all h hn)
/-- what reads as a datum is an element -/
def El (enc : TypeId × Value → H) (P : Program) (W : World) (t : TypeId) (T : Ty α) (inv : α → DataW H → Prop) : Prop :=
  ∀ fuel cs x, DataW.trod enc P W 0 (fun _ => true) true fuel t cs = some x → Wt P t x.1 → ∃ a, cs = T.enc a ∧ inv a x.1

theorem El.int {k : IntKind} (ht : P.underlying t = some (.int k)) : El enc P W t (tyI k) (fun n _ => (Lit.int k n).wf = true) := fun fuel cs x h _ => by
  obtain ⟨n, rfl, _, hw⟩ := DataW.trod_int ht h
  exact ⟨n, rfl, hw⟩
theorem El.bool (ht : P.underlying t = some .bool) : El enc P W t tyB (fun _ _ => True) := fun fuel cs x h _ => by
  obtain ⟨n, rfl, _⟩ := DataW.trod_bool ht h
  exact ⟨n, rfl, trivial⟩
theorem El.str (ht : P.underlying t = some .string) : El enc P W t tyS (fun s d => d = .lit (.string s.data.toList) ∧ s.size ≤ reachBytes) := fun fuel cs x h hw => by
  obtain ⟨n, rfl, rfl, _⟩ := DataW.trod_string ht h
  refine ⟨n, rfl, rfl, ?_⟩
  have := hw n.data.toList.length (by simp [DataW.weights])
  rw [Array.length_toList] at this; exact this
/-- a list, and its datum -/
def DSl (inv : α → DataW H → Prop) (xs : List α) (d : DataW H) : Prop :=
  (xs = [] ∧ d = .nil) ∨ ∃ (ds sp : List (DataW H)), d = .slice ds sp ∧ ds.length = xs.length ∧ ∀ (i : Nat) (a : α) (y : DataW H), xs[i]? = some a → ds[i]? = some y → inv a y
theorem DSl.get {inv : α → DataW H → Prop} {xs : List α} {d : DataW H} (h : DSl inv xs d) (i : Nat) (z : α) (hi : i < xs.length) : ∃ y, inv (xs.getD i z) y := by
  rcases h with ⟨rfl, _⟩ | ⟨ds, sp, _, hl, hd⟩
  · simp at hi
  · have h1 : i < ds.length := by omega
    exact ⟨ds[i], hd i _ _ (by simp [List.getD_eq_getElem?_getD, List.getElem?_eq_getElem hi]) (List.getElem?_eq_getElem h1)⟩

theorem DSl.mem {inv : α → DataW H → Prop} {xs : List α} {d : DataW H} (h : DSl inv xs d) {p : α} (hp : p ∈ xs) : ∃ y, inv p y := by
  obtain ⟨i, hi, rfl⟩ := List.mem_iff_getElem.1 hp
  obtain ⟨y, hy⟩ := h.get i xs[i] hi
  exact ⟨y, by simpa [List.getD_eq_getElem?_getD, List.getElem?_eq_getElem hi] using hy⟩
theorem choose_list {T : Ty α} {inv : α → DataW H → Prop} {n : Nat} {C : Nat → List Value} {D : Nat → DataW H} (h : ∀ i, i < n → ∃ a, C i = T.enc a ∧ inv a (D i)) :
    ∃ xs : List α, xs.length = n ∧ ∀ i a, xs[i]? = some a → C i = T.enc a ∧ inv a (D i) := by
  induction n with
  | zero => exact ⟨[], rfl, fun i a h => by simp at h⟩
  | succ n ih =>
    obtain ⟨xs, hl, hx⟩ := ih fun i hi => h i (by omega)
    obtain ⟨a, ha⟩ := h n (by omega)
    refine ⟨xs ++ [a], by simp [hl], fun i b hb => ?_⟩
    by_cases hi : i < xs.length
    · rw [List.getElem?_append_left hi] at hb; exact hx i b hb
    · have hi2 : i = n := by
        have := (List.getElem?_eq_some_iff.1 hb).1; simp [hl] at this; omega
      subst hi2
      rw [List.getElem?_append_right (by omega)] at hb
      simp [hl] at hb; subst hb; exact ha

theorem rd_of_cells {T : Ty α} {A : Addr} {n cap : Nat} {xs : List α} (hl : xs.length = n) (hn : n ≤ 9223372036854775807)
    (h : ∀ i a, xs[i]? = some a → W.cells? 0 (A.add (i * T.sz)) T.sz = some (T.enc a)) : RdT T W (.slice (some A) n cap) xs := by
  subst hl
  refine ⟨some A, cap, rfl, T.all_length xs, hn, fun j u hj => ⟨A, rfl, ?_⟩⟩
  have hlt : j < xs.length * T.sz := by rw [← T.all_length]; exact (List.getElem?_eq_some_iff.1 hj).1
  have hp := T.pos
  have hi : j / T.sz < xs.length := (Nat.div_lt_iff_lt_mul hp).2 hlt
  have hr : j % T.sz < T.sz := Nat.mod_lt _ hp
  have e1 : j / T.sz * T.sz + j % T.sz = j := by rw [Nat.mul_comm]; exact Nat.div_add_mod j T.sz
  have h1 := h (j / T.sz) xs[j / T.sz] (List.getElem?_eq_getElem hi)
  obtain ⟨_, _, hc⟩ := World.cells?_some h1
  have h2 := hc (j % T.sz) hr
  have h3 := T.all_at xs[j / T.sz] xs (j / T.sz) (j % T.sz) hi hr
  rw [e1, hj] at h3
  have h4 : xs.getD (j / T.sz) xs[j / T.sz] = xs[j / T.sz] := by simp [List.getD_eq_getElem?_getD, List.getElem?_eq_getElem hi]
  rw [h4] at h3
  rw [← e1, ← Addr.add_add, h2, h3]

theorem El.slice {T : Ty α} {inv : α → DataW H → Prop} {b : Nat} (ht : P.underlying t = some (.slice e)) (hc : P.cellsOf e = T.sz) (hby : P.bytesOf e = b) (he : El enc P W e T inv) :
    El enc P W t tyL (fun s d => ∃ xs, RdT T W (.slice s.a s.n s.c) xs ∧ (DSl inv xs d ∧ xs.length * b ≤ reachBytes ∧ xs.length ≤ s.c) ∧ s.n = xs.length) := fun fuel cs x h hw => by
  rcases Deep.open_slice ht h with ⟨rfl, rfl⟩ | ⟨a, len, cap, m, n, D, Pl, rfl, hb, hl, hm, hmm, rfl, hx⟩
  · exact ⟨⟨none, 0, 0⟩, rfl, [], RdT.nil W none 0, ⟨.inl ⟨rfl, rfl⟩, by simp, by simp⟩, rfl⟩
  · simp only [if_true] at hmm
    subst hmm
    have hch : ∀ i, i < len → ∃ cs', W.cells? 0 (a.add (i * P.cellsOf e)) (P.cellsOf e) = some cs' ∧ ∃ b, cs' = T.enc b ∧ inv b (D i) := fun i hi => by
      obtain ⟨cs', h1, h2⟩ := hx i (by omega)
      refine ⟨cs', h1, he _ _ _ h2 fun k hk => hw k ?_⟩
      simp only [DataW.weights, ht]
      refine List.mem_cons_of_mem _ (List.mem_append_left _ (weights_mem_all (List.mem_map.2 ⟨i, List.mem_range.2 hi, rfl⟩) hk))
    obtain ⟨xs, hxl, hxs⟩ := choose_list (T := T) (inv := fun b d => inv b d) (n := len) (C := fun i => (W.cells? 0 (a.add (i * P.cellsOf e)) (P.cellsOf e)).getD []) (D := D) (fun i hi => by
      obtain ⟨cs', h1, b, h2, h3⟩ := hch i hi
      exact ⟨b, by simp [h1, h2], h3⟩)
    refine ⟨⟨some a, len, _⟩, rfl, xs, rd_of_cells hxl (Nat.le_trans hl (Nat.le_trans hm (by decide))) (fun i b hb => ?_),  ⟨.inr ⟨_, _, rfl, by simp [hxl], fun i b y hb hy => ?_⟩, ?_, by rw [hxl]; exact hl⟩, hxl.symm⟩
    · have hi : i < len := by rw [← hxl]; exact (List.getElem?_eq_some_iff.1 hb).1
      obtain ⟨cs', h1, b', h2, h3⟩ := hch i hi
      have := (hxs i b hb).1
      rw [h1] at this
      simp only [Option.getD_some] at this
      rw [← hc, h1, this]
    · have hi : i < len := by rw [← hxl]; exact (List.getElem?_eq_some_iff.1 hb).1
      have := (hxs i b hb).2
      simp [hi] at hy; subst hy; exact this
    · have := hw ((((List.range len).map D).length + ((List.range (m - len)).map fun j => D (len + j)).length) * P.bytesOf e) (by simp [DataW.weights, ht])
      rw [hby] at this; simp only [List.length_map, List.length_range] at this
      rw [hxl]; exact Nat.le_trans (Nat.mul_le_mul_right b (by omega)) this

/-- a struct's field -/
theorem El.field {T : Ty α} {inv : α → DataW H → Prop} {n : Nat} {f : Field} {cs : List Value} {xs : List (DataW H × List MemPlace)} {i o c : Nat}
    (hf : DataW.trod enc P W 0 (fun _ => true) true n f.type ((cs.drop f.offset).take (P.cellsOf f.type)) = xs[i]?) (hi : i < xs.length) {t : TypeId} {fs : Array Field} (ht : P.underlying t = some (.struct fs)) (hfi : fs[i]? = some f) (hw : Wt P t (.agg (xs.map (·.1)))) (ho : f.offset = o) (hc : P.cellsOf f.type = c) (he : El enc P W f.type T inv) :
    ∃ a, (cs.drop o).take c = T.enc a ∧ ∃ y, (xs.map (·.1))[i]? = some y ∧ inv a y := by
  rw [List.getElem?_eq_getElem hi] at hf
  obtain ⟨a, h1, h2⟩ := he _ _ _ hf fun k hk => hw k (by
    simp only [DataW.weights, ht]
    exact DataW.weights_mem_each (j := i) (by simp [hfi]) (by simp [hi]) k hk)
  subst ho; subst hc
  exact ⟨a, h1, _, by simp [hi], h2⟩
theorem part_cons {cs l r : List Value} {o c : Nat} (h : (cs.drop o).take c = l) (h2 : cs.drop (o + c) = r) : cs.drop o = l ++ r := by
  rw [← h, ← h2, ← List.drop_drop, List.take_append_drop]
theorem part_end {cs : List Value} {n : Nat} (h : cs.length = n) : cs.drop n = [] := by rw [← h]; simp

theorem trod_slice_arg {T : Ty α} {inv : α → DataW H → Prop} {b : Nat} (he : El enc P W t tyL (fun s d => ∃ xs, RdT T W (.slice s.a s.n s.c) xs ∧ (DSl inv xs d ∧ xs.length * b ≤ reachBytes ∧ xs.length ≤ s.c) ∧ s.n = xs.length)) {a : Option Addr} {n c : Nat} {d : DataW H} {ps : List MemPlace}
    (h : DataW.Trod enc P W 0 (fun _ => true) true t (.slice a n c) d ps) (hw : Wt P t d) : ∃ xs, n = xs.length ∧ RdT T W (.slice a n c) xs ∧ DSl inv xs d ∧ xs.length * b ≤ reachBytes ∧ xs.length ≤ c := by
  obtain ⟨fuel, hf⟩ := h
  obtain ⟨s, h1, xs, h2, h3, h4⟩ := he _ _ _ hf hw
  have h5 : s.a = a ∧ s.n = n ∧ s.c = c := by
    simp only [Value.cells, tyL, List.toList_toArray] at h1
    simp at h1
    exact ⟨h1.1.symm, h1.2.1.symm, h1.2.2.symm⟩
  obtain ⟨rfl, rfl, rfl⟩ := h5
  exact ⟨xs, h4, h2, h3⟩
theorem below_of {w w' : World} (h : Upd w [] w' []) : RowKit.Below w.heap.size w w' := (Upd.keep h).below
end
end Go.Sx
