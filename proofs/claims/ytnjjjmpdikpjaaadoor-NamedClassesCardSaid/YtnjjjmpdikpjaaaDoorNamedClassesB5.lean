/- What reads as a datum is an element; a slice of such reads as a list; a row's end. -/
import Derived.Test.YtnjjjmpdikpjaaaDoorNamedClassesB1
import Derived.ProofKit
import Derived.OpenShut
import Derived.ShutString
import Derived.ChangeOld
import Derived.Below
import Derived.SizedLaws
import Derived.Deep.Slices
import Derived.Deep.CondSized
import Derived.Test.YtnjjjmpdikpjaaaDoorNamedClassesB4
import Derived.Test.YtnjjjmpdikpjaaaDoorRows
import Derived.LaidMore
import Derived.LaidLaws
import Derived.MakeChecks
import Derived.Stop.Joined
namespace Go.Sx
set_option linter.unusedVariables false
set_option linter.unusedSimpArgs false
open Go.ChangeShapes Go.WideShapes Go.ChangeAt Go.RowKit
section
variable {H : Type} {enc : TypeId × Value → H} {P : Program} {W : World} {α β : Type} {t e : TypeId}

/-- no part is of more bytes than a machine holds -/
def Wt (P : Program) (t : TypeId) (d : DataW H) : Prop := ∀ n ∈ d.weights P t, n ≤ reachBytes
theorem weights_mem_all {e : TypeId} {n : Nat} : ∀ {ds : List (DataW H)} {d : DataW H}, d ∈ ds → n ∈ d.weights P e → n ∈ DataW.weightsAll P e ds
  | d0 :: ds, d, hd, hn => by
    simp only [DataW.weightsAll, List.mem_append]
    rcases List.mem_cons.1 hd with rfl | h
    · exact .inl hn
    · exact .inr (weights_mem_all h hn)
/-- what reads as a datum is an element -/
def El (enc : TypeId × Value → H) (P : Program) (W : World) (t : TypeId) (T : Ty α) (inv : α → DataW H → Prop) : Prop :=
  ∀ fuel cs x, DataW.trod enc P W 0 (fun _ => true) true fuel t cs = some x → Wt P t x.1 → ∃ a, cs = T.enc a ∧ inv a x.1

theorem El.int {k : IntKind} (ht : P.underlying t = some (.int k)) : El enc P W t (tyI k) (fun n _ => (Lit.int k n).wf = true) := fun fuel cs x h _ => by
  obtain ⟨n, rfl, _, hw⟩ := DataW.trod_int ht h
  exact ⟨n, rfl, hw⟩
theorem El.bool (ht : P.underlying t = some .bool) : El enc P W t tyB (fun _ _ => True) := fun fuel cs x h _ => by
  obtain ⟨n, rfl, _⟩ := DataW.trod_bool ht h
  exact ⟨n, rfl, trivial⟩
/-- a list, and its datum -/
def DSl (inv : α → DataW H → Prop) (xs : List α) (d : DataW H) : Prop :=
  (xs = [] ∧ d = .nil) ∨ ∃ (ds sp : List (DataW H)), d = .slice ds sp ∧ ds.length = xs.length ∧ ∀ (i : Nat) (a : α) (y : DataW H), xs[i]? = some a → ds[i]? = some y → inv a y
theorem DSl.get {inv : α → DataW H → Prop} {xs : List α} {d : DataW H} (h : DSl inv xs d) (i : Nat) (z : α) (hi : i < xs.length) : ∃ y, inv (xs.getD i z) y := by
  rcases h with ⟨rfl, _⟩ | ⟨ds, sp, _, hl, hd⟩
  · simp at hi
  · have h1 : i < ds.length := by omega
    exact ⟨ds[i], hd i _ _ (by simp [List.getD_eq_getElem?_getD, List.getElem?_eq_getElem hi]) (List.getElem?_eq_getElem h1)⟩

theorem choose_list {T : Ty α} {inv : α → DataW H → Prop} {n : Nat} {C : Nat → List Value} {D : Nat → DataW H} (h : ∀ i, i < n → ∃ a, C i = T.enc a ∧ inv a (D i)) :
    ∃ xs : List α, xs.length = n ∧ ∀ i a, xs[i]? = some a → C i = T.enc a ∧ inv a (D i) := by
  induction n with
  | zero => exact ⟨[], rfl, fun i a h => by simp at h⟩
  | succ n ih =>
    obtain ⟨xs, hl, hx⟩ := ih fun i hi => h i (by omega)
    obtain ⟨a, ha⟩ := h n (by omega)
    refine ⟨xs ++ [a], by simp [hl], fun i b hb => ?_⟩
    by_cases hi : i < xs.length
    · rw [List.getElem?_append_left hi] at hb; exact hx i b hb
    · have hi2 : i = n := by
        have := (List.getElem?_eq_some_iff.1 hb).1; simp [hl] at this; omega
      subst hi2
      rw [List.getElem?_append_right (by omega)] at hb
      simp [hl] at hb; subst hb; exact ha

theorem rd_of_cells {T : Ty α} {A : Addr} {n cap : Nat} {xs : List α} (hl : xs.length = n) (hn : n ≤ 9223372036854775807)
    (h : ∀ i a, xs[i]? = some a → W.cells? 0 (A.add (i * T.sz)) T.sz = some (T.enc a)) : RdT T W (.slice (some A) n cap) xs := by
  subst hl
  refine ⟨some A, cap, rfl, T.all_length xs, hn, fun j u hj => ⟨A, rfl, ?_⟩⟩
  have hlt : j < xs.length * T.sz := by rw [← T.all_length]; exact (List.getElem?_eq_some_iff.1 hj).1
  have hp := T.pos
  have hi : j / T.sz < xs.length := (Nat.div_lt_iff_lt_mul hp).2 hlt
  have hr : j % T.sz < T.sz := Nat.mod_lt _ hp
  have e1 : j / T.sz * T.sz + j % T.sz = j := by rw [Nat.mul_comm]; exact Nat.div_add_mod j T.sz
  have h1 := h (j / T.sz) xs[j / T.sz] (List.getElem?_eq_getElem hi)
  obtain ⟨_, _, hc⟩ := World.cells?_some h1
  have h2 := hc (j % T.sz) hr
  have h3 := T.all_at xs[j / T.sz] xs (j / T.sz) (j % T.sz) hi hr
  rw [e1, hj] at h3
  have h4 : xs.getD (j / T.sz) xs[j / T.sz] = xs[j / T.sz] := by simp [List.getD_eq_getElem?_getD, List.getElem?_eq_getElem hi]
  rw [h4] at h3
  rw [← e1, ← Addr.add_add, h2, h3]

theorem El.slice {T : Ty α} {inv : α → DataW H → Prop} {b : Nat} (ht : P.underlying t = some (.slice e)) (hc : P.cellsOf e = T.sz) (hby : P.bytesOf e = b) (he : El enc P W e T inv) :
    El enc P W t tyL (fun s d => ∃ xs, RdT T W (.slice s.a s.n s.c) xs ∧ (DSl inv xs d ∧ xs.length * b ≤ reachBytes ∧ xs.length ≤ s.c) ∧ s.n = xs.length) := fun fuel cs x h hw => by
  rcases Deep.open_slice ht h with ⟨rfl, rfl⟩ | ⟨a, len, cap, m, n, D, Pl, rfl, hb, hl, hm, hmm, rfl, hx⟩
  · exact ⟨⟨none, 0, 0⟩, rfl, [], RdT.nil W none 0, ⟨.inl ⟨rfl, rfl⟩, by simp, by simp⟩, rfl⟩
  · simp only [if_true] at hmm
    subst hmm
    have hch : ∀ i, i < len → ∃ cs', W.cells? 0 (a.add (i * P.cellsOf e)) (P.cellsOf e) = some cs' ∧ ∃ b, cs' = T.enc b ∧ inv b (D i) := fun i hi => by
      obtain ⟨cs', h1, h2⟩ := hx i (by omega)
      refine ⟨cs', h1, he _ _ _ h2 fun k hk => hw k ?_⟩
      simp only [DataW.weights, ht]
      refine List.mem_cons_of_mem _ (List.mem_append_left _ (weights_mem_all (List.mem_map.2 ⟨i, List.mem_range.2 hi, rfl⟩) hk))
    obtain ⟨xs, hxl, hxs⟩ := choose_list (T := T) (inv := fun b d => inv b d) (n := len) (C := fun i => (W.cells? 0 (a.add (i * P.cellsOf e)) (P.cellsOf e)).getD []) (D := D) (fun i hi => by
      obtain ⟨cs', h1, b, h2, h3⟩ := hch i hi
      exact ⟨b, by simp [h1, h2], h3⟩)
    refine ⟨⟨some a, len, _⟩, rfl, xs, rd_of_cells hxl (Nat.le_trans hl (Nat.le_trans hm (by decide))) (fun i b hb => ?_),  ⟨.inr ⟨_, _, rfl, by simp [hxl], fun i b y hb hy => ?_⟩, ?_, by rw [hxl]; exact hl⟩, hxl.symm⟩
    · have hi : i < len := by rw [← hxl]; exact (List.getElem?_eq_some_iff.1 hb).1
      obtain ⟨cs', h1, b', h2, h3⟩ := hch i hi
      have := (hxs i b hb).1
      rw [h1] at this
      simp only [Option.getD_some] at this
      rw [← hc, h1, this]
    · have hi : i < len := by rw [← hxl]; exact (List.getElem?_eq_some_iff.1 hb).1
      have := (hxs i b hb).2
      simp [hi] at hy; subst hy; exact this
    · have := hw ((((List.range len).map D).length + ((List.range (m - len)).map fun j => D (len + j)).length) * P.bytesOf e) (by simp [DataW.weights, ht])
      rw [hby] at this; simp only [List.length_map, List.length_range] at this
      rw [hxl]; exact Nat.le_trans (Nat.mul_le_mul_right b (by omega)) this

theorem below_of {w w' : World} (h : Upd w [] w' []) : RowKit.Below w.heap.size w w' := (Upd.keep h).below
end
end Go.Sx


/- The laid table as it is read, and sets that come in. Conditions: those of each theorem. -/
namespace Go.Proofs.YtnjjjmpdikpjaaaDoor
open Go Go.Sx Go.ChangeShapes Go.WideShapes Go.ChangeAt Go.RowKit
set_option linter.unusedVariables false
def laid0 : List (String × DataW Unit) := [("math/bits.deBruijn64tab", Rows.laid_math_bits_deBruijn64tab)]
theorem own : ownKnob Tryd.prog.godebug = none := by kernel_rfl
theorem gTab : Tryd.prog.globalNamed "math/bits.deBruijn64tab" = some 0 := by kernel_rfl
theorem tTab : (Tryd.prog.globals[0]?).map (·.type) = some 65 := by kernel_rfl
theorem door_met (os : Os) (args : Array Value) : laidMetH Tryd.prog laid0 ((World.doorLaid Tryd.prog 400 os).forCall (fun _ _ => 0) ⟨#[], args, []⟩).memory :=
  laidMetH_of_parts3 (fuel := 8) (laidMet_of_run' 8 (by kernel_rfl) (by kernel_rfl)) (by kernel_rfl) (by kernel_rfl)
theorem deB_data : (Rows.laid_math_bits_deBruijn64tab : DataW Unit) = .agg (deB.map fun n => .lit (.int .u8 ((n : Nat) : Int))) := rfl
/-- The table, as it is read. -/
theorem rT_of_laid {W : World} (h : laidMetH Tryd.prog laid0 W) : RdT tyN8 W (.slice (some ⟨0, 0, none⟩) deB.length 64) deB := by
  rw [MakeChecks.laidMetH_plain _ _ _ (by kernel_rfl)] at h
  obtain ⟨ps, ⟨g0, t0, cs0, f0, p0, q0, hg0, ht0, hv0, hd0, _, _⟩, _, _⟩ := h
  obtain rfl := Option.some.inj (gTab.symm.trans hg0)
  obtain rfl := Option.some.inj (tTab.symm.trans ht0)
  obtain ⟨xs, m1, rfl, hx1, hlen, hn, hel⟩ := DataW.trod_array Tryd.underlying65 hd0
  have c5 : Tryd.prog.cellsOf 5 = 1 := by kernel_rfl
  have hx2 := congrArg Prod.fst hx1
  rw [deB_data] at hx2
  simp only [DataW.agg.injEq] at hx2
  have hall : tyN8.all deB = deB.map fun n => Value.int .u8 ((n : Nat) : Int) := rfl
  refine ⟨some ⟨0, 0, none⟩, 64, rfl, rfl, by decide, fun j u hj => ⟨⟨0, 0, none⟩, rfl, ?_⟩⟩
  rw [hall, List.getElem?_map] at hj
  obtain ⟨n, hn1, rfl⟩ := Option.map_eq_some_iff.1 hj
  have hj64 : j < 64 := by have := (List.getElem?_eq_some_iff.1 hn1).1; rwa [deB_len] at this
  have h1 := hel j hj64
  rw [c5, Nat.mul_one] at h1
  have hxl : j < xs.length := by omega
  rw [List.getElem?_eq_getElem hxl] at h1
  obtain ⟨k, e1, e2, _⟩ := DataW.trod_int Tryd.underlying5 h1
  have e3 : (xs.map (·.1))[j]? = some (.lit (.int .u8 k)) := by rw [List.getElem?_map, List.getElem?_eq_getElem hxl, e2]; rfl
  rw [← hx2, List.getElem?_map, hn1] at e3
  have e4 : ((n : Nat) : Int) = k := by simpa using e3
  rw [add_off, Nat.zero_add, World.var?_cell gTab hv0 j, e4]
  have e5 : (cs0.toList.drop j).take 1 = [Value.int .u8 k] := e1
  have e6 : ((cs0.toList.drop j).take 1)[0]? = some (Value.int .u8 k) := by rw [e5]; rfl
  rw [List.getElem?_take] at e6
  simpa using e6
end Go.Proofs.YtnjjjmpdikpjaaaDoor

