/- What reads as a datum is an element; a slice of such reads as a list; a row's end. -/
import Derived.Test.YtnjjjmpdikpjaabDoorConsoleScriptsB1
import Derived.ProofKit
import Derived.OpenShut
import Derived.ShutString
import Derived.ChangeOld
import Derived.Below
import Derived.SizedLaws
import Derived.Deep.Slices
import Derived.Deep.CondSized
import Derived.Test.YtnjjjmpdikpjaabDoorConsoleScriptsB3
import Derived.Test.YtnjjjmpdikpjaabDoorRows
import Derived.Lay
import Derived.Lib.LaidTab
import Derived.Shelf.Vars
import Derived.Stop.LaidErr
import Derived.LaidMore
import Derived.LaidLaws
import Derived.MakeChecks
import Derived.Stop.Joined
import Derived.HandedShaped
import Derived.Test.YtnjjjmpdikpjaabDoorConsoleScriptsB2
namespace Go.Sx
set_option linter.unusedVariables false
set_option linter.unusedSimpArgs false
open Go.ChangeShapes Go.WideShapes Go.ChangeAt Go.RowKit
section
variable {H : Type} {enc : TypeId × Value → H} {P : Program} {W : World} {α β : Type} {t e : TypeId}

/-- no part is of more bytes than a machine holds -/
def Wt (P : Program) (t : TypeId) (d : DataW H) : Prop := ∀ n ∈ d.weights P t, n ≤ reachBytes
theorem wt_arg {ts : List TypeId} {ds : List (DataW H)} (h : (DataW.weightsEach P ts ds).all (· ≤ reachBytes) = true) {j : Nat} {t : TypeId} {d : DataW H} (ht : ts[j]? = some t) (hd : ds[j]? = some d) : Wt P t d :=
  fun n hn => by simpa using List.all_eq_true.1 h n (DataW.weights_mem_each ht hd n hn)
theorem weights_mem_all {e : TypeId} {n : Nat} : ∀ {ds : List (DataW H)} {d : DataW H}, d ∈ ds → n ∈ d.weights P e → n ∈ DataW.weightsAll P e ds
  | d0 :: ds, d, hd, hn => by
    simp only [DataW.weightsAll, List.mem_append]
    rcases List.mem_cons.1 hd with rfl | h
    · exact .inl hn
    · exact .inr (weights_mem_all h hn)
/-- what reads as a datum is an element -/
def El (enc : TypeId × Value → H) (P : Program) (W : World) (t : TypeId) (T : Ty α) (inv : α → DataW H → Prop) : Prop :=
  ∀ fuel cs x, DataW.trod enc P W 0 (fun _ => true) true fuel t cs = some x → Wt P t x.1 → ∃ a, cs = T.enc a ∧ inv a x.1

theorem El.int {k : IntKind} (ht : P.underlying t = some (.int k)) : El enc P W t (tyI k) (fun n _ => (Lit.int k n).wf = true) := fun fuel cs x h _ => by
  obtain ⟨n, rfl, _, hw⟩ := DataW.trod_int ht h
  exact ⟨n, rfl, hw⟩
theorem El.bool (ht : P.underlying t = some .bool) : El enc P W t tyB (fun _ _ => True) := fun fuel cs x h _ => by
  obtain ⟨n, rfl, _⟩ := DataW.trod_bool ht h
  exact ⟨n, rfl, trivial⟩
theorem El.str (ht : P.underlying t = some .string) : El enc P W t tyS (fun s d => d = .lit (.string s.data.toList) ∧ s.size ≤ reachBytes) := fun fuel cs x h hw => by
  obtain ⟨n, rfl, rfl, _⟩ := DataW.trod_string ht h
  refine ⟨n, rfl, rfl, ?_⟩
  have := hw n.data.toList.length (by simp [DataW.weights])
  rw [Array.length_toList] at this; exact this
/-- a list, and its datum -/
def DSl (inv : α → DataW H → Prop) (xs : List α) (d : DataW H) : Prop :=
  (xs = [] ∧ d = .nil) ∨ ∃ (ds sp : List (DataW H)), d = .slice ds sp ∧ ds.length = xs.length ∧ ∀ (i : Nat) (a : α) (y : DataW H), xs[i]? = some a → ds[i]? = some y → inv a y
theorem DSl.get {inv : α → DataW H → Prop} {xs : List α} {d : DataW H} (h : DSl inv xs d) (i : Nat) (z : α) (hi : i < xs.length) : ∃ y, inv (xs.getD i z) y := by
  rcases h with ⟨rfl, _⟩ | ⟨ds, sp, _, hl, hd⟩
  · simp at hi
  · have h1 : i < ds.length := by omega
    exact ⟨ds[i], hd i _ _ (by simp [List.getD_eq_getElem?_getD, List.getElem?_eq_getElem hi]) (List.getElem?_eq_getElem h1)⟩

theorem DSl.mem {inv : α → DataW H → Prop} {xs : List α} {d : DataW H} (h : DSl inv xs d) {p : α} (hp : p ∈ xs) : ∃ y, inv p y := by
  obtain ⟨i, hi, rfl⟩ := List.mem_iff_getElem.1 hp
  obtain ⟨y, hy⟩ := h.get i xs[i] hi
  exact ⟨y, by simpa [List.getD_eq_getElem?_getD, List.getElem?_eq_getElem hi] using hy⟩
theorem choose_list {T : Ty α} {inv : α → DataW H → Prop} {n : Nat} {C : Nat → List Value} {D : Nat → DataW H} (h : ∀ i, i < n → ∃ a, C i = T.enc a ∧ inv a (D i)) :
    ∃ xs : List α, xs.length = n ∧ ∀ i a, xs[i]? = some a → C i = T.enc a ∧ inv a (D i) := by
  induction n with
  | zero => exact ⟨[], rfl, fun i a h => by simp at h⟩
  | succ n ih =>
    obtain ⟨xs, hl, hx⟩ := ih fun i hi => h i (by omega)
    obtain ⟨a, ha⟩ := h n (by omega)
    refine ⟨xs ++ [a], by simp [hl], fun i b hb => ?_⟩
    by_cases hi : i < xs.length
    · rw [List.getElem?_append_left hi] at hb; exact hx i b hb
    · have hi2 : i = n := by
        have := (List.getElem?_eq_some_iff.1 hb).1; simp [hl] at this; omega
      subst hi2
      rw [List.getElem?_append_right (by omega)] at hb
      simp [hl] at hb; subst hb; exact ha

theorem rd_of_cells {T : Ty α} {A : Addr} {n cap : Nat} {xs : List α} (hl : xs.length = n) (hn : n ≤ 9223372036854775807)
    (h : ∀ i a, xs[i]? = some a → W.cells? 0 (A.add (i * T.sz)) T.sz = some (T.enc a)) : RdT T W (.slice (some A) n cap) xs := by
  subst hl
  refine ⟨some A, cap, rfl, T.all_length xs, hn, fun j u hj => ⟨A, rfl, ?_⟩⟩
  have hlt : j < xs.length * T.sz := by rw [← T.all_length]; exact (List.getElem?_eq_some_iff.1 hj).1
  have hp := T.pos
  have hi : j / T.sz < xs.length := (Nat.div_lt_iff_lt_mul hp).2 hlt
  have hr : j % T.sz < T.sz := Nat.mod_lt _ hp
  have e1 : j / T.sz * T.sz + j % T.sz = j := by rw [Nat.mul_comm]; exact Nat.div_add_mod j T.sz
  have h1 := h (j / T.sz) xs[j / T.sz] (List.getElem?_eq_getElem hi)
  obtain ⟨_, _, hc⟩ := World.cells?_some h1
  have h2 := hc (j % T.sz) hr
  have h3 := T.all_at xs[j / T.sz] xs (j / T.sz) (j % T.sz) hi hr
  rw [e1, hj] at h3
  have h4 : xs.getD (j / T.sz) xs[j / T.sz] = xs[j / T.sz] := by simp [List.getD_eq_getElem?_getD, List.getElem?_eq_getElem hi]
  rw [h4] at h3
  rw [← e1, ← Addr.add_add, h2, h3]

theorem El.slice {T : Ty α} {inv : α → DataW H → Prop} {b : Nat} (ht : P.underlying t = some (.slice e)) (hc : P.cellsOf e = T.sz) (hby : P.bytesOf e = b) (he : El enc P W e T inv) :
    El enc P W t tyL (fun s d => ∃ xs, RdT T W (.slice s.a s.n s.c) xs ∧ (DSl inv xs d ∧ xs.length * b ≤ reachBytes ∧ xs.length ≤ s.c) ∧ s.n = xs.length) := fun fuel cs x h hw => by
  rcases Deep.open_slice ht h with ⟨rfl, rfl⟩ | ⟨a, len, cap, m, n, D, Pl, rfl, hb, hl, hm, hmm, rfl, hx⟩
  · exact ⟨⟨none, 0, 0⟩, rfl, [], RdT.nil W none 0, ⟨.inl ⟨rfl, rfl⟩, by simp, by simp⟩, rfl⟩
  · simp only [if_true] at hmm
    subst hmm
    have hch : ∀ i, i < len → ∃ cs', W.cells? 0 (a.add (i * P.cellsOf e)) (P.cellsOf e) = some cs' ∧ ∃ b, cs' = T.enc b ∧ inv b (D i) := fun i hi => by
      obtain ⟨cs', h1, h2⟩ := hx i (by omega)
      refine ⟨cs', h1, he _ _ _ h2 fun k hk => hw k ?_⟩
      simp only [DataW.weights, ht]
      refine List.mem_cons_of_mem _ (List.mem_append_left _ (weights_mem_all (List.mem_map.2 ⟨i, List.mem_range.2 hi, rfl⟩) hk))
    obtain ⟨xs, hxl, hxs⟩ := choose_list (T := T) (inv := fun b d => inv b d) (n := len) (C := fun i => (W.cells? 0 (a.add (i * P.cellsOf e)) (P.cellsOf e)).getD []) (D := D) (fun i hi => by
      obtain ⟨cs', h1, b, h2, h3⟩ := hch i hi
      exact ⟨b, by simp [h1, h2], h3⟩)
    refine ⟨⟨some a, len, _⟩, rfl, xs, rd_of_cells hxl (Nat.le_trans hl (Nat.le_trans hm (by decide))) (fun i b hb => ?_),  ⟨.inr ⟨_, _, rfl, by simp [hxl], fun i b y hb hy => ?_⟩, ?_, by rw [hxl]; exact hl⟩, hxl.symm⟩
    · have hi : i < len := by rw [← hxl]; exact (List.getElem?_eq_some_iff.1 hb).1
      obtain ⟨cs', h1, b', h2, h3⟩ := hch i hi
      have := (hxs i b hb).1
      rw [h1] at this
      simp only [Option.getD_some] at this
      rw [← hc, h1, this]
    · have hi : i < len := by rw [← hxl]; exact (List.getElem?_eq_some_iff.1 hb).1
      have := (hxs i b hb).2
      simp [hi] at hy; subst hy; exact this
    · have := hw ((((List.range len).map D).length + ((List.range (m - len)).map fun j => D (len + j)).length) * P.bytesOf e) (by simp [DataW.weights, ht])
      rw [hby] at this; simp only [List.length_map, List.length_range] at this
      rw [hxl]; exact Nat.le_trans (Nat.mul_le_mul_right b (by omega)) this

/-- a struct's field -/
theorem El.field {T : Ty α} {inv : α → DataW H → Prop} {n : Nat} {f : Field} {cs : List Value} {xs : List (DataW H × List MemPlace)} {i o c : Nat}
    (hf : DataW.trod enc P W 0 (fun _ => true) true n f.type ((cs.drop f.offset).take (P.cellsOf f.type)) = xs[i]?) (hi : i < xs.length) {t : TypeId} {fs : Array Field} (ht : P.underlying t = some (.struct fs)) (hfi : fs[i]? = some f) (hw : Wt P t (.agg (xs.map (·.1)))) (ho : f.offset = o) (hc : P.cellsOf f.type = c) (he : El enc P W f.type T inv) :
    ∃ a, (cs.drop o).take c = T.enc a ∧ ∃ y, (xs.map (·.1))[i]? = some y ∧ inv a y := by
  rw [List.getElem?_eq_getElem hi] at hf
  obtain ⟨a, h1, h2⟩ := he _ _ _ hf fun k hk => hw k (by
    simp only [DataW.weights, ht]
    exact DataW.weights_mem_each (j := i) (by simp [hfi]) (by simp [hi]) k hk)
  subst ho; subst hc
  exact ⟨a, h1, _, by simp [hi], h2⟩
theorem part_cons {cs l r : List Value} {o c : Nat} (h : (cs.drop o).take c = l) (h2 : cs.drop (o + c) = r) : cs.drop o = l ++ r := by
  rw [← h, ← h2, ← List.drop_drop, List.take_append_drop]
theorem part_end {cs : List Value} {n : Nat} (h : cs.length = n) : cs.drop n = [] := by rw [← h]; simp

theorem trod_slice_arg {T : Ty α} {inv : α → DataW H → Prop} {b : Nat} (he : El enc P W t tyL (fun s d => ∃ xs, RdT T W (.slice s.a s.n s.c) xs ∧ (DSl inv xs d ∧ xs.length * b ≤ reachBytes ∧ xs.length ≤ s.c) ∧ s.n = xs.length)) {a : Option Addr} {n c : Nat} {d : DataW H} {ps : List MemPlace}
    (h : DataW.Trod enc P W 0 (fun _ => true) true t (.slice a n c) d ps) (hw : Wt P t d) : ∃ xs, n = xs.length ∧ RdT T W (.slice a n c) xs ∧ DSl inv xs d ∧ xs.length * b ≤ reachBytes ∧ xs.length ≤ c := by
  obtain ⟨fuel, hf⟩ := h
  obtain ⟨s, h1, xs, h2, h3, h4⟩ := he _ _ _ hf hw
  have h5 : s.a = a ∧ s.n = n ∧ s.c = c := by
    simp only [Value.cells, tyL, List.toList_toArray] at h1
    simp at h1
    exact ⟨h1.1.symm, h1.2.1.symm, h1.2.2.symm⟩
  obtain ⟨rfl, rfl, rfl⟩ := h5
  exact ⟨xs, h4, h2, h3⟩
theorem below_of {w w' : World} (h : Upd w [] w' []) : RowKit.Below w.heap.size w w' := (Upd.keep h).below
end
end Go.Sx


/- Arrays of two, as what reads as a datum. -/
namespace Go.Sx
set_option linter.unusedVariables false
set_option linter.unusedSimpArgs false
open Go.ChangeShapes Go.WideShapes Go.ChangeAt Go.RowKit
section
variable {H : Type} {enc : TypeId × Value → H} {P : Program} {W : World} {α : Type} {t e : TypeId}
def tyTwo (T : Ty α) : Ty (α × α) := ⟨T.sz + T.sz, fun p => T.enc p.1 ++ T.enc p.2, fun p => by simp [T.len], fun p u h => by
  rcases List.mem_append.1 h with h | h
  · exact T.one _ u h
  · exact T.one _ u h, by have := T.pos; omega⟩
theorem El.two {T : Ty α} {inv : α → DataW H → Prop} {s : Nat} (ht : P.underlying t = some (.array 2 e)) (hc : P.cellsOf e = s) (hs : T.sz = s) (hct : P.cellsOf t = s + s) (he : El enc P W e T inv) :
    El enc P W t (tyTwo T) (fun p d => ∃ y0 y1, d = .agg [y0, y1] ∧ inv p.1 y0 ∧ inv p.2 y1) := fun fuel cs x h hw => by
  obtain ⟨xs, m, _, rfl, hl, hn, hf⟩ := DataW.trod_array ht h
  have e0 := hf 0 (by omega)
  have e1 := hf 1 (by omega)
  match xs, hn with
  | [x0, x1], _ =>
    have w0 : Wt P e x0.1 := fun n hn => hw n (by simp only [DataW.weights, ht]; exact weights_mem_all (d := x0.1) (by simp) hn)
    have w1 : Wt P e x1.1 := fun n hn => hw n (by simp only [DataW.weights, ht]; exact weights_mem_all (d := x1.1) (by simp) hn)
    obtain ⟨a0, h0, i0⟩ := he _ _ _ e0 w0
    obtain ⟨a1, h1, i1⟩ := he _ _ _ e1 w1
    refine ⟨(a0, a1), ?_, x0.1, x1.1, rfl, i0, i1⟩
    show cs = T.enc a0 ++ T.enc a1
    rw [← h0, ← h1, hc]
    rw [hct] at hl
    simp only [Nat.zero_mul, List.drop_zero, Nat.one_mul]
    have h3 : (cs.drop s).take s = cs.drop s := List.take_of_length_le (by simp; omega)
    rw [h3, List.take_append_drop]
end
end Go.Sx


/- Proved here: what the laid variables read as, a start that meets the condition, and the wrap that hands a call both the condition and the world's shape. Conditions: those of each theorem. -/
namespace Go.Proofs.YtnjjjmpdikpjaabDoor
open Go Go.Sx Go.ChangeShapes Go.WideShapes Go.ChangeAt Go.RowKit
set_option linter.unusedVariables false
def laid0 : List (String × DataW Unit) := [("math/bits.deBruijn32tab", Rows.laid_math_bits_deBruijn32tab), ("math/bits.deBruijn64tab", Rows.laid_math_bits_deBruijn64tab), ("internal/strconv.uint64pow10", Rows.laid_internal_strconv_uint64pow10), ("unicode/utf8.acceptRanges", Rows.laid_unicode_utf8_acceptRanges), ("strconv.ErrRange", Rows.laid_strconv_ErrRange), ("strconv.ErrSyntax", Rows.laid_strconv_ErrSyntax), ("unicode/utf8.first", Rows.laid_unicode_utf8_first)]
theorem own : ownKnob Tryd.prog.godebug = none := by kernel_rfl
theorem laidOut : laidOutB Tryd.prog = true := by kernel_rfl
theorem noHandle : (laid0.all fun x => x.2.handleName?.isNone) = true := by kernel_rfl
theorem door_met (os : Os) (args : Array Value) : laidMetH Tryd.prog laid0 ((World.laidAll Tryd.prog os laid0).forCall (fun _ _ => 0) ⟨#[], args, []⟩).memory := by
  rw [MakeChecks.laidMetH_plain _ _ _ noHandle]
  exact laidMet_laidAll _ (by kernel_rfl) (by kernel_rfl)
theorem door_shaped (os : Os) : (World.laidAll Tryd.prog os laid0).Shaped Tryd.prog := World.shaped_of_ZipB (by kernel_rfl) (by kernel_rfl)
theorem gPow : Tryd.prog.globalNamed "internal/strconv.uint64pow10" = some 3 := by kernel_rfl
theorem gSyn : Tryd.prog.globalNamed "strconv.ErrSyntax" = some 1 := by kernel_rfl
theorem gRng : Tryd.prog.globalNamed "strconv.ErrRange" = some 2 := by kernel_rfl
theorem err_cell {W : World} {n : String} {g : Nat} {nm : String} {d : DataW Unit} {r : List (String × DataW Unit)} (hg : Tryd.prog.globalNamed n = some g) (ht : (Tryd.prog.globals[g]?).map (·.type) = some 73) (h : laidMet Tryd.prog ((n, .iface nm d) :: r) W) : ∃ v, W.cell? ⟨g, 0, none⟩ = some v ∧ (v = .nilIface ∨ ∃ te pe, v = .iface te pe) := by
  obtain ⟨ps, ⟨g', t', cs, fuel, p, q, hg', ht', hvar, hd, _, _⟩, _⟩ := h
  obtain rfl := Option.some.inj (hg.symm.trans hg')
  obtain rfl := Option.some.inj (ht.symm.trans ht')
  obtain ⟨_, u, v, hcs, _⟩ := iface_of_trod Tryd.underlying73 hd
  have h0 : cs = #[.iface u v] := by apply Array.toList_inj.1; simpa using hcs
  subst h0
  exact ⟨_, World.var?_cell hg hvar 0, .inr ⟨_, _, rfl⟩⟩
theorem laid_of {W : World} (h : laidMetH Tryd.prog laid0 W) (hs : W.ShapedOpen Tryd.prog) : Laid W := by
  rw [MakeChecks.laidMetH_plain _ _ _ noHandle] at h
  have h3 : laidMet Tryd.prog (("internal/strconv.uint64pow10", Lib.tabData .u64 Lib.pow10Tab) :: laid0.drop 3) W := h.tail.tail
  have h5 : laidMet Tryd.prog (laid0.drop 4) W := h.tail.tail.tail.tail
  have h6 : laidMet Tryd.prog (laid0.drop 5) W := h5.tail
  exact ⟨Lib.tabIs_of_head gPow (by kernel_rfl) Tryd.underlying124 Tryd.underlying111 (by kernel_rfl) (by kernel_rfl) h3,
    cell_of_shapedOpen_int hs (t := 3) (zero := #[.int .i64 0]) (of_decide_eq_true (by kernel_rfl)) (by kernel_rfl) rfl (by kernel_rfl) (by kernel_rfl) Tryd.underlying3,
    err_cell gSyn (by kernel_rfl) h6, err_cell gRng (by kernel_rfl) h5⟩
/-- The wrap: the condition and the world's shape. -/
theorem handed_both {H : Type} {enc : TypeId × Value → H} {a : Assume} {C : Checked} {os : Os} {f : FuncId} {fn : Func} {s : ChangeSpec} {conds : List PathCond} {apart fresh handsOn again : Bool} {X : World → Array Value → Prop}
    (hX : ∀ (w w' : World) (args : Array Value), w.heap = w'.heap → X w args → X w' args)
    (own : ownKnob C.prog.godebug = none) (started : os.Started) (noInit : C.prog.inits.idxOf? f = none) (hfn : C.prog.funcs[f]? = some fn)
    (witness : ∃ (w : World) (tape : Tape) (i : Input), w.os = os ∧ (w.forCall tape i).Shaped C.prog ∧ i.vars = [] ∧ Input.okWide C.prog (w.forCall tape i) .any w.heap.size f i ∧
      ((s.pre enc C.prog fn conds apart (w.forCall tape i).memory i.args ∧ X (w.forCall tape i).memory i.args) ∧ sizedMet enc C.prog fn (OpenSpec.ofChange s) apart (w.forCall tape i).memory i.args) ∧ a.holds C.prog (lone (Frame.enter C.prog f i.args .normal) [] (w.forCall tape i)))
    (contract : ∀ (W : World) (base : Nat) (args : Array Value) (ds gs : List (DataW H)) (before : List MemPlace),
      (∀ (j : Nat) t v, fn.params[j]? = some t → args[j]? = some v → Value.okWide C.prog W .any base t v) →
      DataW.Whole enc C.prog fn.params.toList s.vars apart W args.toList ds gs before →
      (DataW.weightsEach C.prog (fn.params.toList ++ s.plain.varTypes C.prog) (ds ++ gs)).all (· ≤ reachBytes) = true → X W args → W.ShapedOpen C.prog →
      Calls C.prog f args W fun e W' => ∃ v, e = .returned v ∧ s.post enc C.prog fn apart fresh handsOn again W args v W') :
    ReturnsInHanded a C os f .any (fun w args => (s.pre enc C.prog fn conds apart w args ∧ X w args) ∧ sizedMet enc C.prog fn (OpenSpec.ofChange s) apart w args) (s.post enc C.prog fn apart fresh handsOn again) := by
  refine returnsInHanded_of_calls own started noInit witness ?_
  intro w tape i _ hsh _ hok hpre _
  obtain ⟨_, _, _, fn', hfn', _, _, _, _, hval⟩ := hok
  obtain rfl : fn' = fn := Option.some.inj (hfn'.symm.trans hfn)
  obtain ⟨⟨⟨ds, gs, before, hw, hc⟩, hx⟩, hz⟩ := hpre
  have hw' := DataW.Whole.of_heap (w' := w.forCall tape i) (by rfl) hw
  refine (contract (w.forCall tape i) w.heap.size i.args ds gs before hval hw' (hz.weights hw) (hX _ _ _ (by rfl) hx) hsh).mono fun e W' ⟨v, he, hp⟩ => ?_
  subst he
  exact ChangeSpec.post_blind hp
end Go.Proofs.YtnjjjmpdikpjaabDoor


/- Proved here: what operations that come in read as. Conditions: those of each theorem. -/
namespace Go.Proofs.YtnjjjmpdikpjaabDoor
open Go Go.Sx Go.ChangeShapes Go.WideShapes Go.ChangeAt Go.RowKit
set_option linter.unusedVariables false
theorem el25 {H : Type} {enc : TypeId × Value → H} {W : World} : El enc Tryd.prog W 25 tyRawS (fun a d => ∃ ys, d = .agg ys ∧ (∃ y, ys[0]? = some y ∧ ∃ xs, RdT (tyI .i64) W (.slice a.nums.a a.nums.n a.nums.c) xs ∧ (DSl (fun n _ => (Lit.int .i64 n).wf = true) xs y ∧ xs.length * 8 ≤ reachBytes ∧ xs.length ≤ a.nums.c) ∧ a.nums.n = xs.length) ∧ (∃ y, ys[1]? = some y ∧ y = .lit (.string a.text.data.toList) ∧ a.text.size ≤ reachBytes)) := fun fuel cs x h hw0 => by
  obtain ⟨xs, n, rfl, hx, hl, hn, hf⟩ := DataW.trod_struct Tryd.underlying25 h
  have hw : Wt Tryd.prog 25 (.agg (xs.map (·.1))) := by have h9 := hw0; rw [hx] at h9; exact h9
  obtain ⟨a0, e0, y0⟩ := El.field (o := 0) (c := 1) (hf 0 _ rfl) (by rw [hn]; decide) Tryd.underlying25 rfl hw rfl (by kernel_rfl) (El.slice (T := tyI .i64) (b := 8) Tryd.underlying23 (by kernel_rfl) (by kernel_rfl) (El.int Tryd.underlying3))
  obtain ⟨a1, e1, y1⟩ := El.field (o := 1) (c := 1) (hf 1 _ rfl) (by rw [hn]; decide) Tryd.underlying25 rfl hw rfl (by kernel_rfl) (El.str Tryd.underlying9)
  exact ⟨⟨a0, a1⟩, (part_cons (o := 0) (c := 1) e0 (part_cons (o := 1) (c := 1) e1 (part_end (hl.trans (by kernel_rfl))))), _, congrArg Prod.fst hx, y0, y1⟩
theorem wf_ok {n : Int} (h : (Lit.int .i64 n).wf = true) : i64ok n := by
  have hb : -9223372036854775808 ≤ n ∧ n ≤ 9223372036854775807 := by simpa [Lit.wf, IntKind.signed, IntKind.bits, IntKind.max, IntKind.min] using h
  exact hb
theorem el25P {H : Type} {enc : TypeId × Value → H} {W : World} : El enc Tryd.prog W 25 tyRawP (fun p _ => RdT (tyI .i64) W (.slice p.a p.d.nums.length p.c) p.d.nums ∧ p.d.nums.length ≤ p.c ∧ okL p.d.nums) := fun fuel cs x h hw => by
  obtain ⟨⟨⟨sa, sn, sc⟩, st⟩, e, ys, _, ⟨y0, _, xs, rd, ⟨hd, _, hc⟩, hn⟩, _⟩ := el25 fuel cs x h hw
  simp only at rd hn hc
  subst hn
  exact ⟨⟨sa, sc, ⟨xs, st⟩⟩, e, rd, hc, fun n hm => by obtain ⟨_, h9⟩ := hd.mem hm; exact wf_ok h9⟩
end Go.Proofs.YtnjjjmpdikpjaabDoor

