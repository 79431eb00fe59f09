/- Numbers of what is told by its first place; blocks of states that are alike. Conditions: those of each theorem. -/
import Derived.Test.YtoeockpkkmgieaaEqualApartB2
import Derived.Test.YtoeockpkkmgieaaEqualApartB1
namespace Go.Proofs.Ytoeockpkkmgieaa
open Go Go.Sx
set_option linter.unusedVariables false
set_option linter.unusedSimpArgs false
theorem numL_old {l : List Int} {x : Int} (h : x ∈ l) : numL (l ++ [x]) = numL l ++ [((ix x (dd l) : Nat) : Int)] := by
  have e : dd (l ++ [x]) = dd l := by rw [dd_snoc, if_pos ((dd_mem l x).2 h)]
  unfold numL; rw [e, List.map_append]; rfl
theorem numL_new {l : List Int} {x : Int} (h : x ∉ l) : numL (l ++ [x]) = numL l ++ [((dd l).length : Int)] ∧ (dd (l ++ [x])).length = (dd l).length + 1 := by
  have hn : x ∉ dd l := fun h9 => h ((dd_mem l x).1 h9)
  have e : dd (l ++ [x]) = dd l ++ [x] := by rw [dd_snoc, if_neg hn]
  constructor
  · unfold numL; rw [e, List.map_append]
    congr 1
    · apply List.map_congr_left
      intro y hy
      rw [ix_app _ ((dd_mem l y).2 hy)]
    · simp only [List.map_cons, List.map_nil]; rw [ix_snoc hn]
  · rw [e]; simp
/-- Told by its first place. -/
def FirstP (l : List Int) : Prop := ∀ i, i < l.length → 0 ≤ l.getD i 0 ∧ l.getD i 0 ≤ (i : Int) ∧ l.getD (l.getD i 0).toNat 0 = l.getD i 0
theorem take_snoc {l : List Int} {i : Nat} (h : i < l.length) : l.take (i + 1) = l.take i ++ [l.getD i 0] := by
  rw [List.take_succ_eq_append_getElem h]; simp [List.getD_eq_getElem?_getD, h]
theorem getD_take {l : List Int} {i j : Nat} (h : j < i) : (l.take i).getD j 0 = l.getD j 0 := by
  simp [List.getD_eq_getElem?_getD, List.getElem?_take, h]
theorem numL_getD {l : List Int} {i : Nat} (h : i < l.length) : (numL l).getD i 0 = ((ix (l.getD i 0) (dd l) : Nat) : Int) := by
  unfold numL
  simp [List.getD_eq_getElem?_getD, List.getElem?_map, List.getElem?_eq_getElem h]
theorem FirstP.new {l : List Int} (h : FirstP l) {i : Nat} (hi : i < l.length) (he : l.getD i 0 = (i : Int)) : l.getD i 0 ∉ l.take i := fun hm => by
  obtain ⟨j, hj, e⟩ := List.mem_iff_getElem.1 hm
  have hj' : j < i := by simp at hj; omega
  have h1 := h j (by omega)
  have e2 : l.getD j 0 = l.getD i 0 := by rw [← e]; simp [List.getD_eq_getElem?_getD, show j < l.length by omega]
  omega
theorem FirstP.old {l : List Int} (h : FirstP l) {i : Nat} (hi : i < l.length) (he : l.getD i 0 ≠ (i : Int)) : l.getD i 0 ∈ l.take i ∧ (l.getD i 0).toNat < i ∧ (numL (l.take i)).getD (l.getD i 0).toNat 0 = ((ix (l.getD i 0) (dd (l.take i)) : Nat) : Int) := by
  have h1 := h i hi
  have hj : (l.getD i 0).toNat < i := by omega
  have e : (l.take i).getD (l.getD i 0).toNat 0 = l.getD i 0 := by rw [getD_take hj]; exact h1.2.2
  have hl : (l.getD i 0).toNat < (l.take i).length := by rw [List.length_take]; omega
  exact ⟨by have h9 := getD_mem' (l := l.take i) (d := 0) hl; rw [e] at h9; exact h9, hj, by rw [numL_getD hl, e]⟩
theorem FirstP.step_new {l : List Int} (h : FirstP l) {i : Nat} (hi : i < l.length) (he : l.getD i 0 = (i : Int)) : numL (l.take i) ++ [((dd (l.take i)).length : Int)] = numL (l.take (i + 1)) ∧ (dd (l.take (i + 1))).length = (dd (l.take i)).length + 1 := by
  rw [take_snoc hi]
  obtain ⟨h1, h2⟩ := numL_new (h.new hi he)
  exact ⟨h1.symm, h2⟩
theorem FirstP.step_old {l : List Int} (h : FirstP l) {i : Nat} (hi : i < l.length) (he : l.getD i 0 ≠ (i : Int)) : numL (l.take i) ++ [(numL (l.take i)).getD (l.getD i 0).toNat 0] = numL (l.take (i + 1)) ∧ dd (l.take (i + 1)) = dd (l.take i) := by
  obtain ⟨h1, h2, h3⟩ := h.old hi he
  rw [take_snoc hi, numL_old h1, h3]
  exact ⟨rfl, by rw [dd_snoc, if_pos ((dd_mem _ _).2 h1)]⟩
theorem numL_len (l : List Int) : (numL l).length = l.length := by simp [numL]
theorem ix_at' {x : Int} : ∀ {l : List Int} {k : Nat}, k < l.length → l.getD k 0 = x → (∀ i, i < k → l.getD i 0 ≠ x) → ix x l = k
  | y :: l, 0, _, h, _ => by simp at h; simp [ix, h]
  | y :: l, k + 1, hk, h, hn => by
    have h0 := hn 0 (by omega)
    simp at h0
    rw [ix, if_neg (fun e => h0 e.symm), ix_at' (by simpa using hk) (by simpa using h) (fun i hi => by simpa using hn (i + 1) (by omega))]
theorem firstI_at {l : List Int} {x : Int} {k : Nat} (hk : k < l.length) (h : l.getD k 0 = x) (hn : ∀ i, i < k → l.getD i 0 ≠ x) : firstI x l = (k : Int) := by
  have hm : x ∈ l := by rw [← h]; exact getD_mem' hk
  rw [firstI, if_pos hm, ix_at' hk h hn]
theorem firstI_none {l : List Int} {x : Int} (hn : ∀ i, i < l.length → l.getD i 0 ≠ x) : firstI x l = -1 := by
  rw [firstI, if_neg]
  intro h
  obtain ⟨i, hi, rfl⟩ := List.mem_iff_getElem.1 h
  exact hn i hi (by simp [List.getD_eq_getElem?_getD, List.getElem?_eq_getElem hi])
/-- Looking for the first place from behind. -/
def FyP (l : List Int) (c aa y : Int) : Prop := (aa = -1 ∨ (y < aa ∧ aa < (l.length : Int) ∧ l.getD aa.toNat 0 = c)) ∧ ∀ i : Nat, y < (i : Int) → i < l.length → (aa = -1 ∨ (i : Int) < aa) → l.getD i 0 ≠ c
theorem FyP.start (l : List Int) (c : Int) : FyP l c (-1) ((l.length : Int) - 1) := ⟨.inl rfl, fun i h1 h2 => by omega⟩
theorem FyP.hit {l : List Int} {c aa y : Int} (h : FyP l c aa y) (h0 : 0 ≤ y) (hy : y < (l.length : Int)) (he : l.getD y.toNat 0 = c) : FyP l c y (y - 1) := ⟨.inr ⟨by omega, hy, he⟩, fun i h1 h2 h3 => by omega⟩
theorem FyP.miss {l : List Int} {c aa y : Int} (h : FyP l c aa y) (h0 : 0 ≤ y) (he : l.getD y.toNat 0 ≠ c) : FyP l c aa (y - 1) := by
  refine ⟨by rcases h.1 with h1 | h1; exact .inl h1; exact .inr ⟨by omega, h1.2⟩, fun i h1 h2 h3 => ?_⟩
  by_cases e : (i : Int) = y
  · have : i = y.toNat := by omega
    subst this; exact he
  · exact h.2 i (by omega) h2 h3
theorem FyP.fin {l : List Int} {c aa y : Int} (h : FyP l c aa y) (hy : y < 0) (h0 : -1 ≤ y) : aa = firstI c l := by
  rcases h.1 with h1 | ⟨h1, h2, h3⟩
  · rw [firstI_none (fun i hi => h.2 i (by omega) hi (.inl h1))]; exact h1
  · rw [firstI_at (k := aa.toNat) (by omega) h3 (fun i hi => h.2 i (by omega) (by omega) (.inr (by omega)))]; omega
def firstsK (l : List Int) (k : Nat) : List Int := List.map (fun c : Nat => firstI (c : Int) l) (List.range k)
theorem firstsK_step (l : List Int) (k : Nat) : firstsK l k ++ [firstI (k : Int) l] = firstsK l (k + 1) := by simp [firstsK, List.range_succ]
theorem firstsK_len (l : List Int) (k : Nat) : (firstsK l k).length = k := by simp [firstsK]
theorem firstsK_all {l : List Int} {w : Int} {k : Nat} (h1 : (k : Int) ≤ w ∨ k = 0) (h2 : k ≤ 259) (h3 : ¬ ((k : Int) < w ∧ (k : Int) < 259)) : firstsI l w = firstsK l k := by
  unfold firstsI firstsK
  congr 2; omega
/-! ### Blocks -/
/-- The first state that is like each one. -/
structure FrP (d : DfaD) (f : List Int) (n : Nat) : Prop where
  len : f.length = n
  val : ∀ i, i < n → 0 ≤ f.getD i 0 ∧ f.getD i 0 ≤ (i : Int) ∧ ¬ Dis d i (f.getD i 0).toNat ∧ ∀ k : Nat, (k : Int) < f.getD i 0 → Dis d i k
theorem dis_symm {d : DfaD} {i k : Nat} (h : Dis d i k) : Dis d k i := by obtain ⟨t, h⟩ := h; exact ⟨t, disT_symm h⟩
theorem dis_irr {d : DfaD} {i : Nat} : ¬ Dis d i i := fun ⟨_, h⟩ => disT_irr h
theorem dis_part {d : DfaD} {i k : Nat} (j : Nat) (h : Dis d i k) : Dis d i j ∨ Dis d j k := by
  obtain ⟨t, h⟩ := h
  rcases disT_part j h with h | h
  · exact .inl ⟨t, h⟩
  · exact .inr ⟨t, h⟩
theorem FrP.start (d : DfaD) : FrP d [] 0 := ⟨rfl, fun i h => by omega⟩
theorem FrP.first {d : DfaD} {f : List Int} {n : Nat} (h : FrP d f n) : FirstP f := fun i hi => by
  rw [h.len] at hi
  have h1 := h.val i hi
  refine ⟨h1.1, h1.2.1, ?_⟩
  have h2 := h.val (f.getD i 0).toNat (by omega)
  rcases Int.lt_trichotomy (f.getD (f.getD i 0).toNat 0) (f.getD i 0) with h3 | h3 | h3
  · exfalso
    have h4 := h1.2.2.2 (f.getD (f.getD i 0).toNat 0).toNat (by omega)
    rcases dis_part (f.getD i 0).toNat h4 with h5 | h5
    · exact h1.2.2.1 h5
    · exact h2.2.2.1 h5
  · exact h3
  · omega
/-- Within the look for it: the least place from k on that is like, or the state itself. -/
def FkP (d : DfaD) (i : Nat) (at_ : Int) (y : Int) : Prop := (y < at_ ∧ at_ ≤ (i : Int)) ∧ ¬ Dis d i at_.toNat ∧ ∀ k : Nat, y < (k : Int) → (k : Int) < at_ → Dis d i k
theorem FkP.start (d : DfaD) (i : Nat) : FkP d i (i : Int) ((i : Int) - 1) := ⟨by omega, by rw [Int.toNat_natCast]; exact dis_irr, fun k h1 h2 => by omega⟩
theorem FkP.hit {d : DfaD} {i : Nat} {at_ y : Int} (h : FkP d i at_ y) (hy : 0 ≤ y) (hd : ¬ Dis d i y.toNat) : FkP d i y (y - 1) := ⟨by have := h.1; omega, hd, fun k h1 h2 => by omega⟩
theorem FkP.miss {d : DfaD} {i : Nat} {at_ y : Int} (h : FkP d i at_ y) (hy : 0 ≤ y) (hd : Dis d i y.toNat) : FkP d i at_ (y - 1) := by
  refine ⟨by have := h.1; omega, h.2.1, fun k h1 h2 => ?_⟩
  by_cases e : (k : Int) = y
  · have : k = y.toNat := by omega
    subst this; exact hd
  · exact h.2.2 k (by omega) h2
theorem FrP.step {d : DfaD} {f : List Int} {n : Nat} {at_ y : Int} (h : FrP d f n) (hk : FkP d n at_ y) (hy : y < 0) (hy2 : -1 ≤ y) : FrP d (f ++ [at_]) (n + 1) := by
  refine ⟨by simp [h.len], fun i hi => ?_⟩
  by_cases e : i = n
  · subst e
    have e2 : (f ++ [at_]).getD i 0 = at_ := by
      simp [List.getD_eq_getElem?_getD, List.getElem?_append, h.len]
    rw [e2]
    exact ⟨by have := hk.1; omega, hk.1.2, hk.2.1, fun k hk2 => hk.2.2 k (by omega) hk2⟩
  · have e2 : (f ++ [at_]).getD i 0 = f.getD i 0 := by
      simp only [List.getD_eq_getElem?_getD, List.getElem?_append, h.len]; rw [if_pos (by omega)]
    rw [e2]; exact h.val i (by omega)
/-- The blocks: two states have one number just if they are alike. -/
structure BlkP (d : DfaD) (b : List Int) : Prop where
  from_ : ∃ f, FrP d f d.acc.length ∧ b = numL f
theorem BlkP.len {d : DfaD} {b : List Int} (h : BlkP d b) : b.length = d.acc.length := by
  obtain ⟨f, hf, rfl⟩ := h.from_
  rw [numL_len, hf.len]
theorem BlkP.alike {d : DfaD} {b : List Int} (h : BlkP d b) {i k : Nat} (hi : i < d.acc.length) (hk : k < d.acc.length) : b.getD i 0 = b.getD k 0 ↔ ¬ Dis d i k := by
  obtain ⟨f, hf, rfl⟩ := h.from_
  have hil : i < f.length := by rw [hf.len]; exact hi
  have hkl : k < f.length := by rw [hf.len]; exact hk
  have h1 := hf.val i hi
  have h2 := hf.val k hk
  rw [numL_getD hil, numL_getD hkl]
  have key : f.getD i 0 = f.getD k 0 ↔ ¬ Dis d i k := by
    constructor
    · intro e hd
      rcases dis_part (f.getD i 0).toNat hd with h3 | h3
      · exact h1.2.2.1 h3
      · rw [e] at h3; exact h2.2.2.1 (dis_symm h3)
    · intro hn
      rcases Int.lt_trichotomy (f.getD i 0) (f.getD k 0) with h3 | h3 | h3
      · exfalso
        have h4 := h2.2.2.2 (f.getD i 0).toNat (by omega)
        rcases dis_part i h4 with h5 | h5
        · exact hn (dis_symm h5)
        · exact h1.2.2.1 h5
      · exact h3
      · exfalso
        have h4 := h1.2.2.2 (f.getD k 0).toNat (by omega)
        rcases dis_part k h4 with h5 | h5
        · exact hn h5
        · exact h2.2.2.1 h5
  rw [← key]
  constructor
  · intro e
    refine ix_inj ((dd_mem _ _).2 (getD_mem' hil)) ((dd_mem _ _).2 (getD_mem' hkl)) (by omega)
  · intro e; rw [e]
end Go.Proofs.Ytoeockpkkmgieaa

/- What tells two automata apart, as data: the search over pairs, nearest first. Conditions: those of each theorem. -/
namespace Go.Sx
set_option linter.unusedVariables false
set_option linter.unusedSimpArgs false
/-- A step of the search. -/
structure St4 where
  p : Int
  q : Int
  from_ : Int
  sym : Int
def st0 : St4 := ⟨0, 0, 0, 0⟩
def tySt : Ty St4 := ⟨4, fun x => [.int .i64 x.p, .int .i64 x.q, .int .i64 x.from_, .int .i64 x.sym], fun _ => rfl, fun x u h => by
  simp only [List.mem_cons, List.not_mem_nil, or_false] at h; rcases h with rfl | rfl | rfl | rfl <;> rfl, by omega⟩
def St4.pr (s : St4) : Int × Int := (s.p, s.q)
def prs (l : List St4) : List (Int × Int) := l.map St4.pr
def putS (l : List St4) (p : Int × Int) (f sym : Int) : List St4 := if p ∈ prs l then l else l ++ [⟨p.1, p.2, f, sym⟩]
def MapInv (m : List ((Int × Int) × Int)) (l : List St4) : Prop := ∀ p, (getM m p).isSome = decide (p ∈ prs l)
theorem MapInv.nil : MapInv [] [] := fun p => by simp [getM, prs]
theorem MapInv.old {m : List ((Int × Int) × Int)} {l : List St4} {p : Int × Int} {f sym : Int} (h : MapInv m l) (hp : (getM m p).isSome = true) : putS l p f sym = l := by
  rw [h p] at hp
  rw [putS, if_pos (of_decide_eq_true hp)]
theorem MapInv.new {m : List ((Int × Int) × Int)} {l : List St4} {p : Int × Int} {f sym v : Int} (h : MapInv m l) (hp : ¬ (getM m p).isSome = true) : putS l p f sym = l ++ [⟨p.1, p.2, f, sym⟩] ∧ MapInv (putM m p v) (l ++ [⟨p.1, p.2, f, sym⟩]) := by
  rw [h p] at hp
  have hn : p ∉ prs l := fun e => hp (decide_eq_true e)
  refine ⟨by rw [putS, if_neg hn], fun q => ?_⟩
  rw [getM_put]
  by_cases e : q = p
  · subst e; rw [if_pos rfl]; simp [prs, St4.pr]
  · rw [if_neg e, h q]
    have : q ∈ prs (l ++ [⟨p.1, p.2, f, sym⟩]) ↔ q ∈ prs l := by
      simp only [prs, List.map_append, List.map_cons, List.map_nil, List.mem_append, List.mem_singleton, St4.pr]
      exact ⟨fun h => h.resolve_right (fun e2 => e (by rw [e2])), .inl⟩
    simp only [this]
theorem putS_pre (l : List St4) (p : Int × Int) (f sym : Int) : ∃ r, putS l p f sym = l ++ r ∧ r.length ≤ 1 := by
  unfold putS; split
  · exact ⟨[], by simp, by simp⟩
  · exact ⟨_, rfl, by simp⟩
theorem putS_len (l : List St4) (p : Int × Int) (f sym : Int) : l.length ≤ (putS l p f sym).length ∧ (putS l p f sym).length ≤ l.length + 1 := by
  obtain ⟨r, h, hl⟩ := putS_pre l p f sym
  rw [h, List.length_append]; omega

/-! ### The word of a step -/
def revW (l : List St4) : Nat → Nat → List Int
  | 0, _ => []
  | n + 1, i => if (l.getD i st0).from_ < 0 then [] else (l.getD i st0).sym :: revW l n (l.getD i st0).from_.toNat
def wordS (l : List St4) (i : Nat) : List Int := (revW l (i + 1) i).reverse
/-- Each step comes from an earlier one, or from none. -/
def Chain (l : List St4) : Prop := ∀ i, i < l.length → -1 ≤ (l.getD i st0).from_ ∧ (l.getD i st0).from_ < (i : Int)
theorem revW_fuel {l : List St4} (h : Chain l) : ∀ (n i : Nat), i < l.length → i < n → revW l n i = revW l (i + 1) i
  | 0, i, _, hn => by omega
  | n + 1, i, hi, hn => by
    have hc := h i hi
    simp only [revW]
    split
    · rfl
    · rename_i h0
      have hj : (l.getD i st0).from_.toNat < l.length := by omega
      rw [revW_fuel h n _ hj (by omega), revW_fuel h i _ hj (by omega)]
theorem revW_step {l : List St4} (h : Chain l) {i : Nat} (hi : i < l.length) (h0 : 0 ≤ (l.getD i st0).from_) :
    revW l (i + 1) i = (l.getD i st0).sym :: revW l ((l.getD i st0).from_.toNat + 1) (l.getD i st0).from_.toNat := by
  have hc := h i hi
  have hj : (l.getD i st0).from_.toNat < l.length := by omega
  rw [revW, if_neg (by omega), revW_fuel h i _ hj (by have := hc.2; omega)]
theorem revW_end {l : List St4} {i n : Nat} (h0 : (l.getD i st0).from_ < 0) : revW l n i = [] := by
  cases n with
  | zero => rfl
  | succ n => rw [revW, if_pos h0]
theorem wordS_step {l : List St4} (h : Chain l) {i : Nat} (hi : i < l.length) (h0 : 0 ≤ (l.getD i st0).from_) :
    wordS l i = wordS l (l.getD i st0).from_.toNat ++ [(l.getD i st0).sym] := by
  rw [wordS, revW_step h hi h0, List.reverse_cons]; rfl
theorem wordS_end {l : List St4} {i : Nat} (h0 : (l.getD i st0).from_ < 0) : wordS l i = [] := by rw [wordS, revW_end h0]; rfl
theorem revW_len (l : List St4) : ∀ n i, (revW l n i).length ≤ n
  | 0, i => by simp [revW]
  | n + 1, i => by
    rw [revW]; split
    · simp
    · have := revW_len l n (l.getD i st0).from_.toNat; rw [List.length_cons]; omega

/-! ### The search -/
def nxP (a b : DfaD) (s : St4) (sym : Int) : Int × Int := (stepD a s.p sym, stepD b s.q sym)
def addS (a b : DfaD) (s : St4) (at_ : Nat) (l : List St4) (sym : Int) : List St4 := putS l (nxP a b s sym) (at_ : Int) sym
def apLoop (a b : DfaD) (fs : List Int) : Nat → Nat → List St4 → Option (List Int)
  | 0, _, _ => none
  | f + 1, at_, l => if at_ < l.length then
      (if a.acc.getD (l.getD at_ st0).p.toNat false ≠ b.acc.getD (l.getD at_ st0).q.toNat false then some (wordS l at_) else apLoop a b fs f (at_ + 1) (fs.foldl (addS a b (l.getD at_ st0) at_) l)) else none
def firstsAB (a b : DfaD) : List Int := firstsI (joinL a.cls b.cls) (joinN a.cls b.cls)
def startS (a b : DfaD) : List St4 := [⟨a.start, b.start, -1, 0⟩]
def apartO (a b : DfaD) : Option (List Int) := apLoop a b (firstsAB a b) (a.acc.length * b.acc.length + 1) 0 (startS a b)
/-- What the program answers: symbols, whether any, and 0 or 3. -/
def apartW (a b : DfaD) : List Int := if rightB a = true ∧ rightB b = true then (apartO a b).getD [] else []
def apartI (a b : DfaD) : Bool := if rightB a = true ∧ rightB b = true then (apartO a b).isSome else false
def apartE (a b : DfaD) : Int := if rightB a = true ∧ rightB b = true then 0 else 3
theorem foldAddS_pre (a b : DfaD) (s : St4) (at_ : Nat) : ∀ (fs : List Int) (l : List St4), ∃ r, fs.foldl (addS a b s at_) l = l ++ r ∧ r.length ≤ fs.length
  | [], l => ⟨[], by simp, by simp⟩
  | f :: fs, l => by
    obtain ⟨r, hr, hl⟩ := putS_pre l (nxP a b s f) (at_ : Int) f
    obtain ⟨r2, hr2, hl2⟩ := foldAddS_pre a b s at_ fs (addS a b s at_ l f)
    exact ⟨r ++ r2, by rw [List.foldl_cons, hr2]; show putS _ _ _ _ ++ r2 = _; rw [hr, List.append_assoc], by simp; omega⟩
theorem getD_preS {l r : List St4} {i : Nat} {x : St4} (h : i < l.length) : (l ++ r).getD i x = l.getD i x := by
  simp only [List.getD_eq_getElem?_getD, List.getElem?_append_left h]

/-- What all steps are. -/
structure StI (a b : DfaD) (l : List St4) (at_ : Nat) : Prop where
  pos : 0 < l.length
  rng : ∀ i, i < l.length → (0 ≤ (l.getD i st0).p ∧ (l.getD i st0).p < (a.acc.length : Int)) ∧ (0 ≤ (l.getD i st0).q ∧ (l.getD i st0).q < (b.acc.length : Int))
  chain : ∀ i, i < l.length → (i = 0 ∧ l.getD i st0 = ⟨a.start, b.start, -1, 0⟩) ∨ (0 ≤ (l.getD i st0).from_ ∧ (l.getD i st0).from_ < (i : Int) ∧ (0 ≤ (l.getD i st0).sym ∧ (l.getD i st0).sym < 259) ∧ (l.getD i st0).pr = nxP a b (l.getD (l.getD i st0).from_.toNat st0) (l.getD i st0).sym)
  nd : (prs l).Nodup
  old : ∀ i, i < at_ → i < l.length → a.acc.getD (l.getD i st0).p.toNat false = b.acc.getD (l.getD i st0).q.toNat false
theorem stepD_bd' {d : DfaD} (hr : rightB d = true) {q b : Int} (h0 : 0 ≤ q) (h1 : q < (d.acc.length : Int)) (hb : 0 ≤ b ∧ b < 259) : 0 ≤ stepD d q b ∧ stepD d q b < (d.acc.length : Int) := by
  have hs := right_sym hr hb.1 hb.2
  have hi := right_idx hr h0 h1 hs.2.1 hs.2.2.1
  exact ⟨hi.2.2.2.1, hi.2.2.2.2⟩
theorem StI.ch {a b : DfaD} {l : List St4} {at_ : Nat} (h : StI a b l at_) : Chain l := fun i hi => by
  rcases h.chain i hi with ⟨e, h1⟩ | ⟨h1, h2, _⟩
  · rw [h1]; simp; omega
  · omega
theorem nodup_le : ∀ (N : Nat) (l : List Nat), l.Nodup → (∀ x, x ∈ l → x < N) → l.length ≤ N
  | 0, l, _, hb => by
    cases l with
    | nil => simp
    | cons x l => exact absurd (hb x (by simp)) (by omega)
  | N + 1, l, hn, hb => by
    by_cases hN : N ∈ l
    · have h1 := nodup_le N (l.erase N) (hn.erase N) (fun x hx => by
        have h2 := (hn.mem_erase_iff).1 hx
        have h3 := hb x h2.2
        have h4 := h2.1
        omega)
      rw [List.length_erase_of_mem hN] at h1; omega
    · have h1 := nodup_le N l hn (fun x hx => by
        have h3 := hb x hx
        have h4 : x ≠ N := fun e => hN (e ▸ hx)
        omega)
      omega
theorem StI.bound {a b : DfaD} {l : List St4} {at_ : Nat} (h : StI a b l at_) : l.length ≤ a.acc.length * b.acc.length := by
  have key := nodup_le (a.acc.length * b.acc.length) ((prs l).map fun p => p.1.toNat * b.acc.length + p.2.toNat) ?_ ?_
  · simpa [prs] using key
  · rw [List.nodup_iff_pairwise_ne, List.pairwise_map]
    have hnd := h.nd
    rw [List.nodup_iff_pairwise_ne] at hnd
    refine hnd.imp_of_mem ?_
    intro x y hx hy hne e
    obtain ⟨s, hs, rfl⟩ := List.mem_map.1 hx
    obtain ⟨t, ht, rfl⟩ := List.mem_map.1 hy
    obtain ⟨i, hi, rfl⟩ := List.mem_iff_getElem.1 hs
    obtain ⟨j, hj, rfl⟩ := List.mem_iff_getElem.1 ht
    have r1 := h.rng i hi
    have r2 := h.rng j hj
    simp only [List.getD_eq_getElem?_getD, List.getElem?_eq_getElem hi, List.getElem?_eq_getElem hj, Option.getD_some] at r1 r2
    apply hne
    simp only [St4.pr] at e ⊢
    have hq1 : (l[i].q).toNat < b.acc.length := by omega
    have hq2 : (l[j].q).toNat < b.acc.length := by omega
    have hd := congrArg (· / b.acc.length) e
    have hm := congrArg (· % b.acc.length) e
    simp only [Nat.mul_comm _ b.acc.length, Nat.mul_add_div (show 0 < b.acc.length by omega), Nat.div_eq_of_lt hq1, Nat.div_eq_of_lt hq2, Nat.mul_add_mod, Nat.mod_eq_of_lt hq1, Nat.mod_eq_of_lt hq2] at hd hm
    have e1 : l[i].p = l[j].p := by omega
    have e2 : l[i].q = l[j].q := by omega
    rw [e1, e2]
  · intro x hx
    obtain ⟨p, hp, rfl⟩ := List.mem_map.1 hx
    obtain ⟨s, hs, rfl⟩ := List.mem_map.1 hp
    obtain ⟨i, hi, rfl⟩ := List.mem_iff_getElem.1 hs
    have r1 := h.rng i hi
    simp only [List.getD_eq_getElem?_getD, List.getElem?_eq_getElem hi, Option.getD_some] at r1
    simp only [St4.pr]
    have h1 : (l[i].p).toNat + 1 ≤ a.acc.length := by omega
    have h2 := Nat.mul_le_mul_right b.acc.length h1
    rw [Nat.add_mul, Nat.one_mul] at h2
    omega
theorem StI.start {a b : DfaD} (ha : rightB a = true) (hb : rightB b = true) : StI a b (startS a b) 0 := by
  have h1 := (rightB_iff.1 ha).1
  have h2 := (rightB_iff.1 hb).1
  refine ⟨by simp [startS], fun i hi => ?_, fun i hi => .inl ?_, by simp [startS, prs], fun i hi => by omega⟩
  · have : i = 0 := by simp [startS] at hi; exact hi
    subst this
    exact ⟨⟨h1.2.2.2.2.2.2.1, h1.2.2.2.2.2.2.2⟩, ⟨h2.2.2.2.2.2.2.1, h2.2.2.2.2.2.2.2⟩⟩
  · have : i = 0 := by simp [startS] at hi; exact hi
    subst this
    exact ⟨rfl, rfl⟩
theorem StI.put {a b : DfaD} (ha : rightB a = true) (hb : rightB b = true) {l : List St4} {at_ : Nat} (h : StI a b l at_) (hat : at_ < l.length) {sym : Int} (hs : 0 ≤ sym ∧ sym < 259) {s : St4} (hse : s = l.getD at_ st0) : StI a b (addS a b s at_ l sym) at_ := by
  subst hse
  unfold addS putS
  split
  · exact h
  · rename_i hn
    have r := h.rng at_ hat
    have s1 := stepD_bd' ha r.1.1 r.1.2 hs
    have s2 := stepD_bd' hb r.2.1 r.2.2 hs
    have hg : ∀ i, i < l.length → (l ++ [(⟨(nxP a b (l.getD at_ st0) sym).1, (nxP a b (l.getD at_ st0) sym).2, (at_ : Int), sym⟩ : St4)]).getD i st0 = l.getD i st0 := fun i hi => getD_preS hi
    have hl : (l ++ [(⟨(nxP a b (l.getD at_ st0) sym).1, (nxP a b (l.getD at_ st0) sym).2, (at_ : Int), sym⟩ : St4)]).getD l.length st0 = ⟨(nxP a b (l.getD at_ st0) sym).1, (nxP a b (l.getD at_ st0) sym).2, (at_ : Int), sym⟩ := by
      simp [List.getD_eq_getElem?_getD]
    refine ⟨by simp, fun i hi => ?_, fun i hi => ?_, ?_, fun i hi hi2 => ?_⟩
    · by_cases e : i < l.length
      · rw [hg i e]; exact h.rng i e
      · have : i = l.length := by simp at hi; omega
        subst this
        rw [hl]; exact ⟨s1, s2⟩
    · by_cases e : i < l.length
      · rw [hg i e]
        rcases h.chain i e with c | ⟨c1, c2, c3, c4⟩
        · exact .inl c
        · exact .inr ⟨c1, c2, c3, by rw [hg _ (by omega)]; exact c4⟩
      · have : i = l.length := by simp at hi; omega
        subst this
        rw [hl]
        refine .inr ⟨by simp, by simp; omega, hs, ?_⟩
        simp only [Int.toNat_natCast]
        rw [hg at_ hat]; rfl
    · simp only [prs, List.map_append, List.map_cons, List.map_nil]
      refine List.nodup_append.2 ⟨h.nd, by simp, fun x hx y hy e => ?_⟩
      simp at hy; subst hy; subst e; exact hn hx
    · have e : i < l.length := by omega
      rw [hg i e]; exact h.old i hi e
theorem StI.fold {a b : DfaD} (ha : rightB a = true) (hb : rightB b = true) {at_ : Nat} {s : St4} : ∀ (fs : List Int) {l : List St4}, StI a b l at_ → at_ < l.length → s = l.getD at_ st0 → (∀ c, c ∈ fs → 0 ≤ c ∧ c < 259) → StI a b (fs.foldl (addS a b s at_) l) at_
  | [], l, h, _, _, _ => h
  | c :: fs, l, h, hat, hs, hc => by
    have h1 := h.put ha hb hat (hc c (by simp)) hs
    obtain ⟨r, hr, _⟩ := putS_pre l (nxP a b s c) (at_ : Int) c
    have hr' : addS a b s at_ l c = l ++ r := hr
    exact StI.fold ha hb fs h1 (by rw [hr', List.length_append]; omega) (by rw [hr', getD_preS hat]; exact hs) (fun x hx => hc x (by simp [hx]))
theorem StI.test {a b : DfaD} {l : List St4} {at_ : Nat} (h : StI a b l at_) (he : a.acc.getD (l.getD at_ st0).p.toNat false = b.acc.getD (l.getD at_ st0).q.toNat false) : StI a b l (at_ + 1) :=
  ⟨h.pos, h.rng, h.chain, h.nd, fun i hi hi2 => by
    by_cases e : i = at_
    · subst e; exact he
    · exact h.old i (by omega) hi2⟩
theorem apLoop_go {a b : DfaD} {fs : List Int} {F at_ : Nat} {l : List St4} (hF : at_ < F) (h1 : at_ < l.length) (he : a.acc.getD (l.getD at_ st0).p.toNat false = b.acc.getD (l.getD at_ st0).q.toNat false) :
    apLoop a b fs (F - at_) at_ l = apLoop a b fs (F - (at_ + 1)) (at_ + 1) (fs.foldl (addS a b (l.getD at_ st0) at_) l) := by
  have e : F - at_ = (F - (at_ + 1)) + 1 := by omega
  rw [e, apLoop, if_pos h1, if_neg (by rw [he]; simp)]
theorem apLoop_hit {a b : DfaD} {fs : List Int} {F at_ : Nat} {l : List St4} (hF : at_ < F) (h1 : at_ < l.length) (he : a.acc.getD (l.getD at_ st0).p.toNat false ≠ b.acc.getD (l.getD at_ st0).q.toNat false) :
    apLoop a b fs (F - at_) at_ l = some (wordS l at_) := by
  have e : F - at_ = (F - (at_ + 1)) + 1 := by omega
  rw [e, apLoop, if_pos h1, if_pos he]
theorem apLoop_end {a b : DfaD} {fs : List Int} {F at_ : Nat} {l : List St4} (h1 : ¬ at_ < l.length) : apLoop a b fs F at_ l = none := by
  cases F with
  | zero => rfl
  | succ F => rw [apLoop, if_neg h1]
theorem apLoop_sound {a b : DfaD} (ha : rightB a = true) (hb : rightB b = true) {fs : List Int} (hfs : ∀ c, c ∈ fs → 0 ≤ c ∧ c < 259) : ∀ (f at_ : Nat) (l : List St4) (w : List Int), StI a b l at_ → apLoop a b fs f at_ l = some w →
    ∃ l' i, StI a b l' i ∧ i < l'.length ∧ w = wordS l' i ∧ a.acc.getD (l'.getD i st0).p.toNat false ≠ b.acc.getD (l'.getD i st0).q.toNat false
  | 0, at_, l, w, _, h => by cases h
  | f + 1, at_, l, w, hI, h => by
    rw [apLoop] at h
    split at h
    · rename_i hat
      split at h
      · rename_i hne
        cases h
        exact ⟨l, at_, hI, hat, rfl, hne⟩
      · rename_i hne
        refine apLoop_sound ha hb hfs f (at_ + 1) _ w ?_ h
        have hI2 := hI.fold ha hb fs hat rfl hfs
        obtain ⟨r, hr, _⟩ := foldAddS_pre a b (l.getD at_ st0) at_ fs l
        refine hI2.test ?_
        rw [hr, getD_preS hat]
        exact Classical.not_not.1 hne
    · cases h
/-- Where one comes by a word. -/
theorem runFrom_fold {d : DfaD} : ∀ (w : List Int) (k : Nat) (q : Int), (∀ c, c ∈ w → 0 ≤ c ∧ c < 259) → k ≤ w.length → runFrom d w k q = (w.drop k).foldl (stepD d) q := by
  intro w k q hw hk
  induction hm : w.length - k generalizing k q with
  | zero => rw [runFrom_end (by omega), List.drop_eq_nil_of_le (by omega)]; rfl
  | succ m ih =>
    have hlt : k < w.length := by omega
    have hc := hw (w.getD k 0) (getD_mem' hlt)
    have e : w.drop k = w[k] :: w.drop (k + 1) := List.drop_eq_getElem_cons hlt
    have e2 : w.getD k 0 = w[k] := by simp [List.getD_eq_getElem?_getD, List.getElem?_eq_getElem hlt]
    rw [runFrom_step hlt hc.1 hc.2, ih (k + 1) _ (by omega) (by omega), e, List.foldl_cons, ← e2]
    rfl
theorem runF_fold {d : DfaD} (hr : rightB d = true) {s : Int} (h0 : 0 ≤ s ∧ s < (d.acc.length : Int)) {w : List Int} (hw : ∀ c, c ∈ w → 0 ≤ c ∧ c < 259) : runF d s w = w.foldl (stepD d) s := by
  rw [runF_go (by rw [hr]; simp) h0.1 h0.2, runFrom_fold w 0 s hw (by omega)]; simp
theorem fold_rng {d : DfaD} (hr : rightB d = true) : ∀ (w : List Int) (s : Int), 0 ≤ s ∧ s < (d.acc.length : Int) → (∀ c, c ∈ w → 0 ≤ c ∧ c < 259) → 0 ≤ w.foldl (stepD d) s ∧ w.foldl (stepD d) s < (d.acc.length : Int)
  | [], s, h, _ => h
  | c :: w, s, h, hw => fold_rng hr w _ (stepD_bd' hr h.1 h.2 (hw c (by simp))) (fun x hx => hw x (by simp [hx]))
theorem accepts_fold {d : DfaD} (hr : rightB d = true) {w : List Int} (hw : ∀ c, c ∈ w → 0 ≤ c ∧ c < 259) : acceptsB d w = d.acc.getD (w.foldl (stepD d) d.start).toNat false := by
  have hs := (rightB_iff.1 hr).1.2.2.2.2.2.2
  have h1 := runF_fold hr hs hw
  have h2 := fold_rng hr w d.start hs hw
  rw [acceptsB_yes (by rw [h1]; omega), h1]
theorem wordS_run {a b : DfaD} {l : List St4} {at_ : Nat} (h : StI a b l at_) : ∀ (i : Nat), i < l.length → (∀ c, c ∈ wordS l i → 0 ≤ c ∧ c < 259) ∧ (wordS l i).foldl (stepD a) a.start = (l.getD i st0).p ∧ (wordS l i).foldl (stepD b) b.start = (l.getD i st0).q ∧
      ∀ k, k < (wordS l i).length → ∃ j, j < i ∧ wordS l j = (wordS l i).take k := by
  intro i
  induction i using Nat.strongRecOn with
  | _ i ih =>
    intro hi
    rcases h.chain i hi with ⟨e, h1⟩ | ⟨h1, h2, h3, h4⟩
    · have hw : wordS l i = [] := wordS_end (by rw [h1]; show (-1 : Int) < 0; omega)
      rw [hw, h1]
      exact ⟨fun c hc => by simp at hc, rfl, rfl, fun k hk => by simp at hk⟩
    · obtain ⟨i1, i2, i3, i4⟩ := ih (l.getD i st0).from_.toNat (by omega) (by omega)
      have hw := wordS_step h.ch hi h1
      rw [hw]
      simp only [St4.pr, nxP, Prod.mk.injEq] at h4
      refine ⟨fun c hc => ?_, ?_, ?_, fun k hk => ?_⟩
      · rcases List.mem_append.1 hc with c1 | c1
        · exact i1 c c1
        · simp at c1; subst c1; simpa using h3
      · rw [List.foldl_append, i2, h4.1]; rfl
      · rw [List.foldl_append, i3, h4.2]; rfl
      · simp only [List.length_append, List.length_singleton] at hk
        by_cases e : k = (wordS l (l.getD i st0).from_.toNat).length
        · exact ⟨(l.getD i st0).from_.toNat, by omega, by rw [e, List.take_left]⟩
        · obtain ⟨j, j1, j2⟩ := i4 k (by omega)
          exact ⟨j, by omega, by rw [List.take_append_of_le_length (by omega)]; exact j2⟩
theorem startS_len (a b : DfaD) : (startS a b).length = 1 := rfl
/-- What the search finds tells both apart, and nothing ahead of it does. -/
theorem apart_tells {a b : DfaD} (ha : rightB a = true) (hb : rightB b = true) (hfs : ∀ c, c ∈ firstsAB a b → 0 ≤ c ∧ c < 259) :
    (∀ i, i < (apartW a b).length → acceptsB a ((apartW a b).take i) = acceptsB b ((apartW a b).take i)) ∧ apartI a b = decide (acceptsB a (apartW a b) ≠ acceptsB b (apartW a b)) := by
  have e1 : apartW a b = (apartO a b).getD [] := by rw [apartW, if_pos ⟨ha, hb⟩]
  have e2 : apartI a b = (apartO a b).isSome := by rw [apartI, if_pos ⟨ha, hb⟩]
  have hI := StI.start ha hb
  cases ho : apartO a b with
  | none =>
    rw [e1, e2, ho]
    have h0 : a.acc.getD a.start.toNat false = b.acc.getD b.start.toNat false := by
      unfold apartO at ho
      rw [apLoop, if_pos (by simp [startS])] at ho
      split at ho
      · cases ho
      · rename_i hne; exact Classical.not_not.1 hne
    refine ⟨fun i hi => by simp at hi, ?_⟩
    have a1 := accepts_fold ha (w := []) (fun c hc => by simp at hc)
    have b1 := accepts_fold hb (w := []) (fun c hc => by simp at hc)
    simp only [Option.getD_none, Option.isSome_none]
    exact (decide_eq_false (by rw [a1, b1]; exact fun h => h h0)).symm
  | some w =>
    obtain ⟨l, i, hl, hi, hw, hne⟩ := apLoop_sound ha hb hfs _ 0 (startS a b) w hI ho
    rw [e1, e2, ho]
    simp only [Option.getD_some, Option.isSome_some]
    obtain ⟨w1, w2, w3, w4⟩ := wordS_run hl i hi
    rw [hw]
    refine ⟨fun k hk => ?_, ?_⟩
    · obtain ⟨j, j1, j2⟩ := w4 k hk
      obtain ⟨v1, v2, v3, _⟩ := wordS_run hl j (by omega)
      rw [← j2, accepts_fold ha v1, accepts_fold hb v1, v2, v3]
      exact hl.old j j1 (by omega)
    · exact (decide_eq_true (by rw [accepts_fold ha w1, accepts_fold hb w1, w2, w3]; exact hne)).symm

theorem foldAddS_step {a b : DfaD} {s : St4} {at_ j : Nat} {fs : List Int} {l : List St4} (h : j < fs.length) : addS a b s at_ ((fs.take j).foldl (addS a b s at_) l) (fs.getD j 0) = (fs.take (j + 1)).foldl (addS a b s at_) l := by
  rw [take_succ_getD 0 h, List.foldl_append]; rfl
theorem foldAddS_lt {a b : DfaD} {s : St4} {at_ : Nat} {fs : List Int} {l : List St4} (h : at_ < l.length) : at_ < (fs.foldl (addS a b s at_) l).length := by
  obtain ⟨r, hr, _⟩ := foldAddS_pre a b s at_ fs l
  rw [hr, List.length_append]; omega
theorem foldAddS_get {a b : DfaD} {s : St4} {at_ : Nat} {fs : List Int} {l : List St4} (h : at_ < l.length) : (fs.foldl (addS a b s at_) l).getD at_ st0 = l.getD at_ st0 := by
  obtain ⟨r, hr, _⟩ := foldAddS_pre a b s at_ fs l
  rw [hr, getD_preS h]
/-! ### Turned -/
theorem dd_map {α β : Type} [DecidableEq α] [DecidableEq β] {f : α → β} (hf : ∀ x y, f x = f y → x = y) (l : List α) : dd (l.map f) = (dd l).map f := by
  suffices h : ∀ r : List α, dd (r.reverse.map f) = (dd r.reverse).map f by simpa using h l.reverse
  intro r
  induction r with
  | nil => simp [dd]
  | cons x r ih =>
    rw [List.reverse_cons, List.map_append, List.map_cons, List.map_nil, dd_snoc, dd_snoc, ih]
    by_cases h : x ∈ dd r.reverse
    · rw [if_pos h, if_pos (List.mem_map.2 ⟨x, h, rfl⟩)]
    · rw [if_neg h, if_neg (fun e => by obtain ⟨y, hy, he⟩ := List.mem_map.1 e; exact h (hf _ _ he ▸ hy)), List.map_append]; rfl
theorem ix_map {α β : Type} [DecidableEq α] [DecidableEq β] {f : α → β} (hf : ∀ x y, f x = f y → x = y) (x : α) : ∀ l : List α, ix (f x) (l.map f) = ix x l
  | [] => rfl
  | y :: l => by
    simp only [List.map_cons, ix]
    by_cases h : x = y
    · rw [if_pos h, if_pos (by rw [h])]
    · rw [if_neg h, if_neg (fun e => h (hf _ _ e)), ix_map hf x l]
theorem swap_inj : ∀ x y : Int × Int, Prod.swap x = Prod.swap y → x = y := fun x y h => by
  have := congrArg Prod.swap h; simpa using this
theorem zip_swap : ∀ a b : List Int, b.zip a = (a.zip b).map Prod.swap
  | [], b => by cases b <;> rfl
  | x :: a, [] => rfl
  | x :: a, y :: b => by simp [zip_swap a b]
theorem join_swap {a b : List Int} (h : a.length = b.length) : joinL b a = joinL a b ∧ joinN b a = joinN a b := by
  have e := zip_swap a b
  constructor
  · rw [joinL, joinL, if_pos h, if_pos h.symm, e]
    simp only [numL, dd_map swap_inj, List.map_map]
    apply List.map_congr_left
    intro x _
    simp only [Function.comp_apply, ix_map swap_inj]
  · rw [joinN, joinN, if_pos h, if_pos h.symm, e, dd_map swap_inj, List.length_map]
theorem firsts_swap {a b : DfaD} (h : a.cls.length = b.cls.length) : firstsAB b a = firstsAB a b := by
  unfold firstsAB; rw [(join_swap h).1, (join_swap h).2]
def St4.sw (s : St4) : St4 := ⟨s.q, s.p, s.from_, s.sym⟩
theorem getD_sw {l : List St4} {i : Nat} (h : i < l.length) : (l.map St4.sw).getD i st0 = (l.getD i st0).sw := by simp [List.getD_eq_getElem?_getD, List.getElem?_eq_getElem h]
theorem getD_sw' (l : List St4) (i : Nat) : (l.map St4.sw).getD i st0 = (l.getD i st0).sw := by
  by_cases h : i < l.length
  · exact getD_sw h
  · simp only [List.getD_eq_getElem?_getD]
    rw [List.getElem?_eq_none (by simpa using h), List.getElem?_eq_none (by omega)]; rfl
theorem revW_sw (l : List St4) : ∀ n i, revW (l.map St4.sw) n i = revW l n i
  | 0, i => rfl
  | n + 1, i => by
    rw [revW, revW, getD_sw']
    show (if (l.getD i st0).from_ < 0 then _ else (l.getD i st0).sym :: revW _ n (l.getD i st0).from_.toNat) = _
    rw [revW_sw l n]
theorem wordS_sw (l : List St4) (i : Nat) : wordS (l.map St4.sw) i = wordS l i := by rw [wordS, revW_sw]; rfl
theorem prs_sw (l : List St4) : prs (l.map St4.sw) = (prs l).map Prod.swap := by simp [prs, St4.sw, St4.pr, Function.comp_def]
theorem putS_sw (l : List St4) (p : Int × Int) (f sym : Int) : putS (l.map St4.sw) p.swap f sym = (putS l p f sym).map St4.sw := by
  unfold putS
  rw [prs_sw]
  by_cases h : p ∈ prs l
  · rw [if_pos h, if_pos (List.mem_map.2 ⟨p, h, rfl⟩)]
  · rw [if_neg h, if_neg (fun e => by obtain ⟨y, hy, he⟩ := List.mem_map.1 e; exact h (swap_inj _ _ he ▸ hy)), List.map_append]; rfl
theorem fold_sw (a b : DfaD) (s : St4) (at_ : Nat) : ∀ (fs : List Int) (l : List St4), fs.foldl (addS b a s.sw at_) (l.map St4.sw) = (fs.foldl (addS a b s at_) l).map St4.sw
  | [], l => rfl
  | c :: fs, l => by
    rw [List.foldl_cons, List.foldl_cons, ← fold_sw a b s at_ fs]
    congr 1
    exact putS_sw l (nxP a b s c) (at_ : Int) c
theorem apLoop_sw (a b : DfaD) (fs : List Int) : ∀ (f at_ : Nat) (l : List St4), apLoop b a fs f at_ (l.map St4.sw) = apLoop a b fs f at_ l
  | 0, _, _ => rfl
  | f + 1, at_, l => by
    rw [apLoop, apLoop, List.length_map, getD_sw', wordS_sw, fold_sw, apLoop_sw a b fs f]
    by_cases h : at_ < l.length
    · rw [if_pos h, if_pos h]
      show (if b.acc.getD (l.getD at_ st0).q.toNat false ≠ a.acc.getD (l.getD at_ st0).p.toNat false then _ else _) = _
      by_cases e : a.acc.getD (l.getD at_ st0).p.toNat false = b.acc.getD (l.getD at_ st0).q.toNat false
      · rw [if_neg (by rw [e]; simp), if_neg (by rw [e]; simp)]
      · rw [if_pos (fun h => e h.symm), if_pos e]
    · rw [if_neg h, if_neg h]
theorem apart_swap {a b : DfaD} : apartW b a = apartW a b ∧ apartI b a = apartI a b ∧ apartE b a = apartE a b := by
  by_cases h : rightB a = true ∧ rightB b = true
  · have hl : a.cls.length = b.cls.length := by rw [(rightB_iff.1 h.1).1.1, (rightB_iff.1 h.2).1.1]
    have ho : apartO b a = apartO a b := by
      unfold apartO
      rw [firsts_swap hl, Nat.mul_comm, ← apLoop_sw a b]
      rfl
    rw [apartW, apartW, apartI, apartI, apartE, apartE, if_pos h, if_pos h.symm, if_pos h, if_pos h.symm, if_pos h, if_pos h.symm, ho]
    exact ⟨rfl, rfl, rfl⟩
  · have h' : ¬ (rightB b = true ∧ rightB a = true) := fun e => h e.symm
    rw [apartW, apartW, apartI, apartI, apartE, apartE, if_neg h, if_neg h', if_neg h, if_neg h', if_neg h, if_neg h']
    exact ⟨rfl, rfl, rfl⟩

/-! ### The first symbols are symbols -/
theorem numL_surj {α : Type} [DecidableEq α] {l : List α} {c : Nat} (h : c < (dd l).length) : ∃ i, i < l.length ∧ (numL l).getD i 0 = (c : Int) := by
  have hm : (dd l)[c] ∈ l := (dd_mem l _).1 (List.getElem_mem h)
  obtain ⟨i, hi, e⟩ := List.mem_iff_getElem.1 hm
  refine ⟨i, hi, ?_⟩
  simp only [numL, List.getD_eq_getElem?_getD, List.getElem?_map, List.getElem?_eq_getElem hi, Option.map_some, Option.getD_some, e]
  congr 1
  have hnd := dd_nodup l
  have key : ∀ (m : List α) (c : Nat) (hc : c < m.length), m.Nodup → ix m[c] m = c := by
    intro m
    induction m with
    | nil => intro c hc; simp at hc
    | cons y m ih =>
      intro c hc hn
      cases c with
      | zero => simp [ix]
      | succ c =>
        have hc' : c < m.length := by simpa using hc
        have hn' := List.nodup_cons.1 hn
        simp only [List.getElem_cons_succ, ix]
        rw [if_neg (fun e => hn'.1 (by rw [← e]; exact List.getElem_mem hc')), ih c hc' hn'.2]
  exact key (dd l) c h hnd
theorem firstsAB_bd {a b : DfaD} (ha : rightB a = true) (hb : rightB b = true) : ∀ c, c ∈ firstsAB a b → 0 ≤ c ∧ c < 259 := by
  intro x hx
  have h1 := (rightB_iff.1 ha).1.1
  have h2 := (rightB_iff.1 hb).1.1
  have hab : a.cls.length = b.cls.length := by rw [h1, h2]
  have hz : (a.cls.zip b.cls).length = 259 := by simp [h1, h2]
  simp only [firstsAB, firstsI, joinL, joinN, if_pos hab, List.mem_map, List.mem_range] at hx
  obtain ⟨c, hc, rfl⟩ := hx
  obtain ⟨i, hi, e⟩ := numL_surj (l := a.cls.zip b.cls) (c := c) (by omega)
  have hl : (numL (a.cls.zip b.cls)).length = 259 := by simp [numL, h1, h2]
  have hm : ((c : Nat) : Int) ∈ numL (a.cls.zip b.cls) := by
    rw [← e]; exact getD_mem' (by rw [hl]; omega)
  rw [firstI, if_pos hm]
  have := ix_lt hm
  omega
end Go.Sx

/- The search over the first symbols of both classes is the search over all symbols. Conditions: those of each theorem. -/
namespace Go.Sx
set_option linter.unusedVariables false
set_option linter.unusedSimpArgs false
def keepZ (z : List (Int × Int)) (i : Nat) : Bool := decide (∀ k, k < i → z[k]? ≠ z[i]?)
theorem dd_places : ∀ (n : Nat) (z : List (Int × Int)), z.length = n → (dd z).map (fun x => ix x z) = (List.range n).filter (keepZ z) := by
  intro n
  induction n with
  | zero =>
    intro z hz
    obtain rfl := List.length_eq_zero_iff.1 hz
    rfl
  | succ n ih =>
    intro z hz
    obtain ⟨y, x, rfl⟩ : ∃ y x, z = y ++ [x] := ⟨z.dropLast, z.getLast (by intro h; rw [h] at hz; simp at hz), (List.dropLast_concat_getLast _).symm⟩
    have hy : y.length = n := by simpa using hz
    have h1 := ih y hy
    have e1 : ∀ i, i < n → keepZ (y ++ [x]) i = keepZ y i := fun i hi => by
      unfold keepZ
      rw [decide_eq_decide]
      have g : ∀ k, k ≤ i → (y ++ [x])[k]? = y[k]? := fun k hk => List.getElem?_append_left (by omega)
      constructor
      · intro h k hk; rw [← g k (by omega), ← g i (Nat.le_refl i)]; exact h k hk
      · intro h k hk; rw [g k (by omega), g i (Nat.le_refl i)]; exact h k hk
    have e2 : (List.range n).filter (keepZ (y ++ [x])) = (List.range n).filter (keepZ y) := List.filter_congr (fun i hi => e1 i (List.mem_range.1 hi))
    have ex : (y ++ [x])[n]? = some x := by rw [← hy]; simp
    rw [List.range_succ, List.filter_append, e2, ← h1, dd_snoc]
    by_cases hx : x ∈ dd y
    · rw [if_pos hx]
      have hk : keepZ (y ++ [x]) n = false := by
        unfold keepZ
        rw [decide_eq_false]
        intro h
        obtain ⟨k, hk, e⟩ := List.mem_iff_getElem.1 ((dd_mem y x).1 hx)
        refine h k (by omega) ?_
        rw [ex, List.getElem?_append_left hk, List.getElem?_eq_getElem hk, e]
      have e3 : List.filter (keepZ (y ++ [x])) [n] = [] := by simp [hk]
      rw [e3, List.append_nil]
      apply List.map_congr_left
      intro u hu
      exact ix_app [x] ((dd_mem y u).1 hu)
    · rw [if_neg hx, List.map_append]
      have hxy : x ∉ y := fun h => hx ((dd_mem y x).2 h)
      have hk : keepZ (y ++ [x]) n = true := by
        unfold keepZ
        rw [decide_eq_true]
        intro k hk e
        rw [ex, List.getElem?_append_left (by omega), List.getElem?_eq_getElem (by omega)] at e
        exact hxy (by have e9 := Option.some.inj e; rw [← e9]; exact List.getElem_mem _)
      have e3 : List.filter (keepZ (y ++ [x])) [n] = [n] := by simp [hk]
      rw [e3]
      congr 1
      · apply List.map_congr_left
        intro u hu
        exact ix_app [x] ((dd_mem y u).1 hu)
      · simp only [List.map_cons, List.map_nil]; rw [ix_snoc hxy, hy]
theorem ix_at'' : ∀ {l : List (Int × Int)} {i : Nat}, l.Nodup → (h : i < l.length) → ix l[i] l = i
  | y :: l, 0, _, _ => by simp [ix]
  | y :: l, i + 1, hn, h => by
    rw [List.nodup_cons] at hn
    have h9 : i < l.length := by simpa using h
    simp only [List.getElem_cons_succ, ix]
    rw [if_neg (fun e : l[i] = y => hn.1 (by rw [← e]; exact List.getElem_mem h9)), ix_at'' hn.2 h9]
theorem ix_dd {z : List (Int × Int)} : ∀ x, x ∈ z → ix ((ix x (dd z) : Nat) : Int) (numL z) = ix x z := by
  have key : ∀ (l : List (Int × Int)) (x : Int × Int), (∀ y, y ∈ l → y ∈ z) → x ∈ z → ix ((ix x (dd z) : Nat) : Int) (l.map fun y => ((ix y (dd z) : Nat) : Int)) = ix x l := by
    intro l
    induction l with
    | nil => intro x _ _; rfl
    | cons y l ih =>
      intro x hl hx
      simp only [List.map_cons, ix]
      by_cases e : x = y
      · subst e; simp
      · rw [if_neg e, if_neg (fun h => e (ix_inj ((dd_mem _ _).2 hx) ((dd_mem _ _).2 (hl y List.mem_cons_self)) (by omega))), ih x (fun u hu => hl u (List.mem_cons_of_mem _ hu)) hx]
  intro x hx
  exact key z x (fun y h => h) hx
theorem firsts_keep {z : List (Int × Int)} (hz : z.length ≤ 259) : firstsI (numL z) ((dd z).length : Int) = List.map (fun i : Nat => (i : Int)) ((List.range z.length).filter (keepZ z)) := by
  rw [← dd_places z.length z rfl, List.map_map]
  have hl := dd_len z
  have e0 : (min ((dd z).length : Int) 259).toNat = (dd z).length := by omega
  unfold firstsI
  rw [e0]
  refine List.ext_getElem (by simp) fun i h1 h2 => ?_
  simp only [List.length_map, List.length_range] at h1
  simp only [List.getElem_map, List.getElem_range, Function.comp]
  have hm : (dd z)[i] ∈ z := (dd_mem _ _).1 (List.getElem_mem h1)
  have hi : ix (dd z)[i] (dd z) = i := ix_at'' (dd_nodup z) h1
  have h3 := ix_dd (z := z) (dd z)[i] hm
  rw [hi] at h3
  have hin : ((i : Nat) : Int) ∈ numL z := by
    unfold numL
    exact List.mem_map.2 ⟨(dd z)[i], hm, by rw [hi]⟩
  rw [firstI, if_pos hin, h3]
def symsN (n : Nat) : List Int := List.map (fun i : Nat => (i : Int)) (List.range n)
theorem symsN_succ (n : Nat) : symsN (n + 1) = symsN n ++ [(n : Int)] := by simp [symsN, List.range_succ]
theorem putS_has (l : List St4) (p : Int × Int) (f sym : Int) : p ∈ prs (putS l p f sym) := by
  unfold putS; split
  · assumption
  · simp [prs, St4.pr]
theorem putS_keep {l : List St4} {p q : Int × Int} {f sym : Int} (h : q ∈ prs l) : q ∈ prs (putS l p f sym) := by
  unfold putS; split
  · exact h
  · rw [prs, List.map_append]; exact List.mem_append_left _ h
theorem fold_all {a b : DfaD} {s : St4} {at_ : Nat} {l : List St4} (keep : Nat → Bool) (hk : ∀ n, keep n = false → ∃ k, k < n ∧ nxP a b s (k : Int) = nxP a b s (n : Int)) : ∀ n, (symsN n).foldl (addS a b s at_) l = (List.map (fun i : Nat => (i : Int)) ((List.range n).filter keep)).foldl (addS a b s at_) l ∧ ∀ k, k < n → nxP a b s (k : Int) ∈ prs ((symsN n).foldl (addS a b s at_) l) := by
  intro n
  induction n with
  | zero => exact ⟨rfl, fun k h => by omega⟩
  | succ n ih =>
    obtain ⟨h1, h2⟩ := ih
    rw [symsN_succ, List.foldl_append, List.range_succ, List.filter_append, List.map_append, List.foldl_append, ← h1]
    simp only [List.foldl_cons, List.foldl_nil]
    refine ⟨?_, fun k hkn => ?_⟩
    · rcases hb : keep n with _ | _
      · obtain ⟨k, hkn, e⟩ := hk n hb
        have h3 := h2 k hkn
        rw [e] at h3
        have e3 : List.filter keep [n] = [] := by simp [hb]
        rw [e3]
        show putS _ _ _ _ = _
        rw [putS, if_pos h3]; rfl
      · have e3 : List.filter keep [n] = [n] := by simp [hb]
        rw [e3]; rfl
    · by_cases e : k = n
      · subst e; exact putS_has _ _ _ _
      · exact putS_keep (h2 k (by omega))
theorem firstsAB_keep {a b : DfaD} (ha : rightB a = true) (hb : rightB b = true) : firstsAB a b = List.map (fun i : Nat => (i : Int)) ((List.range 259).filter (keepZ (a.cls.zip b.cls))) := by
  have h1 := (rightB_iff.1 ha).1.1
  have h2 := (rightB_iff.1 hb).1.1
  have hl : (a.cls.zip b.cls).length = 259 := by rw [List.length_zip, h1, h2]; rfl
  unfold firstsAB joinL joinN
  rw [if_pos (by rw [h1, h2]), if_pos (by rw [h1, h2]), firsts_keep (by omega), hl]
theorem nx_same {a b : DfaD} {s : St4} {n : Nat} (ha : rightB a = true) (hb : rightB b = true) (hn : n < 259) (h : keepZ (a.cls.zip b.cls) n = false) : ∃ k, k < n ∧ nxP a b s (k : Int) = nxP a b s (n : Int) := by
  have h1 := (rightB_iff.1 ha).1.1
  have h2 := (rightB_iff.1 hb).1.1
  have h3 : ¬ ∀ k, k < n → (a.cls.zip b.cls)[k]? ≠ (a.cls.zip b.cls)[n]? := of_decide_eq_false h
  obtain ⟨k, hk⟩ := Classical.not_forall.1 h3
  obtain ⟨hkn, he⟩ := Classical.not_imp.1 hk
  have he := Classical.not_not.1 he
  have g : ∀ i, i < 259 → (a.cls.zip b.cls)[i]? = some (a.cls.getD i 0, b.cls.getD i 0) := fun i hi => by
    rw [List.getElem?_eq_getElem (by rw [List.length_zip]; omega), List.getElem_zip]
    simp [List.getD_eq_getElem?_getD, List.getElem?_eq_getElem (show i < a.cls.length by omega), List.getElem?_eq_getElem (show i < b.cls.length by omega)]
  rw [g k (by omega), g n hn] at he
  have he := Option.some.inj he
  simp only [Prod.mk.injEq] at he
  refine ⟨k, hkn, ?_⟩
  unfold nxP stepD
  simp only [Int.toNat_natCast, he.1, he.2]
theorem fold_firsts {a b : DfaD} {s : St4} {at_ : Nat} {l : List St4} (ha : rightB a = true) (hb : rightB b = true) : (symsN 259).foldl (addS a b s at_) l = (firstsAB a b).foldl (addS a b s at_) l := by
  have h := (fold_all (a := a) (b := b) (s := s) (at_ := at_) (l := l) (fun n => keepZ (a.cls.zip b.cls) n || decide (259 ≤ n)) (fun n hn => by
    simp only [Bool.or_eq_false_iff, decide_eq_false_iff_not] at hn
    exact nx_same ha hb (by omega) hn.1) 259).1
  have e : (List.range 259).filter (fun n => keepZ (a.cls.zip b.cls) n || decide (259 ≤ n)) = (List.range 259).filter (keepZ (a.cls.zip b.cls)) := List.filter_congr fun i hi => by
    have := List.mem_range.1 hi
    rw [decide_eq_false (by omega), Bool.or_false]
  rw [h, firstsAB_keep ha hb, e]
theorem apLoop_all {a b : DfaD} (ha : rightB a = true) (hb : rightB b = true) : ∀ (f at_ : Nat) (l : List St4), apLoop a b (symsN 259) f at_ l = apLoop a b (firstsAB a b) f at_ l
  | 0, _, _ => rfl
  | f + 1, at_, l => by
    simp only [apLoop, fold_firsts ha hb, apLoop_all ha hb f]
end Go.Sx

/- The least automaton as data; numbers that hang on what is alike alone. Conditions: those of each theorem. -/
namespace Go.Proofs.Ytoeockpkkmgieaa
open Go Go.Sx
set_option linter.unusedVariables false
set_option linter.unusedSimpArgs false
/-- Symbols. -/
def okW (w : List Int) : Prop := ∀ c, c ∈ w → 0 ≤ c ∧ c < 259
def accAt (d : DfaD) (s : Int) (w : List Int) : Bool := d.acc.getD (w.foldl (stepD d) s).toNat false
/-- Two states, of whatever automata, from which the same is accepted. -/
def LEq (d : DfaD) (s : Int) (e : DfaD) (t : Int) : Prop := ∀ w, okW w → accAt d s w = accAt e t w
theorem LEq.refl (d : DfaD) (s : Int) : LEq d s d s := fun _ _ => rfl
theorem LEq.symm {d e : DfaD} {s t : Int} (h : LEq d s e t) : LEq e t d s := fun w hw => (h w hw).symm
theorem LEq.trans {d e f : DfaD} {s t u : Int} (h : LEq d s e t) (k : LEq e t f u) : LEq d s f u := fun w hw => (h w hw).trans (k w hw)
theorem LEq.step {d e : DfaD} {s t c : Int} (h : LEq d s e t) (hc : 0 ≤ c ∧ c < 259) : LEq d (stepD d s c) e (stepD e t c) := fun w hw =>
  h (c :: w) (fun x hx => by rcases List.mem_cons.1 hx with rfl | hx; exact hc; exact hw x hx)
theorem okW.app {u v : List Int} (h : okW u) (k : okW v) : okW (u ++ v) := fun c hc => (List.mem_append.1 hc).elim (h c) (k c)
theorem okW.one {c : Int} (h : 0 ≤ c ∧ c < 259) : okW [c] := fun x hx => by rw [List.mem_singleton.1 hx]; exact h
theorem okW.tail {c : Int} {w : List Int} (h : okW (c :: w)) : (0 ≤ c ∧ c < 259) ∧ okW w := ⟨h c List.mem_cons_self, fun x hx => h x (List.mem_cons_of_mem _ hx)⟩
theorem LEq.acc {d e : DfaD} {s t : Int} (h : LEq d s e t) : d.acc.getD s.toNat false = e.acc.getD t.toNat false := h [] (fun c hc => by simp at hc)
theorem LEq.run {d e : DfaD} : ∀ (w : List Int) {s t : Int}, LEq d s e t → okW w → LEq d (w.foldl (stepD d) s) e (w.foldl (stepD e) t)
  | [], _, _, h, _ => h
  | c :: w, _, _, h, hw => LEq.run w (h.step hw.tail.1) hw.tail.2
/-- Not alike: told apart by symbols. -/
theorem dis_word {d : DfaD} (hr : rightB d = true) : ∀ {t i k : Nat}, i < d.acc.length → k < d.acc.length → disT d t i k → ∃ w, okW w ∧ accAt d i w ≠ accAt d k w
  | 0, i, k, hi, hk, h => ⟨[], fun c hc => by simp at hc, fun e => (show d.acc.getD i false ≠ d.acc.getD k false from h) (by simpa [accAt] using e)⟩
  | t + 1, i, k, hi, hk, h => by
    rcases h with h | ⟨c, hc, h⟩
    · exact dis_word hr hi hk h
    · obtain ⟨w, hw, hn⟩ := dis_word hr (dN_lt hr hi hc) (dN_lt hr hk hc) h
      rw [dN_int hr hi hc, dN_int hr hk hc] at hn
      exact ⟨c :: w, fun x hx => by rcases List.mem_cons.1 hx with rfl | hx; exact hc; exact hw x hx, hn⟩
theorem word_dis {d : DfaD} (hr : rightB d = true) : ∀ (w : List Int) {i k : Nat}, i < d.acc.length → k < d.acc.length → okW w → accAt d i w ≠ accAt d k w → Dis d i k
  | [], i, k, hi, hk, hw, h => ⟨0, by simpa [accAt, disT] using h⟩
  | c :: w, i, k, hi, hk, hw, h => by
    obtain ⟨hc, hw⟩ := hw.tail
    have h9 : accAt d ((dN d i c : Nat) : Int) w ≠ accAt d ((dN d k c : Nat) : Int) w := by rw [dN_int hr hi hc, dN_int hr hk hc]; exact h
    obtain ⟨t, ht⟩ := word_dis hr w (dN_lt hr hi hc) (dN_lt hr hk hc) hw h9
    exact ⟨t + 1, .inr ⟨c, hc, ht⟩⟩
theorem dis_iff {d : DfaD} (hr : rightB d = true) {i k : Nat} (hi : i < d.acc.length) (hk : k < d.acc.length) : ¬ Dis d i k ↔ LEq d i d k := by
  constructor
  · intro h w hw
    exact Classical.byContradiction fun hn => h (word_dis hr w hi hk hw hn)
  · rintro h ⟨t, ht⟩
    obtain ⟨w, hw, hn⟩ := dis_word hr hi hk ht
    exact hn (h w hw)
/-! ### The first that is like each one -/
structure FrQ (R : Nat → Nat → Prop) (f : List Int) (n : Nat) : Prop where
  len : f.length = n
  val : ∀ i, i < n → 0 ≤ f.getD i 0 ∧ f.getD i 0 ≤ (i : Int) ∧ R (f.getD i 0).toNat i ∧ ∀ k : Nat, (k : Int) < f.getD i 0 → ¬ R k i
theorem FrQ.uniq {R : Nat → Nat → Prop} {f g : List Int} {n : Nat} (h : FrQ R f n) (k : FrQ R g n) : f = g := by
  refine list_eq_of (d := 0) (by rw [h.len, k.len]) fun i hi => ?_
  rw [h.len] at hi
  have h1 := h.val i hi
  have h2 := k.val i hi
  rcases Int.lt_trichotomy (f.getD i 0) (g.getD i 0) with c | c | c
  · exact absurd h1.2.2.1 (h2.2.2.2 _ (by omega))
  · exact c
  · exact absurd h2.2.2.1 (h1.2.2.2 _ (by omega))
theorem FrQ.congr {R S : Nat → Nat → Prop} {f : List Int} {n : Nat} (h : FrQ R f n) (e : ∀ i k, i < n → k < n → (R i k ↔ S i k)) : FrQ S f n :=
  ⟨h.len, fun i hi => by
    have h1 := h.val i hi
    exact ⟨h1.1, h1.2.1, (e _ _ (by omega) hi).1 h1.2.2.1, fun k hk hs => h1.2.2.2 k hk ((e _ _ (by omega) hi).2 hs)⟩⟩
theorem FrQ.start (R : Nat → Nat → Prop) : FrQ R [] 0 := ⟨rfl, fun i h => by omega⟩
theorem FrQ.snoc {R : Nat → Nat → Prop} {f : List Int} {n : Nat} {x : Int} (h : FrQ R f n) (h0 : 0 ≤ x) (h1 : x ≤ (n : Int)) (h2 : R x.toNat n) (h3 : ∀ k : Nat, (k : Int) < x → ¬ R k n) : FrQ R (f ++ [x]) (n + 1) := by
  refine ⟨by simp [h.len], fun i hi => ?_⟩
  by_cases e : i = n
  · subst e
    have e2 : (f ++ [x]).getD i 0 = x := by simp [List.getD_eq_getElem?_getD, List.getElem?_append, h.len]
    rw [e2]; exact ⟨h0, h1, h2, h3⟩
  · have e2 : (f ++ [x]).getD i 0 = f.getD i 0 := by
      simp only [List.getD_eq_getElem?_getD, List.getElem?_append, h.len]; rw [if_pos (by omega)]
    rw [e2]; exact h.val i (by omega)
theorem FrQ.ex (R : Nat → Nat → Prop) (hr : ∀ i, R i i) : ∀ n, ∃ f, FrQ R f n
  | 0 => ⟨[], FrQ.start R⟩
  | n + 1 => by
    obtain ⟨f, hf⟩ := FrQ.ex R hr n
    obtain ⟨r, h1, h2, h3⟩ := least_of (fun k => R k n) n (hr n)
    exact ⟨f ++ [(r : Int)], hf.snoc (by omega) (by omega) (by simpa using h2) (fun k hk => h3 k (by omega))⟩
/-- Alike as such. -/
structure EqR (R : Nat → Nat → Prop) (n : Nat) : Prop where
  refl : ∀ i, i < n → R i i
  symm : ∀ i k, i < n → k < n → R i k → R k i
  trans : ∀ i j k, i < n → j < n → k < n → R i j → R j k → R i k
theorem FrQ.kernel {R : Nat → Nat → Prop} {f : List Int} {n : Nat} (h : FrQ R f n) (e : EqR R n) {i k : Nat} (hi : i < n) (hk : k < n) : f.getD i 0 = f.getD k 0 ↔ R i k := by
  have h1 := h.val i hi
  have h2 := h.val k hk
  constructor
  · intro c
    rw [← c] at h2
    exact e.trans _ _ _ hi (by omega) hk (e.symm _ _ (by omega) hi h1.2.2.1) h2.2.2.1
  · intro c
    rcases Int.lt_trichotomy (f.getD i 0) (f.getD k 0) with q | q | q
    · exact absurd (e.trans _ _ _ (by omega) hi hk h1.2.2.1 c) (h2.2.2.2 _ (by omega))
    · exact q
    · exact absurd (e.trans _ _ _ (by omega) hk hi h2.2.2.1 (e.symm _ _ hi hk c)) (h1.2.2.2 _ (by omega))
theorem FrQ.first {R : Nat → Nat → Prop} {f : List Int} {n : Nat} (h : FrQ R f n) (e : EqR R n) : FirstP f := fun i hi => by
  rw [h.len] at hi
  have h1 := h.val i hi
  exact ⟨h1.1, h1.2.1, (h.kernel e (by omega) hi).2 h1.2.2.1⟩
/-! ### Numbers hang on what is the same alone -/
section
variable {α β : Type} [DecidableEq α] [DecidableEq β]
theorem numG_old {l : List α} {x : α} (h : x ∈ l) : numL (l ++ [x]) = numL l ++ [((ix x (dd l) : Nat) : Int)] ∧ dd (l ++ [x]) = dd l := by
  have e : dd (l ++ [x]) = dd l := by rw [dd_snoc, if_pos ((dd_mem l x).2 h)]
  exact ⟨by unfold numL; rw [e, List.map_append]; rfl, e⟩
theorem ixG_snoc {x : α} : ∀ {l : List α}, x ∉ l → ix x (l ++ [x]) = l.length
  | [], _ => by simp [ix]
  | y :: l, h => by
    simp only [List.mem_cons, not_or] at h
    simp only [List.cons_append, ix, if_neg h.1, ixG_snoc h.2, List.length_cons]
theorem numG_new {l : List α} {x : α} (h : x ∉ l) : numL (l ++ [x]) = numL l ++ [((dd l).length : Int)] ∧ (dd (l ++ [x])).length = (dd l).length + 1 := by
  have hn : x ∉ dd l := fun h9 => h ((dd_mem l x).1 h9)
  have e : dd (l ++ [x]) = dd l ++ [x] := by rw [dd_snoc, if_neg hn]
  constructor
  · unfold numL; rw [e, List.map_append]
    congr 1
    · apply List.map_congr_left
      intro y hy
      rw [ix_app _ ((dd_mem l y).2 hy)]
    · simp only [List.map_cons, List.map_nil]; rw [ixG_snoc hn]
  · rw [e]; simp
theorem numG_get {l : List α} {i : Nat} {x : α} (h : l[i]? = some x) : (numL l)[i]? = some ((ix x (dd l) : Nat) : Int) := by
  unfold numL; rw [List.getElem?_map, h]; rfl
theorem num_kernel : ∀ (n : Nat) (l : List α) (m : List β), l.length = n → m.length = n → (∀ i k, i < n → k < n → (l[i]? = l[k]? ↔ m[i]? = m[k]?)) → numL l = numL m ∧ (dd l).length = (dd m).length := by
  intro n
  induction n with
  | zero =>
    intro l m hl hm _
    obtain rfl := List.length_eq_zero_iff.1 hl
    obtain rfl := List.length_eq_zero_iff.1 hm
    exact ⟨rfl, rfl⟩
  | succ n ih =>
    intro l m hl hm hk
    obtain ⟨l, x, rfl⟩ : ∃ y x, l = y ++ [x] := ⟨l.dropLast, l.getLast (by intro h; rw [h] at hl; simp at hl), (List.dropLast_concat_getLast _).symm⟩
    obtain ⟨m, y, rfl⟩ : ∃ y x, m = y ++ [x] := ⟨m.dropLast, m.getLast (by intro h; rw [h] at hm; simp at hm), (List.dropLast_concat_getLast _).symm⟩
    have hl' : l.length = n := by simpa using hl
    have hm' : m.length = n := by simpa using hm
    have gl : ∀ i, i < n → (l ++ [x])[i]? = l[i]? := fun i hi => List.getElem?_append_left (by omega)
    have gm : ∀ i, i < n → (m ++ [y])[i]? = m[i]? := fun i hi => List.getElem?_append_left (by omega)
    have el : (l ++ [x])[n]? = some x := by rw [← hl']; simp
    have em : (m ++ [y])[n]? = some y := by rw [← hm']; simp
    obtain ⟨h1, h2⟩ := ih l m hl' hm' (fun i k hi hk2 => by rw [← gl i hi, ← gl k hk2, ← gm i hi, ← gm k hk2]; exact hk i k (by omega) (by omega))
    have key : ∀ j, j < n → (l[j]? = some x ↔ m[j]? = some y) := fun j hj => by
      have := hk j n (by omega) (by omega)
      rwa [gl j hj, gm j hj, el, em] at this
    by_cases hx : x ∈ l
    · obtain ⟨j, hj, e⟩ := List.mem_iff_getElem.1 hx
      have e1 : l[j]? = some x := by rw [List.getElem?_eq_getElem hj, e]
      have e2 := (key j (by omega)).1 e1
      have hy : y ∈ m := List.mem_of_getElem? e2
      obtain ⟨a1, a2⟩ := numG_old hx
      obtain ⟨b1, b2⟩ := numG_old hy
      rw [a1, b1, a2, b2, h1]
      refine ⟨?_, h2⟩
      have c1 := numG_get e1
      have c2 := numG_get e2
      rw [h1, c2] at c1
      rw [Option.some.inj c1]
    · have hy : y ∉ m := fun h => by
        obtain ⟨j, hj, e⟩ := List.mem_iff_getElem.1 h
        exact hx (List.mem_of_getElem? ((key j (by omega)).2 (by rw [List.getElem?_eq_getElem hj, e])))
      obtain ⟨a1, a2⟩ := numG_new hx
      obtain ⟨b1, b2⟩ := numG_new hy
      rw [a1, b1, a2, b2, h1, h2]
      exact ⟨rfl, rfl⟩
theorem numG_kernel {l : List α} {i k : Nat} (hi : i < l.length) (hk : k < l.length) : (numL l)[i]? = (numL l)[k]? ↔ l[i]? = l[k]? := by
  rw [numG_get (List.getElem?_eq_getElem hi), numG_get (List.getElem?_eq_getElem hk), List.getElem?_eq_getElem hi, List.getElem?_eq_getElem hk]
  constructor
  · intro h
    have h1 := Option.some.inj h
    rw [ix_inj ((dd_mem _ _).2 (List.getElem_mem hi)) ((dd_mem _ _).2 (List.getElem_mem hk)) (by omega)]
  · intro h
    rw [Option.some.inj h]
theorem ix_congr : ∀ {l : List α} {m : List β} {x : α} {y : β}, l.length = m.length → (∀ i : Nat, i < l.length → (l[i]? = some x ↔ m[i]? = some y)) → ix x l = ix y m
  | [], [], _, _, _, _ => rfl
  | a :: l, b :: m, x, y, hl, h => by
    have h0 := h 0 (by simp)
    simp only [List.getElem?_cons_zero, Option.some.injEq] at h0
    simp only [ix]
    by_cases e : x = a
    · rw [if_pos e, if_pos (h0.1 e.symm).symm]
    · rw [if_neg e, if_neg (fun e2 => e (h0.2 e2.symm).symm), ix_congr (l := l) (m := m) (x := x) (y := y) (by simpa using hl) (fun i hi => by simpa using h (i + 1) (by simp; omega))]
  | [], _ :: _, _, _, hl, _ => by simp at hl
  | _ :: _, [], _, _, hl, _ => by simp at hl
end
end Go.Proofs.Ytoeockpkkmgieaa

/- Proved here: the least automaton, its states numbered as they are met: it is right, it accepts the same, its states are reached and no two of them alike, and it hangs on what is accepted alone. Conditions: those of each theorem. -/
namespace Go.Proofs.Ytoeockpkkmgieaa
open Go Go.Sx
set_option linter.unusedVariables false
set_option linter.unusedSimpArgs false
/-! ### One comes there by symbols -/
theorem nxR_by {d : DfaD} (hr : rightB d = true) {s t : Int} : t ∈ nxR d s ↔ ∃ c : Int, (0 ≤ c ∧ c < 259) ∧ stepD d s c = t := by
  have h1 := (rightB_iff.1 hr).1.1
  rw [nxR_mem, h1]
  constructor
  · rintro ⟨i, hi, e⟩; exact ⟨(i : Int), by omega, by unfold stepD; rw [Int.toNat_natCast]; exact e⟩
  · rintro ⟨c, hc, e⟩; exact ⟨c.toNat, by omega, e⟩
theorem to_word {d : DfaD} (hr : rightB d = true) {s t : Int} (h : To d s t) : ∃ w, okW w ∧ w.foldl (stepD d) s = t := by
  induction h with
  | refl s => exact ⟨[], fun c hc => by simp at hc, rfl⟩
  | step hu _ ih =>
    obtain ⟨w, hw, e⟩ := ih
    obtain ⟨c, hc, e2⟩ := (nxR_by hr).1 hu
    exact ⟨c :: w, fun x hx => by rcases List.mem_cons.1 hx with rfl | hx; exact hc; exact hw x hx, by rw [List.foldl_cons, e2]; exact e⟩
theorem word_to {d : DfaD} (hr : rightB d = true) : ∀ (w : List Int) (s : Int), okW w → To d s (w.foldl (stepD d) s)
  | [], s, _ => .refl s
  | c :: w, s, hw => .step ((nxR_by hr).2 ⟨c, hw.tail.1, rfl⟩) (word_to hr w _ hw.tail.2)
theorem To.sym {d : DfaD} (hr : rightB d = true) {s t c : Int} (h : To d s t) (hc : 0 ≤ c ∧ c < 259) : To d s (stepD d t c) := h.snoc ((nxR_by hr).2 ⟨c, hc, rfl⟩)
/-! ### Blocks of states, classes of symbols -/
def StR (d : DfaD) (k i : Nat) : Prop := LEq d (k : Int) d (i : Int)
def SymR (d : DfaD) (k sym : Nat) : Prop := ∀ s : Nat, s < d.acc.length → To d d.start (s : Int) → LEq d (stepD d (s : Int) (k : Int)) d (stepD d (s : Int) (sym : Int))
theorem stR_eq (d : DfaD) (n : Nat) : EqR (StR d) n := ⟨fun i _ => LEq.refl d i, fun i k _ _ h => LEq.symm h, fun i j k _ _ _ h1 h2 => LEq.trans h1 h2⟩
theorem symR_eq (d : DfaD) (n : Nat) : EqR (SymR d) n := ⟨fun i _ s _ _ => LEq.refl d _, fun i k _ _ h s h1 h2 => (h s h1 h2).symm, fun i j k _ _ _ h1 h2 s h3 h4 => (h1 s h3 h4).trans (h2 s h3 h4)⟩
noncomputable def blkF (d : DfaD) : List Int := Classical.choose (FrQ.ex (StR d) (fun i => LEq.refl d i) d.acc.length)
noncomputable def symF (d : DfaD) : List Int := Classical.choose (FrQ.ex (SymR d) (fun i s _ _ => LEq.refl d _) 259)
theorem blkF_q (d : DfaD) : FrQ (StR d) (blkF d) d.acc.length := Classical.choose_spec (FrQ.ex (StR d) (fun i => LEq.refl d i) d.acc.length)
theorem symF_q (d : DfaD) : FrQ (SymR d) (symF d) 259 := Classical.choose_spec (FrQ.ex (SymR d) (fun i s _ _ => LEq.refl d _) 259)
noncomputable def blkD (d : DfaD) : List Int := numL (blkF d)
theorem blkD_len (d : DfaD) : (blkD d).length = d.acc.length := by rw [blkD, numL_len, (blkF_q d).len]
theorem FrP.q {d : DfaD} (hr : rightB d = true) {f : List Int} (h : FrP d f d.acc.length) : FrQ (StR d) f d.acc.length :=
  ⟨h.len, fun i hi => by
    have h1 := h.val i hi
    refine ⟨h1.1, h1.2.1, (dis_iff hr (by omega) hi).1 (fun h9 => h1.2.2.1 (dis_symm h9)), fun k hk h9 => ?_⟩
    exact (dis_iff hr (by omega) hi).2 h9 (dis_symm (h1.2.2.2 k hk))⟩
theorem FrP.eq {d : DfaD} (hr : rightB d = true) {f : List Int} (h : FrP d f d.acc.length) : f = blkF d := (h.q hr).uniq (blkF_q d)
def blAt (bl : List Int) (s : Int) : Int := bl.getD s.toNat 0
/-- Numbers of blocks, whichever. -/
def BlkK (d : DfaD) (bl : List Int) : Prop := ∀ s t : Int, 0 ≤ s ∧ s < (d.acc.length : Int) → 0 ≤ t ∧ t < (d.acc.length : Int) → (blAt bl s = blAt bl t ↔ LEq d s d t)
theorem blkD_k (d : DfaD) : BlkK d (blkD d) := fun s t hs ht => by
  have hl := (blkF_q d).len
  have h1 := numG_kernel (l := blkF d) (i := s.toNat) (k := t.toNat) (by omega) (by omega)
  have h2 := (blkF_q d).kernel (stR_eq d _) (i := s.toNat) (k := t.toNat) (by omega) (by omega)
  unfold StR at h2
  rw [Int.toNat_of_nonneg hs.1, Int.toNat_of_nonneg ht.1] at h2
  rw [← h2]
  have e1 : s.toNat < (numL (blkF d)).length := by rw [numL_len]; omega
  have e2 : t.toNat < (numL (blkF d)).length := by rw [numL_len]; omega
  unfold blAt blkD
  simp only [List.getD_eq_getElem?_getD, List.getElem?_eq_getElem e1, List.getElem?_eq_getElem e2, List.getElem?_eq_getElem (show s.toNat < (blkF d).length by omega), List.getElem?_eq_getElem (show t.toNat < (blkF d).length by omega), Option.getD_some, Option.some.injEq] at h1 ⊢
  exact h1
/-! ### States numbered as they are met -/
def meetD (d : DfaD) (bl : List Int) (s : Int) (p : List Int × List Int) (sym : Int) : List Int × List Int :=
  if blAt bl (stepD d s sym) ∈ p.1.map (blAt bl) then (p.1, p.2 ++ [((ix (blAt bl (stepD d s sym)) (p.1.map (blAt bl)) : Nat) : Int)])
  else (p.1 ++ [stepD d s sym], p.2 ++ [(p.1.length : Int)])
def numLoop (d : DfaD) (bl fs : List Int) : Nat → Nat → List Int × List Int → List Int × List Int
  | 0, _, p => p
  | f + 1, at_, p => if at_ < p.1.length then numLoop d bl fs f (at_ + 1) (fs.foldl (meetD d bl (p.1.getD at_ 0)) p) else p
theorem numLoop_go {d : DfaD} {bl fs : List Int} {F at_ : Nat} {p : List Int × List Int} (hF : at_ < F) (h : at_ < p.1.length) :
    numLoop d bl fs (F - at_) at_ p = numLoop d bl fs (F - (at_ + 1)) (at_ + 1) (fs.foldl (meetD d bl (p.1.getD at_ 0)) p) := by
  have e : F - at_ = (F - (at_ + 1)) + 1 := by omega
  rw [e, numLoop, if_pos h]
theorem numLoop_end {d : DfaD} {bl fs : List Int} {F at_ : Nat} {p : List Int × List Int} (h : ¬ at_ < p.1.length) : numLoop d bl fs F at_ p = p := by
  cases F with
  | zero => rfl
  | succ F => rw [numLoop, if_neg h]
theorem meet_pre (d : DfaD) (bl : List Int) (s : Int) (p : List Int × List Int) (c : Int) : ∃ r, (meetD d bl s p c).1 = p.1 ++ r := by
  unfold meetD; split
  · exact ⟨[], by simp⟩
  · exact ⟨_, rfl⟩
theorem getD_pre {l r : List Int} {i : Nat} (h : i < l.length) : (l ++ r).getD i 0 = l.getD i 0 := by
  simp only [List.getD_eq_getElem?_getD, List.getElem?_append_left h]
theorem getD_last {l : List Int} {x : Int} : (l ++ [x]).getD l.length 0 = x := by simp [List.getD_eq_getElem?_getD]
structure NuI (d : DfaD) (fs : List Int) (p : List Int × List Int) (at_ j : Nat) : Prop where
  pos : 0 < p.1.length
  head : p.1.getD 0 0 = d.start
  rng : ∀ i, i < p.1.length → (0 ≤ p.1.getD i 0 ∧ p.1.getD i 0 < (d.acc.length : Int)) ∧ To d d.start (p.1.getD i 0)
  nd : ∀ i k, i < k → k < p.1.length → ¬ LEq d (p.1.getD i 0) d (p.1.getD k 0)
  nlen : p.2.length = at_ * fs.length + j
  nx : ∀ m, m < p.2.length → (0 ≤ p.2.getD m 0 ∧ p.2.getD m 0 < (p.1.length : Int)) ∧ m / fs.length < p.1.length ∧ LEq d (p.1.getD (p.2.getD m 0).toNat 0) d (stepD d (p.1.getD (m / fs.length) 0) (fs.getD (m % fs.length) 0))
  met : ∀ i, 0 < i → i < p.1.length → ∃ m, m < p.2.length ∧ m / fs.length < i ∧ p.2.getD m 0 = (i : Int)
theorem NuI.start {d : DfaD} (hr : rightB d = true) (fs : List Int) : NuI d fs ([d.start], []) 0 0 := by
  have hs := (rightB_iff.1 hr).1.2.2.2.2.2.2
  refine ⟨by simp, rfl, fun i hi => ?_, fun i k h1 h2 => ?_, by simp, fun m hm => by simp at hm, fun i h1 h2 => ?_⟩
  · have : i = 0 := by simp at hi; exact hi
    subst this; exact ⟨hs, .refl _⟩
  · simp at h2; omega
  · simp at h2; omega
theorem NuI.bound {d : DfaD} {fs : List Int} {p : List Int × List Int} {at_ j : Nat} (h : NuI d fs p at_ j) : p.1.length ≤ d.acc.length := by
  have key := nodup_le d.acc.length (p.1.map Int.toNat) ?_ ?_
  · simpa using key
  · rw [List.nodup_iff_pairwise_ne, List.pairwise_iff_getElem]
    intro i k hi hk hik e
    simp only [List.length_map] at hi hk
    simp only [List.getElem_map] at e
    have r1 := (h.rng i hi).1
    have r2 := (h.rng k hk).1
    refine h.nd i k hik hk ?_
    have e1 : p.1.getD i 0 = p.1[i] := by simp [List.getD_eq_getElem?_getD, List.getElem?_eq_getElem hi]
    have e2 : p.1.getD k 0 = p.1[k] := by simp [List.getD_eq_getElem?_getD, List.getElem?_eq_getElem hk]
    rw [e1] at r1 ⊢
    rw [e2] at r2 ⊢
    have : p.1[i] = p.1[k] := by omega
    rw [this]; exact LEq.refl _ _
  · intro x hx
    obtain ⟨y, hy, rfl⟩ := List.mem_map.1 hx
    obtain ⟨i, hi, rfl⟩ := List.mem_iff_getElem.1 hy
    have r1 := (h.rng i hi).1
    have e1 : p.1.getD i 0 = p.1[i] := by simp [List.getD_eq_getElem?_getD, List.getElem?_eq_getElem hi]
    rw [e1] at r1; omega
theorem divW {a W j : Nat} (h : j < W) : (a * W + j) / W = a ∧ (a * W + j) % W = j := by
  constructor
  · rw [Nat.mul_comm, Nat.mul_add_div (by omega), Nat.div_eq_of_lt h]; omega
  · rw [Nat.mul_comm, Nat.mul_add_mod, Nat.mod_eq_of_lt h]
theorem mem_blAt {d : DfaD} {bl : List Int} (hb : BlkK d bl) {l : List Int} (hl : ∀ i, i < l.length → 0 ≤ l.getD i 0 ∧ l.getD i 0 < (d.acc.length : Int)) {t : Int} (ht : 0 ≤ t ∧ t < (d.acc.length : Int)) :
    (blAt bl t ∈ l.map (blAt bl) ↔ ∃ i, i < l.length ∧ LEq d t d (l.getD i 0)) ∧ ∀ i, i < l.length → ((l.map (blAt bl))[i]? = some (blAt bl t) ↔ LEq d (l.getD i 0) d t) := by
  have key : ∀ i, i < l.length → ((l.map (blAt bl))[i]? = some (blAt bl t) ↔ LEq d (l.getD i 0) d t) := fun i hi => by
    have e1 : l.getD i 0 = l[i] := by simp [List.getD_eq_getElem?_getD, List.getElem?_eq_getElem hi]
    have h1 := hl i hi
    rw [e1] at h1 ⊢
    rw [List.getElem?_map, List.getElem?_eq_getElem hi, Option.map_some, Option.some.injEq, hb _ _ h1 ht]
  refine ⟨⟨fun h => ?_, fun ⟨i, hi, h⟩ => ?_⟩, key⟩
  · obtain ⟨i, hi, e⟩ := List.mem_iff_getElem?.1 h |> fun ⟨i, e⟩ => (⟨i, by have := (List.getElem?_eq_some_iff.1 e).1; simpa using this, e⟩ : ∃ i, i < l.length ∧ (l.map (blAt bl))[i]? = some (blAt bl t))
    exact ⟨i, hi, ((key i hi).1 e).symm⟩
  · exact List.mem_of_getElem? ((key i hi).2 h.symm)
theorem NuI.step {d : DfaD} (hr : rightB d = true) {bl fs : List Int} (hb : BlkK d bl) {p : List Int × List Int} {at_ j : Nat} {s : Int} (h : NuI d fs p at_ j) (hat : at_ < p.1.length) (hj : j < fs.length) (hc : 0 ≤ fs.getD j 0 ∧ fs.getD j 0 < 259) (hs : s = p.1.getD at_ 0) :
    NuI d fs (meetD d bl s p (fs.getD j 0)) at_ (j + 1) := by
  subst hs
  have hsr := h.rng at_ hat
  have ht := stepD_bd' hr hsr.1.1 hsr.1.2 hc
  have hto := hsr.2.sym hr hc
  have hm := mem_blAt hb (l := p.1) (fun i hi => (h.rng i hi).1) ht
  have hdv := divW (a := at_) hj
  rw [← h.nlen] at hdv
  unfold meetD
  split
  · rename_i hin
    have hlt := ix_lt hin
    rw [List.length_map] at hlt
    have hget := ix_get (d := 0) hin
    have hL : LEq d (p.1.getD (ix (blAt bl (stepD d (p.1.getD at_ 0) (fs.getD j 0))) (p.1.map (blAt bl))) 0) d (stepD d (p.1.getD at_ 0) (fs.getD j 0)) := by
      refine (hm.2 _ hlt).1 ?_
      rw [List.getD_eq_getElem?_getD, List.getElem?_eq_getElem (by rw [List.length_map]; exact hlt), Option.getD_some] at hget
      rw [List.getElem?_eq_getElem (by rw [List.length_map]; exact hlt), hget]
    refine ⟨h.pos, h.head, h.rng, h.nd, by simp [h.nlen]; omega, fun m hm2 => ?_, fun i h1 h2 => ?_⟩
    · simp only [List.length_append, List.length_singleton] at hm2
      by_cases e : m < p.2.length
      · simp only [getD_pre e]; exact h.nx m e
      · have e2 : m = p.2.length := by omega
        subst e2
        simp only [getD_last, hdv.1, hdv.2]
        exact ⟨by omega, hat, by rw [Int.toNat_natCast]; exact hL⟩
    · obtain ⟨m, q1, q2, q3⟩ := h.met i h1 h2
      exact ⟨m, by simp; omega, q2, by simp only [getD_pre q1]; exact q3⟩
  · rename_i hin
    have hg : ∀ i, i < p.1.length → (p.1 ++ [stepD d (p.1.getD at_ 0) (fs.getD j 0)]).getD i 0 = p.1.getD i 0 := fun i hi => getD_pre hi
    have hgl : (p.1 ++ [stepD d (p.1.getD at_ 0) (fs.getD j 0)]).getD p.1.length 0 = stepD d (p.1.getD at_ 0) (fs.getD j 0) := getD_last
    refine ⟨by simp, by simp only [hg 0 h.pos]; exact h.head, fun i hi => ?_, fun i k h1 h2 => ?_, by simp [h.nlen]; omega, fun m hm2 => ?_, fun i h1 h2 => ?_⟩
    · simp only [List.length_append, List.length_singleton] at hi
      by_cases e : i < p.1.length
      · simp only [hg i e]; exact h.rng i e
      · have e2 : i = p.1.length := by omega
        subst e2
        simp only [hgl]; exact ⟨ht, hto⟩
    · simp only [List.length_append, List.length_singleton] at h2
      by_cases e : k < p.1.length
      · simp only [hg i (by omega), hg k e]; exact h.nd i k h1 e
      · have e2 : k = p.1.length := by omega
        subst e2
        simp only [hg i h1, hgl]
        exact fun h9 => hin (hm.1.2 ⟨i, h1, h9.symm⟩)
    · simp only [List.length_append, List.length_singleton] at hm2 ⊢
      by_cases e : m < p.2.length
      · have q := h.nx m e
        simp only [getD_pre e, hg _ q.2.1, hg _ (show (p.2.getD m 0).toNat < p.1.length by omega)]
        exact ⟨by omega, by omega, q.2.2⟩
      · have e2 : m = p.2.length := by omega
        subst e2
        simp only [getD_last, hdv.1, hdv.2, Int.toNat_natCast, hgl, hg at_ hat]
        exact ⟨by omega, by omega, LEq.refl _ _⟩
    · simp only [List.length_append, List.length_singleton] at h2 ⊢
      by_cases e : i < p.1.length
      · obtain ⟨m, q1, q2, q3⟩ := h.met i h1 e
        exact ⟨m, by omega, q2, by simp only [getD_pre q1]; exact q3⟩
      · have e2 : i = p.1.length := by omega
        subst e2
        exact ⟨p.2.length, by omega, by rw [hdv.1]; exact hat, getD_last⟩
theorem meetFold_step {d : DfaD} {bl fs : List Int} {s : Int} {p : List Int × List Int} {j : Nat} (h : j < fs.length) : meetD d bl s ((fs.take j).foldl (meetD d bl s) p) (fs.getD j 0) = (fs.take (j + 1)).foldl (meetD d bl s) p := by
  rw [take_succ_getD 0 h, List.foldl_append]; rfl
theorem meetFold_pre (d : DfaD) (bl : List Int) (s : Int) : ∀ (fs : List Int) (p : List Int × List Int), ∃ r, (fs.foldl (meetD d bl s) p).1 = p.1 ++ r
  | [], p => ⟨[], by simp⟩
  | c :: fs, p => by
    obtain ⟨r, h⟩ := meet_pre d bl s p c
    obtain ⟨r2, h2⟩ := meetFold_pre d bl s fs (meetD d bl s p c)
    exact ⟨r ++ r2, by rw [List.foldl_cons, h2, h, List.append_assoc]⟩
theorem NuI.upto {d : DfaD} (hr : rightB d = true) {bl fs : List Int} (hb : BlkK d bl) (hfs : ∀ j, j < fs.length → 0 ≤ fs.getD j 0 ∧ fs.getD j 0 < 259) {p : List Int × List Int} {at_ : Nat} (h : NuI d fs p at_ 0) (hat : at_ < p.1.length) :
    ∀ j, j ≤ fs.length → NuI d fs ((fs.take j).foldl (meetD d bl (p.1.getD at_ 0)) p) at_ j
  | 0, _ => h
  | j + 1, hj => by
    have ih := NuI.upto hr hb hfs h hat j (by omega)
    rw [← meetFold_step (by omega)]
    obtain ⟨r, e⟩ := meetFold_pre d bl (p.1.getD at_ 0) (fs.take j) p
    exact ih.step hr hb (by rw [e, List.length_append]; omega) (by omega) (hfs j (by omega)) (by rw [e, getD_pre hat])
theorem NuI.next {d : DfaD} {fs : List Int} {p : List Int × List Int} {at_ j : Nat} (h : NuI d fs p at_ j) (hj : j = fs.length) : NuI d fs p (at_ + 1) 0 :=
  ⟨h.pos, h.head, h.rng, h.nd, by rw [h.nlen, hj, Nat.add_mul, Nat.one_mul, Nat.add_zero], h.nx, h.met⟩
theorem NuI.fold {d : DfaD} (hr : rightB d = true) {bl fs : List Int} (hb : BlkK d bl) (hfs : ∀ j, j < fs.length → 0 ≤ fs.getD j 0 ∧ fs.getD j 0 < 259) {p : List Int × List Int} {at_ : Nat} (h : NuI d fs p at_ 0) (hat : at_ < p.1.length) :
    NuI d fs (fs.foldl (meetD d bl (p.1.getD at_ 0)) p) (at_ + 1) 0 := by
  have h1 := NuI.upto hr hb hfs h hat fs.length (Nat.le_refl _)
  rw [List.take_length] at h1
  exact h1.next rfl
theorem NuI.loop {d : DfaD} (hr : rightB d = true) {bl fs : List Int} (hb : BlkK d bl) (hfs : ∀ j, j < fs.length → 0 ≤ fs.getD j 0 ∧ fs.getD j 0 < 259) : ∀ (F at_ : Nat) (p : List Int × List Int), NuI d fs p at_ 0 → at_ ≤ p.1.length → d.acc.length < F + at_ →
    NuI d fs (numLoop d bl fs F at_ p) (numLoop d bl fs F at_ p).1.length 0
  | 0, at_, p, h, h1, h2 => by have := h.bound; omega
  | F + 1, at_, p, h, h1, h2 => by
    rw [numLoop]
    split
    · rename_i hat
      have h3 := h.fold hr hb hfs hat
      obtain ⟨r, e⟩ := meetFold_pre d bl (p.1.getD at_ 0) fs p
      exact NuI.loop hr hb hfs F (at_ + 1) _ h3 (by rw [e, List.length_append]; omega) (by omega)
    · rename_i hat
      have : at_ = p.1.length := by omega
      subst this; exact h
/-! ### Two automata, side by side -/
structure CoI (d e : DfaD) (p q : List Int × List Int) : Prop where
  len : p.1.length = q.1.length
  nx : p.2 = q.2
  eqs : ∀ i, i < p.1.length → LEq d (p.1.getD i 0) e (q.1.getD i 0)
  rd : ∀ i, i < p.1.length → 0 ≤ p.1.getD i 0 ∧ p.1.getD i 0 < (d.acc.length : Int)
  re : ∀ i, i < q.1.length → 0 ≤ q.1.getD i 0 ∧ q.1.getD i 0 < (e.acc.length : Int)
theorem CoI.step {d e : DfaD} (hd : rightB d = true) (he : rightB e = true) {bl bm : List Int} (hbd : BlkK d bl) (hbe : BlkK e bm) {p q : List Int × List Int} (h : CoI d e p q) {s t c : Int} (hs : 0 ≤ s ∧ s < (d.acc.length : Int)) (ht : 0 ≤ t ∧ t < (e.acc.length : Int)) (hst : LEq d s e t) (hc : 0 ≤ c ∧ c < 259) :
    CoI d e (meetD d bl s p c) (meetD e bm t q c) := by
  have hs2 := stepD_bd' hd hs.1 hs.2 hc
  have ht2 := stepD_bd' he ht.1 ht.2 hc
  have hst2 := hst.step hc
  have m1 := mem_blAt hbd (l := p.1) h.rd hs2
  have m2 := mem_blAt hbe (l := q.1) h.re ht2
  have key : ∀ i, i < p.1.length → (LEq d (p.1.getD i 0) d (stepD d s c) ↔ LEq e (q.1.getD i 0) e (stepD e t c)) := fun i hi =>
    ⟨fun h9 => ((h.eqs i hi).symm.trans h9).trans hst2, fun h9 => ((h.eqs i hi).trans h9).trans hst2.symm⟩
  have hmem : blAt bl (stepD d s c) ∈ p.1.map (blAt bl) ↔ blAt bm (stepD e t c) ∈ q.1.map (blAt bm) := by
    rw [m1.1, m2.1]
    constructor
    · rintro ⟨i, hi, h9⟩; exact ⟨i, by rw [← h.len]; exact hi, ((key i hi).1 h9.symm).symm⟩
    · rintro ⟨i, hi, h9⟩; exact ⟨i, by rw [h.len]; exact hi, ((key i (by rw [h.len]; exact hi)).2 h9.symm).symm⟩
  unfold meetD
  by_cases hin : blAt bl (stepD d s c) ∈ p.1.map (blAt bl)
  · rw [if_pos hin, if_pos (hmem.1 hin)]
    have hix : ix (blAt bl (stepD d s c)) (p.1.map (blAt bl)) = ix (blAt bm (stepD e t c)) (q.1.map (blAt bm)) := by
      refine ix_congr (by simp [h.len]) fun i hi => ?_
      rw [List.length_map] at hi
      rw [m1.2 i hi, m2.2 i (by rw [← h.len]; exact hi)]
      exact key i hi
    exact ⟨h.len, by simp only [hix, h.nx], h.eqs, h.rd, h.re⟩
  · rw [if_neg hin, if_neg (fun h9 => hin (hmem.2 h9))]
    refine ⟨by simp [h.len], by simp only [h.len, h.nx], fun i hi => ?_, fun i hi => ?_, fun i hi => ?_⟩
    · simp only [List.length_append, List.length_singleton] at hi
      by_cases e9 : i < p.1.length
      · simp only [getD_pre e9, getD_pre (show i < q.1.length by rw [← h.len]; exact e9)]; exact h.eqs i e9
      · have e2 : i = p.1.length := by omega
        subst e2
        simp only [getD_last]
        rw [h.len, getD_last]; exact hst2
    · simp only [List.length_append, List.length_singleton] at hi
      by_cases e9 : i < p.1.length
      · simp only [getD_pre e9]; exact h.rd i e9
      · have e2 : i = p.1.length := by omega
        subst e2
        simp only [getD_last]; exact hs2
    · simp only [List.length_append, List.length_singleton] at hi
      by_cases e9 : i < q.1.length
      · simp only [getD_pre e9]; exact h.re i e9
      · have e2 : i = q.1.length := by omega
        subst e2
        simp only [getD_last]; exact ht2
theorem CoI.fold {d e : DfaD} (hd : rightB d = true) (he : rightB e = true) {bl bm : List Int} (hbd : BlkK d bl) (hbe : BlkK e bm) {s t : Int} (hs : 0 ≤ s ∧ s < (d.acc.length : Int)) (ht : 0 ≤ t ∧ t < (e.acc.length : Int)) (hst : LEq d s e t) :
    ∀ (fs : List Int) (p q : List Int × List Int), okW fs → CoI d e p q → CoI d e (fs.foldl (meetD d bl s) p) (fs.foldl (meetD e bm t) q)
  | [], p, q, _, h => h
  | c :: fs, p, q, hf, h => CoI.fold hd he hbd hbe hs ht hst fs _ _ hf.tail.2 (h.step hd he hbd hbe hs ht hst hf.tail.1)
theorem CoI.loop {d e : DfaD} (hd : rightB d = true) (he : rightB e = true) {bl bm : List Int} (hbd : BlkK d bl) (hbe : BlkK e bm) {fs : List Int} (hf : okW fs) :
    ∀ (F at_ : Nat) (p q : List Int × List Int), CoI d e p q → CoI d e (numLoop d bl fs F at_ p) (numLoop e bm fs F at_ q)
  | 0, _, p, q, h => h
  | F + 1, at_, p, q, h => by
    rw [numLoop, numLoop]
    by_cases hat : at_ < p.1.length
    · rw [if_pos hat, if_pos (by rw [← h.len]; exact hat)]
      exact CoI.loop hd he hbd hbe hf F (at_ + 1) _ _ (CoI.fold hd he hbd hbe (h.rd at_ hat) (h.re at_ (by rw [← h.len]; exact hat)) (h.eqs at_ hat) fs p q hf h)
    · rw [if_neg hat, if_neg (by rw [← h.len]; exact hat)]; exact h
end Go.Proofs.Ytoeockpkkmgieaa

/- Proved here: the least automaton is right, accepts what the automaton accepts, has no more states, all reached and no two alike; two automata have the same least one just if they accept the same. Conditions: those of each theorem. -/
namespace Go.Proofs.Ytoeockpkkmgieaa
open Go Go.Sx
set_option linter.unusedVariables false
set_option linter.unusedSimpArgs false
noncomputable def headsD (d : DfaD) : List Int := firstsI (numL (symF d)) ((dd (symF d)).length : Int)
noncomputable def numD (d : DfaD) : List Int × List Int := numLoop d (blkD d) (headsD d) 4097 0 ([d.start], [])
noncomputable def leastD (d : DfaD) : DfaD := ⟨numL (symF d), ((dd (symF d)).length : Int), 0, (numD d).2, (numD d).1.map fun s => d.acc.getD s.toNat false⟩
theorem symF_dd (d : DfaD) : 1 ≤ (dd (symF d)).length ∧ (dd (symF d)).length ≤ 259 := by
  have h1 := dd_len (symF d)
  rw [(symF_q d).len] at h1
  refine ⟨?_, h1⟩
  have h2 : (symF d).getD 0 0 ∈ symF d := getD_mem' (by rw [(symF_q d).len]; omega)
  exact List.length_pos_of_mem ((dd_mem _ _).2 h2)
theorem headsD_len (d : DfaD) : (headsD d).length = (dd (symF d)).length := by
  have := symF_dd d
  unfold headsD; rw [firstsI_len]; omega
/-- The first symbol of a class is of that class. -/
theorem headsD_at (d : DfaD) {c : Nat} (hc : c < (dd (symF d)).length) : 0 ≤ (headsD d).getD c 0 ∧ (headsD d).getD c 0 < 259 ∧ (numL (symF d)).getD ((headsD d).getD c 0).toNat 0 = (c : Int) := by
  have hw := symF_dd d
  obtain ⟨i, hi, e⟩ := numL_surj hc
  have hl : (numL (symF d)).length = 259 := by rw [numL_len, (symF_q d).len]
  have hm : (c : Int) ∈ numL (symF d) := by rw [← e]; exact getD_mem' (by rw [numL_len]; exact hi)
  have hlt := ix_lt hm
  rw [headsD, firstsI_get (by omega), firstI, if_pos hm]
  exact ⟨by omega, by omega, by rw [Int.toNat_natCast]; exact ix_get hm⟩
theorem headsD_bd (d : DfaD) : ∀ j, j < (headsD d).length → 0 ≤ (headsD d).getD j 0 ∧ (headsD d).getD j 0 < 259 := fun j hj => by
  rw [headsD_len] at hj
  have := headsD_at d hj
  exact ⟨this.1, this.2.1⟩
theorem headsD_ok (d : DfaD) : okW (headsD d) := fun c hc => by
  obtain ⟨j, hj, rfl⟩ := List.mem_iff_getElem.1 hc
  have := headsD_bd d j hj
  simpa [List.getD_eq_getElem?_getD, List.getElem?_eq_getElem hj] using this
theorem symN_bd (d : DfaD) {sym : Nat} (hs : sym < 259) : 0 ≤ (numL (symF d)).getD sym 0 ∧ (numL (symF d)).getD sym 0 < ((dd (symF d)).length : Int) := by
  have hl := (symF_q d).len
  rw [numL_getD (by omega)]
  have := ix_lt ((dd_mem (symF d) _).2 (getD_mem' (d := 0) (show sym < (symF d).length by omega)))
  omega
/-- A symbol is alike to the first one of its class. -/
theorem headsD_sym (d : DfaD) {sym : Nat} (hs : sym < 259) : SymR d ((headsD d).getD ((numL (symF d)).getD sym 0).toNat 0).toNat sym := by
  have hb := symN_bd d hs
  have hl := (symF_q d).len
  have hh := headsD_at d (c := ((numL (symF d)).getD sym 0).toNat) (by omega)
  rw [Int.toNat_of_nonneg hb.1] at hh
  refine ((symF_q d).kernel (symR_eq d 259) (by omega) hs).1 ?_
  have h1 := numG_kernel (l := symF d) (i := ((headsD d).getD ((numL (symF d)).getD sym 0).toNat 0).toNat) (k := sym) (by omega) (by omega)
  have l1 : ((headsD d).getD ((numL (symF d)).getD sym 0).toNat 0).toNat < (numL (symF d)).length := by rw [numL_len]; omega
  have l2 : sym < (numL (symF d)).length := by rw [numL_len]; omega
  have h2 : (numL (symF d))[((headsD d).getD ((numL (symF d)).getD sym 0).toNat 0).toNat]? = (numL (symF d))[sym]? := by
    rw [List.getElem?_eq_getElem l1, List.getElem?_eq_getElem l2]
    have h3 := hh.2.2
    rw [List.getD_eq_getElem?_getD, List.getElem?_eq_getElem l1, Option.getD_some] at h3
    rw [h3, List.getD_eq_getElem?_getD, List.getElem?_eq_getElem l2, Option.getD_some]
  have h4 := h1.1 h2
  have gd : ∀ k, (symF d).getD k 0 = ((symF d)[k]?).getD 0 := fun k => List.getD_eq_getElem?_getD ..
  rw [gd, gd, h4]
theorem numD_I {d : DfaD} (hr : rightB d = true) : NuI d (headsD d) (numD d) (numD d).1.length 0 := by
  have hn := (rightB_iff.1 hr).1.2.2.2.2.1
  exact NuI.loop hr (blkD_k d) (headsD_bd d) 4097 0 _ (NuI.start hr _) (by simp) (by omega)
theorem leastD_len {d : DfaD} (hr : rightB d = true) : (leastD d).acc.length = (numD d).1.length ∧ (leastD d).acc.length ≤ d.acc.length ∧ 1 ≤ (leastD d).acc.length := by
  have h := numD_I hr
  have e : (leastD d).acc.length = (numD d).1.length := by simp [leastD]
  exact ⟨e, by rw [e]; exact h.bound, by rw [e]; exact h.pos⟩
theorem leastD_right {d : DfaD} (hr : rightB d = true) : rightB (leastD d) = true := by
  have h := numD_I hr
  have hl := leastD_len hr
  have hw := symF_dd d
  have hn := (rightB_iff.1 hr).1.2.2.2.2.1
  refine rightB_iff.2 ⟨⟨?_, ?_, ?_, ?_, ?_, ?_, ?_, ?_⟩, ?_, ?_⟩
  · show (numL (symF d)).length = 259; rw [numL_len, (symF_q d).len]
  · show (1 : Int) ≤ ((dd (symF d)).length : Int); omega
  · show ((dd (symF d)).length : Int) ≤ 259; omega
  · exact hl.2.2
  · omega
  · show ((numD d).2.length : Int) = _
    rw [hl.1, h.nlen, headsD_len]
    show _ = (((numD d).1.length : Nat) : Int) * (((dd (symF d)).length : Nat) : Int)
    rw [← Int.natCast_mul]; simp
  · show (0 : Int) ≤ 0; omega
  · show (0 : Int) < _; omega
  · exact within_of fun i hi => symN_bd d (by have h1 : i < (numL (symF d)).length := hi; rw [numL_len, (symF_q d).len] at h1; exact h1)
  · refine within_of fun i hi => ?_
    have h1 := (h.nx i hi).1
    rw [hl.1]
    exact h1
/-- A step of the least automaton. -/
theorem leastD_step {d : DfaD} (hr : rightB d = true) {i : Nat} (hi : i < (numD d).1.length) {c : Int} (hc : 0 ≤ c ∧ c < 259) :
    (0 ≤ stepD (leastD d) (i : Int) c ∧ stepD (leastD d) (i : Int) c < ((numD d).1.length : Int)) ∧ LEq d ((numD d).1.getD (stepD (leastD d) (i : Int) c).toNat 0) d (stepD d ((numD d).1.getD i 0) c) := by
  have h := numD_I hr
  have hb := symN_bd d (sym := c.toNat) (by omega)
  have hs := headsD_sym d (sym := c.toNat) (by omega)
  have hlh := headsD_len d
  have e1 : stepD (leastD d) (i : Int) c = (numD d).2.getD (i * (headsD d).length + ((numL (symF d)).getD c.toNat 0).toNat) 0 := by
    unfold stepD
    show (numD d).2.getD (((i : Nat) : Int) * ((dd (symF d)).length : Int) + (numL (symF d)).getD c.toNat 0).toNat 0 = _
    congr 1
    rw [hlh]
    have h1 : (((i : Nat) : Int) * ((dd (symF d)).length : Int)) = ((i * (dd (symF d)).length : Nat) : Int) := by rw [Int.natCast_mul]
    omega
  have hlt : ((numL (symF d)).getD c.toNat 0).toNat < (headsD d).length := by omega
  have hm : i * (headsD d).length + ((numL (symF d)).getD c.toNat 0).toNat < (numD d).2.length := by
    rw [h.nlen]
    have h2 := Nat.mul_le_mul_right (headsD d).length (show i + 1 ≤ (numD d).1.length by omega)
    rw [Nat.add_mul, Nat.one_mul] at h2
    omega
  have hx := h.nx _ hm
  have hdv := divW (a := i) hlt
  rw [hdv.1, hdv.2] at hx
  rw [e1]
  refine ⟨hx.1, hx.2.2.trans ?_⟩
  have hri := h.rng i hi
  have h3 := hs ((numD d).1.getD i 0).toNat (by omega) (by rw [Int.toNat_of_nonneg hri.1.1]; exact hri.2)
  have h4 := headsD_at d (c := ((numL (symF d)).getD c.toNat 0).toNat) (by omega)
  rw [Int.toNat_of_nonneg hri.1.1, Int.toNat_of_nonneg hc.1, Int.toNat_of_nonneg h4.1] at h3
  exact h3
theorem leastD_accAt {d : DfaD} (hr : rightB d = true) : ∀ (w : List Int) (i : Nat), i < (numD d).1.length → okW w → accAt (leastD d) (i : Int) w = accAt d ((numD d).1.getD i 0) w
  | [], i, hi, _ => by
    show ((numD d).1.map fun s => d.acc.getD s.toNat false).getD (i : Int).toNat false = d.acc.getD ((numD d).1.getD i 0).toNat false
    rw [Int.toNat_natCast]
    simp [List.getD_eq_getElem?_getD, List.getElem?_eq_getElem hi]
  | c :: w, i, hi, hw => by
    have h1 := leastD_step hr hi hw.tail.1
    have ih := leastD_accAt hr w (stepD (leastD d) (i : Int) c).toNat (by omega) hw.tail.2
    rw [Int.toNat_of_nonneg h1.1.1] at ih
    show accAt (leastD d) (stepD (leastD d) (i : Int) c) w = accAt d (stepD d ((numD d).1.getD i 0) c) w
    rw [ih]
    exact h1.2 w hw.tail.2
theorem leastD_leq {d : DfaD} (hr : rightB d = true) {i : Nat} (hi : i < (numD d).1.length) : LEq (leastD d) (i : Int) d ((numD d).1.getD i 0) := fun w hw => leastD_accAt hr w i hi hw
theorem leastD_lang {d : DfaD} (hr : rightB d = true) : LEq (leastD d) (leastD d).start d d.start := by
  have h := numD_I hr
  have h1 := leastD_leq hr h.pos
  rw [h.head] at h1
  exact h1
theorem leastD_unlike {d : DfaD} (hr : rightB d = true) {i k : Nat} (hik : i < k) (hk : k < (leastD d).acc.length) : Dis (leastD d) i k := by
  have hl := leastD_len hr
  have h := numD_I hr
  have hrl := leastD_right hr
  rw [hl.1] at hk
  refine Classical.byContradiction fun hn => ?_
  have h1 := (dis_iff hrl (by rw [hl.1]; omega) (by rw [hl.1]; exact hk)).1 hn
  exact h.nd i k hik hk (((leastD_leq hr (by omega)).symm.trans h1).trans (leastD_leq hr hk))
theorem leastD_reach {d : DfaD} (hr : rightB d = true) : ∀ i, i < (leastD d).acc.length → To (leastD d) (leastD d).start (i : Int) := by
  have hl := leastD_len hr
  have h := numD_I hr
  have hrl := leastD_right hr
  have hlh := headsD_len d
  have hw := symF_dd d
  intro i
  induction i using Nat.strongRecOn with
  | _ i ih =>
    intro hi
    by_cases e : i = 0
    · subst e; exact .refl _
    · obtain ⟨m, h1, h2, h3⟩ := h.met i (by omega) (by rw [← hl.1]; exact hi)
      have h4 := ih _ h2 (by omega)
      have hmod : m % (headsD d).length < (dd (symF d)).length := by rw [hlh]; exact Nat.mod_lt _ (by omega)
      have h5 := headsD_at d hmod
      have h6 := h4.sym hrl (c := (headsD d).getD (m % (headsD d).length) 0) ⟨h5.1, h5.2.1⟩
      have e1 : stepD (leastD d) ((m / (headsD d).length : Nat) : Int) ((headsD d).getD (m % (headsD d).length) 0) = (i : Int) := by
        unfold stepD
        show (numD d).2.getD (((m / (headsD d).length : Nat) : Int) * ((dd (symF d)).length : Int) + (numL (symF d)).getD ((headsD d).getD (m % (headsD d).length) 0).toNat 0).toNat 0 = _
        rw [h5.2.2, ← h3]
        congr 1
        have h8 : (((m / (headsD d).length : Nat) : Int) * ((dd (symF d)).length : Int)) = ((m / (headsD d).length * (headsD d).length : Nat) : Int) := by rw [hlh, Int.natCast_mul]
        have h9 := Nat.div_add_mod m (headsD d).length
        rw [Nat.mul_comm] at h9
        omega
      rw [e1] at h6
      exact h6
/-! ### It hangs on what is accepted alone -/
theorem symR_lang {d e : DfaD} (hd : rightB d = true) (he : rightB e = true) (h : LEq d d.start e e.start) {i k : Nat} (hi : i < 259) (hk : k < 259) (hR : SymR d i k) : SymR e i k := by
  intro s hs hto
  obtain ⟨w, hw, ew⟩ := to_word he hto
  have hsd := (rightB_iff.1 hd).1.2.2.2.2.2.2
  have h1 := LEq.run w h hw
  rw [ew] at h1
  have h2 := fold_rng hd w d.start hsd hw
  have h3 := hR (w.foldl (stepD d) d.start).toNat (by omega) (by rw [Int.toNat_of_nonneg h2.1]; exact word_to hd w _ hw)
  rw [Int.toNat_of_nonneg h2.1] at h3
  exact ((h1.step (c := (i : Int)) (by omega)).symm.trans h3).trans (h1.step (c := (k : Int)) (by omega))
theorem symF_lang {d e : DfaD} (hd : rightB d = true) (he : rightB e = true) (h : LEq d d.start e e.start) : symF d = symF e :=
  ((symF_q d).congr fun i k hi hk => ⟨symR_lang hd he h hi hk, symR_lang he hd h.symm hi hk⟩).uniq (symF_q e)
theorem leastD_congr {d e : DfaD} (hd : rightB d = true) (he : rightB e = true) (h : LEq d d.start e e.start) : leastD d = leastD e := by
  have hs := symF_lang hd he h
  have hh : headsD d = headsD e := by unfold headsD; rw [hs]
  have hsd := (rightB_iff.1 hd).1.2.2.2.2.2.2
  have hse := (rightB_iff.1 he).1.2.2.2.2.2.2
  have h0 : CoI d e ([d.start], []) ([e.start], []) := by
    refine ⟨rfl, rfl, fun i hi => ?_, fun i hi => ?_, fun i hi => ?_⟩
    · have : i = 0 := by simp at hi; exact hi
      subst this; exact h
    · have : i = 0 := by simp at hi; exact hi
      subst this; exact hsd
    · have : i = 0 := by simp at hi; exact hi
      subst this; exact hse
  have hc : CoI d e (numD d) (numD e) := by
    unfold numD; rw [hh]
    exact CoI.loop hd he (blkD_k d) (blkD_k e) (headsD_ok e) 4097 0 _ _ h0
  unfold leastD
  rw [hs, hc.nx]
  congr 1
  refine List.ext_getElem (by simp [hc.len]) fun i h1 h2 => ?_
  simp only [List.length_map] at h1 h2
  have h3 := (hc.eqs i h1).acc
  simp only [List.getElem_map]
  simpa [List.getD_eq_getElem?_getD, List.getElem?_eq_getElem h1, List.getElem?_eq_getElem h2] using h3
theorem leastD_iff {d e : DfaD} (hd : rightB d = true) (he : rightB e = true) : leastD d = leastD e ↔ LEq d d.start e e.start := by
  constructor
  · intro h
    have h1 := leastD_lang hd
    have h2 := leastD_lang he
    rw [h] at h1
    exact h1.symm.trans h2
  · exact leastD_congr hd he
theorem leastD_once {d : DfaD} (hd : rightB d = true) : leastD (leastD d) = leastD d := leastD_congr (leastD_right hd) hd (leastD_lang hd)
/-! ### What is accepted, of any numbers -/
theorem runFrom_no {d : DfaD} : ∀ (w : List Int) (k : Nat) (q : Int), (∃ i, k ≤ i ∧ i < w.length ∧ ¬ (0 ≤ w.getD i 0 ∧ w.getD i 0 < 259)) → runFrom d w k q = -1 := by
  intro w k q h
  induction hm : w.length - k generalizing k q with
  | zero => obtain ⟨i, h1, h2, _⟩ := h; omega
  | succ m ih =>
    obtain ⟨i, h1, h2, h3⟩ := h
    by_cases hb : 0 ≤ w.getD k 0 ∧ w.getD k 0 < 259
    · rw [runFrom_step (by omega) hb.1 hb.2]
      refine ih (k + 1) _ ⟨i, ?_, h2, h3⟩ (by omega)
      by_cases e : i = k
      · subst e; exact absurd hb h3
      · omega
    · exact runFrom_bad (by omega) hb
theorem accepts_bad {d : DfaD} (hr : rightB d = true) {w : List Int} (hw : ¬ okW w) : acceptsB d w = false := by
  have hs := (rightB_iff.1 hr).1.2.2.2.2.2.2
  refine acceptsB_no ?_
  rw [runF_go (by rw [hr]; simp) hs.1 hs.2, runFrom_no]
  · decide
  · refine Classical.byContradiction fun hn => hw fun c hc => ?_
    obtain ⟨i, hi, rfl⟩ := List.mem_iff_getElem.1 hc
    refine Classical.byContradiction fun h9 => hn ⟨i, by omega, hi, ?_⟩
    simpa [List.getD_eq_getElem?_getD, List.getElem?_eq_getElem hi] using h9
theorem leq_accepts {d e : DfaD} (hd : rightB d = true) (he : rightB e = true) (h : LEq d d.start e e.start) (w : List Int) : acceptsB d w = acceptsB e w := by
  by_cases hw : okW w
  · rw [accepts_fold hd hw, accepts_fold he hw]; exact h w hw
  · rw [accepts_bad hd hw, accepts_bad he hw]
end Go.Proofs.Ytoeockpkkmgieaa

/- Rounds of the numbering of states, and of the classes of symbols, in the programs' words. Conditions: those of each theorem. -/
namespace Go.Proofs.Ytoeockpkkmgieaa
open Go Go.Sx
set_option linter.unusedVariables false
set_option linter.unusedSimpArgs false
/-- The map of what was met. -/
def MetM (mm : List (Int × Int)) (met : List Int) : Prop := ∀ x, getM mm x = if x ∈ met then some ((ix x met : Nat) : Int) else none
theorem MetM.start (b : Int) : MetM (putM [] b 0) [b] := fun x => by
  rw [getM_put]
  by_cases e : x = b
  · subst e; simp [ix]
  · rw [if_neg e, if_neg (by simpa using e)]; rfl
theorem MetM.new {mm : List (Int × Int)} {met : List Int} {b : Int} (h : MetM mm met) (hb : b ∉ met) : MetM (putM mm b ((met.length : Nat) : Int)) (met ++ [b]) := fun x => by
  rw [getM_put]
  by_cases e : x = b
  · subst e; rw [if_pos rfl, if_pos (by simp), ix_snoc hb]
  · rw [if_neg e, h x]
    by_cases e2 : x ∈ met
    · rw [if_pos e2, if_pos (List.mem_append_left _ e2), ix_app _ e2]
    · rw [if_neg e2, if_neg (by simp only [List.mem_append, List.mem_singleton]; exact fun h9 => h9.elim e2 e)]
theorem nu_old {d : DfaD} {bl fs hs nx tt mx : List Int} {mj : List (Int × Int)} {s : Int} {j : Nat} (hF : (tt, mx) = (fs.take j).foldl (meetD d bl s) (hs, nx)) (hM : MetM mj (tt.map (blAt bl))) (hj : j < fs.length)
    (hc : (getM mj (blAt bl (stepD d s (fs.getD j 0)))).isSome = true) : (tt, mx ++ [(getM mj (blAt bl (stepD d s (fs.getD j 0)))).getD 0]) = (fs.take (j + 1)).foldl (meetD d bl s) (hs, nx) := by
  rw [← meetFold_step hj, ← hF]
  rw [hM] at hc ⊢
  by_cases h : blAt bl (stepD d s (fs.getD j 0)) ∈ tt.map (blAt bl)
  · unfold meetD; rw [if_pos h, if_pos h]; rfl
  · rw [if_neg h] at hc; cases hc
theorem nu_new {d : DfaD} {bl fs hs nx tt mx : List Int} {mj : List (Int × Int)} {s : Int} {j : Nat} (hF : (tt, mx) = (fs.take j).foldl (meetD d bl s) (hs, nx)) (hM : MetM mj (tt.map (blAt bl))) (hj : j < fs.length)
    (hc : ¬ (getM mj (blAt bl (stepD d s (fs.getD j 0)))).isSome = true) : (tt ++ [stepD d s (fs.getD j 0)], mx ++ [((tt.length : Nat) : Int)]) = (fs.take (j + 1)).foldl (meetD d bl s) (hs, nx) ∧
      MetM (putM mj (blAt bl (stepD d s (fs.getD j 0))) ((tt.length : Nat) : Int)) ((tt ++ [stepD d s (fs.getD j 0)]).map (blAt bl)) := by
  rw [← meetFold_step hj, ← hF]
  rw [hM] at hc
  by_cases h : blAt bl (stepD d s (fs.getD j 0)) ∈ tt.map (blAt bl)
  · rw [if_pos h] at hc; exact absurd rfl hc
  · refine ⟨by unfold meetD; rw [if_neg h], ?_⟩
    have := hM.new h
    rw [List.length_map] at this
    rw [List.map_append]; exact this
theorem nu_old' {d : DfaD} {bl fs hs nx tt mx : List Int} {s : Int} {j : Nat} (hF : (tt, mx) = (fs.take j).foldl (meetD d bl s) (hs, nx)) (hj : j < fs.length)
    (hc : ¬ firstI (blAt bl (stepD d s (fs.getD j 0))) (tt.map (blAt bl)) < 0) : (tt, mx ++ [firstI (blAt bl (stepD d s (fs.getD j 0))) (tt.map (blAt bl))]) = (fs.take (j + 1)).foldl (meetD d bl s) (hs, nx) := by
  rw [← meetFold_step hj, ← hF]
  have h : blAt bl (stepD d s (fs.getD j 0)) ∈ tt.map (blAt bl) := Classical.byContradiction fun h => hc (firstI_neg.2 h)
  unfold meetD firstI; rw [if_pos h, if_pos h]
theorem nu_new' {d : DfaD} {bl fs hs nx tt mx : List Int} {s : Int} {j : Nat} (hF : (tt, mx) = (fs.take j).foldl (meetD d bl s) (hs, nx)) (hj : j < fs.length)
    (hc : firstI (blAt bl (stepD d s (fs.getD j 0))) (tt.map (blAt bl)) < 0) : (tt ++ [stepD d s (fs.getD j 0)], mx ++ [((tt.length : Nat) : Int)]) = (fs.take (j + 1)).foldl (meetD d bl s) (hs, nx) := by
  rw [← meetFold_step hj, ← hF]
  unfold meetD; rw [if_neg (firstI_neg.1 hc)]
theorem NuI.at' {d : DfaD} (hr : rightB d = true) {bl fs hs nx tt mx : List Int} (hb : BlkK d bl) (hfs : ∀ j, j < fs.length → 0 ≤ fs.getD j 0 ∧ fs.getD j 0 < 259) {k j : Nat} (h : NuI d fs (hs, nx) k 0) (hk : k < hs.length) (hj : j ≤ fs.length)
    (hF : (tt, mx) = (fs.take j).foldl (meetD d bl (hs.getD k 0)) (hs, nx)) : NuI d fs (tt, mx) k j ∧ ∃ r, tt = hs ++ r := by
  rw [hF]
  refine ⟨NuI.upto hr hb hfs h hk j hj, ?_⟩
  obtain ⟨r, e⟩ := meetFold_pre d bl (hs.getD k 0) (fs.take j) (hs, nx)
  rw [← hF] at e
  exact ⟨r, e⟩
def accF (d : DfaD) (s : Int) : Bool := d.acc.getD s.toNat false
theorem acc_step {d : DfaD} {hs tt r : List Int} {k : Nat} (hk : k < hs.length) (e : tt = hs ++ r) : (hs.take k).map (accF d) ++ [d.acc.getD (hs.getD k 0).toNat false] = (tt.take (k + 1)).map (accF d) := by
  rw [e, List.take_append_of_le_length (by omega), take_succ_getD 0 hk, List.map_append]; rfl
theorem numLoop_next {d : DfaD} {bl fs hs nx tt mx : List Int} {k j : Nat} (hR : numLoop d bl fs 4097 0 ([d.start], []) = numLoop d bl fs (4097 - k) k (hs, nx)) (hk : k < hs.length) (h4 : k < 4097) (hj : j = fs.length)
    (hF : (tt, mx) = (fs.take j).foldl (meetD d bl (hs.getD k 0)) (hs, nx)) : numLoop d bl fs 4097 0 ([d.start], []) = numLoop d bl fs (4097 - (k + 1)) (k + 1) (tt, mx) := by
  subst hj
  rw [List.take_length] at hF
  rw [hR, numLoop_go h4 hk, hF]
theorem numLoop_done {d : DfaD} {bl fs hs nx : List Int} {k : Nat} (hR : numLoop d bl fs 4097 0 ([d.start], []) = numLoop d bl fs (4097 - k) k (hs, nx)) (hk : ¬ k < hs.length) : (numLoop d bl fs 4097 0 ([d.start], [])).1 = hs ∧ (numLoop d bl fs 4097 0 ([d.start], [])).2 = nx := by
  rw [hR, numLoop_end hk]; exact ⟨rfl, rfl⟩
/-! ### Classes, as the document finds them -/
def SmP (d : DfaD) (bl : List Int) (k sym j : Nat) (b : Bool) : Prop := b = true ↔ ∀ i : Nat, i < j → To d d.start (i : Int) → blAt bl (stepD d (i : Int) (k : Int)) = blAt bl (stepD d (i : Int) (sym : Int))
theorem SmP.start (d : DfaD) (bl : List Int) (k sym : Nat) : SmP d bl k sym 0 true := ⟨fun _ i hi => by omega, fun _ => rfl⟩
theorem SmP.skip {d : DfaD} {bl : List Int} {k sym j : Nat} (h : SmP d bl k sym j true) (hn : ¬ To d d.start (j : Int)) : SmP d bl k sym (j + 1) true :=
  ⟨fun _ i hi ht => by
    by_cases e : i = j
    · subst e; exact absurd ht hn
    · exact h.1 rfl i (by omega) ht, fun _ => rfl⟩
theorem SmP.step {d : DfaD} {bl : List Int} {k sym j : Nat} {p : Prop} [Decidable p] (h : SmP d bl k sym j true) (hy : To d d.start (j : Int)) (hp : p ↔ blAt bl (stepD d (j : Int) (k : Int)) = blAt bl (stepD d (j : Int) (sym : Int))) : SmP d bl k sym (j + 1) (decide p) := by
  constructor
  · intro e i hi ht
    by_cases e2 : i = j
    · subst e2; exact hp.1 (of_decide_eq_true e)
    · exact h.1 rfl i (by omega) ht
  · intro h9
    exact decide_eq_true (hp.2 (h9 j (by omega) hy))
theorem SmP.fin {d : DfaD} (hr : rightB d = true) {bl : List Int} (hb : BlkK d bl) {k sym j n : Nat} {b : Bool} (h : SmP d bl k sym j b) (hk : k < 259) (hs : sym < 259) (hn : n = d.acc.length) (hj : ¬ j < n ∨ b = false) (hj2 : j ≤ n) : b = true ↔ SymR d k sym := by
  subst hn
  have key : ∀ i : Nat, i < d.acc.length → (blAt bl (stepD d (i : Int) (k : Int)) = blAt bl (stepD d (i : Int) (sym : Int)) ↔ LEq d (stepD d (i : Int) (k : Int)) d (stepD d (i : Int) (sym : Int))) := fun i hi =>
    hb _ _ (stepD_bd' hr (by omega) (by omega) (by omega)) (stepD_bd' hr (by omega) (by omega) (by omega))
  rcases hj with hj | hj
  · have : j = d.acc.length := by omega
    subst this
    exact ⟨fun e i hi ht => (key i hi).1 (h.1 e i hi ht), fun e => h.2 fun i hi ht => (key i hi).2 (e i hi ht)⟩
  · subst hj
    refine ⟨fun e => (by cases e), fun e => h.2 fun i hi ht => (key i (by omega)).2 (e i (by omega) ht)⟩
/-- Looking for the first alike from behind. -/
def FsP (R : Nat → Nat → Prop) (q : List Int) (s : Nat) (aa y : Int) : Prop := (y < aa ∧ 0 ≤ aa ∧ aa ≤ (s : Int)) ∧ R aa.toNat s ∧ ∀ k : Nat, y < (k : Int) → (k : Int) < aa → q.getD k 0 = (k : Int) → ¬ R k s
theorem FsP.start {R : Nat → Nat → Prop} (hr : ∀ i, R i i) (q : List Int) (s : Nat) : FsP R q s (s : Int) ((s : Int) - 1) := ⟨by omega, by rw [Int.toNat_natCast]; exact hr s, fun k h1 h2 => by omega⟩
theorem FsP.pass {R : Nat → Nat → Prop} {q : List Int} {s : Nat} {aa y : Int} (h : FsP R q s aa y) (hy : 0 ≤ y) (hq : q.getD y.toNat 0 ≠ y ∨ ¬ R y.toNat s) : FsP R q s aa (y - 1) := by
  refine ⟨by have := h.1; omega, h.2.1, fun k h1 h2 h3 => ?_⟩
  by_cases e : (k : Int) = y
  · have : k = y.toNat := by omega
    subst this
    rcases hq with hq | hq
    · rw [Int.toNat_of_nonneg hy] at h3; exact absurd h3 hq
    · exact hq
  · exact h.2.2 k (by omega) h2 h3
theorem FsP.hit {R : Nat → Nat → Prop} {q : List Int} {s : Nat} {aa y : Int} (h : FsP R q s aa y) (hy : 0 ≤ y) (hR : R y.toNat s) : FsP R q s y (y - 1) := ⟨by have := h.1; omega, hR, fun k h1 h2 => by omega⟩
theorem FsP.fin {R : Nat → Nat → Prop} {q : List Int} {s n : Nat} {aa y : Int} (h : FsP R q s aa y) (e : EqR R n) (hs : s < n) (hq : FrQ R q s) (hy : y < 0) (hy2 : -1 ≤ y) : FrQ R (q ++ [aa]) (s + 1) := by
  refine hq.snoc h.1.2.1 h.1.2.2 h.2.1 fun k hk hR => ?_
  have h1 := hq.val k (by have := h.1; omega)
  have h2 := hq.val (q.getD k 0).toNat (by have := h.1; omega)
  have h3 : R (q.getD k 0).toNat s := e.trans _ _ _ (by have := h.1; omega) (by have := h.1; omega) hs h1.2.2.1 hR
  refine h.2.2 (q.getD k 0).toNat (by omega) (by omega) ?_ h3
  have e9 : EqR R s := ⟨fun i hi => e.refl i (by omega), fun i k hi hk => e.symm i k (by omega) (by omega), fun i j k hi hj hk => e.trans i j k (by omega) (by omega) (by omega)⟩
  have h4 := (hq.first e9) k (by rw [hq.len]; have := h.1; omega)
  rw [h4.2.2, Int.toNat_of_nonneg h4.1]
theorem leastD_fields {d : DfaD} {q hs nx : List Int} (hq : FrQ (SymR d) q 259) (h1 : (numLoop d (blkD d) (firstsI (numL q) ((dd q).length : Int)) 4097 0 ([d.start], [])).1 = hs) (h2 : (numLoop d (blkD d) (firstsI (numL q) ((dd q).length : Int)) 4097 0 ([d.start], [])).2 = nx) :
    (leastD d).cls = numL q ∧ (leastD d).width = ((dd q).length : Int) ∧ (leastD d).start = 0 ∧ (leastD d).next = nx ∧ (leastD d).acc = hs.map (accF d) := by
  have e := hq.uniq (symF_q d)
  subst e
  exact ⟨rfl, rfl, rfl, h2, by subst h1; rfl⟩
theorem heads_of {d : DfaD} {q : List Int} (hq : FrQ (SymR d) q 259) : (∀ j, j < (firstsI (numL q) ((dd q).length : Int)).length → 0 ≤ (firstsI (numL q) ((dd q).length : Int)).getD j 0 ∧ (firstsI (numL q) ((dd q).length : Int)).getD j 0 < 259) ∧ (firstsI (numL q) ((dd q).length : Int)).length ≤ 259 := by
  have e := hq.uniq (symF_q d)
  subst e
  refine ⟨headsD_bd d, ?_⟩
  have h1 := headsD_len d
  have h2 := symF_dd d
  unfold headsD at h1
  omega
end Go.Proofs.Ytoeockpkkmgieaa

/- The walks of functions, printed by wip/tools/gw.py. -/
namespace Go.Proofs.Ytoeockpkkmgieaa
open Go Go.Sx
set_option linter.unusedVariables false
set_option linter.unusedSimpArgs false
set_option maxRecDepth 20000 in
theorem miniNumber_any (d : DfaD) (dca : Option Addr) (dna : Option Addr) (dba : Option Addr) (dcc : Nat) (dnc : Nat) (dbc : Nat) (bla : Option Addr) (bl : List Int) (blc : Nat) (cla : Option Addr) (cl : List Int) (clc : Nat) (width : Int) (w : World) (rcd : RdT (tyI .i64) w (.slice dca d.cls.length dcc) d.cls) (rnd : RdT (tyI .i64) w (.slice dna d.next.length dnc) d.next) (rbd : RdT tyB w (.slice dba d.acc.length dbc) d.acc) (rbl : RdT (tyI .i64) w (.slice bla bl.length blc) bl) (rcl : RdT (tyI .i64) w (.slice cla cl.length clc) cl) (hrt : rightB d = true) (hbk : BlkK d bl) (hbl : bl.length = d.acc.length) (hfs : ∀ j, j < (firstsI cl width).length → 0 ≤ (firstsI cl width).getD j 0 ∧ (firstsI cl width).getD j 0 < 259) (hfw : (firstsI cl width).length ≤ 259) :
    Calls Try.prog 85 #[.agg #[.slice dca d.cls.length dcc, .int .i64 d.width, .int .i64 d.start, .slice dna d.next.length dnc, .slice dba d.acc.length dbc], .slice bla bl.length blc, .slice cla cl.length clc, .int .i64 width] w (Ret fun v w' => ∃ na : Option Addr, ∃ nc : Nat, ∃ ba : Option Addr, ∃ bc : Nat, v = .agg #[.slice cla cl.length clc, .int .i64 width, .int .i64 0, .slice na (((numLoop d bl (firstsI cl width) 4097 0 ([d.start], [])).2).length) nc, .slice ba (((numLoop d bl (firstsI cl width) 4097 0 ([d.start], [])).1.map (accF d)).length) bc] ∧ Upd w [] w' [rowT (tyI .i64) (.slice na (((numLoop d bl (firstsI cl width) 4097 0 ([d.start], [])).2).length) nc) 3 ((numLoop d bl (firstsI cl width) 4097 0 ([d.start], [])).2), rowT tyB (.slice ba (((numLoop d bl (firstsI cl width) 4097 0 ([d.start], [])).1.map (accF d)).length) bc) 4 ((numLoop d bl (firstsI cl width) 4097 0 ([d.start], [])).1.map (accF d))]) := by
  have hri := rightB_iff.1 hrt
  have le_rcd := rcd.le
  have le_rnd := rnd.le
  have le_rbd := rbd.le
  have le_rbl := rbl.le
  have le_rcl := rcl.le
  refine calls_of_W (args := [.agg #[.slice dca d.cls.length dcc, .int .i64 d.width, .int .i64 d.start, .slice dna d.next.length dnc, .slice dba d.acc.length dbc], .slice bla bl.length blc, .slice cla cl.length clc, .int .i64 width]) Try.func85 rfl rfl rfl ?_
  have H0 : UpG w [] w [] := UpG.nil w
  show W _ _ _ _ [(0, .agg #[.slice dca d.cls.length dcc, .int .i64 d.width, .int .i64 d.start, .slice dna d.next.length dnc, .slice dba d.acc.length dbc]), (1, .slice bla bl.length blc), (2, .slice cla cl.length clc), (3, .int .i64 width)] w
  refine W.seq ?_
  refine W.region ?_
  refine WL.op rfl (d_box rfl fun w1 u1 => ?_)
  have H1 : UpG w [] w1 [[blk w.heap.size #[.slice dca d.cls.length dcc, .int .i64 d.width, .int .i64 d.start, .slice dna d.next.length dnc, .slice dba d.acc.length dbc] 25]] := H0.new' u1
  refine WL.op rfl (d_alloc sz25 fun w2 u2 => ?_)
  have H2 : UpG w [] w2 [[blk w.heap.size #[.slice dca d.cls.length dcc, .int .i64 d.width, .int .i64 d.start, .slice dna d.next.length dnc, .slice dba d.acc.length dbc] 25], [blk w1.heap.size #[.slice none 0 0, .int .i64 0, .int .i64 0, .slice none 0 0, .slice none 0 0] 25]] := H1.new' u2
  refine WL.done (X.then_code ?_)
  refine W.seq ?_
  refine W.region ?_
  refine WL.op rfl (d_move rfl ?_)
  refine WL.op rfl (d_move rfl ?_)
  refine WL.op rfl (d_build (cs := #[.slice cla cl.length clc, .int .i64 width, .int .i64 0, .slice none 0 0, .slice none 0 0]) rfl (by kernel_rfl) ?_)
  refine WL.op rfl (d_alloc sz25 fun w3 u3 => ?_)
  have H3 : UpG w [] w3 [[blk w.heap.size #[.slice dca d.cls.length dcc, .int .i64 d.width, .int .i64 d.start, .slice dna d.next.length dnc, .slice dba d.acc.length dbc] 25], [blk w1.heap.size #[.slice none 0 0, .int .i64 0, .int .i64 0, .slice none 0 0, .slice none 0 0] 25], [blk w2.heap.size #[.slice none 0 0, .int .i64 0, .int .i64 0, .slice none 0 0, .slice none 0 0] 25]] := H2.new' u3
  refine WL.op0 (d_storeAB (us := [.slice cla cl.length clc, .int .i64 width, .int .i64 0, .slice none 0 0, .slice none 0 0]) (cs' := #[.slice cla cl.length clc, .int .i64 width, .int .i64 0, .slice none 0 0, .slice none 0 0]) sz25 rfl rfl rfl rfl (H3.blk 2 rfl) rfl rfl fun w4 u4 => ?_)
  have H4 : UpG w [] w4 [[blk w.heap.size #[.slice dca d.cls.length dcc, .int .i64 d.width, .int .i64 d.start, .slice dna d.next.length dnc, .slice dba d.acc.length dbc] 25], [blk w1.heap.size #[.slice none 0 0, .int .i64 0, .int .i64 0, .slice none 0 0, .slice none 0 0] 25], [blk w2.heap.size #[.slice cla cl.length clc, .int .i64 width, .int .i64 0, .slice none 0 0, .slice none 0 0] 25]] := H3.on 2 rfl u4
  refine WL.done (X.then_code ?_)
  refine W.seq ?_
  refine W.region ?_
  refine WL.op rfl (d_makeMap (fun a : Int => .int .i64 a) (fun a : Int => .int .i64 a) fun w5 u5 => ?_)
  have H5 : UpG w [] w5 [[blk w.heap.size #[.slice dca d.cls.length dcc, .int .i64 d.width, .int .i64 d.start, .slice dna d.next.length dnc, .slice dba d.acc.length dbc] 25], [blk w1.heap.size #[.slice none 0 0, .int .i64 0, .int .i64 0, .slice none 0 0, .slice none 0 0] 25], [blk w2.heap.size #[.slice cla cl.length clc, .int .i64 width, .int .i64 0, .slice none 0 0, .slice none 0 0] 25], [mapC (fun a : Int => .int .i64 a) (fun a : Int => .int .i64 a) w4.heap.size ([] : List (Int × Int))]] := H4.new' u5
  refine WL.op rfl (d_move rfl ?_)
  refine WL.op rfl (d_fieldAddrB fld25_2 rfl rfl ?_)
  refine WL.op rfl (d_loadB Try.underlying3 rfl rfl (H5.blk 0 rfl) rfl ?_)
  refine WL.op rfl (t_addr1 d.start.toNat (T := (tyI .i64)) rfl Try.underlying22 sz3 rfl rfl (rbl.at H5) (by omega) (by omega) ?_)
  refine WL.op rfl (t_load1 d.start.toNat 0 (T := (tyI .i64)) rfl Try.underlying3 rfl rfl (rbl.at H5) (by omega) rfl ?_)
  refine WL.op0 (d_insert (ek := (fun a : Int => .int .i64 a)) (evl := (fun a : Int => .int .i64 a)) (bl.getD d.start.toNat 0) 0 key3 Try.underlying135 rfl rfl rfl (H5.hpOf 3 rfl) fun w6 u6 => ?_)
  have H6 : UpG w [] w6 [[blk w.heap.size #[.slice dca d.cls.length dcc, .int .i64 d.width, .int .i64 d.start, .slice dna d.next.length dnc, .slice dba d.acc.length dbc] 25], [blk w1.heap.size #[.slice none 0 0, .int .i64 0, .int .i64 0, .slice none 0 0, .slice none 0 0] 25], [blk w2.heap.size #[.slice cla cl.length clc, .int .i64 width, .int .i64 0, .slice none 0 0, .slice none 0 0] 25], [mapC (fun a : Int => .int .i64 a) (fun a : Int => .int .i64 a) w4.heap.size (putM ([] : List (Int × Int)) (bl.getD d.start.toNat 0) 0)]] := H5.on 3 rfl u6
  refine WL.op rfl (d_move rfl ?_)
  refine WL.op rfl (d_assign rfl ?_)
  refine WL.done (X.then_code ?_)
  refine W.seq ?_
  refine W.region ?_
  refine WL.op rfl (d_fieldAddrB fld25_2 rfl rfl ?_)
  refine WL.op rfl (d_loadB Try.underlying3 rfl rfl (H6.blk 0 rfl) rfl ?_)
  refine WL.op rfl (t_buildSlice (T := (tyI .i64)) (xs := [d.start]) (cs := #[.int .i64 d.start]) rfl Try.underlying22 sz3 rfl rfl rfl rfl (by kernel_rfl) rfl rfl fun w7 u7 => ?_)
  have H7 : UpG w [] w7 [[blk w.heap.size #[.slice dca d.cls.length dcc, .int .i64 d.width, .int .i64 d.start, .slice dna d.next.length dnc, .slice dba d.acc.length dbc] 25], [blk w1.heap.size #[.slice none 0 0, .int .i64 0, .int .i64 0, .slice none 0 0, .slice none 0 0] 25], [blk w2.heap.size #[.slice cla cl.length clc, .int .i64 width, .int .i64 0, .slice none 0 0, .slice none 0 0] 25], [mapC (fun a : Int => .int .i64 a) (fun a : Int => .int .i64 a) w4.heap.size (putM ([] : List (Int × Int)) (bl.getD d.start.toNat 0) 0)], [rowT (tyI .i64) (.slice (some ⟨w6.heap.size, 0, none⟩) ([d.start].length) ([d.start].length)) 3 [d.start]]] := H6.new' u7
  refine WL.op rfl (d_assign rfl ?_)
  refine WL.done (X.then_code ?_)
  refine W.seq ?_
  refine W.region ?_
  refine WL.op rfl (d_move rfl ?_)
  refine WL.op rfl (d_move rfl ?_)
  refine WL.op rfl (d_call ok78 rfl (Ret.calls (firsts_any cla cl clc width w7 (rcl.at H7) ) fun _ w8 p1 => ?_))
  obtain ⟨a2_1, c2_1, rfl, u8⟩ := p1
  have H8 : UpG w [] w8 [[blk w.heap.size #[.slice dca d.cls.length dcc, .int .i64 d.width, .int .i64 d.start, .slice dna d.next.length dnc, .slice dba d.acc.length dbc] 25], [blk w1.heap.size #[.slice none 0 0, .int .i64 0, .int .i64 0, .slice none 0 0, .slice none 0 0] 25], [blk w2.heap.size #[.slice cla cl.length clc, .int .i64 width, .int .i64 0, .slice none 0 0, .slice none 0 0] 25], [mapC (fun a : Int => .int .i64 a) (fun a : Int => .int .i64 a) w4.heap.size (putM ([] : List (Int × Int)) (bl.getD d.start.toNat 0) 0)], [rowT (tyI .i64) (.slice (some ⟨w6.heap.size, 0, none⟩) ([d.start].length) ([d.start].length)) 3 [d.start]], [rowT (tyI .i64) (.slice a2_1 ((firstsI cl width).length) c2_1) 3 (firstsI cl width)]] := (H7.new' u8).re rfl
  refine WL.op rfl (d_assign rfl ?_)
  refine WL.done (X.then_code ?_)
  refine W.seq ?_
  refine W.seq ?_
  refine W.region ?_
  refine WL.op rfl (d_assign rfl ?_)
  refine WL.done (X.then_code ?_)
  refine W.block ?_
  have H9 : UpG w [] w8 [[blk w.heap.size #[.slice dca d.cls.length dcc, .int .i64 d.width, .int .i64 d.start, .slice dna d.next.length dnc, .slice dba d.acc.length dbc] 25], [blk w1.heap.size #[.slice none 0 0, .int .i64 0, .int .i64 0, .slice none 0 0, .slice none 0 0] 25], [blk w2.heap.size #[.slice cla cl.length clc, .int .i64 width, .int .i64 0, .slice none 0 0, .slice none 0 0] 25], [mapC (fun a : Int => .int .i64 a) (fun a : Int => .int .i64 a) w4.heap.size (putM ([] : List (Int × Int)) (bl.getD d.start.toNat 0) 0)], [rowT (tyI .i64) (.slice (some ⟨w6.heap.size, 0, none⟩) ([d.start].length) ([d.start].length)) 3 [d.start]], [rowT (tyI .i64) (.slice a2_1 ((firstsI cl width).length) c2_1) 3 (firstsI cl width)], [rowT (tyI .i64) (.slice none (([] : List Int).length) 0) 3 ([] : List Int)]] := H8.new' (Upd.nilRowT w8 (tyI .i64) 3)
  have H10 : UpG w [] w8 [[blk w.heap.size #[.slice dca d.cls.length dcc, .int .i64 d.width, .int .i64 d.start, .slice dna d.next.length dnc, .slice dba d.acc.length dbc] 25], [blk w1.heap.size #[.slice none 0 0, .int .i64 0, .int .i64 0, .slice none 0 0, .slice none 0 0] 25], [blk w2.heap.size #[.slice cla cl.length clc, .int .i64 width, .int .i64 0, .slice none 0 0, .slice none 0 0] 25], [mapC (fun a : Int => .int .i64 a) (fun a : Int => .int .i64 a) w4.heap.size (putM ([] : List (Int × Int)) (bl.getD d.start.toNat 0) 0)], [rowT (tyI .i64) (.slice (some ⟨w6.heap.size, 0, none⟩) ([d.start].length) ([d.start].length)) 3 [d.start]], [rowT (tyI .i64) (.slice a2_1 ((firstsI cl width).length) c2_1) 3 (firstsI cl width)], [rowT (tyI .i64) (.slice none (([] : List Int).length) 0) 3 ([] : List Int)], [rowT tyB (.slice none (([] : List Bool).length) 0) 4 ([] : List Bool)]] := H9.new' (Upd.nilRowT w8 tyB 4)
  have H11 : UpG w [] w8 [[blk w.heap.size #[.slice dca d.cls.length dcc, .int .i64 d.width, .int .i64 d.start, .slice dna d.next.length dnc, .slice dba d.acc.length dbc] 25], [blk w1.heap.size #[.slice none 0 0, .int .i64 0, .int .i64 0, .slice none 0 0, .slice none 0 0] 25], [blk w2.heap.size #[.slice cla cl.length clc, .int .i64 width, .int .i64 0, .slice none (([] : List Int).length) 0, .slice none (([] : List Bool).length) 0] 25], [mapC (fun a : Int => .int .i64 a) (fun a : Int => .int .i64 a) w4.heap.size (putM ([] : List (Int × Int)) (bl.getD d.start.toNat 0) 0)], [rowT (tyI .i64) (.slice (some ⟨w6.heap.size, 0, none⟩) ([d.start].length) ([d.start].length)) 3 [d.start]], [rowT (tyI .i64) (.slice a2_1 ((firstsI cl width).length) c2_1) 3 (firstsI cl width)], [rowT (tyI .i64) (.slice none (([] : List Int).length) 0) 3 ([] : List Int)], [rowT tyB (.slice none (([] : List Bool).length) 0) 4 ([] : List Bool)]] := H10.re rfl
  refine W.pick [13, 12, 11, 10, 9, 8, 4, 1] (Γ' := [(13, .int .i64 0), (12, .slice a2_1 ((firstsI cl width).length) c2_1), (11, .slice (some ⟨w6.heap.size, 0, none⟩) ([d.start].length) ([d.start].length)), (10, .map (some w4.heap.size)), (9, .pointer (some ⟨w2.heap.size, 0, none⟩)), (8, .pointer (some ⟨w1.heap.size, 0, none⟩)), (4, .pointer (some ⟨w.heap.size, 0, none⟩)), (1, .slice bla bl.length blc)]) rfl ?_
  refine W.loop (fun m Γ' w' => ∃ k : Nat, ∃ hs : List Int, ∃ ha : Option Addr, ∃ hc : Nat, ∃ nx : List Int, ∃ na : Option Addr, ∃ nc : Nat, ∃ ac : List Bool, ∃ ba : Option Addr, ∃ bc : Nat, ∃ mm : List (Int × Int), Γ' = [(13, .int .i64 ((k : Nat) : Int)), (12, .slice a2_1 ((firstsI cl width).length) c2_1), (11, .slice ha hs.length hc), (10, .map (some w4.heap.size)), (9, .pointer (some ⟨w2.heap.size, 0, none⟩)), (8, .pointer (some ⟨w1.heap.size, 0, none⟩)), (4, .pointer (some ⟨w.heap.size, 0, none⟩)), (1, .slice bla bl.length blc)] ∧ UpG w [] w' [[blk w.heap.size #[.slice dca d.cls.length dcc, .int .i64 d.width, .int .i64 d.start, .slice dna d.next.length dnc, .slice dba d.acc.length dbc] 25], [blk w1.heap.size #[.slice none 0 0, .int .i64 0, .int .i64 0, .slice none 0 0, .slice none 0 0] 25], [blk w2.heap.size #[.slice cla cl.length clc, .int .i64 width, .int .i64 0, .slice na nx.length nc, .slice ba ac.length bc] 25], [mapC (fun a : Int => .int .i64 a) (fun a : Int => .int .i64 a) w4.heap.size mm], [rowT (tyI .i64) (.slice ha hs.length hc) 3 hs], [rowT (tyI .i64) (.slice a2_1 ((firstsI cl width).length) c2_1) 3 (firstsI cl width)], [rowT (tyI .i64) (.slice na nx.length nc) 3 nx], [rowT tyB (.slice ba ac.length bc) 4 ac]] ∧ (k ≤ hs.length) ∧ (NuI d (firstsI cl width) (hs, nx) k 0) ∧ (MetM mm (hs.map (blAt bl))) ∧ (ac = (hs.take k).map (accF d)) ∧ ((numLoop d bl (firstsI cl width) 4097 0 ([d.start], [])) = numLoop d bl (firstsI cl width) (4097 - k) k (hs, nx)) ∧ m = 4097 - k) (4097 - 0) ⟨0, [d.start], (some ⟨w6.heap.size, 0, none⟩), [d.start].length, [], none, 0, [], none, 0, putM [] (bl.getD d.start.toNat 0) 0, rfl, (H11.re rfl), (by simp), (by exact NuI.start hrt _), (by exact MetM.start _), (by rfl), (by rfl), rfl⟩ ?_
  rintro m1 Γ1 w9 ⟨k, hs, ha, hc, nx, na, nc, ac, ba, bc, mm, rfl, H12, hk, hN, hM, hA, hR, rfl⟩
  have hbd : hs.length ≤ d.acc.length := hN.bound
  have hal : ac.length = k := by rw [hA]; simp; omega
  refine W.seq ?_
  refine W.seq ?_
  refine W.region ?_
  refine WL.op rfl (d_move rfl ?_)
  refine WL.op rfl (d_move rfl ?_)
  refine WL.op rfl (d_lenS Try.underlying22 rfl ?_)
  refine WL.op rfl (d_cmp (decide (((k : Nat) : Int) < ((hs.length : Nat) : Int))) rfl rfl rfl ?_)
  refine WL.done (X.then_code ?_)
  refine W.ite (p := ((k : Nat) : Int) < ((hs.length : Nat) : Int)) rfl (fun c167 => ?_) (fun c167 => ?_)
  · skip
    refine W.skip (X.then_code ?_)
    refine W.seq ?_
    refine W.block ?_
    refine W.seq ?_
    have hkh : k < hs.length := by omega
    have hrk := (hN.rng k hkh).1
    have hrk1 : 0 ≤ hs.getD k 0 := hrk.1
    have hrk2 : hs.getD k 0 < (d.acc.length : Int) := hrk.2
    have hnl := hN.nlen
    have hnb : nx.length ≤ 4096 * 259 := by have h8 : nx.length = k * (firstsI cl width).length + 0 := hnl; have h9 := Nat.mul_le_mul (show k ≤ 4096 by omega) hfw; omega
    refine W.region ?_
    refine WL.op rfl (d_move rfl ?_)
    refine WL.op rfl (d_move rfl ?_)
    refine WL.op rfl (t_addr1 k (T := (tyI .i64)) rfl Try.underlying22 sz3 rfl rfl (H12.rdT 4 rfl) rfl (by omega) ?_)
    refine WL.op rfl (t_load1 k 0 (T := (tyI .i64)) rfl Try.underlying3 rfl rfl (H12.rdT 4 rfl) (by omega) rfl ?_)
    refine WL.op rfl (d_assign rfl ?_)
    refine WL.done (X.then_code ?_)
    refine W.seq ?_
    refine W.regionD mixed (by kernel_rfl) fun hok1 w10 k1 => ?_
    have H13 : UpG w [] w10 [[blk w.heap.size #[.slice dca d.cls.length dcc, .int .i64 d.width, .int .i64 d.start, .slice dna d.next.length dnc, .slice dba d.acc.length dbc] 25], [blk w1.heap.size #[.slice none 0 0, .int .i64 0, .int .i64 0, .slice none 0 0, .slice none 0 0] 25], [blk w2.heap.size #[.slice cla cl.length clc, .int .i64 width, .int .i64 0, .slice na nx.length nc, .slice ba ac.length bc] 25], [mapC (fun a : Int => .int .i64 a) (fun a : Int => .int .i64 a) w4.heap.size mm], [rowT (tyI .i64) (.slice ha hs.length hc) 3 hs], [rowT (tyI .i64) (.slice a2_1 ((firstsI cl width).length) c2_1) 3 (firstsI cl width)], [rowT (tyI .i64) (.slice na nx.length nc) 3 nx], [rowT tyB (.slice ba ac.length bc) 4 ac]] := H12.kept k1
    refine WD.take hok1 0 (.pointer (some ⟨w2.heap.size, 4, none⟩)) (fun _ => True) rfl rfl rfl rfl rfl trivial (.inl ⟨rfl, fun _ _ => d_fieldAddrB fld25_4 rfl rfl ⟨rfl, rfl⟩⟩) ?_
    refine WD.take hok1 1 (.slice ba ac.length bc) (fun w' => w'.heap[w2.heap.size]? = some (.cells #[.slice cla cl.length clc, .int .i64 width, .int .i64 0, .slice na nx.length nc, .slice ba ac.length bc] 25 (0, 0))) rfl rfl rfl rfl rfl (H13.blk 2 rfl) (.inl ⟨rfl, fun _ hC => d_loadB Try.underlying23 rfl rfl hC rfl ⟨rfl, rfl⟩⟩) ?_
    refine WD.take hok1 2 (.pointer (some ⟨w.heap.size, 4, none⟩)) (fun _ => True) rfl rfl rfl rfl rfl trivial (.inl ⟨rfl, fun _ _ => d_fieldAddrB fld25_4 rfl rfl ⟨rfl, rfl⟩⟩) ?_
    refine WD.take hok1 3 (.slice dba d.acc.length dbc) (fun w' => w'.heap[w.heap.size]? = some (.cells #[.slice dca d.cls.length dcc, .int .i64 d.width, .int .i64 d.start, .slice dna d.next.length dnc, .slice dba d.acc.length dbc] 25 (0, 0))) rfl rfl rfl rfl rfl (H13.blk 0 rfl) (.inl ⟨rfl, fun _ hC => d_loadB Try.underlying23 rfl rfl hC rfl ⟨rfl, rfl⟩⟩) ?_
    refine WD.take hok1 4 (.int .i64 (hs.getD k 0)) (fun _ => True) rfl rfl rfl rfl rfl trivial (.inl ⟨rfl, fun _ _ => d_move rfl ⟨rfl, rfl⟩⟩) ?_
    refine WD.take hok1 5 (elemPtr (.slice dba d.acc.length dbc) ((hs.getD k 0).toNat)) (fun w' => RdT tyB w' (.slice dba d.acc.length dbc) d.acc) rfl rfl rfl rfl rfl (rbd.at H13) (.inl ⟨rfl, fun _ hC => t_addr1 ((hs.getD k 0).toNat) (T := tyB) rfl Try.underlying23 sz4 rfl rfl hC (by omega) (by omega) ⟨rfl, rfl⟩⟩) ?_
    refine WD.take hok1 6 (.bool (d.acc.getD ((hs.getD k 0).toNat) false)) (fun w' => RdT tyB w' (.slice dba d.acc.length dbc) d.acc) rfl rfl rfl rfl rfl (rbd.at H13) (.inl ⟨rfl, fun _ hC => t_load1 ((hs.getD k 0).toNat) false (T := tyB) rfl Try.underlying4 rfl rfl hC (by omega) rfl ⟨rfl, rfl⟩⟩) ?_
    refine WD.loud hok1 7 rfl (⟨_, [⟨1, .slice ba ac.length bc, (fun w' => w'.heap[w2.heap.size]? = some (.cells #[.slice cla cl.length clc, .int .i64 width, .int .i64 0, .slice na nx.length nc, .slice ba ac.length bc] 25 (0, 0)))⟩, ⟨0, .pointer (some ⟨w2.heap.size, 4, none⟩), (fun _ => True)⟩], rfl, rfl, rfl, rfl, rfl, rfl, t_buildSlice (T := tyB) (xs := [d.acc.getD ((hs.getD k 0).toNat) false]) (cs := #[.bool (d.acc.getD ((hs.getD k 0).toNat) false)]) rfl Try.underlying23 sz4 rfl rfl rfl rfl (by kernel_rfl) rfl rfl fun w11 u9 => ?_⟩)
    have H14 : UpG w [] w11 [[blk w.heap.size #[.slice dca d.cls.length dcc, .int .i64 d.width, .int .i64 d.start, .slice dna d.next.length dnc, .slice dba d.acc.length dbc] 25], [blk w1.heap.size #[.slice none 0 0, .int .i64 0, .int .i64 0, .slice none 0 0, .slice none 0 0] 25], [blk w2.heap.size #[.slice cla cl.length clc, .int .i64 width, .int .i64 0, .slice na nx.length nc, .slice ba ac.length bc] 25], [mapC (fun a : Int => .int .i64 a) (fun a : Int => .int .i64 a) w4.heap.size mm], [rowT (tyI .i64) (.slice ha hs.length hc) 3 hs], [rowT (tyI .i64) (.slice a2_1 ((firstsI cl width).length) c2_1) 3 (firstsI cl width)], [rowT (tyI .i64) (.slice na nx.length nc) 3 nx], [rowT tyB (.slice ba ac.length bc) 4 ac], [rowT tyB (.slice (some ⟨w10.heap.size, 0, none⟩) ([d.acc.getD ((hs.getD k 0).toNat) false].length) ([d.acc.getD ((hs.getD k 0).toNat) false].length)) 4 [d.acc.getD ((hs.getD k 0).toNat) false]]] := H13.new' u9
    refine ⟨⟨(H14.blk 2 rfl), trivial, trivial⟩, ?_⟩
    refine WD.loud hok1 8 rfl (⟨_, [], rfl, rfl, rfl, rfl, rfl, rfl, t_append (T := tyB) (xs := ac) (ys := [d.acc.getD ((hs.getD k 0).toNat) false]) rfl Try.underlying23 sz4 rfl rfl rfl (H14.ownT 7 rfl) (H14.rdT 8 rfl) (by simp only [List.length_singleton]; omega) (by simp only [List.length_singleton]; omega) fun a1 c1 w12 u10 => ?_⟩)
    have H15 : UpG w [] w12 [[blk w.heap.size #[.slice dca d.cls.length dcc, .int .i64 d.width, .int .i64 d.start, .slice dna d.next.length dnc, .slice dba d.acc.length dbc] 25], [blk w1.heap.size #[.slice none 0 0, .int .i64 0, .int .i64 0, .slice none 0 0, .slice none 0 0] 25], [blk w2.heap.size #[.slice cla cl.length clc, .int .i64 width, .int .i64 0, .slice na nx.length nc, .slice ba ac.length bc] 25], [mapC (fun a : Int => .int .i64 a) (fun a : Int => .int .i64 a) w4.heap.size mm], [rowT (tyI .i64) (.slice ha hs.length hc) 3 hs], [rowT (tyI .i64) (.slice a2_1 ((firstsI cl width).length) c2_1) 3 (firstsI cl width)], [rowT (tyI .i64) (.slice na nx.length nc) 3 nx], [rowT tyB (.slice a1 ((ac ++ [d.acc.getD ((hs.getD k 0).toNat) false]).length) c1) 4 (ac ++ [d.acc.getD ((hs.getD k 0).toNat) false])], []] := (H14.on 7 rfl u10).drop 8
    refine ⟨trivial, ?_⟩
    refine WD.take hok1 9 (.pointer (some ⟨w2.heap.size, 4, none⟩)) (fun _ => True) rfl rfl rfl rfl rfl trivial (.inl ⟨rfl, fun _ _ => d_fieldAddrB fld25_4 rfl rfl ⟨rfl, rfl⟩⟩) ?_
    refine WD.loud hok1 10 rfl (⟨_, [], rfl, rfl, rfl, rfl, rfl, rfl, d_storeB sz23 rfl rfl rfl (H15.blk 2 rfl) rfl fun w13 u11 => ?_⟩)
    have H16 : UpG w [] w13 [[blk w.heap.size #[.slice dca d.cls.length dcc, .int .i64 d.width, .int .i64 d.start, .slice dna d.next.length dnc, .slice dba d.acc.length dbc] 25], [blk w1.heap.size #[.slice none 0 0, .int .i64 0, .int .i64 0, .slice none 0 0, .slice none 0 0] 25], [blk w2.heap.size #[.slice cla cl.length clc, .int .i64 width, .int .i64 0, .slice na nx.length nc, .slice a1 ((ac ++ [d.acc.getD ((hs.getD k 0).toNat) false]).length) c1] 25], [mapC (fun a : Int => .int .i64 a) (fun a : Int => .int .i64 a) w4.heap.size mm], [rowT (tyI .i64) (.slice ha hs.length hc) 3 hs], [rowT (tyI .i64) (.slice a2_1 ((firstsI cl width).length) c2_1) 3 (firstsI cl width)], [rowT (tyI .i64) (.slice na nx.length nc) 3 nx], [rowT tyB (.slice a1 ((ac ++ [d.acc.getD ((hs.getD k 0).toNat) false]).length) c1) 4 (ac ++ [d.acc.getD ((hs.getD k 0).toNat) false])], []] := H15.on 2 rfl u11
    refine ⟨trivial, ?_⟩
    refine WD.done hok1 rfl (X.then_code ?_)
    refine W.seq ?_
    refine W.region ?_
    refine WL.op rfl (d_move rfl ?_)
    refine WL.op rfl (d_lenS Try.underlying22 rfl ?_)
    refine WL.op rfl (d_move rfl ?_)
    refine WL.done (X.then_code ?_)
    refine W.block ?_
    refine W.pick [58, 57, 56, 14, 13, 12, 11, 10, 9, 8, 4, 1] (Γ' := [(58, .int .i64 0), (57, .int .i64 (((firstsI cl width).length : Nat) : Int)), (56, .slice a2_1 ((firstsI cl width).length) c2_1), (14, .int .i64 (hs.getD k 0)), (13, .int .i64 ((k : Nat) : Int)), (12, .slice a2_1 ((firstsI cl width).length) c2_1), (11, .slice ha hs.length hc), (10, .map (some w4.heap.size)), (9, .pointer (some ⟨w2.heap.size, 0, none⟩)), (8, .pointer (some ⟨w1.heap.size, 0, none⟩)), (4, .pointer (some ⟨w.heap.size, 0, none⟩)), (1, .slice bla bl.length blc)]) rfl ?_
    refine W.loop (fun m Γ' w' => ∃ j : Nat, ∃ tt : List Int, ∃ ta : Option Addr, ∃ tc : Nat, ∃ mx : List Int, ∃ ma : Option Addr, ∃ mc : Nat, ∃ mj : List (Int × Int), Γ' = [(58, .int .i64 ((j : Nat) : Int)), (57, .int .i64 (((firstsI cl width).length : Nat) : Int)), (56, .slice a2_1 ((firstsI cl width).length) c2_1), (14, .int .i64 (hs.getD k 0)), (13, .int .i64 ((k : Nat) : Int)), (12, .slice a2_1 ((firstsI cl width).length) c2_1), (11, .slice ta tt.length tc), (10, .map (some w4.heap.size)), (9, .pointer (some ⟨w2.heap.size, 0, none⟩)), (8, .pointer (some ⟨w1.heap.size, 0, none⟩)), (4, .pointer (some ⟨w.heap.size, 0, none⟩)), (1, .slice bla bl.length blc)] ∧ UpG w [] w' [[blk w.heap.size #[.slice dca d.cls.length dcc, .int .i64 d.width, .int .i64 d.start, .slice dna d.next.length dnc, .slice dba d.acc.length dbc] 25], [blk w1.heap.size #[.slice none 0 0, .int .i64 0, .int .i64 0, .slice none 0 0, .slice none 0 0] 25], [blk w2.heap.size #[.slice cla cl.length clc, .int .i64 width, .int .i64 0, .slice ma mx.length mc, .slice a1 ((ac ++ [d.acc.getD ((hs.getD k 0).toNat) false]).length) c1] 25], [mapC (fun a : Int => .int .i64 a) (fun a : Int => .int .i64 a) w4.heap.size mj], [rowT (tyI .i64) (.slice ta tt.length tc) 3 tt], [rowT (tyI .i64) (.slice a2_1 ((firstsI cl width).length) c2_1) 3 (firstsI cl width)], [rowT (tyI .i64) (.slice ma mx.length mc) 3 mx], [rowT tyB (.slice a1 ((ac ++ [d.acc.getD ((hs.getD k 0).toNat) false]).length) c1) 4 (ac ++ [d.acc.getD ((hs.getD k 0).toNat) false])], []] ∧ (j ≤ (firstsI cl width).length) ∧ ((tt, mx) = ((firstsI cl width).take j).foldl (meetD d bl (hs.getD k 0)) (hs, nx)) ∧ (MetM mj (tt.map (blAt bl))) ∧ m = (firstsI cl width).length - j) ((firstsI cl width).length - 0) ⟨0, hs, ha, hc, nx, na, nc, mm, rfl, H16, (by omega), (by rfl), (by exact hM), rfl⟩ ?_
    rintro m2 Γ2 w14 ⟨j, tt, ta, tc, mx, ma, mc, mj, rfl, H17, hj, hF, hMj, rfl⟩
    refine W.seq ?_
    refine W.region ?_
    refine WL.op rfl (d_cmp (decide (((j : Nat) : Int) < (((firstsI cl width).length : Nat) : Int))) rfl rfl rfl ?_)
    refine WL.done (X.then_code ?_)
    refine W.seq ?_
    refine W.ite (p := ((j : Nat) : Int) < (((firstsI cl width).length : Nat) : Int)) rfl (fun c170 => ?_) (fun c170 => ?_)
    · skip
      refine W.skip (X.then_code ?_)
      refine W.seq ?_
      refine W.block ?_
      refine W.seq ?_
      refine W.region ?_
      refine WL.op rfl (t_addr1 j (T := (tyI .i64)) rfl Try.underlying22 sz3 rfl rfl (H17.rdT 5 rfl) rfl (by omega) ?_)
      refine WL.op rfl (t_load1 j 0 (T := (tyI .i64)) rfl Try.underlying3 rfl rfl (H17.rdT 5 rfl) (by omega) rfl ?_)
      refine WL.op rfl (d_assign rfl ?_)
      refine WL.done (X.then_code ?_)
      refine W.seq ?_
      have hsy := hfs j (by omega)
      have hs1 := right_sym hrt hsy.1 hsy.2
      have hi1 := right_idx hrt hrk1 hrk2 hs1.2.1 hs1.2.2.1
      have hNj := (NuI.at' hrt hbk hfs hN hkh hj hF).1
      have hbj := hNj.bound
      have hmxl : mx.length = k * (firstsI cl width).length + j := hNj.nlen
      have hmxb : mx.length ≤ 4096 * 259 + 259 := by have h9 := Nat.mul_le_mul (show k ≤ 4096 by omega) hfw; omega
      have htb : tt.length ≤ d.acc.length := hbj
      refine W.regionD mixed (by kernel_rfl) fun hok2 w15 k2 => ?_
      have H18 : UpG w [] w15 [[blk w.heap.size #[.slice dca d.cls.length dcc, .int .i64 d.width, .int .i64 d.start, .slice dna d.next.length dnc, .slice dba d.acc.length dbc] 25], [blk w1.heap.size #[.slice none 0 0, .int .i64 0, .int .i64 0, .slice none 0 0, .slice none 0 0] 25], [blk w2.heap.size #[.slice cla cl.length clc, .int .i64 width, .int .i64 0, .slice ma mx.length mc, .slice a1 ((ac ++ [d.acc.getD ((hs.getD k 0).toNat) false]).length) c1] 25], [mapC (fun a : Int => .int .i64 a) (fun a : Int => .int .i64 a) w4.heap.size mj], [rowT (tyI .i64) (.slice ta tt.length tc) 3 tt], [rowT (tyI .i64) (.slice a2_1 ((firstsI cl width).length) c2_1) 3 (firstsI cl width)], [rowT (tyI .i64) (.slice ma mx.length mc) 3 mx], [rowT tyB (.slice a1 ((ac ++ [d.acc.getD ((hs.getD k 0).toNat) false]).length) c1) 4 (ac ++ [d.acc.getD ((hs.getD k 0).toNat) false])], []] := H17.kept k2
      refine WD.take hok2 0 (.pointer (some ⟨w.heap.size, 3, none⟩)) (fun _ => True) rfl rfl rfl rfl rfl trivial (.inl ⟨rfl, fun _ _ => d_fieldAddrB fld25_3 rfl rfl ⟨rfl, rfl⟩⟩) ?_
      refine WD.take hok2 1 (.slice dna d.next.length dnc) (fun w' => w'.heap[w.heap.size]? = some (.cells #[.slice dca d.cls.length dcc, .int .i64 d.width, .int .i64 d.start, .slice dna d.next.length dnc, .slice dba d.acc.length dbc] 25 (0, 0))) rfl rfl rfl rfl rfl (H18.blk 0 rfl) (.inl ⟨rfl, fun _ hC => d_loadB Try.underlying22 rfl rfl hC rfl ⟨rfl, rfl⟩⟩) ?_
      refine WD.take hok2 2 (.int .i64 (hs.getD k 0)) (fun _ => True) rfl rfl rfl rfl rfl trivial (.inl ⟨rfl, fun _ _ => d_move rfl ⟨rfl, rfl⟩⟩) ?_
      refine WD.take hok2 3 (.pointer (some ⟨w.heap.size, 1, none⟩)) (fun _ => True) rfl rfl rfl rfl rfl trivial (.inl ⟨rfl, fun _ _ => d_fieldAddrB fld25_1 rfl rfl ⟨rfl, rfl⟩⟩) ?_
      refine WD.take hok2 4 (.int .i64 d.width) (fun w' => w'.heap[w.heap.size]? = some (.cells #[.slice dca d.cls.length dcc, .int .i64 d.width, .int .i64 d.start, .slice dna d.next.length dnc, .slice dba d.acc.length dbc] 25 (0, 0))) rfl rfl rfl rfl rfl (H18.blk 0 rfl) (.inl ⟨rfl, fun _ hC => d_loadB Try.underlying3 rfl rfl hC rfl ⟨rfl, rfl⟩⟩) ?_
      refine WD.take hok2 5 (.int .i64 ((hs.getD k 0) * d.width)) (fun _ => True) rfl rfl rfl rfl rfl trivial (.inl ⟨rfl, fun _ _ => d_mul rfl rfl (by omega) (by omega) ⟨rfl, rfl⟩⟩) ?_
      refine WD.take hok2 6 (.pointer (some ⟨w.heap.size, 0, none⟩)) (fun _ => True) rfl rfl rfl rfl rfl trivial (.inl ⟨rfl, fun _ _ => d_fieldAddrB fld25_0 rfl rfl ⟨rfl, rfl⟩⟩) ?_
      refine WD.take hok2 7 (.slice dca d.cls.length dcc) (fun w' => w'.heap[w.heap.size]? = some (.cells #[.slice dca d.cls.length dcc, .int .i64 d.width, .int .i64 d.start, .slice dna d.next.length dnc, .slice dba d.acc.length dbc] 25 (0, 0))) rfl rfl rfl rfl rfl (H18.blk 0 rfl) (.inl ⟨rfl, fun _ hC => d_loadB Try.underlying22 rfl rfl hC rfl ⟨rfl, rfl⟩⟩) ?_
      refine WD.take hok2 8 (.int .i64 ((firstsI cl width).getD j 0)) (fun _ => True) rfl rfl rfl rfl rfl trivial (.inl ⟨rfl, fun _ _ => d_move rfl ⟨rfl, rfl⟩⟩) ?_
      refine WD.take hok2 9 (elemPtr (.slice dca d.cls.length dcc) (((firstsI cl width).getD j 0).toNat)) (fun w' => RdT (tyI .i64) w' (.slice dca d.cls.length dcc) d.cls) rfl rfl rfl rfl rfl (rcd.at H18) (.inl ⟨rfl, fun _ hC => t_addr1 (((firstsI cl width).getD j 0).toNat) (T := (tyI .i64)) rfl Try.underlying22 sz3 rfl rfl hC (by omega) (by omega) ⟨rfl, rfl⟩⟩) ?_
      refine WD.take hok2 10 (.int .i64 (d.cls.getD (((firstsI cl width).getD j 0).toNat) 0)) (fun w' => RdT (tyI .i64) w' (.slice dca d.cls.length dcc) d.cls) rfl rfl rfl rfl rfl (rcd.at H18) (.inl ⟨rfl, fun _ hC => t_load1 (((firstsI cl width).getD j 0).toNat) 0 (T := (tyI .i64)) rfl Try.underlying3 rfl rfl hC (by omega) rfl ⟨rfl, rfl⟩⟩) ?_
      refine WD.take hok2 11 (.int .i64 (((hs.getD k 0) * d.width) + (d.cls.getD (((firstsI cl width).getD j 0).toNat) 0))) (fun _ => True) rfl rfl rfl rfl rfl trivial (.inl ⟨rfl, fun _ _ => d_add rfl rfl (by omega) (by omega) ⟨rfl, rfl⟩⟩) ?_
      refine WD.take hok2 12 (elemPtr (.slice dna d.next.length dnc) ((((hs.getD k 0) * d.width) + (d.cls.getD (((firstsI cl width).getD j 0).toNat) 0)).toNat)) (fun w' => RdT (tyI .i64) w' (.slice dna d.next.length dnc) d.next) rfl rfl rfl rfl rfl (rnd.at H18) (.inl ⟨rfl, fun _ hC => t_addr1 ((((hs.getD k 0) * d.width) + (d.cls.getD (((firstsI cl width).getD j 0).toNat) 0)).toNat) (T := (tyI .i64)) rfl Try.underlying22 sz3 rfl rfl hC (by omega) (by omega) ⟨rfl, rfl⟩⟩) ?_
      refine WD.take hok2 13 (.int .i64 (d.next.getD ((((hs.getD k 0) * d.width) + (d.cls.getD (((firstsI cl width).getD j 0).toNat) 0)).toNat) 0)) (fun w' => RdT (tyI .i64) w' (.slice dna d.next.length dnc) d.next) rfl rfl rfl rfl rfl (rnd.at H18) (.inl ⟨rfl, fun _ hC => t_load1 ((((hs.getD k 0) * d.width) + (d.cls.getD (((firstsI cl width).getD j 0).toNat) 0)).toNat) 0 (T := (tyI .i64)) rfl Try.underlying3 rfl rfl hC (by omega) rfl ⟨rfl, rfl⟩⟩) ?_
      refine WD.take hok2 14 (.int .i64 (d.next.getD ((((hs.getD k 0) * d.width) + (d.cls.getD (((firstsI cl width).getD j 0).toNat) 0)).toNat) 0)) (fun _ => True) rfl rfl rfl rfl rfl trivial (.inl ⟨rfl, fun _ _ => d_assign rfl ⟨rfl, rfl⟩⟩) ?_
      refine WD.done hok2 rfl (X.then_code ?_)
      refine W.pick [17, 58, 57, 56, 14, 13, 12, 11, 10, 9, 8, 4, 1] (Γ' := [(17, .int .i64 (d.next.getD ((((hs.getD k 0) * d.width) + (d.cls.getD (((firstsI cl width).getD j 0).toNat) 0)).toNat) 0)), (58, .int .i64 ((j : Nat) : Int)), (57, .int .i64 (((firstsI cl width).length : Nat) : Int)), (56, .slice a2_1 ((firstsI cl width).length) c2_1), (14, .int .i64 (hs.getD k 0)), (13, .int .i64 ((k : Nat) : Int)), (12, .slice a2_1 ((firstsI cl width).length) c2_1), (11, .slice ta tt.length tc), (10, .map (some w4.heap.size)), (9, .pointer (some ⟨w2.heap.size, 0, none⟩)), (8, .pointer (some ⟨w1.heap.size, 0, none⟩)), (4, .pointer (some ⟨w.heap.size, 0, none⟩)), (1, .slice bla bl.length blc)]) rfl ?_
      refine W.seq ?_
      refine W.region ?_
      refine WL.op rfl (d_move rfl ?_)
      refine WL.op rfl (d_move rfl ?_)
      refine WL.op rfl (d_move rfl ?_)
      refine WL.op rfl (t_addr1 ((d.next.getD ((((hs.getD k 0) * d.width) + (d.cls.getD (((firstsI cl width).getD j 0).toNat) 0)).toNat) 0).toNat) (T := (tyI .i64)) rfl Try.underlying22 sz3 rfl rfl (rbl.at H18) (by omega) (by omega) ?_)
      refine WL.op rfl (t_load1 ((d.next.getD ((((hs.getD k 0) * d.width) + (d.cls.getD (((firstsI cl width).getD j 0).toNat) 0)).toNat) 0).toNat) 0 (T := (tyI .i64)) rfl Try.underlying3 rfl rfl (rbl.at H18) (by omega) rfl ?_)
      refine WL.op rfl (d_look2 (ek := (fun a : Int => .int .i64 a)) (evl := (fun a : Int => .int .i64 a)) (bl.getD ((d.next.getD ((((hs.getD k 0) * d.width) + (d.cls.getD (((firstsI cl width).getD j 0).toNat) 0)).toNat) 0).toNat) 0) 0 key3 Try.underlying135 sz3 rfl rfl (H18.mapAt 3 rfl) ?_)
      refine WL.op rfl (d_move rfl ?_)
      refine WL.op rfl (d_extract rfl rfl ?_)
      refine WL.op rfl (d_extract rfl rfl ?_)
      refine WL.op rfl (d_assign rfl ?_)
      refine WL.op rfl (d_assign rfl ?_)
      refine WL.done (X.then_code ?_)
      refine W.seq ?_
      refine W.seq ?_
      refine W.region ?_
      refine WL.op rfl (d_move rfl ?_)
      refine WL.op rfl (d_notB rfl ?_)
      refine WL.done (X.then_code ?_)
      refine W.iteB (b := !((getM mj (bl.getD ((d.next.getD ((((hs.getD k 0) * d.width) + (d.cls.getD (((firstsI cl width).getD j 0).toNat) 0)).toNat) 0).toNat) 0)).isSome)) rfl (fun c173 => ?_) (fun c173 => ?_)
      · skip
        refine W.seq ?_
        refine W.region ?_
        refine WL.op rfl (d_move rfl ?_)
        refine WL.op rfl (d_lenS Try.underlying22 rfl ?_)
        refine WL.op rfl (d_assign rfl ?_)
        refine WL.done (X.then_code ?_)
        refine W.seq ?_
        refine W.region ?_
        refine WL.op rfl (d_move rfl ?_)
        refine WL.op rfl (d_move rfl ?_)
        refine WL.op rfl (d_move rfl ?_)
        refine WL.op rfl (t_addr1 ((d.next.getD ((((hs.getD k 0) * d.width) + (d.cls.getD (((firstsI cl width).getD j 0).toNat) 0)).toNat) 0).toNat) (T := (tyI .i64)) rfl Try.underlying22 sz3 rfl rfl (rbl.at H18) (by omega) (by omega) ?_)
        refine WL.op rfl (t_load1 ((d.next.getD ((((hs.getD k 0) * d.width) + (d.cls.getD (((firstsI cl width).getD j 0).toNat) 0)).toNat) 0).toNat) 0 (T := (tyI .i64)) rfl Try.underlying3 rfl rfl (rbl.at H18) (by omega) rfl ?_)
        refine WL.op rfl (d_move rfl ?_)
        refine WL.op0 (d_mapUpdate (ek := (fun a : Int => .int .i64 a)) (evl := (fun a : Int => .int .i64 a)) (bl.getD ((d.next.getD ((((hs.getD k 0) * d.width) + (d.cls.getD (((firstsI cl width).getD j 0).toNat) 0)).toNat) 0).toNat) 0) ((tt.length : Nat) : Int) key3 Try.underlying135 rfl rfl rfl (H18.hpOf 3 rfl) fun w16 u12 => ?_)
        have H19 : UpG w [] w16 [[blk w.heap.size #[.slice dca d.cls.length dcc, .int .i64 d.width, .int .i64 d.start, .slice dna d.next.length dnc, .slice dba d.acc.length dbc] 25], [blk w1.heap.size #[.slice none 0 0, .int .i64 0, .int .i64 0, .slice none 0 0, .slice none 0 0] 25], [blk w2.heap.size #[.slice cla cl.length clc, .int .i64 width, .int .i64 0, .slice ma mx.length mc, .slice a1 ((ac ++ [d.acc.getD ((hs.getD k 0).toNat) false]).length) c1] 25], [mapC (fun a : Int => .int .i64 a) (fun a : Int => .int .i64 a) w4.heap.size (putM mj (bl.getD ((d.next.getD ((((hs.getD k 0) * d.width) + (d.cls.getD (((firstsI cl width).getD j 0).toNat) 0)).toNat) 0).toNat) 0) ((tt.length : Nat) : Int))], [rowT (tyI .i64) (.slice ta tt.length tc) 3 tt], [rowT (tyI .i64) (.slice a2_1 ((firstsI cl width).length) c2_1) 3 (firstsI cl width)], [rowT (tyI .i64) (.slice ma mx.length mc) 3 mx], [rowT tyB (.slice a1 ((ac ++ [d.acc.getD ((hs.getD k 0).toNat) false]).length) c1) 4 (ac ++ [d.acc.getD ((hs.getD k 0).toNat) false])], []] := H18.on 3 rfl u12
        refine WL.done (X.then_code ?_)
        refine W.pick [18, 17, 58, 57, 56, 14, 13, 12, 11, 10, 9, 8, 4, 1] (Γ' := [(18, .int .i64 ((tt.length : Nat) : Int)), (17, .int .i64 (d.next.getD ((((hs.getD k 0) * d.width) + (d.cls.getD (((firstsI cl width).getD j 0).toNat) 0)).toNat) 0)), (58, .int .i64 ((j : Nat) : Int)), (57, .int .i64 (((firstsI cl width).length : Nat) : Int)), (56, .slice a2_1 ((firstsI cl width).length) c2_1), (14, .int .i64 (hs.getD k 0)), (13, .int .i64 ((k : Nat) : Int)), (12, .slice a2_1 ((firstsI cl width).length) c2_1), (11, .slice ta tt.length tc), (10, .map (some w4.heap.size)), (9, .pointer (some ⟨w2.heap.size, 0, none⟩)), (8, .pointer (some ⟨w1.heap.size, 0, none⟩)), (4, .pointer (some ⟨w.heap.size, 0, none⟩)), (1, .slice bla bl.length blc)]) rfl ?_
        refine W.region ?_
        refine WL.op rfl (d_move rfl ?_)
        refine WL.op rfl (d_move rfl ?_)
        refine WL.op rfl (t_buildSlice (T := (tyI .i64)) (xs := [d.next.getD ((((hs.getD k 0) * d.width) + (d.cls.getD (((firstsI cl width).getD j 0).toNat) 0)).toNat) 0]) (cs := #[.int .i64 (d.next.getD ((((hs.getD k 0) * d.width) + (d.cls.getD (((firstsI cl width).getD j 0).toNat) 0)).toNat) 0)]) rfl Try.underlying22 sz3 rfl rfl rfl rfl (by kernel_rfl) rfl rfl fun w17 u13 => ?_)
        have H20 : UpG w [] w17 [[blk w.heap.size #[.slice dca d.cls.length dcc, .int .i64 d.width, .int .i64 d.start, .slice dna d.next.length dnc, .slice dba d.acc.length dbc] 25], [blk w1.heap.size #[.slice none 0 0, .int .i64 0, .int .i64 0, .slice none 0 0, .slice none 0 0] 25], [blk w2.heap.size #[.slice cla cl.length clc, .int .i64 width, .int .i64 0, .slice ma mx.length mc, .slice a1 ((ac ++ [d.acc.getD ((hs.getD k 0).toNat) false]).length) c1] 25], [mapC (fun a : Int => .int .i64 a) (fun a : Int => .int .i64 a) w4.heap.size (putM mj (bl.getD ((d.next.getD ((((hs.getD k 0) * d.width) + (d.cls.getD (((firstsI cl width).getD j 0).toNat) 0)).toNat) 0).toNat) 0) ((tt.length : Nat) : Int))], [rowT (tyI .i64) (.slice ta tt.length tc) 3 tt], [rowT (tyI .i64) (.slice a2_1 ((firstsI cl width).length) c2_1) 3 (firstsI cl width)], [rowT (tyI .i64) (.slice ma mx.length mc) 3 mx], [rowT tyB (.slice a1 ((ac ++ [d.acc.getD ((hs.getD k 0).toNat) false]).length) c1) 4 (ac ++ [d.acc.getD ((hs.getD k 0).toNat) false])], [], [rowT (tyI .i64) (.slice (some ⟨w16.heap.size, 0, none⟩) ([d.next.getD ((((hs.getD k 0) * d.width) + (d.cls.getD (((firstsI cl width).getD j 0).toNat) 0)).toNat) 0].length) ([d.next.getD ((((hs.getD k 0) * d.width) + (d.cls.getD (((firstsI cl width).getD j 0).toNat) 0)).toNat) 0].length)) 3 [d.next.getD ((((hs.getD k 0) * d.width) + (d.cls.getD (((firstsI cl width).getD j 0).toNat) 0)).toNat) 0]]] := H19.new' u13
        refine WL.op rfl (t_append (T := (tyI .i64)) (xs := tt) (ys := [d.next.getD ((((hs.getD k 0) * d.width) + (d.cls.getD (((firstsI cl width).getD j 0).toNat) 0)).toNat) 0]) rfl Try.underlying22 sz3 rfl rfl rfl (H20.ownT 4 rfl) (H20.rdT 9 rfl) (by simp only [List.length_singleton]; omega) (by simp only [List.length_singleton]; omega) fun a2 c2 w18 u14 => ?_)
        have H21 : UpG w [] w18 [[blk w.heap.size #[.slice dca d.cls.length dcc, .int .i64 d.width, .int .i64 d.start, .slice dna d.next.length dnc, .slice dba d.acc.length dbc] 25], [blk w1.heap.size #[.slice none 0 0, .int .i64 0, .int .i64 0, .slice none 0 0, .slice none 0 0] 25], [blk w2.heap.size #[.slice cla cl.length clc, .int .i64 width, .int .i64 0, .slice ma mx.length mc, .slice a1 ((ac ++ [d.acc.getD ((hs.getD k 0).toNat) false]).length) c1] 25], [mapC (fun a : Int => .int .i64 a) (fun a : Int => .int .i64 a) w4.heap.size (putM mj (bl.getD ((d.next.getD ((((hs.getD k 0) * d.width) + (d.cls.getD (((firstsI cl width).getD j 0).toNat) 0)).toNat) 0).toNat) 0) ((tt.length : Nat) : Int))], [rowT (tyI .i64) (.slice a2 ((tt ++ [d.next.getD ((((hs.getD k 0) * d.width) + (d.cls.getD (((firstsI cl width).getD j 0).toNat) 0)).toNat) 0]).length) c2) 3 (tt ++ [d.next.getD ((((hs.getD k 0) * d.width) + (d.cls.getD (((firstsI cl width).getD j 0).toNat) 0)).toNat) 0])], [rowT (tyI .i64) (.slice a2_1 ((firstsI cl width).length) c2_1) 3 (firstsI cl width)], [rowT (tyI .i64) (.slice ma mx.length mc) 3 mx], [rowT tyB (.slice a1 ((ac ++ [d.acc.getD ((hs.getD k 0).toNat) false]).length) c1) 4 (ac ++ [d.acc.getD ((hs.getD k 0).toNat) false])], [], []] := (H20.on 4 rfl u14).drop 9
        refine WL.op rfl (d_assign rfl ?_)
        refine WL.done (X.then_code ?_)
        refine W.region ?_
        refine WL.op rfl (d_fieldAddrB fld25_3 rfl rfl ?_)
        refine WL.op rfl (d_loadB Try.underlying22 rfl rfl (H21.blk 2 rfl) rfl ?_)
        refine WL.op rfl (d_move rfl ?_)
        refine WL.op rfl (t_buildSlice (T := (tyI .i64)) (xs := [((tt.length : Nat) : Int)]) (cs := #[.int .i64 ((tt.length : Nat) : Int)]) rfl Try.underlying22 sz3 rfl rfl rfl rfl (by kernel_rfl) rfl rfl fun w19 u15 => ?_)
        have H22 : UpG w [] w19 [[blk w.heap.size #[.slice dca d.cls.length dcc, .int .i64 d.width, .int .i64 d.start, .slice dna d.next.length dnc, .slice dba d.acc.length dbc] 25], [blk w1.heap.size #[.slice none 0 0, .int .i64 0, .int .i64 0, .slice none 0 0, .slice none 0 0] 25], [blk w2.heap.size #[.slice cla cl.length clc, .int .i64 width, .int .i64 0, .slice ma mx.length mc, .slice a1 ((ac ++ [d.acc.getD ((hs.getD k 0).toNat) false]).length) c1] 25], [mapC (fun a : Int => .int .i64 a) (fun a : Int => .int .i64 a) w4.heap.size (putM mj (bl.getD ((d.next.getD ((((hs.getD k 0) * d.width) + (d.cls.getD (((firstsI cl width).getD j 0).toNat) 0)).toNat) 0).toNat) 0) ((tt.length : Nat) : Int))], [rowT (tyI .i64) (.slice a2 ((tt ++ [d.next.getD ((((hs.getD k 0) * d.width) + (d.cls.getD (((firstsI cl width).getD j 0).toNat) 0)).toNat) 0]).length) c2) 3 (tt ++ [d.next.getD ((((hs.getD k 0) * d.width) + (d.cls.getD (((firstsI cl width).getD j 0).toNat) 0)).toNat) 0])], [rowT (tyI .i64) (.slice a2_1 ((firstsI cl width).length) c2_1) 3 (firstsI cl width)], [rowT (tyI .i64) (.slice ma mx.length mc) 3 mx], [rowT tyB (.slice a1 ((ac ++ [d.acc.getD ((hs.getD k 0).toNat) false]).length) c1) 4 (ac ++ [d.acc.getD ((hs.getD k 0).toNat) false])], [], [], [rowT (tyI .i64) (.slice (some ⟨w18.heap.size, 0, none⟩) ([((tt.length : Nat) : Int)].length) ([((tt.length : Nat) : Int)].length)) 3 [((tt.length : Nat) : Int)]]] := H21.new' u15
        refine WL.op rfl (t_append (T := (tyI .i64)) (xs := mx) (ys := [((tt.length : Nat) : Int)]) rfl Try.underlying22 sz3 rfl rfl rfl (H22.ownT 6 rfl) (H22.rdT 10 rfl) (by simp only [List.length_singleton]; omega) (by simp only [List.length_singleton]; omega) fun a3 c3 w20 u16 => ?_)
        have H23 : UpG w [] w20 [[blk w.heap.size #[.slice dca d.cls.length dcc, .int .i64 d.width, .int .i64 d.start, .slice dna d.next.length dnc, .slice dba d.acc.length dbc] 25], [blk w1.heap.size #[.slice none 0 0, .int .i64 0, .int .i64 0, .slice none 0 0, .slice none 0 0] 25], [blk w2.heap.size #[.slice cla cl.length clc, .int .i64 width, .int .i64 0, .slice ma mx.length mc, .slice a1 ((ac ++ [d.acc.getD ((hs.getD k 0).toNat) false]).length) c1] 25], [mapC (fun a : Int => .int .i64 a) (fun a : Int => .int .i64 a) w4.heap.size (putM mj (bl.getD ((d.next.getD ((((hs.getD k 0) * d.width) + (d.cls.getD (((firstsI cl width).getD j 0).toNat) 0)).toNat) 0).toNat) 0) ((tt.length : Nat) : Int))], [rowT (tyI .i64) (.slice a2 ((tt ++ [d.next.getD ((((hs.getD k 0) * d.width) + (d.cls.getD (((firstsI cl width).getD j 0).toNat) 0)).toNat) 0]).length) c2) 3 (tt ++ [d.next.getD ((((hs.getD k 0) * d.width) + (d.cls.getD (((firstsI cl width).getD j 0).toNat) 0)).toNat) 0])], [rowT (tyI .i64) (.slice a2_1 ((firstsI cl width).length) c2_1) 3 (firstsI cl width)], [rowT (tyI .i64) (.slice a3 ((mx ++ [((tt.length : Nat) : Int)]).length) c3) 3 (mx ++ [((tt.length : Nat) : Int)])], [rowT tyB (.slice a1 ((ac ++ [d.acc.getD ((hs.getD k 0).toNat) false]).length) c1) 4 (ac ++ [d.acc.getD ((hs.getD k 0).toNat) false])], [], [], []] := (H22.on 6 rfl u16).drop 10
        refine WL.op rfl (d_fieldAddrB fld25_3 rfl rfl ?_)
        refine WL.op0 (d_storeB sz22 rfl rfl rfl (H23.blk 2 rfl) rfl fun w21 u17 => ?_)
        have H24 : UpG w [] w21 [[blk w.heap.size #[.slice dca d.cls.length dcc, .int .i64 d.width, .int .i64 d.start, .slice dna d.next.length dnc, .slice dba d.acc.length dbc] 25], [blk w1.heap.size #[.slice none 0 0, .int .i64 0, .int .i64 0, .slice none 0 0, .slice none 0 0] 25], [blk w2.heap.size #[.slice cla cl.length clc, .int .i64 width, .int .i64 0, .slice a3 ((mx ++ [((tt.length : Nat) : Int)]).length) c3, .slice a1 ((ac ++ [d.acc.getD ((hs.getD k 0).toNat) false]).length) c1] 25], [mapC (fun a : Int => .int .i64 a) (fun a : Int => .int .i64 a) w4.heap.size (putM mj (bl.getD ((d.next.getD ((((hs.getD k 0) * d.width) + (d.cls.getD (((firstsI cl width).getD j 0).toNat) 0)).toNat) 0).toNat) 0) ((tt.length : Nat) : Int))], [rowT (tyI .i64) (.slice a2 ((tt ++ [d.next.getD ((((hs.getD k 0) * d.width) + (d.cls.getD (((firstsI cl width).getD j 0).toNat) 0)).toNat) 0]).length) c2) 3 (tt ++ [d.next.getD ((((hs.getD k 0) * d.width) + (d.cls.getD (((firstsI cl width).getD j 0).toNat) 0)).toNat) 0])], [rowT (tyI .i64) (.slice a2_1 ((firstsI cl width).length) c2_1) 3 (firstsI cl width)], [rowT (tyI .i64) (.slice a3 ((mx ++ [((tt.length : Nat) : Int)]).length) c3) 3 (mx ++ [((tt.length : Nat) : Int)])], [rowT tyB (.slice a1 ((ac ++ [d.acc.getD ((hs.getD k 0).toNat) false]).length) c1) 4 (ac ++ [d.acc.getD ((hs.getD k 0).toNat) false])], [], [], []] := H23.on 2 rfl u17
        refine WL.done (X.block_normal (X.then_code ?_))
        refine W.region ?_
        refine WL.op rfl (d_add rfl rfl (by omega) (by omega) ?_)
        refine WL.op rfl (d_move rfl ?_)
        refine WL.done ?_
        exact X.next [58, 57, 56, 14, 13, 12, 11, 10, 9, 8, 4, 1] (Γ' := [(58, .int .i64 (((j + 1) : Nat) : Int)), (57, .int .i64 (((firstsI cl width).length : Nat) : Int)), (56, .slice a2_1 ((firstsI cl width).length) c2_1), (14, .int .i64 (hs.getD k 0)), (13, .int .i64 ((k : Nat) : Int)), (12, .slice a2_1 ((firstsI cl width).length) c2_1), (11, .slice a2 ((tt ++ [d.next.getD ((((hs.getD k 0) * d.width) + (d.cls.getD (((firstsI cl width).getD j 0).toNat) 0)).toNat) 0]).length) c2), (10, .map (some w4.heap.size)), (9, .pointer (some ⟨w2.heap.size, 0, none⟩)), (8, .pointer (some ⟨w1.heap.size, 0, none⟩)), (4, .pointer (some ⟨w.heap.size, 0, none⟩)), (1, .slice bla bl.length blc)]) rfl ((firstsI cl width).length - (j + 1)) (by omega) ⟨j + 1, tt ++ [d.next.getD ((((hs.getD k 0) * d.width) + (d.cls.getD (((firstsI cl width).getD j 0).toNat) 0)).toNat) 0], a2, c2, mx ++ [((tt.length : Nat) : Int)], a3, c3, putM mj (bl.getD ((d.next.getD ((((hs.getD k 0) * d.width) + (d.cls.getD (((firstsI cl width).getD j 0).toNat) 0)).toNat) 0).toNat) 0) ((tt.length : Nat) : Int), rfl, (H24.re rfl), (by omega), (by first | exact nu_old hF hMj (by omega) (bn_t c173) | exact (nu_new hF hMj (by omega) (bn_f c173)).1), (by first | exact (nu_new hF hMj (by omega) (bn_f c173)).2 | exact hMj), rfl⟩
      · skip
        refine W.skip (X.then_code ?_)
        refine W.region ?_
        refine WL.op rfl (d_fieldAddrB fld25_3 rfl rfl ?_)
        refine WL.op rfl (d_loadB Try.underlying22 rfl rfl (H18.blk 2 rfl) rfl ?_)
        refine WL.op rfl (d_move rfl ?_)
        refine WL.op rfl (t_buildSlice (T := (tyI .i64)) (xs := [(getM mj (bl.getD ((d.next.getD ((((hs.getD k 0) * d.width) + (d.cls.getD (((firstsI cl width).getD j 0).toNat) 0)).toNat) 0).toNat) 0)).getD 0]) (cs := #[.int .i64 ((getM mj (bl.getD ((d.next.getD ((((hs.getD k 0) * d.width) + (d.cls.getD (((firstsI cl width).getD j 0).toNat) 0)).toNat) 0).toNat) 0)).getD 0)]) rfl Try.underlying22 sz3 rfl rfl rfl rfl (by kernel_rfl) rfl rfl fun w22 u18 => ?_)
        have H25 : UpG w [] w22 [[blk w.heap.size #[.slice dca d.cls.length dcc, .int .i64 d.width, .int .i64 d.start, .slice dna d.next.length dnc, .slice dba d.acc.length dbc] 25], [blk w1.heap.size #[.slice none 0 0, .int .i64 0, .int .i64 0, .slice none 0 0, .slice none 0 0] 25], [blk w2.heap.size #[.slice cla cl.length clc, .int .i64 width, .int .i64 0, .slice ma mx.length mc, .slice a1 ((ac ++ [d.acc.getD ((hs.getD k 0).toNat) false]).length) c1] 25], [mapC (fun a : Int => .int .i64 a) (fun a : Int => .int .i64 a) w4.heap.size mj], [rowT (tyI .i64) (.slice ta tt.length tc) 3 tt], [rowT (tyI .i64) (.slice a2_1 ((firstsI cl width).length) c2_1) 3 (firstsI cl width)], [rowT (tyI .i64) (.slice ma mx.length mc) 3 mx], [rowT tyB (.slice a1 ((ac ++ [d.acc.getD ((hs.getD k 0).toNat) false]).length) c1) 4 (ac ++ [d.acc.getD ((hs.getD k 0).toNat) false])], [], [rowT (tyI .i64) (.slice (some ⟨w15.heap.size, 0, none⟩) ([(getM mj (bl.getD ((d.next.getD ((((hs.getD k 0) * d.width) + (d.cls.getD (((firstsI cl width).getD j 0).toNat) 0)).toNat) 0).toNat) 0)).getD 0].length) ([(getM mj (bl.getD ((d.next.getD ((((hs.getD k 0) * d.width) + (d.cls.getD (((firstsI cl width).getD j 0).toNat) 0)).toNat) 0).toNat) 0)).getD 0].length)) 3 [(getM mj (bl.getD ((d.next.getD ((((hs.getD k 0) * d.width) + (d.cls.getD (((firstsI cl width).getD j 0).toNat) 0)).toNat) 0).toNat) 0)).getD 0]]] := H18.new' u18
        refine WL.op rfl (t_append (T := (tyI .i64)) (xs := mx) (ys := [(getM mj (bl.getD ((d.next.getD ((((hs.getD k 0) * d.width) + (d.cls.getD (((firstsI cl width).getD j 0).toNat) 0)).toNat) 0).toNat) 0)).getD 0]) rfl Try.underlying22 sz3 rfl rfl rfl (H25.ownT 6 rfl) (H25.rdT 9 rfl) (by simp only [List.length_singleton]; omega) (by simp only [List.length_singleton]; omega) fun a4 c4 w23 u19 => ?_)
        have H26 : UpG w [] w23 [[blk w.heap.size #[.slice dca d.cls.length dcc, .int .i64 d.width, .int .i64 d.start, .slice dna d.next.length dnc, .slice dba d.acc.length dbc] 25], [blk w1.heap.size #[.slice none 0 0, .int .i64 0, .int .i64 0, .slice none 0 0, .slice none 0 0] 25], [blk w2.heap.size #[.slice cla cl.length clc, .int .i64 width, .int .i64 0, .slice ma mx.length mc, .slice a1 ((ac ++ [d.acc.getD ((hs.getD k 0).toNat) false]).length) c1] 25], [mapC (fun a : Int => .int .i64 a) (fun a : Int => .int .i64 a) w4.heap.size mj], [rowT (tyI .i64) (.slice ta tt.length tc) 3 tt], [rowT (tyI .i64) (.slice a2_1 ((firstsI cl width).length) c2_1) 3 (firstsI cl width)], [rowT (tyI .i64) (.slice a4 ((mx ++ [(getM mj (bl.getD ((d.next.getD ((((hs.getD k 0) * d.width) + (d.cls.getD (((firstsI cl width).getD j 0).toNat) 0)).toNat) 0).toNat) 0)).getD 0]).length) c4) 3 (mx ++ [(getM mj (bl.getD ((d.next.getD ((((hs.getD k 0) * d.width) + (d.cls.getD (((firstsI cl width).getD j 0).toNat) 0)).toNat) 0).toNat) 0)).getD 0])], [rowT tyB (.slice a1 ((ac ++ [d.acc.getD ((hs.getD k 0).toNat) false]).length) c1) 4 (ac ++ [d.acc.getD ((hs.getD k 0).toNat) false])], [], []] := (H25.on 6 rfl u19).drop 9
        refine WL.op rfl (d_fieldAddrB fld25_3 rfl rfl ?_)
        refine WL.op0 (d_storeB sz22 rfl rfl rfl (H26.blk 2 rfl) rfl fun w24 u20 => ?_)
        have H27 : UpG w [] w24 [[blk w.heap.size #[.slice dca d.cls.length dcc, .int .i64 d.width, .int .i64 d.start, .slice dna d.next.length dnc, .slice dba d.acc.length dbc] 25], [blk w1.heap.size #[.slice none 0 0, .int .i64 0, .int .i64 0, .slice none 0 0, .slice none 0 0] 25], [blk w2.heap.size #[.slice cla cl.length clc, .int .i64 width, .int .i64 0, .slice a4 ((mx ++ [(getM mj (bl.getD ((d.next.getD ((((hs.getD k 0) * d.width) + (d.cls.getD (((firstsI cl width).getD j 0).toNat) 0)).toNat) 0).toNat) 0)).getD 0]).length) c4, .slice a1 ((ac ++ [d.acc.getD ((hs.getD k 0).toNat) false]).length) c1] 25], [mapC (fun a : Int => .int .i64 a) (fun a : Int => .int .i64 a) w4.heap.size mj], [rowT (tyI .i64) (.slice ta tt.length tc) 3 tt], [rowT (tyI .i64) (.slice a2_1 ((firstsI cl width).length) c2_1) 3 (firstsI cl width)], [rowT (tyI .i64) (.slice a4 ((mx ++ [(getM mj (bl.getD ((d.next.getD ((((hs.getD k 0) * d.width) + (d.cls.getD (((firstsI cl width).getD j 0).toNat) 0)).toNat) 0).toNat) 0)).getD 0]).length) c4) 3 (mx ++ [(getM mj (bl.getD ((d.next.getD ((((hs.getD k 0) * d.width) + (d.cls.getD (((firstsI cl width).getD j 0).toNat) 0)).toNat) 0).toNat) 0)).getD 0])], [rowT tyB (.slice a1 ((ac ++ [d.acc.getD ((hs.getD k 0).toNat) false]).length) c1) 4 (ac ++ [d.acc.getD ((hs.getD k 0).toNat) false])], [], []] := H26.on 2 rfl u20
        refine WL.done (X.block_normal (X.then_code ?_))
        refine W.pick [58, 57, 56, 14, 13, 12, 11, 10, 9, 8, 4, 1] (Γ' := [(58, .int .i64 ((j : Nat) : Int)), (57, .int .i64 (((firstsI cl width).length : Nat) : Int)), (56, .slice a2_1 ((firstsI cl width).length) c2_1), (14, .int .i64 (hs.getD k 0)), (13, .int .i64 ((k : Nat) : Int)), (12, .slice a2_1 ((firstsI cl width).length) c2_1), (11, .slice ta tt.length tc), (10, .map (some w4.heap.size)), (9, .pointer (some ⟨w2.heap.size, 0, none⟩)), (8, .pointer (some ⟨w1.heap.size, 0, none⟩)), (4, .pointer (some ⟨w.heap.size, 0, none⟩)), (1, .slice bla bl.length blc)]) rfl ?_
        refine W.region ?_
        refine WL.op rfl (d_add rfl rfl (by omega) (by omega) ?_)
        refine WL.op rfl (d_move rfl ?_)
        refine WL.done ?_
        exact X.next [58, 57, 56, 14, 13, 12, 11, 10, 9, 8, 4, 1] (Γ' := [(58, .int .i64 (((j + 1) : Nat) : Int)), (57, .int .i64 (((firstsI cl width).length : Nat) : Int)), (56, .slice a2_1 ((firstsI cl width).length) c2_1), (14, .int .i64 (hs.getD k 0)), (13, .int .i64 ((k : Nat) : Int)), (12, .slice a2_1 ((firstsI cl width).length) c2_1), (11, .slice ta tt.length tc), (10, .map (some w4.heap.size)), (9, .pointer (some ⟨w2.heap.size, 0, none⟩)), (8, .pointer (some ⟨w1.heap.size, 0, none⟩)), (4, .pointer (some ⟨w.heap.size, 0, none⟩)), (1, .slice bla bl.length blc)]) rfl ((firstsI cl width).length - (j + 1)) (by omega) ⟨j + 1, tt, ta, tc, mx ++ [(getM mj (bl.getD ((d.next.getD ((((hs.getD k 0) * d.width) + (d.cls.getD (((firstsI cl width).getD j 0).toNat) 0)).toNat) 0).toNat) 0)).getD 0], a4, c4, mj, rfl, (H27.re rfl), (by omega), (by first | exact nu_old hF hMj (by omega) (bn_t c173) | exact (nu_new hF hMj (by omega) (bn_f c173)).1), (by first | exact (nu_new hF hMj (by omega) (bn_f c173)).2 | exact hMj), rfl⟩
    · skip
      refine W.exit (X.then_exit (X.then_exit (X.block_exit (X.block_normal (X.then_code ?_)))))
      refine W.region ?_
      refine WL.op rfl (d_move rfl ?_)
      refine WL.op rfl (d_add rfl rfl (by omega) (by omega) ?_)
      refine WL.op rfl (d_assign rfl ?_)
      refine WL.done ?_
      obtain ⟨rr, hrr⟩ := (NuI.at' hrt hbk hfs hN hkh hj hF).2
      have hkt : k + 1 ≤ tt.length := by rw [hrr]; simp; omega
      exact X.next [13, 12, 11, 10, 9, 8, 4, 1] (Γ' := [(13, .int .i64 (((k + 1) : Nat) : Int)), (12, .slice a2_1 ((firstsI cl width).length) c2_1), (11, .slice ta tt.length tc), (10, .map (some w4.heap.size)), (9, .pointer (some ⟨w2.heap.size, 0, none⟩)), (8, .pointer (some ⟨w1.heap.size, 0, none⟩)), (4, .pointer (some ⟨w.heap.size, 0, none⟩)), (1, .slice bla bl.length blc)]) rfl (4097 - (k + 1)) (by omega) ⟨k + 1, tt, ta, tc, mx, ma, mc, ac ++ [d.acc.getD ((hs.getD k 0).toNat) false], a1, c1, mj, rfl, (H17.re rfl), (by omega), (by exact (NuI.at' hrt hbk hfs hN hkh hj hF).1.next (by omega)), (by exact hMj), (by rw [hA]; exact acc_step hkh hrr), (by exact numLoop_next hR hkh (by omega) (by omega) hF), rfl⟩
  · skip
    refine W.exit (X.then_exit (X.then_exit (X.block_exit (X.then_code ?_))))
    refine W.seq ?_
    refine W.region ?_
    refine WL.op rfl (d_loadAB [.slice cla cl.length clc, .int .i64 width, .int .i64 0, .slice na nx.length nc, .slice ba ac.length bc] Try.underlying25 rfl sz25 rfl (H12.blk 2 rfl) rfl rfl ?_)
    refine WL.op0 (d_storeAB (us := [.slice cla cl.length clc, .int .i64 width, .int .i64 0, .slice na nx.length nc, .slice ba ac.length bc]) (cs' := #[.slice cla cl.length clc, .int .i64 width, .int .i64 0, .slice na nx.length nc, .slice ba ac.length bc]) sz25 rfl rfl rfl rfl (H12.blk 1 rfl) rfl rfl fun w25 u21 => ?_)
    have H28 : UpG w [] w25 [[blk w.heap.size #[.slice dca d.cls.length dcc, .int .i64 d.width, .int .i64 d.start, .slice dna d.next.length dnc, .slice dba d.acc.length dbc] 25], [blk w1.heap.size #[.slice cla cl.length clc, .int .i64 width, .int .i64 0, .slice na nx.length nc, .slice ba ac.length bc] 25], [blk w2.heap.size #[.slice cla cl.length clc, .int .i64 width, .int .i64 0, .slice na nx.length nc, .slice ba ac.length bc] 25], [mapC (fun a : Int => .int .i64 a) (fun a : Int => .int .i64 a) w4.heap.size mm], [rowT (tyI .i64) (.slice ha hs.length hc) 3 hs], [rowT (tyI .i64) (.slice a2_1 ((firstsI cl width).length) c2_1) 3 (firstsI cl width)], [rowT (tyI .i64) (.slice na nx.length nc) 3 nx], [rowT tyB (.slice ba ac.length bc) 4 ac]] := H12.on 1 rfl u21
    refine WL.done (X.then_code ?_)
    refine W.ret (X.retR1 rfl (rv_cellA [.slice cla cl.length clc, .int .i64 width, .int .i64 0, .slice na nx.length nc, .slice ba ac.length bc] Try.underlying25 rfl sz25 rfl (H28.blk 1 rfl) rfl rfl) ?_)
    obtain ⟨hn1, hn2⟩ := numLoop_done hR (by omega)
    have e1 : (numLoop d bl (firstsI cl width) 4097 0 ([d.start], [])).1.map (accF d) = ac := by rw [hn1, hA, List.take_of_length_le (by omega)]
    rw [e1, hn2]
    exact ⟨na, nc, ba, bc, (by rfl), (Upd.sel H28 (l := [6, 7]) rfl rfl)⟩
end Go.Proofs.Ytoeockpkkmgieaa
